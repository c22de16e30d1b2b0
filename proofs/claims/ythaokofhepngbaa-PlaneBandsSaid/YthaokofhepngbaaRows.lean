/-
  No cell of these rows narrows 'for every input' (looked for: loops, veiled, ifaces, maps, wideKeys, modest, calm, conditions, laid).
  DERIVED. THE GIVEN ROWS OF THIS SEAT. 6 by the template 'for every input the law returns true; each argument reads behind the call as it read before'; 0 by the template 'total and deterministic' (their statements: YthaokofhepngbaaTotals.lean).
  GIVEN WITH THE SEED: the statements are not yours to turn. If you find one false, say at which input.
  Laid BY PROGRAM, IN A SANDBOX (cutbox-rows.mjs): the forced cells as the released guide's own fill.sh prints them over the translation e19066ad9f43cb00… (all of the seat's roots in one cut). By AI agents, Wed Nov 11 2026. No macro, syntax, notation, axiom, sorry.
-/
import Derived.Test.YthaokofhepngbaaChecked
import GoSem.Claim
import GoSem.ClaimJoined
import GoSem.ClaimMapViews
import Derived.JoinedTies
import Derived.KernelRfl
namespace Go.Proofs.Ythaokofhepngbaa
/- THE CELL 'sum', in the pinned program and in every row, IS THE sha256 OF THE DUMP (.gsa) THAT YthaokofhepngbaaProg.lean LOADS. Nothing in Lean hashes anything: it is a label: what it is worth is what the hold of that sum in a sandbox is worth. -/
noncomputable def Try.pinned : Pinned := { name := "ythaokofhepngbaa", sum := "e19066ad9f43cb00bbba4c6d1b82b10aa8062945ce7e3d224a0cb6682e883b31", checked := Try.checked }
namespace Rows
def none {H : Type} : Left H := { results := [], args := [] }

/-- 'clearwaylaw36.PlaneMatches': WHATEVER THE INPUT: true; the input reads as it did. -/
def planeMatchesSpec : ChangeSpec := { name := "planeMatches", fn := fun _ => fun
  | [d1, d2, d3, d4, d5] => { results := [.lit (.bool true)], args := [d1, d2, d3, d4, d5] }
  | _ => none }
def planeMatchesRow : OpenClaim := { program := "ythaokofhepngbaa", sum := "e19066ad9f43cb00bbba4c6d1b82b10aa8062945ce7e3d224a0cb6682e883b31", func := "clearway/clearwaylaw36.PlaneMatches", spec := "planeMatches", unfollowed := true, recurses := true, apart := false }
def PlaneMatchesSaid : Prop := planeMatchesRow.holds Try.pinned (OpenSpec.ofChange planeMatchesSpec)

/-- ITS FALSE NEIGHBOUR: 'it returns false'. Refute it at one input. -/
def planeMatchesWrong : ChangeSpec := { name := "planeMatches", fn := fun _ => fun
  | [d1, d2, d3, d4, d5] => { results := [.lit (.bool false)], args := [d1, d2, d3, d4, d5] }
  | _ => none }
def PlaneMatchesWrongFalsely : Prop := planeMatchesRow.holds Try.pinned (OpenSpec.ofChange planeMatchesWrong)

/-- 'clearwaylaw36.PlanePaths': WHATEVER THE INPUT: true; the input reads as it did. -/
def planePathsSpec : ChangeSpec := { name := "planePaths", fn := fun _ => fun
  | [d1, d2, d3, d4, d5] => { results := [.lit (.bool true)], args := [d1, d2, d3, d4, d5] }
  | _ => none }
def planePathsRow : OpenClaim := { program := "ythaokofhepngbaa", sum := "e19066ad9f43cb00bbba4c6d1b82b10aa8062945ce7e3d224a0cb6682e883b31", func := "clearway/clearwaylaw36.PlanePaths", spec := "planePaths", unfollowed := true, recurses := true, apart := false }
def PlanePathsSaid : Prop := planePathsRow.holds Try.pinned (OpenSpec.ofChange planePathsSpec)

/-- ITS FALSE NEIGHBOUR: 'it returns false'. Refute it at one input. -/
def planePathsWrong : ChangeSpec := { name := "planePaths", fn := fun _ => fun
  | [d1, d2, d3, d4, d5] => { results := [.lit (.bool false)], args := [d1, d2, d3, d4, d5] }
  | _ => none }
def PlanePathsWrongFalsely : Prop := planePathsRow.holds Try.pinned (OpenSpec.ofChange planePathsWrong)

/-- 'clearwaylaw36.PlaneReach': WHATEVER THE INPUT: true; the input reads as it did. -/
def planeReachSpec : ChangeSpec := { name := "planeReach", fn := fun _ => fun
  | [d1, d2, d3] => { results := [.lit (.bool true)], args := [d1, d2, d3] }
  | _ => none }
def planeReachRow : OpenClaim := { program := "ythaokofhepngbaa", sum := "e19066ad9f43cb00bbba4c6d1b82b10aa8062945ce7e3d224a0cb6682e883b31", func := "clearway/clearwaylaw36.PlaneReach", spec := "planeReach", unfollowed := true, recurses := true, apart := false }
def PlaneReachSaid : Prop := planeReachRow.holds Try.pinned (OpenSpec.ofChange planeReachSpec)

/-- ITS FALSE NEIGHBOUR: 'it returns false'. Refute it at one input. -/
def planeReachWrong : ChangeSpec := { name := "planeReach", fn := fun _ => fun
  | [d1, d2, d3] => { results := [.lit (.bool false)], args := [d1, d2, d3] }
  | _ => none }
def PlaneReachWrongFalsely : Prop := planeReachRow.holds Try.pinned (OpenSpec.ofChange planeReachWrong)

/-- 'clearwaylaw36.PlaneOrder': WHATEVER THE INPUT: true; the input reads as it did. -/
def planeOrderSpec : ChangeSpec := { name := "planeOrder", fn := fun _ => fun
  | [d1, d2, d3, d4] => { results := [.lit (.bool true)], args := [d1, d2, d3, d4] }
  | _ => none }
def planeOrderRow : OpenClaim := { program := "ythaokofhepngbaa", sum := "e19066ad9f43cb00bbba4c6d1b82b10aa8062945ce7e3d224a0cb6682e883b31", func := "clearway/clearwaylaw36.PlaneOrder", spec := "planeOrder", unfollowed := true, recurses := true, apart := false }
def PlaneOrderSaid : Prop := planeOrderRow.holds Try.pinned (OpenSpec.ofChange planeOrderSpec)

/-- ITS FALSE NEIGHBOUR: 'it returns false'. Refute it at one input. -/
def planeOrderWrong : ChangeSpec := { name := "planeOrder", fn := fun _ => fun
  | [d1, d2, d3, d4] => { results := [.lit (.bool false)], args := [d1, d2, d3, d4] }
  | _ => none }
def PlaneOrderWrongFalsely : Prop := planeOrderRow.holds Try.pinned (OpenSpec.ofChange planeOrderWrong)

/-- 'clearwaylaw36.PlaneExamples': WHATEVER THE INPUT: true; the input reads as it did. -/
def planeExamplesSpec : ChangeSpec := { name := "planeExamples", fn := fun _ => fun
  | [] => { results := [.lit (.bool true)], args := [] }
  | _ => none }
def planeExamplesRow : OpenClaim := { program := "ythaokofhepngbaa", sum := "e19066ad9f43cb00bbba4c6d1b82b10aa8062945ce7e3d224a0cb6682e883b31", func := "clearway/clearwaylaw36.PlaneExamples", spec := "planeExamples", unfollowed := true, recurses := true, apart := false }
def PlaneExamplesSaid : Prop := planeExamplesRow.holds Try.pinned (OpenSpec.ofChange planeExamplesSpec)

/-- ITS FALSE NEIGHBOUR: 'it returns false'. Refute it at one input. -/
def planeExamplesWrong : ChangeSpec := { name := "planeExamples", fn := fun _ => fun
  | [] => { results := [.lit (.bool false)], args := [] }
  | _ => none }
def PlaneExamplesWrongFalsely : Prop := planeExamplesRow.holds Try.pinned (OpenSpec.ofChange planeExamplesWrong)

/-- 'clearwaylaw36.PlaneBands': WHATEVER THE INPUT: true; the input reads as it did. -/
def planeBandsSpec : ChangeSpec := { name := "planeBands", fn := fun _ => fun
  | [d1, d2, d3] => { results := [.lit (.bool true)], args := [d1, d2, d3] }
  | _ => none }
def planeBandsRow : OpenClaim := { program := "ythaokofhepngbaa", sum := "e19066ad9f43cb00bbba4c6d1b82b10aa8062945ce7e3d224a0cb6682e883b31", func := "clearway/clearwaylaw36.PlaneBands", spec := "planeBands", unfollowed := true, recurses := true, apart := false }
def PlaneBandsSaid : Prop := planeBandsRow.holds Try.pinned (OpenSpec.ofChange planeBandsSpec)

/-- ITS FALSE NEIGHBOUR: 'it returns false'. Refute it at one input. -/
def planeBandsWrong : ChangeSpec := { name := "planeBands", fn := fun _ => fun
  | [d1, d2, d3] => { results := [.lit (.bool false)], args := [d1, d2, d3] }
  | _ => none }
def PlaneBandsWrongFalsely : Prop := planeBandsRow.holds Try.pinned (OpenSpec.ofChange planeBandsWrong)

/- THE SECOND FORM. 'bulk': how many values and letters a reading holds, each counted each time it is reached (what is shared counts as often as it is met; a slice's spare places count too). A statement '..UptoSaid' is the law's where the arguments, and the package variables that the reading takes, are together of bulk at most 1048576: NARROWER than '..Said'. Prove '..Said' where nothing that the law and all that it calls make is longer than what came in: it says more and counts as full. Else prove '..UptoSaid'. A law counts once. -/
mutual
def uptoBulk {H : Type} : DataW H → Nat
  | .lit (.string bytes) => bytes.length + 1
  | .lit _ => 1
  | .nil => 1
  | .ptr d => uptoBulk d + 1
  | .slice elems spare => uptoBulkAll elems + uptoBulkAll spare + 1
  | .agg parts => uptoBulkAll parts + 1
  | .iface _ d => uptoBulk d + 1
  | .map entries => uptoBulkEntries entries + 1
  | .held _ => 1
def uptoBulkAll {H : Type} : List (DataW H) → Nat
  | [] => 0
  | d :: r => uptoBulk d + uptoBulkAll r
def uptoBulkEntries {H : Type} : List (Lit × DataW H) → Nat
  | [] => 0
  | x :: r => uptoBulkEntry x + uptoBulkEntries r
def uptoBulkEntry {H : Type} : Lit × DataW H → Nat
  | (.string bytes, d) => bytes.length + uptoBulk d + 1
  | (_, d) => uptoBulk d + 1
 end
def uptoSmall : (H : Type) → List (DataW H) → Bool := fun _ ds => decide (uptoBulkAll ds ≤ 1048576)
def OpenSpec.upto (s : _root_.Go.ChangeSpec) : _root_.Go.OpenSpec := { _root_.Go.OpenSpec.ofChange s with cond := some uptoSmall }

/-- 'clearwaylaw36.PlaneMatches', WHERE WHAT IT READS IS OF BULK AT MOST 1048576: true; the input reads as it did. -/
def planeMatchesUptoRow : OpenClaim := { program := "ythaokofhepngbaa", sum := "e19066ad9f43cb00bbba4c6d1b82b10aa8062945ce7e3d224a0cb6682e883b31", func := "clearway/clearwaylaw36.PlaneMatches", spec := "planeMatches", unfollowed := true, recurses := true, apart := false, narrowed := true }
def PlaneMatchesUptoSaid : Prop := planeMatchesUptoRow.holds Try.pinned (OpenSpec.upto planeMatchesSpec)

/-- 'clearwaylaw36.PlanePaths', WHERE WHAT IT READS IS OF BULK AT MOST 1048576: true; the input reads as it did. -/
def planePathsUptoRow : OpenClaim := { program := "ythaokofhepngbaa", sum := "e19066ad9f43cb00bbba4c6d1b82b10aa8062945ce7e3d224a0cb6682e883b31", func := "clearway/clearwaylaw36.PlanePaths", spec := "planePaths", unfollowed := true, recurses := true, apart := false, narrowed := true }
def PlanePathsUptoSaid : Prop := planePathsUptoRow.holds Try.pinned (OpenSpec.upto planePathsSpec)

/-- 'clearwaylaw36.PlaneReach', WHERE WHAT IT READS IS OF BULK AT MOST 1048576: true; the input reads as it did. -/
def planeReachUptoRow : OpenClaim := { program := "ythaokofhepngbaa", sum := "e19066ad9f43cb00bbba4c6d1b82b10aa8062945ce7e3d224a0cb6682e883b31", func := "clearway/clearwaylaw36.PlaneReach", spec := "planeReach", unfollowed := true, recurses := true, apart := false, narrowed := true }
def PlaneReachUptoSaid : Prop := planeReachUptoRow.holds Try.pinned (OpenSpec.upto planeReachSpec)

/-- 'clearwaylaw36.PlaneOrder', WHERE WHAT IT READS IS OF BULK AT MOST 1048576: true; the input reads as it did. -/
def planeOrderUptoRow : OpenClaim := { program := "ythaokofhepngbaa", sum := "e19066ad9f43cb00bbba4c6d1b82b10aa8062945ce7e3d224a0cb6682e883b31", func := "clearway/clearwaylaw36.PlaneOrder", spec := "planeOrder", unfollowed := true, recurses := true, apart := false, narrowed := true }
def PlaneOrderUptoSaid : Prop := planeOrderUptoRow.holds Try.pinned (OpenSpec.upto planeOrderSpec)

/-- 'clearwaylaw36.PlaneExamples', WHERE WHAT IT READS IS OF BULK AT MOST 1048576: true; the input reads as it did. -/
def planeExamplesUptoRow : OpenClaim := { program := "ythaokofhepngbaa", sum := "e19066ad9f43cb00bbba4c6d1b82b10aa8062945ce7e3d224a0cb6682e883b31", func := "clearway/clearwaylaw36.PlaneExamples", spec := "planeExamples", unfollowed := true, recurses := true, apart := false, narrowed := true }
def PlaneExamplesUptoSaid : Prop := planeExamplesUptoRow.holds Try.pinned (OpenSpec.upto planeExamplesSpec)

/-- 'clearwaylaw36.PlaneBands', WHERE WHAT IT READS IS OF BULK AT MOST 1048576: true; the input reads as it did. -/
def planeBandsUptoRow : OpenClaim := { program := "ythaokofhepngbaa", sum := "e19066ad9f43cb00bbba4c6d1b82b10aa8062945ce7e3d224a0cb6682e883b31", func := "clearway/clearwaylaw36.PlaneBands", spec := "planeBands", unfollowed := true, recurses := true, apart := false, narrowed := true }
def PlaneBandsUptoSaid : Prop := planeBandsUptoRow.holds Try.pinned (OpenSpec.upto planeBandsSpec)

end Rows
end Go.Proofs.Ythaokofhepngbaa
