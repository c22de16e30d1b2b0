/-
  No cell of these rows narrows 'for every input' (looked for: loops, veiled, ifaces, maps, wideKeys, modest, calm, conditions, laid).
  DERIVED. THE GIVEN ROWS OF THIS SEAT. 6 by the template 'for every input the law returns true; each argument reads behind the call as it read before'; 0 by the template 'total and deterministic' (their statements: YtbehpkggmomgeaaTotals.lean).
  GIVEN WITH THE SEED: the statements are not yours to turn. If you find one false, say at which input.
  Laid BY PROGRAM, IN A SANDBOX (cutbox-rows.mjs): the forced cells as the released guide's own fill.sh prints them over the translation b57406ef4908ebec… (all of the seat's roots in one cut). By AI agents, Wed Nov 11 2026. No macro, syntax, notation, axiom, sorry.
-/
import Derived.Test.YtbehpkggmomgeaaChecked
import GoSem.Claim
import GoSem.ClaimJoined
import GoSem.ClaimMapViews
import Derived.JoinedTies
import Derived.KernelRfl
namespace Go.Proofs.Ytbehpkggmomgeaa
/- THE CELL 'sum', in the pinned program and in every row, IS THE sha256 OF THE DUMP (.gsa) THAT YtbehpkggmomgeaaProg.lean LOADS. Nothing in Lean hashes anything: it is a label: what it is worth is what the hold of that sum in a sandbox is worth. -/
noncomputable def Try.pinned : Pinned := { name := "ytbehpkggmomgeaa", sum := "b57406ef4908ebecd5e72e46646a2b15b0f5bdf1b0f59475a0b579697bd8e16e", checked := Try.checked }
namespace Rows
def none {H : Type} : Left H := { results := [], args := [] }

/-- 'clearwaylaw19.AssignMatches': WHATEVER THE INPUT: true; the input reads as it did. -/
def assignMatchesSpec : ChangeSpec := { name := "assignMatches", fn := fun _ => fun
  | [d] => { results := [.lit (.bool true)], args := [d] }
  | _ => none }
def assignMatchesRow : OpenClaim := { program := "ytbehpkggmomgeaa", sum := "b57406ef4908ebecd5e72e46646a2b15b0f5bdf1b0f59475a0b579697bd8e16e", func := "clearway/clearwaylaw19.AssignMatches", spec := "assignMatches", unfollowed := true, recurses := true, apart := false }
def AssignMatchesSaid : Prop := assignMatchesRow.holds Try.pinned (OpenSpec.ofChange assignMatchesSpec)

/-- ITS FALSE NEIGHBOUR: 'it returns false'. Refute it at one input. -/
def assignMatchesWrong : ChangeSpec := { name := "assignMatches", fn := fun _ => fun
  | [d] => { results := [.lit (.bool false)], args := [d] }
  | _ => none }
def AssignMatchesWrongFalsely : Prop := assignMatchesRow.holds Try.pinned (OpenSpec.ofChange assignMatchesWrong)

/-- 'clearwaylaw19.AssignScales': WHATEVER THE INPUT: true; the input reads as it did. -/
def assignScalesSpec : ChangeSpec := { name := "assignScales", fn := fun _ => fun
  | [d1, d2, d3] => { results := [.lit (.bool true)], args := [d1, d2, d3] }
  | _ => none }
def assignScalesRow : OpenClaim := { program := "ytbehpkggmomgeaa", sum := "b57406ef4908ebecd5e72e46646a2b15b0f5bdf1b0f59475a0b579697bd8e16e", func := "clearway/clearwaylaw19.AssignScales", spec := "assignScales", unfollowed := true, recurses := true, apart := false }
def AssignScalesSaid : Prop := assignScalesRow.holds Try.pinned (OpenSpec.ofChange assignScalesSpec)

/-- ITS FALSE NEIGHBOUR: 'it returns false'. Refute it at one input. -/
def assignScalesWrong : ChangeSpec := { name := "assignScales", fn := fun _ => fun
  | [d1, d2, d3] => { results := [.lit (.bool false)], args := [d1, d2, d3] }
  | _ => none }
def AssignScalesWrongFalsely : Prop := assignScalesRow.holds Try.pinned (OpenSpec.ofChange assignScalesWrong)

/-- 'clearwaylaw19.AssignTurns': WHATEVER THE INPUT: true; the input reads as it did. -/
def assignTurnsSpec : ChangeSpec := { name := "assignTurns", fn := fun _ => fun
  | [d1, d2] => { results := [.lit (.bool true)], args := [d1, d2] }
  | _ => none }
def assignTurnsRow : OpenClaim := { program := "ytbehpkggmomgeaa", sum := "b57406ef4908ebecd5e72e46646a2b15b0f5bdf1b0f59475a0b579697bd8e16e", func := "clearway/clearwaylaw19.AssignTurns", spec := "assignTurns", unfollowed := true, recurses := true, apart := false }
def AssignTurnsSaid : Prop := assignTurnsRow.holds Try.pinned (OpenSpec.ofChange assignTurnsSpec)

/-- ITS FALSE NEIGHBOUR: 'it returns false'. Refute it at one input. -/
def assignTurnsWrong : ChangeSpec := { name := "assignTurns", fn := fun _ => fun
  | [d1, d2] => { results := [.lit (.bool false)], args := [d1, d2] }
  | _ => none }
def AssignTurnsWrongFalsely : Prop := assignTurnsRow.holds Try.pinned (OpenSpec.ofChange assignTurnsWrong)

/-- 'clearwaylaw19.AssignCosts': WHATEVER THE INPUT: true; the input reads as it did. -/
def assignCostsSpec : ChangeSpec := { name := "assignCosts", fn := fun _ => fun
  | [d1, d2, d3] => { results := [.lit (.bool true)], args := [d1, d2, d3] }
  | _ => none }
def assignCostsRow : OpenClaim := { program := "ytbehpkggmomgeaa", sum := "b57406ef4908ebecd5e72e46646a2b15b0f5bdf1b0f59475a0b579697bd8e16e", func := "clearway/clearwaylaw19.AssignCosts", spec := "assignCosts", unfollowed := true, recurses := true, apart := false }
def AssignCostsSaid : Prop := assignCostsRow.holds Try.pinned (OpenSpec.ofChange assignCostsSpec)

/-- ITS FALSE NEIGHBOUR: 'it returns false'. Refute it at one input. -/
def assignCostsWrong : ChangeSpec := { name := "assignCosts", fn := fun _ => fun
  | [d1, d2, d3] => { results := [.lit (.bool false)], args := [d1, d2, d3] }
  | _ => none }
def AssignCostsWrongFalsely : Prop := assignCostsRow.holds Try.pinned (OpenSpec.ofChange assignCostsWrong)

/-- 'clearwaylaw19.AssignBest': WHATEVER THE INPUT: true; the input reads as it did. -/
def assignBestSpec : ChangeSpec := { name := "assignBest", fn := fun _ => fun
  | [d] => { results := [.lit (.bool true)], args := [d] }
  | _ => none }
def assignBestRow : OpenClaim := { program := "ytbehpkggmomgeaa", sum := "b57406ef4908ebecd5e72e46646a2b15b0f5bdf1b0f59475a0b579697bd8e16e", func := "clearway/clearwaylaw19.AssignBest", spec := "assignBest", unfollowed := true, recurses := true, apart := false }
def AssignBestSaid : Prop := assignBestRow.holds Try.pinned (OpenSpec.ofChange assignBestSpec)

/-- ITS FALSE NEIGHBOUR: 'it returns false'. Refute it at one input. -/
def assignBestWrong : ChangeSpec := { name := "assignBest", fn := fun _ => fun
  | [d] => { results := [.lit (.bool false)], args := [d] }
  | _ => none }
def AssignBestWrongFalsely : Prop := assignBestRow.holds Try.pinned (OpenSpec.ofChange assignBestWrong)

/-- 'clearwaylaw19.AssignExamples': WHATEVER THE INPUT: true; the input reads as it did. -/
def assignExamplesSpec : ChangeSpec := { name := "assignExamples", fn := fun _ => fun
  | [] => { results := [.lit (.bool true)], args := [] }
  | _ => none }
def assignExamplesRow : OpenClaim := { program := "ytbehpkggmomgeaa", sum := "b57406ef4908ebecd5e72e46646a2b15b0f5bdf1b0f59475a0b579697bd8e16e", func := "clearway/clearwaylaw19.AssignExamples", spec := "assignExamples", unfollowed := true, recurses := true, apart := false }
def AssignExamplesSaid : Prop := assignExamplesRow.holds Try.pinned (OpenSpec.ofChange assignExamplesSpec)

/-- ITS FALSE NEIGHBOUR: 'it returns false'. Refute it at one input. -/
def assignExamplesWrong : ChangeSpec := { name := "assignExamples", fn := fun _ => fun
  | [] => { results := [.lit (.bool false)], args := [] }
  | _ => none }
def AssignExamplesWrongFalsely : Prop := assignExamplesRow.holds Try.pinned (OpenSpec.ofChange assignExamplesWrong)

/- THE SECOND FORM. 'bulk': how many values and letters a reading holds, each counted each time it is reached (what is shared counts as often as it is met; a slice's spare places count too). A statement '..UptoSaid' is the law's where the arguments, and the package variables that the reading takes, are together of bulk at most 1048576: NARROWER than '..Said'. Prove '..Said' where nothing that the law and all that it calls make is longer than what came in: it says more and counts as full. Else prove '..UptoSaid'. A law counts once. -/
mutual
def uptoBulk {H : Type} : DataW H → Nat
  | .lit (.string bytes) => bytes.length + 1
  | .lit _ => 1
  | .nil => 1
  | .ptr d => uptoBulk d + 1
  | .slice elems spare => uptoBulkAll elems + uptoBulkAll spare + 1
  | .agg parts => uptoBulkAll parts + 1
  | .iface _ d => uptoBulk d + 1
  | .map entries => uptoBulkEntries entries + 1
  | .held _ => 1
def uptoBulkAll {H : Type} : List (DataW H) → Nat
  | [] => 0
  | d :: r => uptoBulk d + uptoBulkAll r
def uptoBulkEntries {H : Type} : List (Lit × DataW H) → Nat
  | [] => 0
  | x :: r => uptoBulkEntry x + uptoBulkEntries r
def uptoBulkEntry {H : Type} : Lit × DataW H → Nat
  | (.string bytes, d) => bytes.length + uptoBulk d + 1
  | (_, d) => uptoBulk d + 1
 end
def uptoSmall : (H : Type) → List (DataW H) → Bool := fun _ ds => decide (uptoBulkAll ds ≤ 1048576)
def OpenSpec.upto (s : _root_.Go.ChangeSpec) : _root_.Go.OpenSpec := { _root_.Go.OpenSpec.ofChange s with cond := some uptoSmall }

/-- 'clearwaylaw19.AssignMatches', WHERE WHAT IT READS IS OF BULK AT MOST 1048576: true; the input reads as it did. -/
def assignMatchesUptoRow : OpenClaim := { program := "ytbehpkggmomgeaa", sum := "b57406ef4908ebecd5e72e46646a2b15b0f5bdf1b0f59475a0b579697bd8e16e", func := "clearway/clearwaylaw19.AssignMatches", spec := "assignMatches", unfollowed := true, recurses := true, apart := false, narrowed := true }
def AssignMatchesUptoSaid : Prop := assignMatchesUptoRow.holds Try.pinned (OpenSpec.upto assignMatchesSpec)

/-- 'clearwaylaw19.AssignScales', WHERE WHAT IT READS IS OF BULK AT MOST 1048576: true; the input reads as it did. -/
def assignScalesUptoRow : OpenClaim := { program := "ytbehpkggmomgeaa", sum := "b57406ef4908ebecd5e72e46646a2b15b0f5bdf1b0f59475a0b579697bd8e16e", func := "clearway/clearwaylaw19.AssignScales", spec := "assignScales", unfollowed := true, recurses := true, apart := false, narrowed := true }
def AssignScalesUptoSaid : Prop := assignScalesUptoRow.holds Try.pinned (OpenSpec.upto assignScalesSpec)

/-- 'clearwaylaw19.AssignTurns', WHERE WHAT IT READS IS OF BULK AT MOST 1048576: true; the input reads as it did. -/
def assignTurnsUptoRow : OpenClaim := { program := "ytbehpkggmomgeaa", sum := "b57406ef4908ebecd5e72e46646a2b15b0f5bdf1b0f59475a0b579697bd8e16e", func := "clearway/clearwaylaw19.AssignTurns", spec := "assignTurns", unfollowed := true, recurses := true, apart := false, narrowed := true }
def AssignTurnsUptoSaid : Prop := assignTurnsUptoRow.holds Try.pinned (OpenSpec.upto assignTurnsSpec)

/-- 'clearwaylaw19.AssignCosts', WHERE WHAT IT READS IS OF BULK AT MOST 1048576: true; the input reads as it did. -/
def assignCostsUptoRow : OpenClaim := { program := "ytbehpkggmomgeaa", sum := "b57406ef4908ebecd5e72e46646a2b15b0f5bdf1b0f59475a0b579697bd8e16e", func := "clearway/clearwaylaw19.AssignCosts", spec := "assignCosts", unfollowed := true, recurses := true, apart := false, narrowed := true }
def AssignCostsUptoSaid : Prop := assignCostsUptoRow.holds Try.pinned (OpenSpec.upto assignCostsSpec)

/-- 'clearwaylaw19.AssignBest', WHERE WHAT IT READS IS OF BULK AT MOST 1048576: true; the input reads as it did. -/
def assignBestUptoRow : OpenClaim := { program := "ytbehpkggmomgeaa", sum := "b57406ef4908ebecd5e72e46646a2b15b0f5bdf1b0f59475a0b579697bd8e16e", func := "clearway/clearwaylaw19.AssignBest", spec := "assignBest", unfollowed := true, recurses := true, apart := false, narrowed := true }
def AssignBestUptoSaid : Prop := assignBestUptoRow.holds Try.pinned (OpenSpec.upto assignBestSpec)

/-- 'clearwaylaw19.AssignExamples', WHERE WHAT IT READS IS OF BULK AT MOST 1048576: true; the input reads as it did. -/
def assignExamplesUptoRow : OpenClaim := { program := "ytbehpkggmomgeaa", sum := "b57406ef4908ebecd5e72e46646a2b15b0f5bdf1b0f59475a0b579697bd8e16e", func := "clearway/clearwaylaw19.AssignExamples", spec := "assignExamples", unfollowed := true, recurses := true, apart := false, narrowed := true }
def AssignExamplesUptoSaid : Prop := assignExamplesUptoRow.holds Try.pinned (OpenSpec.upto assignExamplesSpec)

end Rows
end Go.Proofs.Ytbehpkggmomgeaa
