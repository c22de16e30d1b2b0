/-
  No cell of these rows narrows 'for every input' (looked for: loops, veiled, ifaces, maps, wideKeys, modest, calm, conditions, laid).
  DERIVED. THE GIVEN ROWS OF THIS SEAT. 4 by the template 'for every input the law returns true; each argument reads behind the call as it read before'; 0 by the template 'total and deterministic' (their statements: YtikjjpjekchcjaaTotals.lean).
  GIVEN WITH THE SEED: the statements are not yours to turn. If you find one false, say at which input.
  Laid BY PROGRAM, IN A SANDBOX (cutbox-rows.mjs): the forced cells as the released guide's own fill.sh prints them over the translation 192cd7860a3f7778… (all of the seat's roots in one cut). By AI agents, Wed Nov 11 2026. No macro, syntax, notation, axiom, sorry.
-/
import Derived.Test.YtikjjpjekchcjaaChecked
import GoSem.Claim
import GoSem.ClaimJoined
import GoSem.ClaimMapViews
import Derived.JoinedTies
import Derived.KernelRfl
namespace Go.Proofs.Ytikjjpjekchcjaa
/- THE CELL 'sum', in the pinned program and in every row, IS THE sha256 OF THE DUMP (.gsa) THAT YtikjjpjekchcjaaProg.lean LOADS. Nothing in Lean hashes anything: it is a label: what it is worth is what the hold of that sum in a sandbox is worth. -/
noncomputable def Try.pinned : Pinned := { name := "ytikjjpjekchcjaa", sum := "192cd7860a3f7778e7446f7112c35cb18f8de2d471b0aff44840f3b8ab2baef4", checked := Try.checked }
namespace Rows
def none {H : Type} : Left H := { results := [], args := [] }

/-- 'clearwaylaw20.TrackValid': WHATEVER THE INPUT: true; the input reads as it did. -/
def trackValidSpec : ChangeSpec := { name := "trackValid", fn := fun _ => fun
  | [d1, d2] => { results := [.lit (.bool true)], args := [d1, d2] }
  | _ => none }
def trackValidRow : OpenClaim := { program := "ytikjjpjekchcjaa", sum := "192cd7860a3f7778e7446f7112c35cb18f8de2d471b0aff44840f3b8ab2baef4", func := "clearway/clearwaylaw20.TrackValid", spec := "trackValid", unfollowed := true, recurses := true, apart := false }
def TrackValidSaid : Prop := trackValidRow.holds Try.pinned (OpenSpec.ofChange trackValidSpec)

/-- ITS FALSE NEIGHBOUR: 'it returns false'. Refute it at one input. -/
def trackValidWrong : ChangeSpec := { name := "trackValid", fn := fun _ => fun
  | [d1, d2] => { results := [.lit (.bool false)], args := [d1, d2] }
  | _ => none }
def TrackValidWrongFalsely : Prop := trackValidRow.holds Try.pinned (OpenSpec.ofChange trackValidWrong)

/-- 'clearwaylaw20.TrackRuns': WHATEVER THE INPUT: true; the input reads as it did. -/
def trackRunsSpec : ChangeSpec := { name := "trackRuns", fn := fun _ => fun
  | [d1, d2] => { results := [.lit (.bool true)], args := [d1, d2] }
  | _ => none }
def trackRunsRow : OpenClaim := { program := "ytikjjpjekchcjaa", sum := "192cd7860a3f7778e7446f7112c35cb18f8de2d471b0aff44840f3b8ab2baef4", func := "clearway/clearwaylaw20.TrackRuns", spec := "trackRuns", unfollowed := true, recurses := true, apart := false }
def TrackRunsSaid : Prop := trackRunsRow.holds Try.pinned (OpenSpec.ofChange trackRunsSpec)

/-- ITS FALSE NEIGHBOUR: 'it returns false'. Refute it at one input. -/
def trackRunsWrong : ChangeSpec := { name := "trackRuns", fn := fun _ => fun
  | [d1, d2] => { results := [.lit (.bool false)], args := [d1, d2] }
  | _ => none }
def TrackRunsWrongFalsely : Prop := trackRunsRow.holds Try.pinned (OpenSpec.ofChange trackRunsWrong)

/-- 'clearwaylaw20.TrackExamples': WHATEVER THE INPUT: true; the input reads as it did. -/
def trackExamplesSpec : ChangeSpec := { name := "trackExamples", fn := fun _ => fun
  | [] => { results := [.lit (.bool true)], args := [] }
  | _ => none }
def trackExamplesRow : OpenClaim := { program := "ytikjjpjekchcjaa", sum := "192cd7860a3f7778e7446f7112c35cb18f8de2d471b0aff44840f3b8ab2baef4", func := "clearway/clearwaylaw20.TrackExamples", spec := "trackExamples", unfollowed := true, recurses := true, apart := false }
def TrackExamplesSaid : Prop := trackExamplesRow.holds Try.pinned (OpenSpec.ofChange trackExamplesSpec)

/-- ITS FALSE NEIGHBOUR: 'it returns false'. Refute it at one input. -/
def trackExamplesWrong : ChangeSpec := { name := "trackExamples", fn := fun _ => fun
  | [] => { results := [.lit (.bool false)], args := [] }
  | _ => none }
def TrackExamplesWrongFalsely : Prop := trackExamplesRow.holds Try.pinned (OpenSpec.ofChange trackExamplesWrong)

/-- 'clearwaylaw20.TrackAlone': WHATEVER THE INPUT: true; the input reads as it did. -/
def trackAloneSpec : ChangeSpec := { name := "trackAlone", fn := fun _ => fun
  | [d1, d2, d3, d4, d5, d6] => { results := [.lit (.bool true)], args := [d1, d2, d3, d4, d5, d6] }
  | _ => none }
def trackAloneRow : OpenClaim := { program := "ytikjjpjekchcjaa", sum := "192cd7860a3f7778e7446f7112c35cb18f8de2d471b0aff44840f3b8ab2baef4", func := "clearway/clearwaylaw20.TrackAlone", spec := "trackAlone", unfollowed := true, recurses := true, apart := false }
def TrackAloneSaid : Prop := trackAloneRow.holds Try.pinned (OpenSpec.ofChange trackAloneSpec)

/-- ITS FALSE NEIGHBOUR: 'it returns false'. Refute it at one input. -/
def trackAloneWrong : ChangeSpec := { name := "trackAlone", fn := fun _ => fun
  | [d1, d2, d3, d4, d5, d6] => { results := [.lit (.bool false)], args := [d1, d2, d3, d4, d5, d6] }
  | _ => none }
def TrackAloneWrongFalsely : Prop := trackAloneRow.holds Try.pinned (OpenSpec.ofChange trackAloneWrong)

/- THE SECOND FORM. 'bulk': how many values and letters a reading holds, each counted each time it is reached (what is shared counts as often as it is met; a slice's spare places count too). A statement '..UptoSaid' is the law's where the arguments, and the package variables that the reading takes, are together of bulk at most 1048576: NARROWER than '..Said'. Prove '..Said' where nothing that the law and all that it calls make is longer than what came in: it says more and counts as full. Else prove '..UptoSaid'. A law counts once. -/
mutual
def uptoBulk {H : Type} : DataW H → Nat
  | .lit (.string bytes) => bytes.length + 1
  | .lit _ => 1
  | .nil => 1
  | .ptr d => uptoBulk d + 1
  | .slice elems spare => uptoBulkAll elems + uptoBulkAll spare + 1
  | .agg parts => uptoBulkAll parts + 1
  | .iface _ d => uptoBulk d + 1
  | .map entries => uptoBulkEntries entries + 1
  | .held _ => 1
def uptoBulkAll {H : Type} : List (DataW H) → Nat
  | [] => 0
  | d :: r => uptoBulk d + uptoBulkAll r
def uptoBulkEntries {H : Type} : List (Lit × DataW H) → Nat
  | [] => 0
  | x :: r => uptoBulkEntry x + uptoBulkEntries r
def uptoBulkEntry {H : Type} : Lit × DataW H → Nat
  | (.string bytes, d) => bytes.length + uptoBulk d + 1
  | (_, d) => uptoBulk d + 1
 end
def uptoSmall : (H : Type) → List (DataW H) → Bool := fun _ ds => decide (uptoBulkAll ds ≤ 1048576)
def OpenSpec.upto (s : _root_.Go.ChangeSpec) : _root_.Go.OpenSpec := { _root_.Go.OpenSpec.ofChange s with cond := some uptoSmall }

/-- 'clearwaylaw20.TrackValid', WHERE WHAT IT READS IS OF BULK AT MOST 1048576: true; the input reads as it did. -/
def trackValidUptoRow : OpenClaim := { program := "ytikjjpjekchcjaa", sum := "192cd7860a3f7778e7446f7112c35cb18f8de2d471b0aff44840f3b8ab2baef4", func := "clearway/clearwaylaw20.TrackValid", spec := "trackValid", unfollowed := true, recurses := true, apart := false, narrowed := true }
def TrackValidUptoSaid : Prop := trackValidUptoRow.holds Try.pinned (OpenSpec.upto trackValidSpec)

/-- 'clearwaylaw20.TrackRuns', WHERE WHAT IT READS IS OF BULK AT MOST 1048576: true; the input reads as it did. -/
def trackRunsUptoRow : OpenClaim := { program := "ytikjjpjekchcjaa", sum := "192cd7860a3f7778e7446f7112c35cb18f8de2d471b0aff44840f3b8ab2baef4", func := "clearway/clearwaylaw20.TrackRuns", spec := "trackRuns", unfollowed := true, recurses := true, apart := false, narrowed := true }
def TrackRunsUptoSaid : Prop := trackRunsUptoRow.holds Try.pinned (OpenSpec.upto trackRunsSpec)

/-- 'clearwaylaw20.TrackExamples', WHERE WHAT IT READS IS OF BULK AT MOST 1048576: true; the input reads as it did. -/
def trackExamplesUptoRow : OpenClaim := { program := "ytikjjpjekchcjaa", sum := "192cd7860a3f7778e7446f7112c35cb18f8de2d471b0aff44840f3b8ab2baef4", func := "clearway/clearwaylaw20.TrackExamples", spec := "trackExamples", unfollowed := true, recurses := true, apart := false, narrowed := true }
def TrackExamplesUptoSaid : Prop := trackExamplesUptoRow.holds Try.pinned (OpenSpec.upto trackExamplesSpec)

/-- 'clearwaylaw20.TrackAlone', WHERE WHAT IT READS IS OF BULK AT MOST 1048576: true; the input reads as it did. -/
def trackAloneUptoRow : OpenClaim := { program := "ytikjjpjekchcjaa", sum := "192cd7860a3f7778e7446f7112c35cb18f8de2d471b0aff44840f3b8ab2baef4", func := "clearway/clearwaylaw20.TrackAlone", spec := "trackAlone", unfollowed := true, recurses := true, apart := false, narrowed := true }
def TrackAloneUptoSaid : Prop := trackAloneUptoRow.holds Try.pinned (OpenSpec.upto trackAloneSpec)

end Rows
end Go.Proofs.Ytikjjpjekchcjaa
