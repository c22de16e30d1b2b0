/-
  No cell of these rows narrows 'for every input' (looked for: loops, veiled, ifaces, maps, wideKeys, modest, calm, conditions, laid).
  DERIVED. THE GIVEN ROWS OF THIS SEAT. 6 by the template 'for every input the law returns true; each argument reads behind the call as it read before'; 0 by the template 'total and deterministic' (their statements: YtlhechkaljodmaaTotals.lean).
  GIVEN WITH THE SEED: the statements are not yours to turn. If you find one false, say at which input.
  Laid BY PROGRAM, IN A SANDBOX (cutbox-rows.mjs): the forced cells as the released guide's own fill.sh prints them over the translation 5d3f2bcc89b0d3b7… (all of the seat's roots in one cut). By AI agents, Wed Nov 11 2026. No macro, syntax, notation, axiom, sorry.
-/
import Derived.Test.YtlhechkaljodmaaChecked
import GoSem.Claim
import GoSem.ClaimJoined
import GoSem.ClaimMapViews
import Derived.JoinedTies
import Derived.KernelRfl
namespace Go.Proofs.Ytlhechkaljodmaa
/- THE CELL 'sum', in the pinned program and in every row, IS THE sha256 OF THE DUMP (.gsa) THAT YtlhechkaljodmaaProg.lean LOADS. Nothing in Lean hashes anything: it is a label: what it is worth is what the hold of that sum in a sandbox is worth. -/
noncomputable def Try.pinned : Pinned := { name := "ytlhechkaljodmaa", sum := "5d3f2bcc89b0d3b751468aa21aebd5219c7675bb4e83df1dd9d8fd345514bfc1", checked := Try.checked }
namespace Rows
def none {H : Type} : Left H := { results := [], args := [] }

/-- 'clearwaylaw03.GrayMatches': WHATEVER THE INPUT: true; the input reads as it did. -/
def grayMatchesSpec : ChangeSpec := { name := "grayMatches", fn := fun _ => fun
  | [d] => { results := [.lit (.bool true)], args := [d] }
  | _ => none }
def grayMatchesRow : OpenClaim := { program := "ytlhechkaljodmaa", sum := "5d3f2bcc89b0d3b751468aa21aebd5219c7675bb4e83df1dd9d8fd345514bfc1", func := "clearway/clearwaylaw03.GrayMatches", spec := "grayMatches", unfollowed := true, recurses := true, apart := false }
def GrayMatchesSaid : Prop := grayMatchesRow.holds Try.pinned (OpenSpec.ofChange grayMatchesSpec)

/-- ITS FALSE NEIGHBOUR: 'it returns false'. Refute it at one input. -/
def grayMatchesWrong : ChangeSpec := { name := "grayMatches", fn := fun _ => fun
  | [d] => { results := [.lit (.bool false)], args := [d] }
  | _ => none }
def GrayMatchesWrongFalsely : Prop := grayMatchesRow.holds Try.pinned (OpenSpec.ofChange grayMatchesWrong)

/-- 'clearwaylaw03.GrayInverse': WHATEVER THE INPUT: true; the input reads as it did. -/
def grayInverseSpec : ChangeSpec := { name := "grayInverse", fn := fun _ => fun
  | [d] => { results := [.lit (.bool true)], args := [d] }
  | _ => none }
def grayInverseRow : OpenClaim := { program := "ytlhechkaljodmaa", sum := "5d3f2bcc89b0d3b751468aa21aebd5219c7675bb4e83df1dd9d8fd345514bfc1", func := "clearway/clearwaylaw03.GrayInverse", spec := "grayInverse", unfollowed := true, recurses := true, apart := false }
def GrayInverseSaid : Prop := grayInverseRow.holds Try.pinned (OpenSpec.ofChange grayInverseSpec)

/-- ITS FALSE NEIGHBOUR: 'it returns false'. Refute it at one input. -/
def grayInverseWrong : ChangeSpec := { name := "grayInverse", fn := fun _ => fun
  | [d] => { results := [.lit (.bool false)], args := [d] }
  | _ => none }
def GrayInverseWrongFalsely : Prop := grayInverseRow.holds Try.pinned (OpenSpec.ofChange grayInverseWrong)

/-- 'clearwaylaw03.GrayAltitudes': WHATEVER THE INPUT: true; the input reads as it did. -/
def grayAltitudesSpec : ChangeSpec := { name := "grayAltitudes", fn := fun _ => fun
  | [d] => { results := [.lit (.bool true)], args := [d] }
  | _ => none }
def grayAltitudesRow : OpenClaim := { program := "ytlhechkaljodmaa", sum := "5d3f2bcc89b0d3b751468aa21aebd5219c7675bb4e83df1dd9d8fd345514bfc1", func := "clearway/clearwaylaw03.GrayAltitudes", spec := "grayAltitudes", unfollowed := true, recurses := true, apart := false }
def GrayAltitudesSaid : Prop := grayAltitudesRow.holds Try.pinned (OpenSpec.ofChange grayAltitudesSpec)

/-- ITS FALSE NEIGHBOUR: 'it returns false'. Refute it at one input. -/
def grayAltitudesWrong : ChangeSpec := { name := "grayAltitudes", fn := fun _ => fun
  | [d] => { results := [.lit (.bool false)], args := [d] }
  | _ => none }
def GrayAltitudesWrongFalsely : Prop := grayAltitudesRow.holds Try.pinned (OpenSpec.ofChange grayAltitudesWrong)

/-- 'clearwaylaw03.GrayNeighbours': WHATEVER THE INPUT: true; the input reads as it did. -/
def grayNeighboursSpec : ChangeSpec := { name := "grayNeighbours", fn := fun _ => fun
  | [d] => { results := [.lit (.bool true)], args := [d] }
  | _ => none }
def grayNeighboursRow : OpenClaim := { program := "ytlhechkaljodmaa", sum := "5d3f2bcc89b0d3b751468aa21aebd5219c7675bb4e83df1dd9d8fd345514bfc1", func := "clearway/clearwaylaw03.GrayNeighbours", spec := "grayNeighbours", unfollowed := true, recurses := true, apart := false }
def GrayNeighboursSaid : Prop := grayNeighboursRow.holds Try.pinned (OpenSpec.ofChange grayNeighboursSpec)

/-- ITS FALSE NEIGHBOUR: 'it returns false'. Refute it at one input. -/
def grayNeighboursWrong : ChangeSpec := { name := "grayNeighbours", fn := fun _ => fun
  | [d] => { results := [.lit (.bool false)], args := [d] }
  | _ => none }
def GrayNeighboursWrongFalsely : Prop := grayNeighboursRow.holds Try.pinned (OpenSpec.ofChange grayNeighboursWrong)

/-- 'clearwaylaw03.GrayFields': WHATEVER THE INPUT: true; the input reads as it did. -/
def grayFieldsSpec : ChangeSpec := { name := "grayFields", fn := fun _ => fun
  | [d1, d2] => { results := [.lit (.bool true)], args := [d1, d2] }
  | _ => none }
def grayFieldsRow : OpenClaim := { program := "ytlhechkaljodmaa", sum := "5d3f2bcc89b0d3b751468aa21aebd5219c7675bb4e83df1dd9d8fd345514bfc1", func := "clearway/clearwaylaw03.GrayFields", spec := "grayFields", unfollowed := true, recurses := true, apart := false }
def GrayFieldsSaid : Prop := grayFieldsRow.holds Try.pinned (OpenSpec.ofChange grayFieldsSpec)

/-- ITS FALSE NEIGHBOUR: 'it returns false'. Refute it at one input. -/
def grayFieldsWrong : ChangeSpec := { name := "grayFields", fn := fun _ => fun
  | [d1, d2] => { results := [.lit (.bool false)], args := [d1, d2] }
  | _ => none }
def GrayFieldsWrongFalsely : Prop := grayFieldsRow.holds Try.pinned (OpenSpec.ofChange grayFieldsWrong)

/-- 'clearwaylaw03.GrayExamples': WHATEVER THE INPUT: true; the input reads as it did. -/
def grayExamplesSpec : ChangeSpec := { name := "grayExamples", fn := fun _ => fun
  | [] => { results := [.lit (.bool true)], args := [] }
  | _ => none }
def grayExamplesRow : OpenClaim := { program := "ytlhechkaljodmaa", sum := "5d3f2bcc89b0d3b751468aa21aebd5219c7675bb4e83df1dd9d8fd345514bfc1", func := "clearway/clearwaylaw03.GrayExamples", spec := "grayExamples", unfollowed := true, recurses := true, apart := false }
def GrayExamplesSaid : Prop := grayExamplesRow.holds Try.pinned (OpenSpec.ofChange grayExamplesSpec)

/-- ITS FALSE NEIGHBOUR: 'it returns false'. Refute it at one input. -/
def grayExamplesWrong : ChangeSpec := { name := "grayExamples", fn := fun _ => fun
  | [] => { results := [.lit (.bool false)], args := [] }
  | _ => none }
def GrayExamplesWrongFalsely : Prop := grayExamplesRow.holds Try.pinned (OpenSpec.ofChange grayExamplesWrong)

/- THE SECOND FORM. 'bulk': how many values and letters a reading holds, each counted each time it is reached (what is shared counts as often as it is met; a slice's spare places count too). A statement '..UptoSaid' is the law's where the arguments, and the package variables that the reading takes, are together of bulk at most 1048576: NARROWER than '..Said'. Prove '..Said' where nothing that the law and all that it calls make is longer than what came in: it says more and counts as full. Else prove '..UptoSaid'. A law counts once. -/
mutual
def uptoBulk {H : Type} : DataW H → Nat
  | .lit (.string bytes) => bytes.length + 1
  | .lit _ => 1
  | .nil => 1
  | .ptr d => uptoBulk d + 1
  | .slice elems spare => uptoBulkAll elems + uptoBulkAll spare + 1
  | .agg parts => uptoBulkAll parts + 1
  | .iface _ d => uptoBulk d + 1
  | .map entries => uptoBulkEntries entries + 1
  | .held _ => 1
def uptoBulkAll {H : Type} : List (DataW H) → Nat
  | [] => 0
  | d :: r => uptoBulk d + uptoBulkAll r
def uptoBulkEntries {H : Type} : List (Lit × DataW H) → Nat
  | [] => 0
  | x :: r => uptoBulkEntry x + uptoBulkEntries r
def uptoBulkEntry {H : Type} : Lit × DataW H → Nat
  | (.string bytes, d) => bytes.length + uptoBulk d + 1
  | (_, d) => uptoBulk d + 1
 end
def uptoSmall : (H : Type) → List (DataW H) → Bool := fun _ ds => decide (uptoBulkAll ds ≤ 1048576)
def OpenSpec.upto (s : _root_.Go.ChangeSpec) : _root_.Go.OpenSpec := { _root_.Go.OpenSpec.ofChange s with cond := some uptoSmall }

/-- 'clearwaylaw03.GrayMatches', WHERE WHAT IT READS IS OF BULK AT MOST 1048576: true; the input reads as it did. -/
def grayMatchesUptoRow : OpenClaim := { program := "ytlhechkaljodmaa", sum := "5d3f2bcc89b0d3b751468aa21aebd5219c7675bb4e83df1dd9d8fd345514bfc1", func := "clearway/clearwaylaw03.GrayMatches", spec := "grayMatches", unfollowed := true, recurses := true, apart := false, narrowed := true }
def GrayMatchesUptoSaid : Prop := grayMatchesUptoRow.holds Try.pinned (OpenSpec.upto grayMatchesSpec)

/-- 'clearwaylaw03.GrayInverse', WHERE WHAT IT READS IS OF BULK AT MOST 1048576: true; the input reads as it did. -/
def grayInverseUptoRow : OpenClaim := { program := "ytlhechkaljodmaa", sum := "5d3f2bcc89b0d3b751468aa21aebd5219c7675bb4e83df1dd9d8fd345514bfc1", func := "clearway/clearwaylaw03.GrayInverse", spec := "grayInverse", unfollowed := true, recurses := true, apart := false, narrowed := true }
def GrayInverseUptoSaid : Prop := grayInverseUptoRow.holds Try.pinned (OpenSpec.upto grayInverseSpec)

/-- 'clearwaylaw03.GrayAltitudes', WHERE WHAT IT READS IS OF BULK AT MOST 1048576: true; the input reads as it did. -/
def grayAltitudesUptoRow : OpenClaim := { program := "ytlhechkaljodmaa", sum := "5d3f2bcc89b0d3b751468aa21aebd5219c7675bb4e83df1dd9d8fd345514bfc1", func := "clearway/clearwaylaw03.GrayAltitudes", spec := "grayAltitudes", unfollowed := true, recurses := true, apart := false, narrowed := true }
def GrayAltitudesUptoSaid : Prop := grayAltitudesUptoRow.holds Try.pinned (OpenSpec.upto grayAltitudesSpec)

/-- 'clearwaylaw03.GrayNeighbours', WHERE WHAT IT READS IS OF BULK AT MOST 1048576: true; the input reads as it did. -/
def grayNeighboursUptoRow : OpenClaim := { program := "ytlhechkaljodmaa", sum := "5d3f2bcc89b0d3b751468aa21aebd5219c7675bb4e83df1dd9d8fd345514bfc1", func := "clearway/clearwaylaw03.GrayNeighbours", spec := "grayNeighbours", unfollowed := true, recurses := true, apart := false, narrowed := true }
def GrayNeighboursUptoSaid : Prop := grayNeighboursUptoRow.holds Try.pinned (OpenSpec.upto grayNeighboursSpec)

/-- 'clearwaylaw03.GrayFields', WHERE WHAT IT READS IS OF BULK AT MOST 1048576: true; the input reads as it did. -/
def grayFieldsUptoRow : OpenClaim := { program := "ytlhechkaljodmaa", sum := "5d3f2bcc89b0d3b751468aa21aebd5219c7675bb4e83df1dd9d8fd345514bfc1", func := "clearway/clearwaylaw03.GrayFields", spec := "grayFields", unfollowed := true, recurses := true, apart := false, narrowed := true }
def GrayFieldsUptoSaid : Prop := grayFieldsUptoRow.holds Try.pinned (OpenSpec.upto grayFieldsSpec)

/-- 'clearwaylaw03.GrayExamples', WHERE WHAT IT READS IS OF BULK AT MOST 1048576: true; the input reads as it did. -/
def grayExamplesUptoRow : OpenClaim := { program := "ytlhechkaljodmaa", sum := "5d3f2bcc89b0d3b751468aa21aebd5219c7675bb4e83df1dd9d8fd345514bfc1", func := "clearway/clearwaylaw03.GrayExamples", spec := "grayExamples", unfollowed := true, recurses := true, apart := false, narrowed := true }
def GrayExamplesUptoSaid : Prop := grayExamplesUptoRow.holds Try.pinned (OpenSpec.upto grayExamplesSpec)

end Rows
end Go.Proofs.Ytlhechkaljodmaa
