/-
  No cell of these rows narrows 'for every input' (looked for: loops, veiled, ifaces, maps, wideKeys, modest, calm, conditions, laid).
  DERIVED. THE GIVEN ROWS OF THIS SEAT. 6 by the template 'for every input the law returns true; each argument reads behind the call as it read before'; 0 by the template 'total and deterministic' (their statements: YtojjhkahigdkoaaTotals.lean).
  GIVEN WITH THE SEED: the statements are not yours to turn. If you find one false, say at which input.
  Laid BY PROGRAM, IN A SANDBOX (cutbox-rows.mjs): the forced cells as the released guide's own fill.sh prints them over the translation 5c8790f7aa78f284… (all of the seat's roots in one cut). By AI agents, Wed Nov 11 2026. No macro, syntax, notation, axiom, sorry.
-/
import Derived.Test.YtojjhkahigdkoaaChecked
import GoSem.Claim
import GoSem.ClaimJoined
import GoSem.ClaimMapViews
import Derived.JoinedTies
import Derived.KernelRfl
namespace Go.Proofs.Ytojjhkahigdkoaa
/- THE CELL 'sum', in the pinned program and in every row, IS THE sha256 OF THE DUMP (.gsa) THAT YtojjhkahigdkoaaProg.lean LOADS. Nothing in Lean hashes anything: it is a label: what it is worth is what the hold of that sum in a sandbox is worth. -/
noncomputable def Try.pinned : Pinned := { name := "ytojjhkahigdkoaa", sum := "5c8790f7aa78f284ff306604072f8f1dc28b47d2dbc1f2bce407852542b1d661", checked := Try.checked }
namespace Rows
def none {H : Type} : Left H := { results := [], args := [] }

/-- 'clearwaylaw18.AltitudeMatches': WHATEVER THE INPUT: true; the input reads as it did. -/
def altitudeMatchesSpec : ChangeSpec := { name := "altitudeMatches", fn := fun _ => fun
  | [d1, d2, d3, d4] => { results := [.lit (.bool true)], args := [d1, d2, d3, d4] }
  | _ => none }
def altitudeMatchesRow : OpenClaim := { program := "ytojjhkahigdkoaa", sum := "5c8790f7aa78f284ff306604072f8f1dc28b47d2dbc1f2bce407852542b1d661", func := "clearway/clearwaylaw18.AltitudeMatches", spec := "altitudeMatches", unfollowed := true, recurses := true, apart := false }
def AltitudeMatchesSaid : Prop := altitudeMatchesRow.holds Try.pinned (OpenSpec.ofChange altitudeMatchesSpec)

/-- ITS FALSE NEIGHBOUR: 'it returns false'. Refute it at one input. -/
def altitudeMatchesWrong : ChangeSpec := { name := "altitudeMatches", fn := fun _ => fun
  | [d1, d2, d3, d4] => { results := [.lit (.bool false)], args := [d1, d2, d3, d4] }
  | _ => none }
def AltitudeMatchesWrongFalsely : Prop := altitudeMatchesRow.holds Try.pinned (OpenSpec.ofChange altitudeMatchesWrong)

/-- 'clearwaylaw18.AltitudeNested': WHATEVER THE INPUT: true; the input reads as it did. -/
def altitudeNestedSpec : ChangeSpec := { name := "altitudeNested", fn := fun _ => fun
  | [d1, d2, d3, d4] => { results := [.lit (.bool true)], args := [d1, d2, d3, d4] }
  | _ => none }
def altitudeNestedRow : OpenClaim := { program := "ytojjhkahigdkoaa", sum := "5c8790f7aa78f284ff306604072f8f1dc28b47d2dbc1f2bce407852542b1d661", func := "clearway/clearwaylaw18.AltitudeNested", spec := "altitudeNested", unfollowed := true, recurses := true, apart := false }
def AltitudeNestedSaid : Prop := altitudeNestedRow.holds Try.pinned (OpenSpec.ofChange altitudeNestedSpec)

/-- ITS FALSE NEIGHBOUR: 'it returns false'. Refute it at one input. -/
def altitudeNestedWrong : ChangeSpec := { name := "altitudeNested", fn := fun _ => fun
  | [d1, d2, d3, d4] => { results := [.lit (.bool false)], args := [d1, d2, d3, d4] }
  | _ => none }
def AltitudeNestedWrongFalsely : Prop := altitudeNestedRow.holds Try.pinned (OpenSpec.ofChange altitudeNestedWrong)

/-- 'clearwaylaw18.AltitudeTruth': WHATEVER THE INPUT: true; the input reads as it did. -/
def altitudeTruthSpec : ChangeSpec := { name := "altitudeTruth", fn := fun _ => fun
  | [d1, d2, d3, d4] => { results := [.lit (.bool true)], args := [d1, d2, d3, d4] }
  | _ => none }
def altitudeTruthRow : OpenClaim := { program := "ytojjhkahigdkoaa", sum := "5c8790f7aa78f284ff306604072f8f1dc28b47d2dbc1f2bce407852542b1d661", func := "clearway/clearwaylaw18.AltitudeTruth", spec := "altitudeTruth", unfollowed := true, recurses := true, apart := false }
def AltitudeTruthSaid : Prop := altitudeTruthRow.holds Try.pinned (OpenSpec.ofChange altitudeTruthSpec)

/-- ITS FALSE NEIGHBOUR: 'it returns false'. Refute it at one input. -/
def altitudeTruthWrong : ChangeSpec := { name := "altitudeTruth", fn := fun _ => fun
  | [d1, d2, d3, d4] => { results := [.lit (.bool false)], args := [d1, d2, d3, d4] }
  | _ => none }
def AltitudeTruthWrongFalsely : Prop := altitudeTruthRow.holds Try.pinned (OpenSpec.ofChange altitudeTruthWrong)

/-- 'clearwaylaw18.AltitudeAsks': WHATEVER THE INPUT: true; the input reads as it did. -/
def altitudeAsksSpec : ChangeSpec := { name := "altitudeAsks", fn := fun _ => fun
  | [d1, d2] => { results := [.lit (.bool true)], args := [d1, d2] }
  | _ => none }
def altitudeAsksRow : OpenClaim := { program := "ytojjhkahigdkoaa", sum := "5c8790f7aa78f284ff306604072f8f1dc28b47d2dbc1f2bce407852542b1d661", func := "clearway/clearwaylaw18.AltitudeAsks", spec := "altitudeAsks", unfollowed := true, recurses := true, apart := false }
def AltitudeAsksSaid : Prop := altitudeAsksRow.holds Try.pinned (OpenSpec.ofChange altitudeAsksSpec)

/-- ITS FALSE NEIGHBOUR: 'it returns false'. Refute it at one input. -/
def altitudeAsksWrong : ChangeSpec := { name := "altitudeAsks", fn := fun _ => fun
  | [d1, d2] => { results := [.lit (.bool false)], args := [d1, d2] }
  | _ => none }
def AltitudeAsksWrongFalsely : Prop := altitudeAsksRow.holds Try.pinned (OpenSpec.ofChange altitudeAsksWrong)

/-- 'clearwaylaw18.AltitudePoint': WHATEVER THE INPUT: true; the input reads as it did. -/
def altitudePointSpec : ChangeSpec := { name := "altitudePoint", fn := fun _ => fun
  | [d] => { results := [.lit (.bool true)], args := [d] }
  | _ => none }
def altitudePointRow : OpenClaim := { program := "ytojjhkahigdkoaa", sum := "5c8790f7aa78f284ff306604072f8f1dc28b47d2dbc1f2bce407852542b1d661", func := "clearway/clearwaylaw18.AltitudePoint", spec := "altitudePoint", unfollowed := true, recurses := true, apart := false }
def AltitudePointSaid : Prop := altitudePointRow.holds Try.pinned (OpenSpec.ofChange altitudePointSpec)

/-- ITS FALSE NEIGHBOUR: 'it returns false'. Refute it at one input. -/
def altitudePointWrong : ChangeSpec := { name := "altitudePoint", fn := fun _ => fun
  | [d] => { results := [.lit (.bool false)], args := [d] }
  | _ => none }
def AltitudePointWrongFalsely : Prop := altitudePointRow.holds Try.pinned (OpenSpec.ofChange altitudePointWrong)

/-- 'clearwaylaw18.AltitudeExamples': WHATEVER THE INPUT: true; the input reads as it did. -/
def altitudeExamplesSpec : ChangeSpec := { name := "altitudeExamples", fn := fun _ => fun
  | [] => { results := [.lit (.bool true)], args := [] }
  | _ => none }
def altitudeExamplesRow : OpenClaim := { program := "ytojjhkahigdkoaa", sum := "5c8790f7aa78f284ff306604072f8f1dc28b47d2dbc1f2bce407852542b1d661", func := "clearway/clearwaylaw18.AltitudeExamples", spec := "altitudeExamples", unfollowed := true, recurses := true, apart := false }
def AltitudeExamplesSaid : Prop := altitudeExamplesRow.holds Try.pinned (OpenSpec.ofChange altitudeExamplesSpec)

/-- ITS FALSE NEIGHBOUR: 'it returns false'. Refute it at one input. -/
def altitudeExamplesWrong : ChangeSpec := { name := "altitudeExamples", fn := fun _ => fun
  | [] => { results := [.lit (.bool false)], args := [] }
  | _ => none }
def AltitudeExamplesWrongFalsely : Prop := altitudeExamplesRow.holds Try.pinned (OpenSpec.ofChange altitudeExamplesWrong)

/- THE SECOND FORM. 'bulk': how many values and letters a reading holds, each counted each time it is reached (what is shared counts as often as it is met; a slice's spare places count too). A statement '..UptoSaid' is the law's where the arguments, and the package variables that the reading takes, are together of bulk at most 1048576: NARROWER than '..Said'. Prove '..Said' where nothing that the law and all that it calls make is longer than what came in: it says more and counts as full. Else prove '..UptoSaid'. A law counts once. -/
mutual
def uptoBulk {H : Type} : DataW H → Nat
  | .lit (.string bytes) => bytes.length + 1
  | .lit _ => 1
  | .nil => 1
  | .ptr d => uptoBulk d + 1
  | .slice elems spare => uptoBulkAll elems + uptoBulkAll spare + 1
  | .agg parts => uptoBulkAll parts + 1
  | .iface _ d => uptoBulk d + 1
  | .map entries => uptoBulkEntries entries + 1
  | .held _ => 1
def uptoBulkAll {H : Type} : List (DataW H) → Nat
  | [] => 0
  | d :: r => uptoBulk d + uptoBulkAll r
def uptoBulkEntries {H : Type} : List (Lit × DataW H) → Nat
  | [] => 0
  | x :: r => uptoBulkEntry x + uptoBulkEntries r
def uptoBulkEntry {H : Type} : Lit × DataW H → Nat
  | (.string bytes, d) => bytes.length + uptoBulk d + 1
  | (_, d) => uptoBulk d + 1
 end
def uptoSmall : (H : Type) → List (DataW H) → Bool := fun _ ds => decide (uptoBulkAll ds ≤ 1048576)
def OpenSpec.upto (s : _root_.Go.ChangeSpec) : _root_.Go.OpenSpec := { _root_.Go.OpenSpec.ofChange s with cond := some uptoSmall }

/-- 'clearwaylaw18.AltitudeMatches', WHERE WHAT IT READS IS OF BULK AT MOST 1048576: true; the input reads as it did. -/
def altitudeMatchesUptoRow : OpenClaim := { program := "ytojjhkahigdkoaa", sum := "5c8790f7aa78f284ff306604072f8f1dc28b47d2dbc1f2bce407852542b1d661", func := "clearway/clearwaylaw18.AltitudeMatches", spec := "altitudeMatches", unfollowed := true, recurses := true, apart := false, narrowed := true }
def AltitudeMatchesUptoSaid : Prop := altitudeMatchesUptoRow.holds Try.pinned (OpenSpec.upto altitudeMatchesSpec)

/-- 'clearwaylaw18.AltitudeNested', WHERE WHAT IT READS IS OF BULK AT MOST 1048576: true; the input reads as it did. -/
def altitudeNestedUptoRow : OpenClaim := { program := "ytojjhkahigdkoaa", sum := "5c8790f7aa78f284ff306604072f8f1dc28b47d2dbc1f2bce407852542b1d661", func := "clearway/clearwaylaw18.AltitudeNested", spec := "altitudeNested", unfollowed := true, recurses := true, apart := false, narrowed := true }
def AltitudeNestedUptoSaid : Prop := altitudeNestedUptoRow.holds Try.pinned (OpenSpec.upto altitudeNestedSpec)

/-- 'clearwaylaw18.AltitudeTruth', WHERE WHAT IT READS IS OF BULK AT MOST 1048576: true; the input reads as it did. -/
def altitudeTruthUptoRow : OpenClaim := { program := "ytojjhkahigdkoaa", sum := "5c8790f7aa78f284ff306604072f8f1dc28b47d2dbc1f2bce407852542b1d661", func := "clearway/clearwaylaw18.AltitudeTruth", spec := "altitudeTruth", unfollowed := true, recurses := true, apart := false, narrowed := true }
def AltitudeTruthUptoSaid : Prop := altitudeTruthUptoRow.holds Try.pinned (OpenSpec.upto altitudeTruthSpec)

/-- 'clearwaylaw18.AltitudeAsks', WHERE WHAT IT READS IS OF BULK AT MOST 1048576: true; the input reads as it did. -/
def altitudeAsksUptoRow : OpenClaim := { program := "ytojjhkahigdkoaa", sum := "5c8790f7aa78f284ff306604072f8f1dc28b47d2dbc1f2bce407852542b1d661", func := "clearway/clearwaylaw18.AltitudeAsks", spec := "altitudeAsks", unfollowed := true, recurses := true, apart := false, narrowed := true }
def AltitudeAsksUptoSaid : Prop := altitudeAsksUptoRow.holds Try.pinned (OpenSpec.upto altitudeAsksSpec)

/-- 'clearwaylaw18.AltitudePoint', WHERE WHAT IT READS IS OF BULK AT MOST 1048576: true; the input reads as it did. -/
def altitudePointUptoRow : OpenClaim := { program := "ytojjhkahigdkoaa", sum := "5c8790f7aa78f284ff306604072f8f1dc28b47d2dbc1f2bce407852542b1d661", func := "clearway/clearwaylaw18.AltitudePoint", spec := "altitudePoint", unfollowed := true, recurses := true, apart := false, narrowed := true }
def AltitudePointUptoSaid : Prop := altitudePointUptoRow.holds Try.pinned (OpenSpec.upto altitudePointSpec)

/-- 'clearwaylaw18.AltitudeExamples', WHERE WHAT IT READS IS OF BULK AT MOST 1048576: true; the input reads as it did. -/
def altitudeExamplesUptoRow : OpenClaim := { program := "ytojjhkahigdkoaa", sum := "5c8790f7aa78f284ff306604072f8f1dc28b47d2dbc1f2bce407852542b1d661", func := "clearway/clearwaylaw18.AltitudeExamples", spec := "altitudeExamples", unfollowed := true, recurses := true, apart := false, narrowed := true }
def AltitudeExamplesUptoSaid : Prop := altitudeExamplesUptoRow.holds Try.pinned (OpenSpec.upto altitudeExamplesSpec)

end Rows
end Go.Proofs.Ytojjhkahigdkoaa
