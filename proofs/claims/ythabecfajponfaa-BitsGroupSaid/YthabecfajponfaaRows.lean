/-
  No cell of these rows narrows 'for every input' (looked for: loops, veiled, ifaces, maps, wideKeys, modest, calm, conditions, laid).
  DERIVED. THE GIVEN ROWS OF THIS SEAT. 6 by the template 'for every input the law returns true; each argument reads behind the call as it read before'; 0 by the template 'total and deterministic' (their statements: YthabecfajponfaaTotals.lean).
  GIVEN WITH THE SEED: the statements are not yours to turn. If you find one false, say at which input.
  Laid BY PROGRAM, IN A SANDBOX (cutbox-rows.mjs): the forced cells as the released guide's own fill.sh prints them over the translation cd742c5c20c6ec3d… (all of the seat's roots in one cut). By AI agents, Wed Nov 11 2026. No macro, syntax, notation, axiom, sorry.
-/
import Derived.Test.YthabecfajponfaaChecked
import GoSem.Claim
import GoSem.ClaimJoined
import GoSem.ClaimMapViews
import Derived.JoinedTies
import Derived.KernelRfl
namespace Go.Proofs.Ythabecfajponfaa
/- THE CELL 'sum', in the pinned program and in every row, IS THE sha256 OF THE DUMP (.gsa) THAT YthabecfajponfaaProg.lean LOADS. Nothing in Lean hashes anything: it is a label: what it is worth is what the hold of that sum in a sandbox is worth. -/
noncomputable def Try.pinned : Pinned := { name := "ythabecfajponfaa", sum := "cd742c5c20c6ec3d3ebf928a16eb2b9d81e3663bfc4a47ffcabbee881787a704", checked := Try.checked }
namespace Rows
def none {H : Type} : Left H := { results := [], args := [] }

/-- 'clearwaylaw01.BitsFields': WHATEVER THE INPUT: true; the input reads as it did. -/
def bitsFieldsSpec : ChangeSpec := { name := "bitsFields", fn := fun _ => fun
  | [d1, d2, d3, d4, d5, d6] => { results := [.lit (.bool true)], args := [d1, d2, d3, d4, d5, d6] }
  | _ => none }
def bitsFieldsRow : OpenClaim := { program := "ythabecfajponfaa", sum := "cd742c5c20c6ec3d3ebf928a16eb2b9d81e3663bfc4a47ffcabbee881787a704", func := "clearway/clearwaylaw01.BitsFields", spec := "bitsFields", inPlace := ["internal/abi.NoEscape"], unfollowed := true, recurses := true, apart := false }
def BitsFieldsSaid : Prop := bitsFieldsRow.holds Try.pinned (OpenSpec.ofChange bitsFieldsSpec)

/-- ITS FALSE NEIGHBOUR: 'it returns false'. Refute it at one input. -/
def bitsFieldsWrong : ChangeSpec := { name := "bitsFields", fn := fun _ => fun
  | [d1, d2, d3, d4, d5, d6] => { results := [.lit (.bool false)], args := [d1, d2, d3, d4, d5, d6] }
  | _ => none }
def BitsFieldsWrongFalsely : Prop := bitsFieldsRow.holds Try.pinned (OpenSpec.ofChange bitsFieldsWrong)

/-- 'clearwaylaw01.BitsGroup': WHATEVER THE INPUT: true; the input reads as it did. -/
def bitsGroupSpec : ChangeSpec := { name := "bitsGroup", fn := fun _ => fun
  | [d1, d2, d3, d4] => { results := [.lit (.bool true)], args := [d1, d2, d3, d4] }
  | _ => none }
def bitsGroupRow : OpenClaim := { program := "ythabecfajponfaa", sum := "cd742c5c20c6ec3d3ebf928a16eb2b9d81e3663bfc4a47ffcabbee881787a704", func := "clearway/clearwaylaw01.BitsGroup", spec := "bitsGroup", inPlace := ["internal/abi.NoEscape"], unfollowed := true, recurses := true, apart := false }
def BitsGroupSaid : Prop := bitsGroupRow.holds Try.pinned (OpenSpec.ofChange bitsGroupSpec)

/-- ITS FALSE NEIGHBOUR: 'it returns false'. Refute it at one input. -/
def bitsGroupWrong : ChangeSpec := { name := "bitsGroup", fn := fun _ => fun
  | [d1, d2, d3, d4] => { results := [.lit (.bool false)], args := [d1, d2, d3, d4] }
  | _ => none }
def BitsGroupWrongFalsely : Prop := bitsGroupRow.holds Try.pinned (OpenSpec.ofChange bitsGroupWrong)

/-- 'clearwaylaw01.BitsMatches': WHATEVER THE INPUT: true; the input reads as it did. -/
def bitsMatchesSpec : ChangeSpec := { name := "bitsMatches", fn := fun _ => fun
  | [d1, d2, d3, d4] => { results := [.lit (.bool true)], args := [d1, d2, d3, d4] }
  | _ => none }
def bitsMatchesRow : OpenClaim := { program := "ythabecfajponfaa", sum := "cd742c5c20c6ec3d3ebf928a16eb2b9d81e3663bfc4a47ffcabbee881787a704", func := "clearway/clearwaylaw01.BitsMatches", spec := "bitsMatches", inPlace := ["internal/abi.NoEscape"], unfollowed := true, recurses := true, apart := false }
def BitsMatchesSaid : Prop := bitsMatchesRow.holds Try.pinned (OpenSpec.ofChange bitsMatchesSpec)

/-- ITS FALSE NEIGHBOUR: 'it returns false'. Refute it at one input. -/
def bitsMatchesWrong : ChangeSpec := { name := "bitsMatches", fn := fun _ => fun
  | [d1, d2, d3, d4] => { results := [.lit (.bool false)], args := [d1, d2, d3, d4] }
  | _ => none }
def BitsMatchesWrongFalsely : Prop := bitsMatchesRow.holds Try.pinned (OpenSpec.ofChange bitsMatchesWrong)

/-- 'clearwaylaw01.BitsPairs': WHATEVER THE INPUT: true; the input reads as it did. -/
def bitsPairsSpec : ChangeSpec := { name := "bitsPairs", fn := fun _ => fun
  | [d1, d2, d3] => { results := [.lit (.bool true)], args := [d1, d2, d3] }
  | _ => none }
def bitsPairsRow : OpenClaim := { program := "ythabecfajponfaa", sum := "cd742c5c20c6ec3d3ebf928a16eb2b9d81e3663bfc4a47ffcabbee881787a704", func := "clearway/clearwaylaw01.BitsPairs", spec := "bitsPairs", inPlace := ["internal/abi.NoEscape", "internal/bytealg.IndexByteString"], unfollowed := true, recurses := true, apart := false }
def BitsPairsSaid : Prop := bitsPairsRow.holds Try.pinned (OpenSpec.ofChange bitsPairsSpec)

/-- ITS FALSE NEIGHBOUR: 'it returns false'. Refute it at one input. -/
def bitsPairsWrong : ChangeSpec := { name := "bitsPairs", fn := fun _ => fun
  | [d1, d2, d3] => { results := [.lit (.bool false)], args := [d1, d2, d3] }
  | _ => none }
def BitsPairsWrongFalsely : Prop := bitsPairsRow.holds Try.pinned (OpenSpec.ofChange bitsPairsWrong)

/-- 'clearwaylaw01.BitsText': WHATEVER THE INPUT: true; the input reads as it did. -/
def bitsTextSpec : ChangeSpec := { name := "bitsText", fn := fun _ => fun
  | [d1, d2] => { results := [.lit (.bool true)], args := [d1, d2] }
  | _ => none }
def bitsTextRow : OpenClaim := { program := "ythabecfajponfaa", sum := "cd742c5c20c6ec3d3ebf928a16eb2b9d81e3663bfc4a47ffcabbee881787a704", func := "clearway/clearwaylaw01.BitsText", spec := "bitsText", inPlace := ["internal/abi.NoEscape", "internal/bytealg.IndexByteString"], unfollowed := true, recurses := true, apart := false }
def BitsTextSaid : Prop := bitsTextRow.holds Try.pinned (OpenSpec.ofChange bitsTextSpec)

/-- ITS FALSE NEIGHBOUR: 'it returns false'. Refute it at one input. -/
def bitsTextWrong : ChangeSpec := { name := "bitsText", fn := fun _ => fun
  | [d1, d2] => { results := [.lit (.bool false)], args := [d1, d2] }
  | _ => none }
def BitsTextWrongFalsely : Prop := bitsTextRow.holds Try.pinned (OpenSpec.ofChange bitsTextWrong)

/-- 'clearwaylaw01.BitsExamples': WHATEVER THE INPUT: true; the input reads as it did. -/
def bitsExamplesSpec : ChangeSpec := { name := "bitsExamples", fn := fun _ => fun
  | [] => { results := [.lit (.bool true)], args := [] }
  | _ => none }
def bitsExamplesRow : OpenClaim := { program := "ythabecfajponfaa", sum := "cd742c5c20c6ec3d3ebf928a16eb2b9d81e3663bfc4a47ffcabbee881787a704", func := "clearway/clearwaylaw01.BitsExamples", spec := "bitsExamples", inPlace := ["internal/abi.NoEscape", "internal/bytealg.IndexByteString"], unfollowed := true, recurses := true, apart := false }
def BitsExamplesSaid : Prop := bitsExamplesRow.holds Try.pinned (OpenSpec.ofChange bitsExamplesSpec)

/-- ITS FALSE NEIGHBOUR: 'it returns false'. Refute it at one input. -/
def bitsExamplesWrong : ChangeSpec := { name := "bitsExamples", fn := fun _ => fun
  | [] => { results := [.lit (.bool false)], args := [] }
  | _ => none }
def BitsExamplesWrongFalsely : Prop := bitsExamplesRow.holds Try.pinned (OpenSpec.ofChange bitsExamplesWrong)

/- THE SECOND FORM. 'bulk': how many values and letters a reading holds, each counted each time it is reached (what is shared counts as often as it is met; a slice's spare places count too). A statement '..UptoSaid' is the law's where the arguments, and the package variables that the reading takes, are together of bulk at most 1048576: NARROWER than '..Said'. Prove '..Said' where nothing that the law and all that it calls make is longer than what came in: it says more and counts as full. Else prove '..UptoSaid'. A law counts once. -/
mutual
def uptoBulk {H : Type} : DataW H → Nat
  | .lit (.string bytes) => bytes.length + 1
  | .lit _ => 1
  | .nil => 1
  | .ptr d => uptoBulk d + 1
  | .slice elems spare => uptoBulkAll elems + uptoBulkAll spare + 1
  | .agg parts => uptoBulkAll parts + 1
  | .iface _ d => uptoBulk d + 1
  | .map entries => uptoBulkEntries entries + 1
  | .held _ => 1
def uptoBulkAll {H : Type} : List (DataW H) → Nat
  | [] => 0
  | d :: r => uptoBulk d + uptoBulkAll r
def uptoBulkEntries {H : Type} : List (Lit × DataW H) → Nat
  | [] => 0
  | x :: r => uptoBulkEntry x + uptoBulkEntries r
def uptoBulkEntry {H : Type} : Lit × DataW H → Nat
  | (.string bytes, d) => bytes.length + uptoBulk d + 1
  | (_, d) => uptoBulk d + 1
 end
def uptoSmall : (H : Type) → List (DataW H) → Bool := fun _ ds => decide (uptoBulkAll ds ≤ 1048576)
def OpenSpec.upto (s : _root_.Go.ChangeSpec) : _root_.Go.OpenSpec := { _root_.Go.OpenSpec.ofChange s with cond := some uptoSmall }

/-- 'clearwaylaw01.BitsFields', WHERE WHAT IT READS IS OF BULK AT MOST 1048576: true; the input reads as it did. -/
def bitsFieldsUptoRow : OpenClaim := { program := "ythabecfajponfaa", sum := "cd742c5c20c6ec3d3ebf928a16eb2b9d81e3663bfc4a47ffcabbee881787a704", func := "clearway/clearwaylaw01.BitsFields", spec := "bitsFields", inPlace := ["internal/abi.NoEscape"], unfollowed := true, recurses := true, apart := false, narrowed := true }
def BitsFieldsUptoSaid : Prop := bitsFieldsUptoRow.holds Try.pinned (OpenSpec.upto bitsFieldsSpec)

/-- 'clearwaylaw01.BitsGroup', WHERE WHAT IT READS IS OF BULK AT MOST 1048576: true; the input reads as it did. -/
def bitsGroupUptoRow : OpenClaim := { program := "ythabecfajponfaa", sum := "cd742c5c20c6ec3d3ebf928a16eb2b9d81e3663bfc4a47ffcabbee881787a704", func := "clearway/clearwaylaw01.BitsGroup", spec := "bitsGroup", inPlace := ["internal/abi.NoEscape"], unfollowed := true, recurses := true, apart := false, narrowed := true }
def BitsGroupUptoSaid : Prop := bitsGroupUptoRow.holds Try.pinned (OpenSpec.upto bitsGroupSpec)

/-- 'clearwaylaw01.BitsMatches', WHERE WHAT IT READS IS OF BULK AT MOST 1048576: true; the input reads as it did. -/
def bitsMatchesUptoRow : OpenClaim := { program := "ythabecfajponfaa", sum := "cd742c5c20c6ec3d3ebf928a16eb2b9d81e3663bfc4a47ffcabbee881787a704", func := "clearway/clearwaylaw01.BitsMatches", spec := "bitsMatches", inPlace := ["internal/abi.NoEscape"], unfollowed := true, recurses := true, apart := false, narrowed := true }
def BitsMatchesUptoSaid : Prop := bitsMatchesUptoRow.holds Try.pinned (OpenSpec.upto bitsMatchesSpec)

/-- 'clearwaylaw01.BitsPairs', WHERE WHAT IT READS IS OF BULK AT MOST 1048576: true; the input reads as it did. -/
def bitsPairsUptoRow : OpenClaim := { program := "ythabecfajponfaa", sum := "cd742c5c20c6ec3d3ebf928a16eb2b9d81e3663bfc4a47ffcabbee881787a704", func := "clearway/clearwaylaw01.BitsPairs", spec := "bitsPairs", inPlace := ["internal/abi.NoEscape", "internal/bytealg.IndexByteString"], unfollowed := true, recurses := true, apart := false, narrowed := true }
def BitsPairsUptoSaid : Prop := bitsPairsUptoRow.holds Try.pinned (OpenSpec.upto bitsPairsSpec)

/-- 'clearwaylaw01.BitsText', WHERE WHAT IT READS IS OF BULK AT MOST 1048576: true; the input reads as it did. -/
def bitsTextUptoRow : OpenClaim := { program := "ythabecfajponfaa", sum := "cd742c5c20c6ec3d3ebf928a16eb2b9d81e3663bfc4a47ffcabbee881787a704", func := "clearway/clearwaylaw01.BitsText", spec := "bitsText", inPlace := ["internal/abi.NoEscape", "internal/bytealg.IndexByteString"], unfollowed := true, recurses := true, apart := false, narrowed := true }
def BitsTextUptoSaid : Prop := bitsTextUptoRow.holds Try.pinned (OpenSpec.upto bitsTextSpec)

/-- 'clearwaylaw01.BitsExamples', WHERE WHAT IT READS IS OF BULK AT MOST 1048576: true; the input reads as it did. -/
def bitsExamplesUptoRow : OpenClaim := { program := "ythabecfajponfaa", sum := "cd742c5c20c6ec3d3ebf928a16eb2b9d81e3663bfc4a47ffcabbee881787a704", func := "clearway/clearwaylaw01.BitsExamples", spec := "bitsExamples", inPlace := ["internal/abi.NoEscape", "internal/bytealg.IndexByteString"], unfollowed := true, recurses := true, apart := false, narrowed := true }
def BitsExamplesUptoSaid : Prop := bitsExamplesUptoRow.holds Try.pinned (OpenSpec.upto bitsExamplesSpec)

end Rows
end Go.Proofs.Ythabecfajponfaa
