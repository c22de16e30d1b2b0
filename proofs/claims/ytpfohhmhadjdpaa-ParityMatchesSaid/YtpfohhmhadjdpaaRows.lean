/-
  No cell of these rows narrows 'for every input' (looked for: loops, veiled, ifaces, maps, wideKeys, modest, calm, conditions, laid).
  DERIVED. THE GIVEN ROWS OF THIS SEAT. 7 by the template 'for every input the law returns true; each argument reads behind the call as it read before'; 0 by the template 'total and deterministic' (their statements: YtpfohhmhadjdpaaTotals.lean).
  GIVEN WITH THE SEED: the statements are not yours to turn. If you find one false, say at which input.
  Laid BY PROGRAM, IN A SANDBOX (cutbox-rows.mjs): the forced cells as the released guide's own fill.sh prints them over the translation a7c50cc026e4073a… (all of the seat's roots in one cut). By AI agents, Wed Nov 11 2026. No macro, syntax, notation, axiom, sorry.
-/
import Derived.Test.YtpfohhmhadjdpaaChecked
import GoSem.Claim
import GoSem.ClaimJoined
import GoSem.ClaimMapViews
import Derived.JoinedTies
import Derived.KernelRfl
namespace Go.Proofs.Ytpfohhmhadjdpaa
/- THE CELL 'sum', in the pinned program and in every row, IS THE sha256 OF THE DUMP (.gsa) THAT YtpfohhmhadjdpaaProg.lean LOADS. Nothing in Lean hashes anything: it is a label: what it is worth is what the hold of that sum in a sandbox is worth. -/
noncomputable def Try.pinned : Pinned := { name := "ytpfohhmhadjdpaa", sum := "a7c50cc026e4073a7545e37874ce8635c29480183539481d803bbc9dd0a8af0f", checked := Try.checked }
namespace Rows
def none {H : Type} : Left H := { results := [], args := [] }

/-- 'clearwaylaw02.ParitySyndromes': WHATEVER THE INPUT: true; the input reads as it did. -/
def paritySyndromesSpec : ChangeSpec := { name := "paritySyndromes", fn := fun _ => fun
  | [d1, d2] => { results := [.lit (.bool true)], args := [d1, d2] }
  | _ => none }
def paritySyndromesRow : OpenClaim := { program := "ytpfohhmhadjdpaa", sum := "a7c50cc026e4073a7545e37874ce8635c29480183539481d803bbc9dd0a8af0f", func := "clearway/clearwaylaw02.ParitySyndromes", spec := "paritySyndromes", unfollowed := true, recurses := true, apart := false }
def ParitySyndromesSaid : Prop := paritySyndromesRow.holds Try.pinned (OpenSpec.ofChange paritySyndromesSpec)

/-- ITS FALSE NEIGHBOUR: 'it returns false'. Refute it at one input. -/
def paritySyndromesWrong : ChangeSpec := { name := "paritySyndromes", fn := fun _ => fun
  | [d1, d2] => { results := [.lit (.bool false)], args := [d1, d2] }
  | _ => none }
def ParitySyndromesWrongFalsely : Prop := paritySyndromesRow.holds Try.pinned (OpenSpec.ofChange paritySyndromesWrong)

/-- 'clearwaylaw02.ParityBursts': WHATEVER THE INPUT: true; the input reads as it did. -/
def parityBurstsSpec : ChangeSpec := { name := "parityBursts", fn := fun _ => fun
  | [d1, d2, d3] => { results := [.lit (.bool true)], args := [d1, d2, d3] }
  | _ => none }
def parityBurstsRow : OpenClaim := { program := "ytpfohhmhadjdpaa", sum := "a7c50cc026e4073a7545e37874ce8635c29480183539481d803bbc9dd0a8af0f", func := "clearway/clearwaylaw02.ParityBursts", spec := "parityBursts", unfollowed := true, recurses := true, apart := false }
def ParityBurstsSaid : Prop := parityBurstsRow.holds Try.pinned (OpenSpec.ofChange parityBurstsSpec)

/-- ITS FALSE NEIGHBOUR: 'it returns false'. Refute it at one input. -/
def parityBurstsWrong : ChangeSpec := { name := "parityBursts", fn := fun _ => fun
  | [d1, d2, d3] => { results := [.lit (.bool false)], args := [d1, d2, d3] }
  | _ => none }
def ParityBurstsWrongFalsely : Prop := parityBurstsRow.holds Try.pinned (OpenSpec.ofChange parityBurstsWrong)

/-- 'clearwaylaw02.ParityLinear': WHATEVER THE INPUT: true; the input reads as it did. -/
def parityLinearSpec : ChangeSpec := { name := "parityLinear", fn := fun _ => fun
  | [d1, d2, d3] => { results := [.lit (.bool true)], args := [d1, d2, d3] }
  | _ => none }
def parityLinearRow : OpenClaim := { program := "ytpfohhmhadjdpaa", sum := "a7c50cc026e4073a7545e37874ce8635c29480183539481d803bbc9dd0a8af0f", func := "clearway/clearwaylaw02.ParityLinear", spec := "parityLinear", unfollowed := true, recurses := true, apart := false }
def ParityLinearSaid : Prop := parityLinearRow.holds Try.pinned (OpenSpec.ofChange parityLinearSpec)

/-- ITS FALSE NEIGHBOUR: 'it returns false'. Refute it at one input. -/
def parityLinearWrong : ChangeSpec := { name := "parityLinear", fn := fun _ => fun
  | [d1, d2, d3] => { results := [.lit (.bool false)], args := [d1, d2, d3] }
  | _ => none }
def ParityLinearWrongFalsely : Prop := parityLinearRow.holds Try.pinned (OpenSpec.ofChange parityLinearWrong)

/-- 'clearwaylaw02.ParityMatches': WHATEVER THE INPUT: true; the input reads as it did. -/
def parityMatchesSpec : ChangeSpec := { name := "parityMatches", fn := fun _ => fun
  | [d1, d2] => { results := [.lit (.bool true)], args := [d1, d2] }
  | _ => none }
def parityMatchesRow : OpenClaim := { program := "ytpfohhmhadjdpaa", sum := "a7c50cc026e4073a7545e37874ce8635c29480183539481d803bbc9dd0a8af0f", func := "clearway/clearwaylaw02.ParityMatches", spec := "parityMatches", unfollowed := true, recurses := true, apart := false }
def ParityMatchesSaid : Prop := parityMatchesRow.holds Try.pinned (OpenSpec.ofChange parityMatchesSpec)

/-- ITS FALSE NEIGHBOUR: 'it returns false'. Refute it at one input. -/
def parityMatchesWrong : ChangeSpec := { name := "parityMatches", fn := fun _ => fun
  | [d1, d2] => { results := [.lit (.bool false)], args := [d1, d2] }
  | _ => none }
def ParityMatchesWrongFalsely : Prop := parityMatchesRow.holds Try.pinned (OpenSpec.ofChange parityMatchesWrong)

/-- 'clearwaylaw02.ParityExamples': WHATEVER THE INPUT: true; the input reads as it did. -/
def parityExamplesSpec : ChangeSpec := { name := "parityExamples", fn := fun _ => fun
  | [] => { results := [.lit (.bool true)], args := [] }
  | _ => none }
def parityExamplesRow : OpenClaim := { program := "ytpfohhmhadjdpaa", sum := "a7c50cc026e4073a7545e37874ce8635c29480183539481d803bbc9dd0a8af0f", func := "clearway/clearwaylaw02.ParityExamples", spec := "parityExamples", unfollowed := true, recurses := true, apart := false }
def ParityExamplesSaid : Prop := parityExamplesRow.holds Try.pinned (OpenSpec.ofChange parityExamplesSpec)

/-- ITS FALSE NEIGHBOUR: 'it returns false'. Refute it at one input. -/
def parityExamplesWrong : ChangeSpec := { name := "parityExamples", fn := fun _ => fun
  | [] => { results := [.lit (.bool false)], args := [] }
  | _ => none }
def ParityExamplesWrongFalsely : Prop := parityExamplesRow.holds Try.pinned (OpenSpec.ofChange parityExamplesWrong)

/-- 'clearwaylaw02.ParitySeals': WHATEVER THE INPUT: true; the input reads as it did. -/
def paritySealsSpec : ChangeSpec := { name := "paritySeals", fn := fun _ => fun
  | [d1, d2] => { results := [.lit (.bool true)], args := [d1, d2] }
  | _ => none }
def paritySealsRow : OpenClaim := { program := "ytpfohhmhadjdpaa", sum := "a7c50cc026e4073a7545e37874ce8635c29480183539481d803bbc9dd0a8af0f", func := "clearway/clearwaylaw02.ParitySeals", spec := "paritySeals", unfollowed := true, recurses := true, apart := false }
def ParitySealsSaid : Prop := paritySealsRow.holds Try.pinned (OpenSpec.ofChange paritySealsSpec)

/-- ITS FALSE NEIGHBOUR: 'it returns false'. Refute it at one input. -/
def paritySealsWrong : ChangeSpec := { name := "paritySeals", fn := fun _ => fun
  | [d1, d2] => { results := [.lit (.bool false)], args := [d1, d2] }
  | _ => none }
def ParitySealsWrongFalsely : Prop := paritySealsRow.holds Try.pinned (OpenSpec.ofChange paritySealsWrong)

/-- 'clearwaylaw02.ParityCorrects': WHATEVER THE INPUT: true; the input reads as it did. -/
def parityCorrectsSpec : ChangeSpec := { name := "parityCorrects", fn := fun _ => fun
  | [d1, d2, d3] => { results := [.lit (.bool true)], args := [d1, d2, d3] }
  | _ => none }
def parityCorrectsRow : OpenClaim := { program := "ytpfohhmhadjdpaa", sum := "a7c50cc026e4073a7545e37874ce8635c29480183539481d803bbc9dd0a8af0f", func := "clearway/clearwaylaw02.ParityCorrects", spec := "parityCorrects", unfollowed := true, recurses := true, apart := false }
def ParityCorrectsSaid : Prop := parityCorrectsRow.holds Try.pinned (OpenSpec.ofChange parityCorrectsSpec)

/-- ITS FALSE NEIGHBOUR: 'it returns false'. Refute it at one input. -/
def parityCorrectsWrong : ChangeSpec := { name := "parityCorrects", fn := fun _ => fun
  | [d1, d2, d3] => { results := [.lit (.bool false)], args := [d1, d2, d3] }
  | _ => none }
def ParityCorrectsWrongFalsely : Prop := parityCorrectsRow.holds Try.pinned (OpenSpec.ofChange parityCorrectsWrong)

/- THE SECOND FORM. 'bulk': how many values and letters a reading holds, each counted each time it is reached (what is shared counts as often as it is met; a slice's spare places count too). A statement '..UptoSaid' is the law's where the arguments, and the package variables that the reading takes, are together of bulk at most 1048576: NARROWER than '..Said'. Prove '..Said' where nothing that the law and all that it calls make is longer than what came in: it says more and counts as full. Else prove '..UptoSaid'. A law counts once. -/
mutual
def uptoBulk {H : Type} : DataW H → Nat
  | .lit (.string bytes) => bytes.length + 1
  | .lit _ => 1
  | .nil => 1
  | .ptr d => uptoBulk d + 1
  | .slice elems spare => uptoBulkAll elems + uptoBulkAll spare + 1
  | .agg parts => uptoBulkAll parts + 1
  | .iface _ d => uptoBulk d + 1
  | .map entries => uptoBulkEntries entries + 1
  | .held _ => 1
def uptoBulkAll {H : Type} : List (DataW H) → Nat
  | [] => 0
  | d :: r => uptoBulk d + uptoBulkAll r
def uptoBulkEntries {H : Type} : List (Lit × DataW H) → Nat
  | [] => 0
  | x :: r => uptoBulkEntry x + uptoBulkEntries r
def uptoBulkEntry {H : Type} : Lit × DataW H → Nat
  | (.string bytes, d) => bytes.length + uptoBulk d + 1
  | (_, d) => uptoBulk d + 1
 end
def uptoSmall : (H : Type) → List (DataW H) → Bool := fun _ ds => decide (uptoBulkAll ds ≤ 1048576)
def OpenSpec.upto (s : _root_.Go.ChangeSpec) : _root_.Go.OpenSpec := { _root_.Go.OpenSpec.ofChange s with cond := some uptoSmall }

/-- 'clearwaylaw02.ParitySyndromes', WHERE WHAT IT READS IS OF BULK AT MOST 1048576: true; the input reads as it did. -/
def paritySyndromesUptoRow : OpenClaim := { program := "ytpfohhmhadjdpaa", sum := "a7c50cc026e4073a7545e37874ce8635c29480183539481d803bbc9dd0a8af0f", func := "clearway/clearwaylaw02.ParitySyndromes", spec := "paritySyndromes", unfollowed := true, recurses := true, apart := false, narrowed := true }
def ParitySyndromesUptoSaid : Prop := paritySyndromesUptoRow.holds Try.pinned (OpenSpec.upto paritySyndromesSpec)

/-- 'clearwaylaw02.ParityBursts', WHERE WHAT IT READS IS OF BULK AT MOST 1048576: true; the input reads as it did. -/
def parityBurstsUptoRow : OpenClaim := { program := "ytpfohhmhadjdpaa", sum := "a7c50cc026e4073a7545e37874ce8635c29480183539481d803bbc9dd0a8af0f", func := "clearway/clearwaylaw02.ParityBursts", spec := "parityBursts", unfollowed := true, recurses := true, apart := false, narrowed := true }
def ParityBurstsUptoSaid : Prop := parityBurstsUptoRow.holds Try.pinned (OpenSpec.upto parityBurstsSpec)

/-- 'clearwaylaw02.ParityLinear', WHERE WHAT IT READS IS OF BULK AT MOST 1048576: true; the input reads as it did. -/
def parityLinearUptoRow : OpenClaim := { program := "ytpfohhmhadjdpaa", sum := "a7c50cc026e4073a7545e37874ce8635c29480183539481d803bbc9dd0a8af0f", func := "clearway/clearwaylaw02.ParityLinear", spec := "parityLinear", unfollowed := true, recurses := true, apart := false, narrowed := true }
def ParityLinearUptoSaid : Prop := parityLinearUptoRow.holds Try.pinned (OpenSpec.upto parityLinearSpec)

/-- 'clearwaylaw02.ParityMatches', WHERE WHAT IT READS IS OF BULK AT MOST 1048576: true; the input reads as it did. -/
def parityMatchesUptoRow : OpenClaim := { program := "ytpfohhmhadjdpaa", sum := "a7c50cc026e4073a7545e37874ce8635c29480183539481d803bbc9dd0a8af0f", func := "clearway/clearwaylaw02.ParityMatches", spec := "parityMatches", unfollowed := true, recurses := true, apart := false, narrowed := true }
def ParityMatchesUptoSaid : Prop := parityMatchesUptoRow.holds Try.pinned (OpenSpec.upto parityMatchesSpec)

/-- 'clearwaylaw02.ParityExamples', WHERE WHAT IT READS IS OF BULK AT MOST 1048576: true; the input reads as it did. -/
def parityExamplesUptoRow : OpenClaim := { program := "ytpfohhmhadjdpaa", sum := "a7c50cc026e4073a7545e37874ce8635c29480183539481d803bbc9dd0a8af0f", func := "clearway/clearwaylaw02.ParityExamples", spec := "parityExamples", unfollowed := true, recurses := true, apart := false, narrowed := true }
def ParityExamplesUptoSaid : Prop := parityExamplesUptoRow.holds Try.pinned (OpenSpec.upto parityExamplesSpec)

/-- 'clearwaylaw02.ParitySeals', WHERE WHAT IT READS IS OF BULK AT MOST 1048576: true; the input reads as it did. -/
def paritySealsUptoRow : OpenClaim := { program := "ytpfohhmhadjdpaa", sum := "a7c50cc026e4073a7545e37874ce8635c29480183539481d803bbc9dd0a8af0f", func := "clearway/clearwaylaw02.ParitySeals", spec := "paritySeals", unfollowed := true, recurses := true, apart := false, narrowed := true }
def ParitySealsUptoSaid : Prop := paritySealsUptoRow.holds Try.pinned (OpenSpec.upto paritySealsSpec)

/-- 'clearwaylaw02.ParityCorrects', WHERE WHAT IT READS IS OF BULK AT MOST 1048576: true; the input reads as it did. -/
def parityCorrectsUptoRow : OpenClaim := { program := "ytpfohhmhadjdpaa", sum := "a7c50cc026e4073a7545e37874ce8635c29480183539481d803bbc9dd0a8af0f", func := "clearway/clearwaylaw02.ParityCorrects", spec := "parityCorrects", unfollowed := true, recurses := true, apart := false, narrowed := true }
def ParityCorrectsUptoSaid : Prop := parityCorrectsUptoRow.holds Try.pinned (OpenSpec.upto parityCorrectsSpec)

end Rows
end Go.Proofs.Ytpfohhmhadjdpaa
