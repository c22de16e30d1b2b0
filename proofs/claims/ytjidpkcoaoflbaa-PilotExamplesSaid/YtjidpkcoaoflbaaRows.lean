/-
  No cell of these rows narrows 'for every input' (looked for: loops, veiled, ifaces, maps, wideKeys, modest, calm, conditions, laid).
  DERIVED. THE GIVEN ROWS OF THIS SEAT. 6 by the template 'for every input the law returns true; each argument reads behind the call as it read before'; 0 by the template 'total and deterministic' (their statements: YtjidpkcoaoflbaaTotals.lean).
  GIVEN WITH THE SEED: the statements are not yours to turn. If you find one false, say at which input.
  Laid BY PROGRAM, IN A SANDBOX (cutbox-rows.mjs): the forced cells as the released guide's own fill.sh prints them over the translation ce13000ab55f684f… (all of the seat's roots in one cut). By AI agents, Wed Nov 11 2026. No macro, syntax, notation, axiom, sorry.
-/
import Derived.Test.YtjidpkcoaoflbaaChecked
import GoSem.Claim
import GoSem.ClaimJoined
import GoSem.ClaimMapViews
import Derived.JoinedTies
import Derived.KernelRfl
namespace Go.Proofs.Ytjidpkcoaoflbaa
/- THE CELL 'sum', in the pinned program and in every row, IS THE sha256 OF THE DUMP (.gsa) THAT YtjidpkcoaoflbaaProg.lean LOADS. Nothing in Lean hashes anything: it is a label: what it is worth is what the hold of that sum in a sandbox is worth. -/
noncomputable def Try.pinned : Pinned := { name := "ytjidpkcoaoflbaa", sum := "ce13000ab55f684f0c6d48f16f7c340156ee4a9b5a17626e62631add7e376c19", checked := Try.checked }
namespace Rows
def none {H : Type} : Left H := { results := [], args := [] }

/-- 'clearwaylaw37.PilotRuns': WHATEVER THE INPUT: true; the input reads as it did. -/
def pilotRunsSpec : ChangeSpec := { name := "pilotRuns", fn := fun _ => fun
  | [d1, d2, d3] => { results := [.lit (.bool true)], args := [d1, d2, d3] }
  | _ => none }
def pilotRunsRow : OpenClaim := { program := "ytjidpkcoaoflbaa", sum := "ce13000ab55f684f0c6d48f16f7c340156ee4a9b5a17626e62631add7e376c19", func := "clearway/clearwaylaw37.PilotRuns", spec := "pilotRuns", unfollowed := true, recurses := true, apart := false }
def PilotRunsSaid : Prop := pilotRunsRow.holds Try.pinned (OpenSpec.ofChange pilotRunsSpec)

/-- ITS FALSE NEIGHBOUR: 'it returns false'. Refute it at one input. -/
def pilotRunsWrong : ChangeSpec := { name := "pilotRuns", fn := fun _ => fun
  | [d1, d2, d3] => { results := [.lit (.bool false)], args := [d1, d2, d3] }
  | _ => none }
def PilotRunsWrongFalsely : Prop := pilotRunsRow.holds Try.pinned (OpenSpec.ofChange pilotRunsWrong)

/-- 'clearwaylaw37.PilotDelay': WHATEVER THE INPUT: true; the input reads as it did. -/
def pilotDelaySpec : ChangeSpec := { name := "pilotDelay", fn := fun _ => fun
  | [d1, d2] => { results := [.lit (.bool true)], args := [d1, d2] }
  | _ => none }
def pilotDelayRow : OpenClaim := { program := "ytjidpkcoaoflbaa", sum := "ce13000ab55f684f0c6d48f16f7c340156ee4a9b5a17626e62631add7e376c19", func := "clearway/clearwaylaw37.PilotDelay", spec := "pilotDelay", unfollowed := true, recurses := true, apart := false }
def PilotDelaySaid : Prop := pilotDelayRow.holds Try.pinned (OpenSpec.ofChange pilotDelaySpec)

/-- ITS FALSE NEIGHBOUR: 'it returns false'. Refute it at one input. -/
def pilotDelayWrong : ChangeSpec := { name := "pilotDelay", fn := fun _ => fun
  | [d1, d2] => { results := [.lit (.bool false)], args := [d1, d2] }
  | _ => none }
def PilotDelayWrongFalsely : Prop := pilotDelayRow.holds Try.pinned (OpenSpec.ofChange pilotDelayWrong)

/-- 'clearwaylaw37.PilotLater': WHATEVER THE INPUT: true; the input reads as it did. -/
def pilotLaterSpec : ChangeSpec := { name := "pilotLater", fn := fun _ => fun
  | [d1, d2, d3, d4] => { results := [.lit (.bool true)], args := [d1, d2, d3, d4] }
  | _ => none }
def pilotLaterRow : OpenClaim := { program := "ytjidpkcoaoflbaa", sum := "ce13000ab55f684f0c6d48f16f7c340156ee4a9b5a17626e62631add7e376c19", func := "clearway/clearwaylaw37.PilotLater", spec := "pilotLater", unfollowed := true, recurses := true, apart := false }
def PilotLaterSaid : Prop := pilotLaterRow.holds Try.pinned (OpenSpec.ofChange pilotLaterSpec)

/-- ITS FALSE NEIGHBOUR: 'it returns false'. Refute it at one input. -/
def pilotLaterWrong : ChangeSpec := { name := "pilotLater", fn := fun _ => fun
  | [d1, d2, d3, d4] => { results := [.lit (.bool false)], args := [d1, d2, d3, d4] }
  | _ => none }
def PilotLaterWrongFalsely : Prop := pilotLaterRow.holds Try.pinned (OpenSpec.ofChange pilotLaterWrong)

/-- 'clearwaylaw37.PilotReaches': WHATEVER THE INPUT: true; the input reads as it did. -/
def pilotReachesSpec : ChangeSpec := { name := "pilotReaches", fn := fun _ => fun
  | [d1, d2, d3, d4] => { results := [.lit (.bool true)], args := [d1, d2, d3, d4] }
  | _ => none }
def pilotReachesRow : OpenClaim := { program := "ytjidpkcoaoflbaa", sum := "ce13000ab55f684f0c6d48f16f7c340156ee4a9b5a17626e62631add7e376c19", func := "clearway/clearwaylaw37.PilotReaches", spec := "pilotReaches", unfollowed := true, recurses := true, apart := false }
def PilotReachesSaid : Prop := pilotReachesRow.holds Try.pinned (OpenSpec.ofChange pilotReachesSpec)

/-- ITS FALSE NEIGHBOUR: 'it returns false'. Refute it at one input. -/
def pilotReachesWrong : ChangeSpec := { name := "pilotReaches", fn := fun _ => fun
  | [d1, d2, d3, d4] => { results := [.lit (.bool false)], args := [d1, d2, d3, d4] }
  | _ => none }
def PilotReachesWrongFalsely : Prop := pilotReachesRow.holds Try.pinned (OpenSpec.ofChange pilotReachesWrong)

/-- 'clearwaylaw37.PilotMatches': WHATEVER THE INPUT: true; the input reads as it did. -/
def pilotMatchesSpec : ChangeSpec := { name := "pilotMatches", fn := fun _ => fun
  | [d1, d2, d3, d4] => { results := [.lit (.bool true)], args := [d1, d2, d3, d4] }
  | _ => none }
def pilotMatchesRow : OpenClaim := { program := "ytjidpkcoaoflbaa", sum := "ce13000ab55f684f0c6d48f16f7c340156ee4a9b5a17626e62631add7e376c19", func := "clearway/clearwaylaw37.PilotMatches", spec := "pilotMatches", unfollowed := true, recurses := true, apart := false }
def PilotMatchesSaid : Prop := pilotMatchesRow.holds Try.pinned (OpenSpec.ofChange pilotMatchesSpec)

/-- ITS FALSE NEIGHBOUR: 'it returns false'. Refute it at one input. -/
def pilotMatchesWrong : ChangeSpec := { name := "pilotMatches", fn := fun _ => fun
  | [d1, d2, d3, d4] => { results := [.lit (.bool false)], args := [d1, d2, d3, d4] }
  | _ => none }
def PilotMatchesWrongFalsely : Prop := pilotMatchesRow.holds Try.pinned (OpenSpec.ofChange pilotMatchesWrong)

/-- 'clearwaylaw37.PilotExamples': WHATEVER THE INPUT: true; the input reads as it did. -/
def pilotExamplesSpec : ChangeSpec := { name := "pilotExamples", fn := fun _ => fun
  | [] => { results := [.lit (.bool true)], args := [] }
  | _ => none }
def pilotExamplesRow : OpenClaim := { program := "ytjidpkcoaoflbaa", sum := "ce13000ab55f684f0c6d48f16f7c340156ee4a9b5a17626e62631add7e376c19", func := "clearway/clearwaylaw37.PilotExamples", spec := "pilotExamples", unfollowed := true, recurses := true, apart := false }
def PilotExamplesSaid : Prop := pilotExamplesRow.holds Try.pinned (OpenSpec.ofChange pilotExamplesSpec)

/-- ITS FALSE NEIGHBOUR: 'it returns false'. Refute it at one input. -/
def pilotExamplesWrong : ChangeSpec := { name := "pilotExamples", fn := fun _ => fun
  | [] => { results := [.lit (.bool false)], args := [] }
  | _ => none }
def PilotExamplesWrongFalsely : Prop := pilotExamplesRow.holds Try.pinned (OpenSpec.ofChange pilotExamplesWrong)

/- THE SECOND FORM. 'bulk': how many values and letters a reading holds, each counted each time it is reached (what is shared counts as often as it is met; a slice's spare places count too). A statement '..UptoSaid' is the law's where the arguments, and the package variables that the reading takes, are together of bulk at most 1048576: NARROWER than '..Said'. Prove '..Said' where nothing that the law and all that it calls make is longer than what came in: it says more and counts as full. Else prove '..UptoSaid'. A law counts once. -/
mutual
def uptoBulk {H : Type} : DataW H → Nat
  | .lit (.string bytes) => bytes.length + 1
  | .lit _ => 1
  | .nil => 1
  | .ptr d => uptoBulk d + 1
  | .slice elems spare => uptoBulkAll elems + uptoBulkAll spare + 1
  | .agg parts => uptoBulkAll parts + 1
  | .iface _ d => uptoBulk d + 1
  | .map entries => uptoBulkEntries entries + 1
  | .held _ => 1
def uptoBulkAll {H : Type} : List (DataW H) → Nat
  | [] => 0
  | d :: r => uptoBulk d + uptoBulkAll r
def uptoBulkEntries {H : Type} : List (Lit × DataW H) → Nat
  | [] => 0
  | x :: r => uptoBulkEntry x + uptoBulkEntries r
def uptoBulkEntry {H : Type} : Lit × DataW H → Nat
  | (.string bytes, d) => bytes.length + uptoBulk d + 1
  | (_, d) => uptoBulk d + 1
 end
def uptoSmall : (H : Type) → List (DataW H) → Bool := fun _ ds => decide (uptoBulkAll ds ≤ 1048576)
def OpenSpec.upto (s : _root_.Go.ChangeSpec) : _root_.Go.OpenSpec := { _root_.Go.OpenSpec.ofChange s with cond := some uptoSmall }

/-- 'clearwaylaw37.PilotRuns', WHERE WHAT IT READS IS OF BULK AT MOST 1048576: true; the input reads as it did. -/
def pilotRunsUptoRow : OpenClaim := { program := "ytjidpkcoaoflbaa", sum := "ce13000ab55f684f0c6d48f16f7c340156ee4a9b5a17626e62631add7e376c19", func := "clearway/clearwaylaw37.PilotRuns", spec := "pilotRuns", unfollowed := true, recurses := true, apart := false, narrowed := true }
def PilotRunsUptoSaid : Prop := pilotRunsUptoRow.holds Try.pinned (OpenSpec.upto pilotRunsSpec)

/-- 'clearwaylaw37.PilotDelay', WHERE WHAT IT READS IS OF BULK AT MOST 1048576: true; the input reads as it did. -/
def pilotDelayUptoRow : OpenClaim := { program := "ytjidpkcoaoflbaa", sum := "ce13000ab55f684f0c6d48f16f7c340156ee4a9b5a17626e62631add7e376c19", func := "clearway/clearwaylaw37.PilotDelay", spec := "pilotDelay", unfollowed := true, recurses := true, apart := false, narrowed := true }
def PilotDelayUptoSaid : Prop := pilotDelayUptoRow.holds Try.pinned (OpenSpec.upto pilotDelaySpec)

/-- 'clearwaylaw37.PilotLater', WHERE WHAT IT READS IS OF BULK AT MOST 1048576: true; the input reads as it did. -/
def pilotLaterUptoRow : OpenClaim := { program := "ytjidpkcoaoflbaa", sum := "ce13000ab55f684f0c6d48f16f7c340156ee4a9b5a17626e62631add7e376c19", func := "clearway/clearwaylaw37.PilotLater", spec := "pilotLater", unfollowed := true, recurses := true, apart := false, narrowed := true }
def PilotLaterUptoSaid : Prop := pilotLaterUptoRow.holds Try.pinned (OpenSpec.upto pilotLaterSpec)

/-- 'clearwaylaw37.PilotReaches', WHERE WHAT IT READS IS OF BULK AT MOST 1048576: true; the input reads as it did. -/
def pilotReachesUptoRow : OpenClaim := { program := "ytjidpkcoaoflbaa", sum := "ce13000ab55f684f0c6d48f16f7c340156ee4a9b5a17626e62631add7e376c19", func := "clearway/clearwaylaw37.PilotReaches", spec := "pilotReaches", unfollowed := true, recurses := true, apart := false, narrowed := true }
def PilotReachesUptoSaid : Prop := pilotReachesUptoRow.holds Try.pinned (OpenSpec.upto pilotReachesSpec)

/-- 'clearwaylaw37.PilotMatches', WHERE WHAT IT READS IS OF BULK AT MOST 1048576: true; the input reads as it did. -/
def pilotMatchesUptoRow : OpenClaim := { program := "ytjidpkcoaoflbaa", sum := "ce13000ab55f684f0c6d48f16f7c340156ee4a9b5a17626e62631add7e376c19", func := "clearway/clearwaylaw37.PilotMatches", spec := "pilotMatches", unfollowed := true, recurses := true, apart := false, narrowed := true }
def PilotMatchesUptoSaid : Prop := pilotMatchesUptoRow.holds Try.pinned (OpenSpec.upto pilotMatchesSpec)

/-- 'clearwaylaw37.PilotExamples', WHERE WHAT IT READS IS OF BULK AT MOST 1048576: true; the input reads as it did. -/
def pilotExamplesUptoRow : OpenClaim := { program := "ytjidpkcoaoflbaa", sum := "ce13000ab55f684f0c6d48f16f7c340156ee4a9b5a17626e62631add7e376c19", func := "clearway/clearwaylaw37.PilotExamples", spec := "pilotExamples", unfollowed := true, recurses := true, apart := false, narrowed := true }
def PilotExamplesUptoSaid : Prop := pilotExamplesUptoRow.holds Try.pinned (OpenSpec.upto pilotExamplesSpec)

end Rows
end Go.Proofs.Ytjidpkcoaoflbaa
