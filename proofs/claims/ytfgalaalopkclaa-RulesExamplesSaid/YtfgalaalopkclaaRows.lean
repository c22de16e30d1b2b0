/-
  No cell of these rows narrows 'for every input' (looked for: loops, veiled, ifaces, maps, wideKeys, modest, calm, conditions, laid).
  DERIVED. THE GIVEN ROWS OF THIS SEAT. 7 by the template 'for every input the law returns true; each argument reads behind the call as it read before'; 0 by the template 'total and deterministic' (their statements: YtfgalaalopkclaaTotals.lean).
  GIVEN WITH THE SEED: the statements are not yours to turn. If you find one false, say at which input.
  Laid BY PROGRAM, IN A SANDBOX (cutbox-rows.mjs): the forced cells as the released guide's own fill.sh prints them over the translation 269302e315ba3186… (all of the seat's roots in one cut). By AI agents, Wed Nov 11 2026. No macro, syntax, notation, axiom, sorry.
-/
import Derived.Test.YtfgalaalopkclaaChecked
import GoSem.Claim
import GoSem.ClaimJoined
import GoSem.ClaimMapViews
import Derived.JoinedTies
import Derived.KernelRfl
namespace Go.Proofs.Ytfgalaalopkclaa
/- THE CELL 'sum', in the pinned program and in every row, IS THE sha256 OF THE DUMP (.gsa) THAT YtfgalaalopkclaaProg.lean LOADS. Nothing in Lean hashes anything: it is a label: what it is worth is what the hold of that sum in a sandbox is worth. -/
noncomputable def Try.pinned : Pinned := { name := "ytfgalaalopkclaa", sum := "269302e315ba3186715c8a0d6f0c6dbe561cf17208a73a6f889b42ad45176594", checked := Try.checked }
namespace Rows
def none {H : Type} : Left H := { results := [], args := [] }

/-- 'clearwaylaw38.RulesMatches': WHATEVER THE INPUT: true; the input reads as it did. -/
def rulesMatchesSpec : ChangeSpec := { name := "rulesMatches", fn := fun _ => fun
  | [d1, d2] => { results := [.lit (.bool true)], args := [d1, d2] }
  | _ => none }
def rulesMatchesRow : OpenClaim := { program := "ytfgalaalopkclaa", sum := "269302e315ba3186715c8a0d6f0c6dbe561cf17208a73a6f889b42ad45176594", func := "clearway/clearwaylaw38.RulesMatches", spec := "rulesMatches", unfollowed := true, recurses := true, apart := false }
def RulesMatchesSaid : Prop := rulesMatchesRow.holds Try.pinned (OpenSpec.ofChange rulesMatchesSpec)

/-- ITS FALSE NEIGHBOUR: 'it returns false'. Refute it at one input. -/
def rulesMatchesWrong : ChangeSpec := { name := "rulesMatches", fn := fun _ => fun
  | [d1, d2] => { results := [.lit (.bool false)], args := [d1, d2] }
  | _ => none }
def RulesMatchesWrongFalsely : Prop := rulesMatchesRow.holds Try.pinned (OpenSpec.ofChange rulesMatchesWrong)

/-- 'clearwaylaw38.RulesBest': WHATEVER THE INPUT: true; the input reads as it did. -/
def rulesBestSpec : ChangeSpec := { name := "rulesBest", fn := fun _ => fun
  | [d] => { results := [.lit (.bool true)], args := [d] }
  | _ => none }
def rulesBestRow : OpenClaim := { program := "ytfgalaalopkclaa", sum := "269302e315ba3186715c8a0d6f0c6dbe561cf17208a73a6f889b42ad45176594", func := "clearway/clearwaylaw38.RulesBest", spec := "rulesBest", unfollowed := true, recurses := true, apart := false }
def RulesBestSaid : Prop := rulesBestRow.holds Try.pinned (OpenSpec.ofChange rulesBestSpec)

/-- ITS FALSE NEIGHBOUR: 'it returns false'. Refute it at one input. -/
def rulesBestWrong : ChangeSpec := { name := "rulesBest", fn := fun _ => fun
  | [d] => { results := [.lit (.bool false)], args := [d] }
  | _ => none }
def RulesBestWrongFalsely : Prop := rulesBestRow.holds Try.pinned (OpenSpec.ofChange rulesBestWrong)

/-- 'clearwaylaw38.RulesMirror': WHATEVER THE INPUT: true; the input reads as it did. -/
def rulesMirrorSpec : ChangeSpec := { name := "rulesMirror", fn := fun _ => fun
  | [d] => { results := [.lit (.bool true)], args := [d] }
  | _ => none }
def rulesMirrorRow : OpenClaim := { program := "ytfgalaalopkclaa", sum := "269302e315ba3186715c8a0d6f0c6dbe561cf17208a73a6f889b42ad45176594", func := "clearway/clearwaylaw38.RulesMirror", spec := "rulesMirror", unfollowed := true, recurses := true, apart := false }
def RulesMirrorSaid : Prop := rulesMirrorRow.holds Try.pinned (OpenSpec.ofChange rulesMirrorSpec)

/-- ITS FALSE NEIGHBOUR: 'it returns false'. Refute it at one input. -/
def rulesMirrorWrong : ChangeSpec := { name := "rulesMirror", fn := fun _ => fun
  | [d] => { results := [.lit (.bool false)], args := [d] }
  | _ => none }
def RulesMirrorWrongFalsely : Prop := rulesMirrorRow.holds Try.pinned (OpenSpec.ofChange rulesMirrorWrong)

/-- 'clearwaylaw38.RulesList': WHATEVER THE INPUT: true; the input reads as it did. -/
def rulesListSpec : ChangeSpec := { name := "rulesList", fn := fun _ => fun
  | [d1, d2] => { results := [.lit (.bool true)], args := [d1, d2] }
  | _ => none }
def rulesListRow : OpenClaim := { program := "ytfgalaalopkclaa", sum := "269302e315ba3186715c8a0d6f0c6dbe561cf17208a73a6f889b42ad45176594", func := "clearway/clearwaylaw38.RulesList", spec := "rulesList", unfollowed := true, recurses := true, apart := false }
def RulesListSaid : Prop := rulesListRow.holds Try.pinned (OpenSpec.ofChange rulesListSpec)

/-- ITS FALSE NEIGHBOUR: 'it returns false'. Refute it at one input. -/
def rulesListWrong : ChangeSpec := { name := "rulesList", fn := fun _ => fun
  | [d1, d2] => { results := [.lit (.bool false)], args := [d1, d2] }
  | _ => none }
def RulesListWrongFalsely : Prop := rulesListRow.holds Try.pinned (OpenSpec.ofChange rulesListWrong)

/-- 'clearwaylaw38.RulesNext': WHATEVER THE INPUT: true; the input reads as it did. -/
def rulesNextSpec : ChangeSpec := { name := "rulesNext", fn := fun _ => fun
  | [d1, d2] => { results := [.lit (.bool true)], args := [d1, d2] }
  | _ => none }
def rulesNextRow : OpenClaim := { program := "ytfgalaalopkclaa", sum := "269302e315ba3186715c8a0d6f0c6dbe561cf17208a73a6f889b42ad45176594", func := "clearway/clearwaylaw38.RulesNext", spec := "rulesNext", unfollowed := true, recurses := true, apart := false }
def RulesNextSaid : Prop := rulesNextRow.holds Try.pinned (OpenSpec.ofChange rulesNextSpec)

/-- ITS FALSE NEIGHBOUR: 'it returns false'. Refute it at one input. -/
def rulesNextWrong : ChangeSpec := { name := "rulesNext", fn := fun _ => fun
  | [d1, d2] => { results := [.lit (.bool false)], args := [d1, d2] }
  | _ => none }
def RulesNextWrongFalsely : Prop := rulesNextRow.holds Try.pinned (OpenSpec.ofChange rulesNextWrong)

/-- 'clearwaylaw38.RulesRuns': WHATEVER THE INPUT: true; the input reads as it did. -/
def rulesRunsSpec : ChangeSpec := { name := "rulesRuns", fn := fun _ => fun
  | [d1, d2, d3] => { results := [.lit (.bool true)], args := [d1, d2, d3] }
  | _ => none }
def rulesRunsRow : OpenClaim := { program := "ytfgalaalopkclaa", sum := "269302e315ba3186715c8a0d6f0c6dbe561cf17208a73a6f889b42ad45176594", func := "clearway/clearwaylaw38.RulesRuns", spec := "rulesRuns", unfollowed := true, recurses := true, apart := false }
def RulesRunsSaid : Prop := rulesRunsRow.holds Try.pinned (OpenSpec.ofChange rulesRunsSpec)

/-- ITS FALSE NEIGHBOUR: 'it returns false'. Refute it at one input. -/
def rulesRunsWrong : ChangeSpec := { name := "rulesRuns", fn := fun _ => fun
  | [d1, d2, d3] => { results := [.lit (.bool false)], args := [d1, d2, d3] }
  | _ => none }
def RulesRunsWrongFalsely : Prop := rulesRunsRow.holds Try.pinned (OpenSpec.ofChange rulesRunsWrong)

/-- 'clearwaylaw38.RulesExamples': WHATEVER THE INPUT: true; the input reads as it did. -/
def rulesExamplesSpec : ChangeSpec := { name := "rulesExamples", fn := fun _ => fun
  | [] => { results := [.lit (.bool true)], args := [] }
  | _ => none }
def rulesExamplesRow : OpenClaim := { program := "ytfgalaalopkclaa", sum := "269302e315ba3186715c8a0d6f0c6dbe561cf17208a73a6f889b42ad45176594", func := "clearway/clearwaylaw38.RulesExamples", spec := "rulesExamples", unfollowed := true, recurses := true, apart := false }
def RulesExamplesSaid : Prop := rulesExamplesRow.holds Try.pinned (OpenSpec.ofChange rulesExamplesSpec)

/-- ITS FALSE NEIGHBOUR: 'it returns false'. Refute it at one input. -/
def rulesExamplesWrong : ChangeSpec := { name := "rulesExamples", fn := fun _ => fun
  | [] => { results := [.lit (.bool false)], args := [] }
  | _ => none }
def RulesExamplesWrongFalsely : Prop := rulesExamplesRow.holds Try.pinned (OpenSpec.ofChange rulesExamplesWrong)

/- THE SECOND FORM. 'bulk': how many values and letters a reading holds, each counted each time it is reached (what is shared counts as often as it is met; a slice's spare places count too). A statement '..UptoSaid' is the law's where the arguments, and the package variables that the reading takes, are together of bulk at most 1048576: NARROWER than '..Said'. Prove '..Said' where nothing that the law and all that it calls make is longer than what came in: it says more and counts as full. Else prove '..UptoSaid'. A law counts once. -/
mutual
def uptoBulk {H : Type} : DataW H → Nat
  | .lit (.string bytes) => bytes.length + 1
  | .lit _ => 1
  | .nil => 1
  | .ptr d => uptoBulk d + 1
  | .slice elems spare => uptoBulkAll elems + uptoBulkAll spare + 1
  | .agg parts => uptoBulkAll parts + 1
  | .iface _ d => uptoBulk d + 1
  | .map entries => uptoBulkEntries entries + 1
  | .held _ => 1
def uptoBulkAll {H : Type} : List (DataW H) → Nat
  | [] => 0
  | d :: r => uptoBulk d + uptoBulkAll r
def uptoBulkEntries {H : Type} : List (Lit × DataW H) → Nat
  | [] => 0
  | x :: r => uptoBulkEntry x + uptoBulkEntries r
def uptoBulkEntry {H : Type} : Lit × DataW H → Nat
  | (.string bytes, d) => bytes.length + uptoBulk d + 1
  | (_, d) => uptoBulk d + 1
 end
def uptoSmall : (H : Type) → List (DataW H) → Bool := fun _ ds => decide (uptoBulkAll ds ≤ 1048576)
def OpenSpec.upto (s : _root_.Go.ChangeSpec) : _root_.Go.OpenSpec := { _root_.Go.OpenSpec.ofChange s with cond := some uptoSmall }

/-- 'clearwaylaw38.RulesMatches', WHERE WHAT IT READS IS OF BULK AT MOST 1048576: true; the input reads as it did. -/
def rulesMatchesUptoRow : OpenClaim := { program := "ytfgalaalopkclaa", sum := "269302e315ba3186715c8a0d6f0c6dbe561cf17208a73a6f889b42ad45176594", func := "clearway/clearwaylaw38.RulesMatches", spec := "rulesMatches", unfollowed := true, recurses := true, apart := false, narrowed := true }
def RulesMatchesUptoSaid : Prop := rulesMatchesUptoRow.holds Try.pinned (OpenSpec.upto rulesMatchesSpec)

/-- 'clearwaylaw38.RulesBest', WHERE WHAT IT READS IS OF BULK AT MOST 1048576: true; the input reads as it did. -/
def rulesBestUptoRow : OpenClaim := { program := "ytfgalaalopkclaa", sum := "269302e315ba3186715c8a0d6f0c6dbe561cf17208a73a6f889b42ad45176594", func := "clearway/clearwaylaw38.RulesBest", spec := "rulesBest", unfollowed := true, recurses := true, apart := false, narrowed := true }
def RulesBestUptoSaid : Prop := rulesBestUptoRow.holds Try.pinned (OpenSpec.upto rulesBestSpec)

/-- 'clearwaylaw38.RulesMirror', WHERE WHAT IT READS IS OF BULK AT MOST 1048576: true; the input reads as it did. -/
def rulesMirrorUptoRow : OpenClaim := { program := "ytfgalaalopkclaa", sum := "269302e315ba3186715c8a0d6f0c6dbe561cf17208a73a6f889b42ad45176594", func := "clearway/clearwaylaw38.RulesMirror", spec := "rulesMirror", unfollowed := true, recurses := true, apart := false, narrowed := true }
def RulesMirrorUptoSaid : Prop := rulesMirrorUptoRow.holds Try.pinned (OpenSpec.upto rulesMirrorSpec)

/-- 'clearwaylaw38.RulesList', WHERE WHAT IT READS IS OF BULK AT MOST 1048576: true; the input reads as it did. -/
def rulesListUptoRow : OpenClaim := { program := "ytfgalaalopkclaa", sum := "269302e315ba3186715c8a0d6f0c6dbe561cf17208a73a6f889b42ad45176594", func := "clearway/clearwaylaw38.RulesList", spec := "rulesList", unfollowed := true, recurses := true, apart := false, narrowed := true }
def RulesListUptoSaid : Prop := rulesListUptoRow.holds Try.pinned (OpenSpec.upto rulesListSpec)

/-- 'clearwaylaw38.RulesNext', WHERE WHAT IT READS IS OF BULK AT MOST 1048576: true; the input reads as it did. -/
def rulesNextUptoRow : OpenClaim := { program := "ytfgalaalopkclaa", sum := "269302e315ba3186715c8a0d6f0c6dbe561cf17208a73a6f889b42ad45176594", func := "clearway/clearwaylaw38.RulesNext", spec := "rulesNext", unfollowed := true, recurses := true, apart := false, narrowed := true }
def RulesNextUptoSaid : Prop := rulesNextUptoRow.holds Try.pinned (OpenSpec.upto rulesNextSpec)

/-- 'clearwaylaw38.RulesRuns', WHERE WHAT IT READS IS OF BULK AT MOST 1048576: true; the input reads as it did. -/
def rulesRunsUptoRow : OpenClaim := { program := "ytfgalaalopkclaa", sum := "269302e315ba3186715c8a0d6f0c6dbe561cf17208a73a6f889b42ad45176594", func := "clearway/clearwaylaw38.RulesRuns", spec := "rulesRuns", unfollowed := true, recurses := true, apart := false, narrowed := true }
def RulesRunsUptoSaid : Prop := rulesRunsUptoRow.holds Try.pinned (OpenSpec.upto rulesRunsSpec)

/-- 'clearwaylaw38.RulesExamples', WHERE WHAT IT READS IS OF BULK AT MOST 1048576: true; the input reads as it did. -/
def rulesExamplesUptoRow : OpenClaim := { program := "ytfgalaalopkclaa", sum := "269302e315ba3186715c8a0d6f0c6dbe561cf17208a73a6f889b42ad45176594", func := "clearway/clearwaylaw38.RulesExamples", spec := "rulesExamples", unfollowed := true, recurses := true, apart := false, narrowed := true }
def RulesExamplesUptoSaid : Prop := rulesExamplesUptoRow.holds Try.pinned (OpenSpec.upto rulesExamplesSpec)

end Rows
end Go.Proofs.Ytfgalaalopkclaa
