/-
  RulesRuns: for every case, list of states and list of locks the law returns true. No conditions.
-/
import Derived.Test.YtfgalaalopkclaaRulesRw
import Derived.Test.YtfgalaalopkclaaCaseRow
import Derived.Test.YtfgalaalopkclaaRows
import Derived.Test.YtfgalaalopkclaaRowLib
import Derived.WalkKit
import Derived.ProofKit
import Derived.OpenShut
import Derived.ShutString
namespace Go.Proofs.Ytfgalaalopkclaa
open Go.ChangeShapes Go.WideShapes Go.ChangeAt Go.RowKit
open Go.ChangeMaps (open_string shut_string)

theorem ownKnobNone : ownKnob Try.prog.godebug = none := by kernel_rfl
theorem laidOutAll : laidOutB Try.prog = true := by kernel_rfl

set_option maxRecDepth 100000 in
theorem rulesRuns_lifted (os : Os) (started : os.Started) (H : Type) (enc : TypeId × Value → H) :
    ReturnsInHanded {} Try.checked os 8 .any (Rows.rulesRunsSpec.pre6 enc Try.prog Try.f8 Rows.rulesRunsRow.domain false) (Rows.rulesRunsSpec.post enc Try.prog Try.f8 false true false false) := by
  refine returnsInHanded_of_change (C := Try.checked) ownKnobNone started (by kernel_rfl) Try.func8
    (ChangeSpec.witness6 (enc := enc) (C := Try.checked) false ⟨#[], #[.agg #[.slice none 0 0, .int .i64 0, .int .i64 0, .int .i64 0, .int .i64 0, .int .i64 0, .int .i64 0, .int .i64 0, .int .i64 0, .int .i64 0, .int .u8 0], .slice none 0 0, .slice none 0 0], []⟩ 8 (by kernel_rfl) (by kernel_rfl) (by kernel_rfl) (by kernel_rfl)) ?_
  intro W base args ds gs before hval0 hW _ hsz0
  have hval : ∀ (j : Nat) t v, Try.f8.params[j]? = some t → args[j]? = some v → Value.okWide Try.prog W .any base t v := hval0
  have hW' := hW
  obtain ⟨p, q, hA0, hV, rfl, hfz, _⟩ := hW
  have hA : DataW.TrodAll enc Try.prog W 0 (fun _ => true) true Try.f8.params.toList args.toList ds p := hA0
  rw [Try.params8] at hA hval
  obtain ⟨v0, vs0, d0, ds0, p0, q0, hargs, rfl, rfl, h0, r0⟩ := trodAll_cons hA
  obtain ⟨v1, vs1, d1, ds1, p1, q1, rfl, rfl, rfl, h1, r1⟩ := trodAll_cons r0
  obtain ⟨v2, vs2, d2, ds2, p2, q2, rfl, rfl, rfl, h2, r2⟩ := trodAll_cons r1
  obtain ⟨rfl, rfl, rfl⟩ := trodAll_nil r2
  obtain rfl : args = #[v0, v1, v2] := by cases args; simp_all
  have hV' : gs = [] := by
    cases gs with
    | nil => rfl
    | cons g gs => exact hV.elim
  subst hV'
  obtain ⟨a0, n0, c0, s0, z0, u0, z0', u0', t0, f0, k0, rfl, hI0⟩ := open_case (hval 0 28 v0 rfl rfl) h0
  obtain ⟨a1, n1, c1, l1, rfl, hr1, hc1⟩ := Go.MyPair.open_pairs Try.underlying64 (by kernel_rfl) (Go.MyPair.twoInts_struct (enc := enc) Try.underlying26 rfl rfl (by kernel_rfl) (by kernel_rfl) Try.underlying3 Try.underlying3) (hval 1 64 v1 rfl rfl) h1
  obtain ⟨a2, n2, c2, zs2, rfl, hu2, hcap2, hwf2⟩ := Go.MySlice.open_intsAt Try.underlying65 Try.underlying5 (by kernel_rfl) (hval 2 65 v2 rfl rfl) h2
  have hw2 : ∀ x ∈ zs2, 0 ≤ x ∧ x ≤ 255 := fun x hx => by have := hwf2 x hx; simp [Lit.wf, IntKind.min, IntKind.max, IntKind.signed, IntKind.bits] at this; omega
  clear hA0 hval0
  refine Calls.mono (rulesRuns_call a0 n0 c0 s0 z0 u0 z0' u0' t0 f0 k0 a1 a2 n1 c1 n2 c2 l1 zs2 W hI0 hr1 hu2 hw2) fun e W' ⟨he, hg⟩ => ?_
  subst he
  exact ⟨_, rfl, Go.MyRow.law_post laidOutAll (by kernel_rfl) (by kernel_rfl) Try.underlying4 rfl rfl rfl rfl hW' hg⟩

theorem rulesRuns_holds : Rows.RulesRunsSaid :=
  OpenClaim.holds_of_wide 8 Try.f8 rfl rfl rfl rfl rfl rfl rfl ⟨rfl, rfl, rfl, rfl, rfl⟩ rfl rfl rfl rfl rfl (by kernel_rfl) Try.func8 (by kernel_rfl)
    (of_decide_eq_true (by kernel_rfl)) (by unfold Func.isWrapper; first | (rw [if_pos (by decide +kernel)]; kernel_rfl) | (rw [if_neg (by decide +kernel)]; exact ⟨rfl, rfl⟩))
    (fun os started H enc _ => rulesRuns_lifted os started H enc)
end Go.Proofs.Ytfgalaalopkclaa
