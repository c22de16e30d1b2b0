/-
  PilotMatches: for every pilot, state, advisory and aircraft the law returns true. No conditions.
-/
import Derived.Test.YtjidpkcoaoflbaaPilotU
import Derived.Test.YtjidpkcoaoflbaaAdvRow
import Derived.Test.YtjidpkcoaoflbaaPairLib
import Derived.Test.YtjidpkcoaoflbaaRows
import Derived.Test.YtjidpkcoaoflbaaRowLib
import Derived.WalkKit
import Derived.ProofKit
import Derived.OpenShut
import Derived.ShutString
namespace Go.Proofs.Ytjidpkcoaoflbaa
open Go.ChangeShapes Go.WideShapes Go.ChangeAt Go.RowKit
open Go.ChangeMaps (open_string shut_string)

theorem ownKnobNone : ownKnob Try.prog.godebug = none := by kernel_rfl
theorem laidOutAll : laidOutB Try.prog = true := by kernel_rfl

set_option maxRecDepth 100000 in
theorem pilotMatches_lifted (os : Os) (started : os.Started) (H : Type) (enc : TypeId × Value → H) :
    ReturnsInHanded {} Try.checked os 7 .any (Rows.pilotMatchesSpec.pre6 enc Try.prog Try.f7 Rows.pilotMatchesRow.domain false) (Rows.pilotMatchesSpec.post enc Try.prog Try.f7 false true false false) := by
  refine returnsInHanded_of_change (C := Try.checked) ownKnobNone started (by kernel_rfl) Try.func7
    (ChangeSpec.witness6 (enc := enc) (C := Try.checked) false ⟨#[], #[.agg #[.int .i64 0, .int .i64 0, .int .i64 0], .agg #[.slice none 0 0, .int .u8 0, .int .i64 0, .bool false, .int .u8 0, .int .i64 0, .bool false, .int .i64 0], .agg #[.int .u8 0, .int .i64 0, .bool false], .agg #[.int .i64 0, .int .i64 0]], []⟩ 8 (by kernel_rfl) (by kernel_rfl) (by kernel_rfl) (by kernel_rfl)) ?_
  intro W base args ds gs before hval0 hW _ hsz0
  have hval : ∀ (j : Nat) t v, Try.f7.params[j]? = some t → args[j]? = some v → Value.okWide Try.prog W .any base t v := hval0
  have hW' := hW
  obtain ⟨p, q, hA0, hV, rfl, hfz, _⟩ := hW
  have hA : DataW.TrodAll enc Try.prog W 0 (fun _ => true) true Try.f7.params.toList args.toList ds p := hA0
  rw [Try.params7] at hA hval
  obtain ⟨v0, vs0, d0, ds0, p0, q0, hargs, rfl, rfl, h0, r0⟩ := trodAll_cons hA
  obtain ⟨v1, vs1, d1, ds1, p1, q1, rfl, rfl, rfl, h1, r1⟩ := trodAll_cons r0
  obtain ⟨v2, vs2, d2, ds2, p2, q2, rfl, rfl, rfl, h2, r2⟩ := trodAll_cons r1
  obtain ⟨v3, vs3, d3, ds3, p3, q3, rfl, rfl, rfl, h3, r3⟩ := trodAll_cons r2
  obtain ⟨rfl, rfl, rfl⟩ := trodAll_nil r3
  obtain rfl : args = #[v0, v1, v2, v3] := by cases args; simp_all
  have hV' : gs = [] := by
    cases gs with
    | nil => rfl
    | cons g gs => exact hV.elim
  subst hV'
  obtain ⟨d0', p0', m0', rfl, wd0, wp0, wm0⟩ := open_three Try.underlying23 (by kernel_rfl) (by kernel_rfl) Try.underlying3 Try.underlying3 Try.underlying3 (hval 0 23 v0 rfl rfl) h0
  obtain ⟨a1, n1, c1, x1, rfl, hr1, hc1, hn1, hp1, hd1, hf1, wc1⟩ := open_state Try.underlying38 (by kernel_rfl) rfl rfl rfl rfl rfl rfl rfl Try.underlying26 (by kernel_rfl) (by kernel_rfl) (by kernel_rfl) Try.underlying3 (by kernel_rfl) rfl (adv_cells (enc := enc) Try.underlying36 (by kernel_rfl) Try.underlying5 Try.underlying3 Try.underlying4) (hval 1 38 v1 rfl rfl) h1
  obtain ⟨x2, rfl, hx2⟩ := open_adv Try.underlying36 (by kernel_rfl) (adv_cells (enc := enc) Try.underlying36 (by kernel_rfl) Try.underlying5 Try.underlying3 Try.underlying4) (hval 2 36 v2 rfl rfl) h2
  obtain ⟨z3, u3, rfl, wz3, wu3⟩ := Go.MyPair.open_pair Try.underlying25 (by kernel_rfl) (by kernel_rfl) Try.underlying3 Try.underlying3 (hval 3 25 v3 rfl rfl) h3
  clear hA0 hval0
  refine Calls.mono (MatchesLaw_call a1 n1 c1 x1 x2 d0' p0' m0' z3 u3 W hr1 hc1 hn1 hp1 hd1 hf1 hx2) fun e W' ⟨he, hg⟩ => ?_
  subst he
  exact ⟨_, rfl, Go.MyRow.law_post laidOutAll (by kernel_rfl) (by kernel_rfl) Try.underlying4 rfl rfl rfl rfl hW' hg⟩

theorem pilotMatches_holds : Rows.PilotMatchesSaid :=
  OpenClaim.holds_of_wide 7 Try.f7 rfl rfl rfl rfl rfl rfl rfl ⟨rfl, rfl, rfl, rfl, rfl⟩ rfl rfl rfl rfl rfl (by kernel_rfl) Try.func7 (by kernel_rfl)
    (of_decide_eq_true (by kernel_rfl)) (by unfold Func.isWrapper; first | (rw [if_pos (by decide +kernel)]; kernel_rfl) | (rw [if_neg (by decide +kernel)]; exact ⟨rfl, rfl⟩))
    (fun os started H enc _ => pilotMatches_lifted os started H enc)
end Go.Proofs.Ytjidpkcoaoflbaa
