/-
  AltitudeTruth: for every start, pull, list of pulls and list of kinds the law returns true. No conditions.
-/
import Derived.Test.YtojjhkahigdkoaaAltTu
import Derived.Test.YtojjhkahigdkoaaPairLib
import Derived.Test.YtojjhkahigdkoaaSliceLib
import Derived.Test.YtojjhkahigdkoaaRows
import Derived.Test.YtojjhkahigdkoaaRowLib
import Derived.WalkKit
import Derived.ProofKit
import Derived.OpenShut
import Derived.ShutString
namespace Go.Proofs.Ytojjhkahigdkoaa
open Go.ChangeShapes Go.WideShapes Go.ChangeAt Go.RowKit
open Go.ChangeMaps (open_string shut_string)

theorem ownKnobNone : ownKnob Try.prog.godebug = none := by kernel_rfl
theorem laidOutAll : laidOutB Try.prog = true := by kernel_rfl

set_option maxRecDepth 100000 in
theorem altitudeTruth_lifted (os : Os) (started : os.Started) (H : Type) (enc : TypeId × Value → H) :
    ReturnsInHanded {} Try.checked os 5 .any (Rows.altitudeTruthSpec.pre6 enc Try.prog Try.f5 Rows.altitudeTruthRow.domain false) (Rows.altitudeTruthSpec.post enc Try.prog Try.f5 false true false false) := by
  refine returnsInHanded_of_change (C := Try.checked) ownKnobNone started (by kernel_rfl) Try.func5
    (ChangeSpec.witness6 (enc := enc) (C := Try.checked) false ⟨#[], #[.agg #[.int .i64 0, .int .i64 0], .int .u8 0, .slice none 0 0, .slice none 0 0], []⟩ 8 (by kernel_rfl) (by kernel_rfl) (by kernel_rfl) (by kernel_rfl)) ?_
  intro W base args ds gs before hval0 hW _ hsz0
  have hval : ∀ (j : Nat) t v, Try.f5.params[j]? = some t → args[j]? = some v → Value.okWide Try.prog W .any base t v := hval0
  have hW' := hW
  obtain ⟨p, q, hA0, hV, rfl, hfz, _⟩ := hW
  have hA : DataW.TrodAll enc Try.prog W 0 (fun _ => true) true Try.f5.params.toList args.toList ds p := hA0
  rw [Try.params5] at hA hval
  obtain ⟨v0, vs0, d0, ds0, p0, q0, hargs, rfl, rfl, h0, r0⟩ := trodAll_cons hA
  obtain ⟨v1, vs1, d1, ds1, p1, q1, rfl, rfl, rfl, h1, r1⟩ := trodAll_cons r0
  obtain ⟨v2, vs2, d2, ds2, p2, q2, rfl, rfl, rfl, h2, r2⟩ := trodAll_cons r1
  obtain ⟨v3, vs3, d3, ds3, p3, q3, rfl, rfl, rfl, h3, r3⟩ := trodAll_cons r2
  obtain ⟨rfl, rfl, rfl⟩ := trodAll_nil r3
  obtain rfl : args = #[v0, v1, v2, v3] := by cases args; simp_all
  have hV' : gs = [] := by
    cases gs with
    | nil => rfl
    | cons g gs => exact hV.elim
  subst hV'
  obtain ⟨z0, u0, rfl, wz0, wu0⟩ := Go.MyPair.open_pair Try.underlying40 (by kernel_rfl) (by kernel_rfl) Try.underlying3 Try.underlying3 (hval 0 40 v0 rfl rfl) h0
  obtain ⟨x1, rfl, rfl, rfl, w1⟩ := open_int Try.underlying5 (hval 1 5 v1 rfl rfl) h1
  have b1 := bounds_u8 w1
  obtain ⟨a2, n2, c2, xs2, rfl, hi2, hc2, hw2⟩ := Go.MySlice.open_intsAt Try.underlying41 Try.underlying44 (by kernel_rfl) (hval 2 41 v2 rfl rfl) h2
  obtain ⟨a3, n3, c3, xs3, rfl, hi3, hc3, hw3⟩ := Go.MySlice.open_intsAt Try.underlying42 Try.underlying5 (by kernel_rfl) (hval 3 42 v3 rfl rfl) h3
  clear hA0 hval0
  refine Calls.mono (truth_call z0 u0 x1 a2 a3 n2 c2 n3 c3 xs2 xs3 W b1.1 b1.2 hi2 hi3 hw2 hw3) fun e W' ⟨he, hg⟩ => ?_
  subst he
  exact ⟨_, rfl, Go.MyRow.law_post laidOutAll (by kernel_rfl) (by kernel_rfl) Try.underlying4 rfl rfl rfl rfl hW' hg⟩

theorem altitudeTruth_holds : Rows.AltitudeTruthSaid :=
  OpenClaim.holds_of_wide 5 Try.f5 rfl rfl rfl rfl rfl rfl rfl ⟨rfl, rfl, rfl, rfl, rfl⟩ rfl rfl rfl rfl rfl (by kernel_rfl) Try.func5 (by kernel_rfl)
    (of_decide_eq_true (by kernel_rfl)) (by unfold Func.isWrapper; first | (rw [if_pos (by decide +kernel)]; kernel_rfl) | (rw [if_neg (by decide +kernel)]; exact ⟨rfl, rfl⟩))
    (fun os started H enc _ => altitudeTruth_lifted os started H enc)
end Go.Proofs.Ytojjhkahigdkoaa
