/-
  PlaneOrder: for all pairs of states, bounds and pull the law returns true. No conditions.
-/
import Derived.Test.YthaokofhepngbaaPlaneV
import Derived.Test.YthaokofhepngbaaPairLib
import Derived.Test.YthaokofhepngbaaByte2Lib
import Derived.Test.YthaokofhepngbaaRows
import Derived.Test.YthaokofhepngbaaRowLib
import Derived.WalkKit
import Derived.ProofKit
import Derived.OpenShut
import Derived.ShutString
namespace Go.Proofs.Ythaokofhepngbaa
open Go.ChangeShapes Go.WideShapes Go.ChangeAt Go.RowKit
open Go.ChangeMaps (open_string shut_string)

theorem ownKnobNone : ownKnob Try.prog.godebug = none := by kernel_rfl
theorem laidOutAll : laidOutB Try.prog = true := by kernel_rfl

set_option maxRecDepth 100000 in
theorem planeOrder_lifted (os : Os) (started : os.Started) (H : Type) (enc : TypeId × Value → H) :
    ReturnsInHanded {} Try.checked os 6 .any (Rows.planeOrderSpec.pre6 enc Try.prog Try.f6 Rows.planeOrderRow.domain false) (Rows.planeOrderSpec.post enc Try.prog Try.f6 false true false false) := by
  refine returnsInHanded_of_change (C := Try.checked) ownKnobNone started (by kernel_rfl) Try.func6
    (ChangeSpec.witness6 (enc := enc) (C := Try.checked) false ⟨#[], #[.agg #[.int .i64 0, .int .i64 0], .agg #[.int .u8 0, .int .u8 0], .slice none 0 0, .int .i64 0], []⟩ 8 (by kernel_rfl) (by kernel_rfl) (by kernel_rfl) (by kernel_rfl)) ?_
  intro W base args ds gs before hval0 hW _ hsz0
  have hval : ∀ (j : Nat) t v, Try.f6.params[j]? = some t → args[j]? = some v → Value.okWide Try.prog W .any base t v := hval0
  have hW' := hW
  obtain ⟨p, q, hA0, hV, rfl, hfz, _⟩ := hW
  have hA : DataW.TrodAll enc Try.prog W 0 (fun _ => true) true Try.f6.params.toList args.toList ds p := hA0
  rw [Try.params6] at hA hval
  obtain ⟨v0, vs0, d0, ds0, p0, q0, hargs, rfl, rfl, h0, r0⟩ := trodAll_cons hA
  obtain ⟨v1, vs1, d1, ds1, p1, q1, rfl, rfl, rfl, h1, r1⟩ := trodAll_cons r0
  obtain ⟨v2, vs2, d2, ds2, p2, q2, rfl, rfl, rfl, h2, r2⟩ := trodAll_cons r1
  obtain ⟨v3, vs3, d3, ds3, p3, q3, rfl, rfl, rfl, h3, r3⟩ := trodAll_cons r2
  obtain ⟨rfl, rfl, rfl⟩ := trodAll_nil r3
  obtain rfl : args = #[v0, v1, v2, v3] := by cases args; simp_all
  have hV' : gs = [] := by
    cases gs with
    | nil => rfl
    | cons g gs => exact hV.elim
  subst hV'
  obtain ⟨z0, u0, rfl, wz0, wu0⟩ := Go.MyPair.open_pair Try.underlying23 (by kernel_rfl) (by kernel_rfl) Try.underlying3 Try.underlying3 (hval 0 23 v0 rfl rfl) h0
  obtain ⟨y1, x1, rfl, wy1, wx1⟩ := Go.MyByte2.open_bytes2 Try.underlying42 (by kernel_rfl) (by kernel_rfl) Try.underlying5 (hval 1 42 v1 rfl rfl) h1
  have by1 := bounds_u8 wy1
  have bx1 := bounds_u8 wx1
  obtain ⟨a2, n2, c2, l2, rfl, hr2, hc2⟩ := Go.MyPair.open_pairs Try.underlying32 (by kernel_rfl) (Go.MyPair.twoInts_array (enc := enc) Try.underlying38 (by kernel_rfl) Try.underlying3) (hval 2 32 v2 rfl rfl) h2
  obtain ⟨a3, rfl, rfl, rfl, w3⟩ := open_int Try.underlying3 (hval 3 3 v3 rfl rfl) h3
  clear hA0 hval0
  refine Calls.mono (OrderLaw_call a2 n2 c2 _ z0 u0 y1 x1 a3 W hr2 by1.1 by1.2 bx1.1 bx1.2) fun e W' ⟨he, hg⟩ => ?_
  subst he
  exact ⟨_, rfl, Go.MyRow.law_post laidOutAll (by kernel_rfl) (by kernel_rfl) Try.underlying4 rfl rfl rfl rfl hW' hg⟩

theorem planeOrder_holds : Rows.PlaneOrderSaid :=
  OpenClaim.holds_of_wide 6 Try.f6 rfl rfl rfl rfl rfl rfl rfl ⟨rfl, rfl, rfl, rfl, rfl⟩ rfl rfl rfl rfl rfl (by kernel_rfl) Try.func6 (by kernel_rfl)
    (of_decide_eq_true (by kernel_rfl)) (by unfold Func.isWrapper; first | (rw [if_pos (by decide +kernel)]; kernel_rfl) | (rw [if_neg (by decide +kernel)]; exact ⟨rfl, rfl⟩))
    (fun os started H enc _ => planeOrder_lifted os started H enc)
end Go.Proofs.Ythaokofhepngbaa
