/-
  Plain laws of layer 36 (plane): Meet answers the same with its lists exchanged. No program in sight.
-/
import Derived.Test.YthaokofhepngbaaPlaneMathE
namespace PlaneMath

theorem mtE_symm {ps qs : List (Int × Int)} (h : ps.length = qs.length) : mtE ps qs = mtE qs ps := by
  unfold mtE
  rw [h, Bool.and_comm]
theorem mtS_symm {ps qs : List (Int × Int)} (h : ps.length = qs.length) : mtS ps qs = mtS qs ps := by
  unfold mtS
  rw [mtE_symm h, h, mtA_symm ps qs, dk_symm ps qs]
theorem mtT_symm {ps qs : List (Int × Int)} (h : ps.length = qs.length) : mtT ps qs = mtT qs ps := by
  unfold mtT
  rw [mtE_symm h, h, mtA_symm ps qs]
end PlaneMath
