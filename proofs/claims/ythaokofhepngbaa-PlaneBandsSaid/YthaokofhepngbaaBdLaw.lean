/-
  Layer 36 (plane): states along a path and the bands that contain them. No program in sight.
-/
import Derived.Test.YthaokofhepngbaaPlaneMathB
import Derived.Test.YthaokofhepngbaaPlaneMathE
import Derived.Test.YthaokofhepngbaaAltLaw
namespace PlaneMath

theorem rate_near {v lo hi pull : Int} (hp : 0 ≤ pull) : rate v lo hi pull - v ≤ pull ∧ v - rate v lo hi pull ≤ pull := by
  unfold rate
  split
  · omega
  · split <;> omega
/-- From one state to the next. -/
theorem pst_near {pull : Int} {l : List (Int × Int)} {z v : Int} (hp : 0 ≤ pull) (k : Nat) : (¬ (-1000 ≤ (pst pull l k z v).1 + (pst pull l k z v).2 ∧ (pst pull l k z v).1 + (pst pull l k z v).2 ≤ 50000) ∧ (pst pull l (k + 1) z v).2 = 0) ∨
    ((-1000 ≤ (pst pull l k z v).1 + (pst pull l k z v).2 ∧ (pst pull l k z v).1 + (pst pull l k z v).2 ≤ 50000) ∧ (pst pull l (k + 1) z v).1 = (pst pull l k z v).1 + (pst pull l k z v).2 ∧ (pst pull l (k + 1) z v).2 - (pst pull l k z v).2 ≤ pull ∧ (pst pull l k z v).2 - (pst pull l (k + 1) z v).2 ≤ pull) := by
  rw [pst_succ]
  generalize pst pull l k z v = p
  by_cases h : -1000 ≤ p.1 + p.2 ∧ p.1 + p.2 ≤ 50000
  · right
    have hz : inZ (p.1 + p.2) = true := inZ_iff.2 h
    refine ⟨h, ?_, ?_⟩
    · unfold nxtZ
      rw [if_pos hz]
    · unfold nxtV
      rw [if_pos hz]
      exact rate_near hp
  · left
    have hz : inZ (p.1 + p.2) = false := by
      cases hb : inZ (p.1 + p.2) with
      | false => rfl
      | true => exact absurd (inZ_iff.1 hb) h
    refine ⟨h, ?_⟩
    unfold nxtV
    rw [hz]
    rfl
end PlaneMath
