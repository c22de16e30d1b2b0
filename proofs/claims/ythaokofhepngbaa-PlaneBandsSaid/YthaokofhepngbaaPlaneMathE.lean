/-
  Plain laws of layer 36 (plane): the order of paths. No program in sight.
-/
import Derived.Test.YthaokofhepngbaaPlaneMathD
namespace PlaneMath

theorem rate_le {v v' lo hi pull : Int} (h : v ≤ v') (hb : lo ≤ hi) : rate v lo hi pull ≤ rate v' lo hi pull := by
  unfold rate
  split <;> split <;> (try split) <;> (try split) <;> omega
/-- A state that goes beyond a limit in the next cycle. -/
def limB (z v : Int) : Bool := decide (z + v < -1000) || decide (50000 < z + v)
theorem limB_false {z v : Int} (h : limB z v = false) : inZ (z + v) = true := by
  unfold limB at h
  simp only [Bool.or_eq_false_iff, decide_eq_false_iff_not] at h
  exact inZ_iff.2 (by omega)
/-- State by state not above, as long as no limit was reached. -/
def OrdTo (pull : Int) (l : List (Int × Int)) (z v z' v' : Int) (k : Nat) : Prop :=
  ∀ i, i ≤ k → (pst pull l i z v).1 ≤ (pst pull l i z' v').1 ∧ (pst pull l i z v).2 ≤ (pst pull l i z' v').2
theorem ord_next {pull : Int} {l : List (Int × Int)} {z v z' v' : Int} {k : Nat} (hk : bdB (l[k]?.getD (0, 0)).1 (l[k]?.getD (0, 0)).2 = true)
    (h : (pst pull l k z v).1 ≤ (pst pull l k z' v').1 ∧ (pst pull l k z v).2 ≤ (pst pull l k z' v').2)
    (ha : limB (pst pull l k z v).1 (pst pull l k z v).2 = false) (hb : limB (pst pull l k z' v').1 (pst pull l k z' v').2 = false) :
    (pst pull l (k + 1) z v).1 ≤ (pst pull l (k + 1) z' v').1 ∧ (pst pull l (k + 1) z v).2 ≤ (pst pull l (k + 1) z' v').2 := by
  obtain ⟨c1, c2⟩ := in_nxt (lo := (l[k]?.getD (0, 0)).1) (hi := (l[k]?.getD (0, 0)).2) (pull := pull) (limB_false ha)
  obtain ⟨d1, d2⟩ := in_nxt (lo := (l[k]?.getD (0, 0)).1) (hi := (l[k]?.getD (0, 0)).2) (pull := pull) (limB_false hb)
  have hbd := bdB_iff.1 hk
  rw [pst_succ, pst_succ]
  show nxtZ _ _ ≤ nxtZ _ _ ∧ nxtV _ _ _ _ _ ≤ nxtV _ _ _ _ _
  rw [c1, c2, d1, d2]
  exact ⟨by omega, rate_le h.2 (by omega)⟩
theorem psts_get (pull : Int) (l : List (Int × Int)) (z v : Int) {k n : Nat} (h : k < n) : (psts pull l z v n)[k]?.getD (0, 0) = pst pull l k z v := by
  unfold psts
  rw [List.getElem?_map, List.getElem?_range h]
  rfl
end PlaneMath
