/-
  Plain laws of layer 36 (plane): paths. No program in sight.
-/
import Derived.Test.YtjidpkcoaoflbaaPlaneMath
namespace PlaneMath

/-! ### A path under given bounds -/
/-- The state behind k cycles. -/
def pst (pull : Int) (l : List (Int × Int)) : Nat → Int → Int → Int × Int
  | 0, z, v => (z, v)
  | k + 1, z, v => (nxtZ (pst pull l k z v).1 (pst pull l k z v).2, nxtV (pst pull l k z v).1 (pst pull l k z v).2 (l[k]?.getD (0, 0)).1 (l[k]?.getD (0, 0)).2 pull)
theorem pst_succ (pull : Int) (l : List (Int × Int)) (k : Nat) (z v : Int) : pst pull l (k + 1) z v = (nxtZ (pst pull l k z v).1 (pst pull l k z v).2, nxtV (pst pull l k z v).1 (pst pull l k z v).2 (l[k]?.getD (0, 0)).1 (l[k]?.getD (0, 0)).2 pull) := rfl
/-- The first k bounds are in order. -/
def BdTo (l : List (Int × Int)) (k : Nat) : Prop := ∀ i, i < k → bdB (l[i]?.getD (0, 0)).1 (l[i]?.getD (0, 0)).2 = true
def allBd (l : List (Int × Int)) : Bool := l.all fun p => bdB p.1 p.2
theorem allBd_iff {l : List (Int × Int)} : allBd l = true ↔ BdTo l l.length := by
  unfold allBd BdTo
  rw [List.all_eq_true]
  constructor
  · intro h i hi
    rw [List.getElem?_eq_getElem hi]
    exact h _ (List.getElem_mem hi)
  · intro h p hp
    obtain ⟨i, hi, rfl⟩ := List.getElem_of_mem hp
    have := h i hi
    rwa [List.getElem?_eq_getElem hi] at this
theorem pst_st {pull : Int} {l : List (Int × Int)} (hp : 0 ≤ pull) {z v : Int} (h : stB z v = true) (k : Nat) (hb : BdTo l k) : stB (pst pull l k z v).1 (pst pull l k z v).2 = true := by
  induction k with
  | zero => exact h
  | succ k ih => exact nxt_st (ih fun i hi => hb i (by omega)) (hb k (by omega)) hp
/-- The states of a path, k cycles. -/
def psts (pull : Int) (l : List (Int × Int)) (z v : Int) (k : Nat) : List (Int × Int) := (List.range k).map fun i => pst pull l i z v
theorem psts_succ (pull : Int) (l : List (Int × Int)) (z v : Int) (k : Nat) : psts pull l z v (k + 1) = psts pull l z v k ++ [pst pull l k z v] := by simp [psts, List.range_succ]
theorem psts_length (pull : Int) (l : List (Int × Int)) (z v : Int) (k : Nat) : (psts pull l z v k).length = k := by simp [psts]
/-- The error of Path. -/
def pthE (z v pull : Int) (l : List (Int × Int)) : Int :=
  if stB z v = false then 1 else if pull < 0 ∨ 32 < pull then 1 else if 256 < l.length then 4 else if allBd l then 0 else 1
def pthL (z v pull : Int) (l : List (Int × Int)) : List (Int × Int) := if pthE z v pull l = 0 then psts pull l z v (l.length + 1) else []
theorem pth_ok {z v pull : Int} {l : List (Int × Int)} (h : pthE z v pull l = 0) : stB z v = true ∧ 0 ≤ pull ∧ pull ≤ 32 ∧ l.length ≤ 256 ∧ BdTo l l.length := by
  unfold pthE at h
  by_cases h1 : stB z v = false
  · rw [if_pos h1] at h; exact absurd h (by decide)
  · rw [if_neg h1] at h
    by_cases h2 : pull < 0 ∨ 32 < pull
    · rw [if_pos h2] at h; exact absurd h (by decide)
    · rw [if_neg h2] at h
      by_cases h3 : 256 < l.length
      · rw [if_pos h3] at h; exact absurd h (by decide)
      · rw [if_neg h3] at h
        cases h4 : allBd l with
        | false => rw [h4] at h; exact absurd h (by decide)
        | true => exact ⟨by simpa using h1, by omega, by omega, by omega, allBd_iff.1 h4⟩
end PlaneMath
