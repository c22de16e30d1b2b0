/-
  Layer 19 (assign): the best assignment as a list; numbers of pairs and costs. No program in sight.
-/
import Derived.Test.YtbehpkggmomgeaaAsgMathC
namespace AsgMath

/-- The first place below m that passes. -/
def firstK (p : Nat → Bool) (m : Nat) : Option Nat := (List.range m).find? p
theorem firstK_some {p : Nat → Bool} {m k : Nat} (h : firstK p m = some k) : k < m ∧ p k = true ∧ ∀ j, j < k → p j = false := by
  unfold firstK at h
  have h1 := List.find?_some h
  have h2 := List.mem_of_find?_eq_some h
  refine ⟨List.mem_range.1 h2, h1, fun j hj => ?_⟩
  obtain ⟨-, as, bs, e, hn⟩ := List.find?_eq_some_iff_append.1 h
  have hl : as.length = k := by
    have e1 : (List.range m)[as.length]? = some k := by rw [e]; simp
    rw [List.getElem?_range] at e1
    · simpa using e1
    · have := congrArg List.length e
      simp at this
      omega
  have hm : j ∈ as := by
    have e1 : (List.range m)[j]? = some j := by
      rw [List.getElem?_range]
      have := List.mem_range.1 h2
      omega
    rw [e, List.getElem?_append_left (by omega)] at e1
    exact List.mem_of_getElem? e1
  have := hn j hm
  simpa using this
theorem firstK_none {p : Nat → Bool} {m : Nat} (h : firstK p m = none) {k : Nat} (hk : k < m) : p k = false := by
  unfold firstK at h
  have := (List.find?_eq_none.1 h) k (List.mem_range.2 hk)
  simpa using this
theorem firstK_of {p : Nat → Bool} {m k : Nat} (hk : k < m) (hp : p k = true) (h : ∀ j, j < k → p j = false) : firstK p m = some k := by
  cases e : firstK p m with
  | none => rw [firstK_none e hk] at hp; exact absurd hp (by decide)
  | some j =>
    obtain ⟨h1, h2, h3⟩ := firstK_some e
    have a : ¬ j < k := fun q => by rw [h j q] at h2; exact absurd h2 (by decide)
    have b : ¬ k < j := fun q => by rw [h3 k q] at hp; exact absurd hp (by decide)
    have : j = k := by omega
    rw [this]
theorem firstK_no {p : Nat → Bool} {m : Nat} (h : ∀ j, j < m → p j = false) : firstK p m = none := by
  cases e : firstK p m with
  | none => rfl
  | some j =>
    obtain ⟨h1, h2, h3⟩ := firstK_some e
    rw [h j h1] at h2
    exact absurd h2 (by decide)
theorem firstK_congr {p q : Nat → Bool} {m : Nat} (h : ∀ j, j < m → p j = q j) : firstK p m = firstK q m := by
  cases e : firstK q m with
  | none => exact firstK_no (fun j hj => by rw [h j hj]; exact firstK_none e hj)
  | some k =>
    obtain ⟨h1, h2, h3⟩ := firstK_some e
    exact firstK_of h1 (by rw [h k h1]; exact h2) (fun j hj => by rw [h j (by omega)]; exact h3 j hj)

/-- The pair that the best assignment takes in the first of the last r + 1 rows. -/
def takeB (c : Nat → Nat → Int) (n m r : Nat) (T : Nat → Bool) (k : Nat) : Bool :=
  okB c T (n - (r + 1)) k && decide (1073741824 - c (n - (r + 1)) k + V c n m r (setT T k) = V c n m (r + 1) T)
def bestL (c : Nat → Nat → Int) (n m : Nat) : Nat → (Nat → Bool) → List (Nat × Nat)
  | 0, _ => []
  | r + 1, T => match firstK (takeB c n m r T) m with
    | some k => (n - (r + 1), k) :: bestL c n m r (setT T k)
    | none => bestL c n m r T
theorem takeB_iff {c : Nat → Nat → Int} {n m r k : Nat} {T : Nat → Bool} : takeB c n m r T k = true ↔ (0 ≤ c (n - (r + 1)) k ∧ T k = false) ∧ 1073741824 - c (n - (r + 1)) k + V c n m r (setT T k) = V c n m (r + 1) T := by
  unfold takeB
  rw [Bool.and_eq_true, okB_iff, decide_eq_true_iff]
theorem bestL_take {c : Nat → Nat → Int} {n m r k : Nat} {T : Nat → Bool} (h : firstK (takeB c n m r T) m = some k) : bestL c n m (r + 1) T = (n - (r + 1), k) :: bestL c n m r (setT T k) := by
  simp only [bestL, h]
theorem bestL_skip {c : Nat → Nat → Int} {n m r : Nat} {T : Nat → Bool} (h : firstK (takeB c n m r T) m = none) : bestL c n m (r + 1) T = bestL c n m r T ∧ V c n m (r + 1) T = V c n m r T := by
  refine ⟨by simp only [bestL, h], ?_⟩
  rcases bestK_cases (f := fun k => 1073741824 - c (n - (r + 1)) k + V c n m r (setT T k)) (p := okB c T (n - (r + 1))) (x := V c n m r T) (m := m) with e | ⟨k, hk, hp, e⟩
  · exact e
  · have h1 := firstK_none h hk
    have h2 : takeB c n m r T k = true := takeB_iff.2 ⟨okB_iff.1 hp, e.symm⟩
    rw [h1] at h2
    exact absurd h2 (by decide)
theorem bestL_congr {c c' : Nat → Nat → Int} {n m : Nat} : ∀ (r : Nat) (T T' : Nat → Bool), r ≤ n → (∀ i k, n - r ≤ i → i < n → k < m → c i k = c' i k) → (∀ k, k < m → T k = T' k) → bestL c n m r T = bestL c' n m r T'
  | 0, _, _, _, _, _ => rfl
  | r + 1, T, T', hr, hc, hT => by
    have hc' := fun i k (h1 : n - r ≤ i) h2 h3 => hc i k (by omega) h2 h3
    have hf : firstK (takeB c n m r T) m = firstK (takeB c' n m r T') m := firstK_congr (fun j hj => by
      unfold takeB okB
      rw [hc (n - (r + 1)) j (by omega) (by omega) hj, hT j hj, V_congr (r + 1) T T' hr hc hT, V_congr r (setT T j) (setT T' j) (by omega) hc' (fun x hx => by unfold setT; rw [hT x hx])])
    cases e : firstK (takeB c' n m r T') m with
    | none => rw [(bestL_skip e).1, (bestL_skip (hf.trans e)).1, bestL_congr r T T' (by omega) hc' hT]
    | some k => rw [bestL_take e, bestL_take (hf.trans e), bestL_congr r (setT T k) (setT T' k) (by omega) hc' (fun x hx => by unfold setT; rw [hT x hx])]

/-- The value as a number of pairs and a cost. -/
theorem V_parts {c : Nat → Nat → Int} {n m : Nat} (hn : n ≤ 16) (hc : ∀ i k, i < n → k < m → c i k ≤ 1048576) : ∀ (r : Nat) (T : Nat → Bool), r ≤ n → ∃ P C : Int, V c n m r T = 1073741824 * P - C ∧ 0 ≤ P ∧ P ≤ r ∧ 0 ≤ C ∧ C ≤ 1048576 * P
  | 0, T, _ => ⟨0, 0, rfl, by omega, by omega, by omega, by omega⟩
  | r + 1, T, hr => by
    cases e : firstK (takeB c n m r T) m with
    | none =>
      obtain ⟨P, C, h1, h2, h3, h4, h5⟩ := V_parts hn hc r T (by omega)
      exact ⟨P, C, by rw [(bestL_skip e).2]; exact h1, by omega, by omega, by omega, by omega⟩
    | some k =>
      obtain ⟨h1, h2, -⟩ := firstK_some e
      obtain ⟨⟨q1, q2⟩, q3⟩ := takeB_iff.1 h2
      obtain ⟨P, C, p1, p2, p3, p4, p5⟩ := V_parts hn hc r (setT T k) (by omega)
      have := hc (n - (r + 1)) k (by omega) h1
      exact ⟨P + 1, C + c (n - (r + 1)) k, by omega, by omega, by omega, by omega, by omega⟩
/-- A number of pairs and a cost are one value. -/
theorem parts_uniq {P C P' C' : Int} (h : 1073741824 * P - C = 1073741824 * P' - C') (h1 : 0 ≤ C) (h2 : C ≤ 20971520) (h3 : 0 ≤ C') (h4 : C' ≤ 20971520) : P = P' ∧ C = C' := by omega
/-- The pairs of an assignment, counted, and their cost. -/
def prs (m : Nat) (row : Nat → Int) : Int := sumN (fun k => if row k < 0 then 0 else 1) m
def cst (c : Nat → Nat → Int) (m : Nat) (row : Nat → Int) : Int := sumN (fun k => if row k < 0 then 0 else c (row k).toNat k) m
theorem val_parts {c : Nat → Nat → Int} {row : Nat → Int} : ∀ {m : Nat}, val c m row = 1073741824 * prs m row - cst c m row
  | 0 => rfl
  | m + 1 => by
    have := val_parts (c := c) (row := row) (m := m)
    unfold val prs cst at *
    simp only [sumN]
    split <;> omega
theorem cst_bound {c : Nat → Nat → Int} {n m fr : Nat} {T : Nat → Bool} {row : Nat → Int} (hc : ∀ i k, i < n → k < m → c i k ≤ 1048576) (hM : Mat c n m fr T row) : ∀ j, j ≤ m → 0 ≤ cst c j row ∧ cst c j row ≤ 1048576 * j
  | 0, _ => by unfold cst; simp [sumN]
  | j + 1, hj => by
    have := cst_bound hc hM j (by omega)
    unfold cst at *
    simp only [sumN]
    rcases hM.rng j (by omega) with e | ⟨i, e, h1, h2, h3, h4⟩
    · rw [if_pos (by omega)]; omega
    · have h5 := hc i j h2 (by omega)
      have h6 : (row j).toNat = i := by omega
      rw [if_neg (by omega), h6]
      omega
theorem prs_bound {row : Nat → Int} : ∀ (m : Nat), 0 ≤ prs m row ∧ prs m row ≤ m
  | 0 => by unfold prs; simp [sumN]
  | m + 1 => by
    have := prs_bound (row := row) m
    unfold prs at *
    simp only [sumN]
    split <;> omega
/-- One more pair. -/
theorem prs_more {row row' : Nat → Int} {m e : Nat} (he : e < m) (h0 : row e = -1) (h : ∀ j, j < m → (0 ≤ row' j ↔ (0 ≤ row j ∨ j = e))) : prs m row' = prs m row + 1 := by
  have h1 := sumN_upd (f := fun k => if row k < 0 then (0 : Int) else 1) (g := fun k => if row' k < 0 then (0 : Int) else 1) (m := m) (k := e) he (fun j hj hne => by
    have := h j hj
    by_cases hr : row j < 0
    · rw [if_pos hr, if_pos (by rcases Int.lt_or_le (row' j) 0 with q | q; exact q; rcases this.1 q with z | z; omega; exact absurd z hne)]
    · rw [if_neg hr, if_neg (by have := this.2 (Or.inl (by omega)); omega)])
  have e1 : (if row e < 0 then (0 : Int) else 1) = 0 := if_pos (by omega)
  have e2 : (if row' e < 0 then (0 : Int) else 1) = 1 := if_neg (by have := (h e he).2 (Or.inr rfl); omega)
  simp only [e1, e2] at h1
  unfold prs
  omega
end AsgMath
