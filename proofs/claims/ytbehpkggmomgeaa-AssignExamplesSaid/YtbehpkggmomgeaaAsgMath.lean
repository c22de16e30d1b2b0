/-
  Layer 19 (assign): the value of a best assignment, its dual numbers, and the search for a cheapest way. No program in sight.
-/
import Derived.WalkKit
namespace AsgMath

def setT (T : Nat → Bool) (k : Nat) : Nat → Bool := fun j => if j = k then true else T j
def upd {α : Type} (f : Nat → α) (k : Nat) (x : α) : Nat → α := fun j => if j = k then x else f j
theorem upd_at {α : Type} {f : Nat → α} {k : Nat} {x : α} : upd f k x k = x := if_pos rfl
theorem upd_ne {α : Type} {f : Nat → α} {k j : Nat} {x : α} (h : j ≠ k) : upd f k x j = f j := if_neg h
def sumN (f : Nat → Int) : Nat → Int
  | 0 => 0
  | k + 1 => sumN f k + f k
theorem sumN_le {f g : Nat → Int} : ∀ {m : Nat}, (∀ j, j < m → f j ≤ g j) → sumN f m ≤ sumN g m
  | 0, _ => Int.le_refl _
  | m + 1, h => by
    have h1 := sumN_le (f := f) (g := g) (m := m) (fun j hj => h j (by omega))
    have h2 := h m (by omega)
    simp only [sumN]
    omega
theorem sumN_congr {f g : Nat → Int} : ∀ {m : Nat}, (∀ j, j < m → f j = g j) → sumN f m = sumN g m
  | 0, _ => rfl
  | m + 1, h => by
    simp only [sumN]
    rw [sumN_congr (m := m) (fun j hj => h j (by omega)), h m (by omega)]
theorem sumN_bump {f g : Nat → Int} {x : Int} : ∀ {m k : Nat}, (∀ j, j < m → f j ≤ g j) → k < m → f k + x ≤ g k → sumN f m + x ≤ sumN g m
  | 0, k, _, hk, _ => by omega
  | m + 1, k, h, hk, hx => by
    simp only [sumN]
    by_cases e : k = m
    · subst e
      have := sumN_le (f := f) (g := g) (m := k) (fun j hj => h j (by omega))
      omega
    · have := sumN_bump (m := m) (k := k) (fun j hj => h j (by omega)) (by omega) hx
      have := h m (by omega)
      omega
theorem sumN_add {f g : Nat → Int} : ∀ {m : Nat}, sumN (fun j => f j + g j) m = sumN f m + sumN g m
  | 0 => rfl
  | m + 1 => by
    simp only [sumN]
    rw [sumN_add (m := m)]
    omega
theorem sumN_zero {f : Nat → Int} {m : Nat} (h : ∀ j, j < m → f j = 0) : sumN f m = 0 := by
  rw [sumN_congr h]
  clear h
  induction m with
  | zero => rfl
  | succ m ih => simp only [sumN]; rw [ih]; rfl
theorem sumN_nonneg {f : Nat → Int} {m : Nat} (h : ∀ j, j < m → 0 ≤ f j) : 0 ≤ sumN f m := by
  have := sumN_le (f := fun _ => 0) (g := f) h
  rw [sumN_zero (fun _ _ => rfl)] at this
  exact this
/-- One place is changed. -/
theorem sumN_upd {f g : Nat → Int} : ∀ {m k : Nat}, k < m → (∀ j, j < m → j ≠ k → f j = g j) → sumN g m = sumN f m - f k + g k
  | 0, k, hk, _ => by omega
  | m + 1, k, hk, h => by
    simp only [sumN]
    by_cases e : k = m
    · subst e
      rw [sumN_congr (f := g) (g := f) (m := k) (fun j hj => (h j (by omega) (by omega)).symm)]
      omega
    · rw [sumN_upd (m := m) (k := k) (by omega) (fun j hj hne => h j (by omega) hne), h m (by omega) (by omega)]
      omega

def bestK (f : Nat → Int) (p : Nat → Bool) (x : Int) : Nat → Int
  | 0 => x
  | k + 1 => if p k = true then max (bestK f p x k) (f k) else bestK f p x k
theorem bestK_ge0 {f : Nat → Int} {p : Nat → Bool} {x : Int} : ∀ {m : Nat}, x ≤ bestK f p x m
  | 0 => Int.le_refl _
  | m + 1 => by
    have := bestK_ge0 (f := f) (p := p) (x := x) (m := m)
    simp only [bestK]
    split <;> omega
theorem bestK_ge {f : Nat → Int} {p : Nat → Bool} {x : Int} : ∀ {m k : Nat}, k < m → p k = true → f k ≤ bestK f p x m
  | 0, k, hk, _ => by omega
  | m + 1, k, hk, hp => by
    simp only [bestK]
    by_cases e : k = m
    · subst e
      rw [if_pos hp]
      omega
    · have := bestK_ge (f := f) (p := p) (x := x) (m := m) (k := k) (by omega) hp
      split <;> omega
theorem bestK_cases {f : Nat → Int} {p : Nat → Bool} {x : Int} : ∀ {m : Nat}, bestK f p x m = x ∨ ∃ k, k < m ∧ p k = true ∧ bestK f p x m = f k
  | 0 => Or.inl rfl
  | m + 1 => by
    have ih := bestK_cases (f := f) (p := p) (x := x) (m := m)
    have up : (bestK f p x m = x ∨ ∃ k, k < m ∧ p k = true ∧ bestK f p x m = f k) → (bestK f p x m = x ∨ ∃ k, k < m + 1 ∧ p k = true ∧ bestK f p x m = f k) := fun h => h.imp id (fun ⟨k, h1, h2, h3⟩ => ⟨k, by omega, h2, h3⟩)
    simp only [bestK]
    by_cases hp : p m = true
    · rw [if_pos hp]
      rcases Int.le_total (bestK f p x m) (f m) with hl | hl
      · rw [Int.max_eq_right hl]
        exact Or.inr ⟨m, by omega, hp, rfl⟩
      · rw [Int.max_eq_left hl]
        exact up ih
    · rw [if_neg hp]
      exact up ih
theorem bestK_le {f : Nat → Int} {p : Nat → Bool} {x B : Int} {m : Nat} (h0 : x ≤ B) (h : ∀ k, k < m → p k = true → f k ≤ B) : bestK f p x m ≤ B := by
  rcases bestK_cases (f := f) (p := p) (x := x) (m := m) with e | ⟨k, hk, hp, e⟩
  · omega
  · rw [e]; exact h k hk hp
theorem bestK_congr {f g : Nat → Int} {p q : Nat → Bool} {x y : Int} (hx : x = y) : ∀ {m : Nat}, (∀ k, k < m → p k = q k ∧ (q k = true → f k = g k)) → bestK f p x m = bestK g q y m
  | 0, _ => hx
  | m + 1, h => by
    simp only [bestK]
    rw [bestK_congr hx (m := m) (fun k hk => h k (by omega)), (h m (by omega)).1]
    by_cases hq : q m = true
    · rw [if_pos hq, if_pos hq, (h m (by omega)).2 hq]
    · rw [if_neg hq, if_neg hq]

/-- A row and a column may be paired. -/
def okB (c : Nat → Nat → Int) (T : Nat → Bool) (i k : Nat) : Bool := decide (0 ≤ c i k) && !T k
theorem okB_iff {c : Nat → Nat → Int} {T : Nat → Bool} {i k : Nat} : okB c T i k = true ↔ 0 ≤ c i k ∧ T k = false := by unfold okB; simp
/-- The value of the best assignment of the last r rows: 2^30 for each pair, less the costs. -/
def V (c : Nat → Nat → Int) (n m : Nat) : Nat → (Nat → Bool) → Int
  | 0, _ => 0
  | r + 1, T => bestK (fun k => 1073741824 - c (n - (r + 1)) k + V c n m r (setT T k)) (okB c T (n - (r + 1))) (V c n m r T) m
theorem V_nonneg {c : Nat → Nat → Int} {n m : Nat} : ∀ (r : Nat) (T : Nat → Bool), 0 ≤ V c n m r T
  | 0, _ => Int.le_refl _
  | r + 1, T => Int.le_trans (V_nonneg r T) (by simp only [V]; exact bestK_ge0)
theorem V_congr {c c' : Nat → Nat → Int} {n m : Nat} : ∀ (r : Nat) (T T' : Nat → Bool), r ≤ n → (∀ i k, n - r ≤ i → i < n → k < m → c i k = c' i k) → (∀ k, k < m → T k = T' k) → V c n m r T = V c' n m r T'
  | 0, _, _, _, _, _ => rfl
  | r + 1, T, T', hr, hc, hT => by
    simp only [V]
    refine bestK_congr (V_congr r T T' (by omega) (fun i k h1 h2 h3 => hc i k (by omega) h2 h3) hT) (fun k hk => ⟨?_, fun _ => ?_⟩)
    · unfold okB
      rw [hc (n - (r + 1)) k (by omega) (by omega) hk, hT k hk]
    · rw [hc (n - (r + 1)) k (by omega) (by omega) hk, V_congr r (setT T k) (setT T' k) (by omega) (fun i k h1 h2 h3 => hc i k (by omega) h2 h3) (fun j hj => by unfold setT; rw [hT j hj])]

/-- No assignment is worth more than dual numbers. -/
theorem V_le {c : Nat → Nat → Int} {n m : Nat} {y z : Nat → Int} (hy : ∀ i, 0 ≤ y i) (hz : ∀ k, 0 ≤ z k) : ∀ (r : Nat) (T : Nat → Bool), r ≤ n →
    (∀ i k, n - r ≤ i → i < n → k < m → 0 ≤ c i k → T k = false → 1073741824 - c i k ≤ y i + z k) →
    V c n m r T ≤ sumN (fun j => y (n - 1 - j)) r + sumN (fun k => if T k then 0 else z k) m
  | 0, T, _, _ => by
    have := sumN_nonneg (f := fun k => if T k then 0 else z k) (m := m) (fun j _ => by
      have := hz j
      split <;> omega)
    simp only [V, sumN]
    omega
  | r + 1, T, hr, h => by
    have ih := fun T h' => V_le (c := c) (n := n) (m := m) hy hz r T (by omega) h'
    simp only [V]
    refine bestK_le ?_ (fun k hk hp => ?_)
    · have h1 := ih T (fun i k a b d e f => h i k (by omega) b d e f)
      have h2 := hy (n - 1 - r)
      simp only [sumN]
      omega
    · obtain ⟨hp0, hp1⟩ := okB_iff.1 hp
      have h1 := ih (setT T k) (fun i j a b d e f => h i j (by omega) b d e (by
        unfold setT at f
        by_cases hj : j = k
        · rw [if_pos hj] at f; exact absurd f (by decide)
        · rw [if_neg hj] at f; exact f))
      have h2 := h (n - (r + 1)) k (by omega) (by omega) hk hp0 hp1
      have h3 := sumN_upd (f := fun k => if T k then 0 else z k) (g := fun j => if setT T k j then 0 else z j) (m := m) (k := k) hk (fun j _ hne => by
        have : setT T k j = T j := if_neg hne
        rw [this])
      have e1 : (if T k = true then (0 : Int) else z k) = z k := if_neg (by rw [hp1]; decide)
      have e2 : (if setT T k k = true then (0 : Int) else z k) = 0 := if_pos (by unfold setT; rw [if_pos rfl])
      simp only [e1, e2] at h3
      have e3 : n - 1 - r = n - (r + 1) := by omega
      simp only [sumN, e3]
      omega

/-- What pairs are worth. -/
def val (c : Nat → Nat → Int) (m : Nat) (row : Nat → Int) : Int := sumN (fun k => if row k < 0 then 0 else 1073741824 - c (row k).toNat k) m
structure Mat (c : Nat → Nat → Int) (n m fr : Nat) (T : Nat → Bool) (row : Nat → Int) : Prop where
  rng : ∀ k, k < m → row k = -1 ∨ ∃ i : Nat, row k = (i : Int) ∧ fr ≤ i ∧ i < n ∧ T k = false ∧ 0 ≤ c i k
  inj : ∀ j k, j < m → k < m → row j = row k → 0 ≤ row j → j = k
/-- An assignment is worth no more than the best one. -/
theorem V_ge {c : Nat → Nat → Int} {n m : Nat} : ∀ (r : Nat) (T : Nat → Bool) (row : Nat → Int), r ≤ n → Mat c n m (n - r) T row → val c m row ≤ V c n m r T
  | 0, T, row, _, h => by
    have : val c m row = 0 := sumN_zero (fun j hj => by
      rcases h.rng j hj with e | ⟨i, e, h1, h2, -⟩
      · rw [if_pos (by omega)]
      · omega)
    simp only [V]
    omega
  | r + 1, T, row, hr, h => by
    by_cases hex : ∃ k, k < m ∧ row k = ((n - (r + 1) : Nat) : Int)
    · obtain ⟨k, hk, e⟩ := hex
      rcases h.rng k hk with e' | ⟨i, e', h1, h2, h3, h4⟩
      · omega
      · have hi : i = n - (r + 1) := by omega
        subst hi
        have ih := V_ge (c := c) (n := n) (m := m) r (setT T k) (upd row k (-1)) (by omega) ⟨fun j hj => by
          by_cases hne : j = k
          · subst hne; exact Or.inl upd_at
          · rw [upd_ne hne]
            rcases h.rng j hj with q | ⟨i, q, h1, h2, h3, h4⟩
            · exact Or.inl q
            · refine Or.inr ⟨i, q, ?_, h2, by unfold setT; rw [if_neg hne]; exact h3, h4⟩
              have : i ≠ n - (r + 1) := fun ei => hne (h.inj j k hj hk (by rw [q, e', ei]) (by omega))
              omega, fun j j' hj hj' q q0 => by
          by_cases a : j = k
          · subst a; rw [upd_at] at q0; omega
          · by_cases b : j' = k
            · subst b; rw [upd_at] at q; omega
            · rw [upd_ne a, upd_ne b] at q
              rw [upd_ne a] at q0
              exact h.inj j j' hj hj' q q0⟩
        have h5 := sumN_upd (f := fun j => if row j < 0 then 0 else 1073741824 - c (row j).toNat j) (g := fun j => if upd row k (-1) j < 0 then 0 else 1073741824 - c (upd row k (-1) j).toNat j) (m := m) (k := k) hk (fun j _ hne => by simp only [upd_ne hne])
        have e1 : (if row k < 0 then (0 : Int) else 1073741824 - c (row k).toNat k) = 1073741824 - c (n - (r + 1)) k := by
          rw [if_neg (by omega), e]; rfl
        have e2 : (if upd row k (-1) k < 0 then (0 : Int) else 1073741824 - c (upd row k (-1) k).toNat k) = 0 := if_pos (by rw [upd_at]; omega)
        simp only [e1, e2] at h5
        have h6 := bestK_ge (f := fun k => 1073741824 - c (n - (r + 1)) k + V c n m r (setT T k)) (p := okB c T (n - (r + 1))) (x := V c n m r T) (m := m) (k := k) hk (okB_iff.2 ⟨h4, h3⟩)
        simp only [V]
        unfold val at ih ⊢
        omega
    · have ih := V_ge (c := c) (n := n) (m := m) r T row (by omega) ⟨fun k hk => by
        rcases h.rng k hk with q | ⟨i, q, h1, h2, h3⟩
        · exact Or.inl q
        · refine Or.inr ⟨i, q, ?_, h2, h3⟩
          have : i ≠ n - (r + 1) := fun ei => hex ⟨k, hk, by rw [q, ei]⟩
          omega, h.inj⟩
      have h6 := bestK_ge0 (f := fun k => 1073741824 - c (n - (r + 1)) k + V c n m r (setT T k)) (p := okB c T (n - (r + 1))) (x := V c n m r T) (m := m)
      simp only [V]
      omega
theorem rows_sum {n m : Nat} {y : Nat → Int} {row : Nat → Int} (hy : ∀ i, 0 ≤ y i) : ∀ (r : Nat), r ≤ n → (∀ i, n - r ≤ i → i < n → y i = 0 ∨ ∃ k, k < m ∧ row k = (i : Int)) →
    sumN (fun j => y (n - 1 - j)) r ≤ sumN (fun k => if row k < ((n - r : Nat) : Int) then 0 else y (row k).toNat) m
  | 0, _, _ => sumN_nonneg (fun j _ => by
    have := hy (row j).toNat
    split <;> omega)
  | r + 1, hr, h => by
    have ih := rows_sum (n := n) (m := m) (row := row) hy r (by omega) (fun i a b => h i (by omega) b)
    have mono : ∀ j, j < m → (if row j < ((n - r : Nat) : Int) then 0 else y (row j).toNat) ≤ (if row j < ((n - (r + 1) : Nat) : Int) then 0 else y (row j).toNat) := fun j _ => by
      have := hy (row j).toNat
      split <;> split <;> omega
    have e3 : n - 1 - r = n - (r + 1) := by omega
    simp only [sumN, e3]
    rcases h (n - (r + 1)) (by omega) (by omega) with h0 | ⟨k, hk, e⟩
    · have := sumN_le (m := m) mono
      omega
    · have := sumN_bump (x := y (n - (r + 1))) (m := m) mono hk (by
        rw [if_pos (by omega), if_neg (by omega), e]
        simp)
      omega
/-- Pairs that meet dual numbers are a best assignment. -/
theorem V_eq {c : Nat → Nat → Int} {n m r : Nat} {T : Nat → Bool} {row y z : Nat → Int} (hr : r ≤ n) (hM : Mat c n m (n - r) T row) (hy : ∀ i, 0 ≤ y i) (hz : ∀ k, 0 ≤ z k)
    (hf : ∀ i k, n - r ≤ i → i < n → k < m → 0 ≤ c i k → T k = false → 1073741824 - c i k ≤ y i + z k)
    (ht : ∀ (i k : Nat), k < m → row k = (i : Int) → 1073741824 - c i k = y i + z k)
    (hy0 : ∀ i, n - r ≤ i → i < n → y i = 0 ∨ ∃ k, k < m ∧ row k = (i : Int))
    (hz0 : ∀ k, k < m → row k < 0 → T k = false → z k = 0) : val c m row = V c n m r T := by
  refine Int.le_antisymm (V_ge r T row hr hM) ?_
  have h1 := V_le hy hz r T hr hf
  have h2 := rows_sum hy r hr hy0
  have h3 : val c m row = sumN (fun k => if row k < ((n - r : Nat) : Int) then 0 else y (row k).toNat) m + sumN (fun k => if T k then 0 else z k) m := by
    rw [← sumN_add]
    refine sumN_congr (fun k hk => ?_)
    rcases hM.rng k hk with e | ⟨i, e, q1, q2, q3, q4⟩
    · rw [if_pos (by omega), if_pos (by omega)]
      cases hT : T k with
      | true => rfl
      | false => rw [if_neg (by decide), hz0 k hk (by omega) hT]; rfl
    · rw [if_neg (by omega), if_neg (by omega), if_neg (by rw [q3]; decide), e]
      exact ht i k hk e
  omega
end AsgMath
