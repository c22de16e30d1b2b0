/-
  AsgMath, AsgMathB
-/
import Derived.WalkKit
import Derived.Test.YtikjjpjekchcjaaPr1
set_option linter.all false
set_option maxRecDepth 100000
set_option maxHeartbeats 64000000
section
namespace AsgMath
def setT (T : Nat → Bool) (k : Nat) : Nat → Bool := fun j => if j = k then true else T j
def upd {α : Type} (f : Nat → α) (k : Nat) (x : α) : Nat → α := fun j => if j = k then x else f j
theorem upd_at {α : Type} {f : Nat → α} {k : Nat} {x : α} : upd f k x k = x := if_pos rfl
theorem upd_ne {α : Type} {f : Nat → α} {k j : Nat} {x : α} (h : j ≠ k) : upd f k x j = f j := if_neg h
def sumN (f : Nat → Int) : Nat → Int
 | 0 => 0
 | k + 1 => sumN f k + f k
theorem sumN_le {f g : Nat → Int} : ∀ {m : Nat}, (∀ j, j < m → f j ≤ g j) → sumN f m ≤ sumN g m
 | 0, _ => Int.le_refl _
 | m + 1, h => by
  have h1 := sumN_le (f := f) (g := g) (m := m) (fun j hj => h j (by omega))
  have h2 := h m (by omega)
  simp only [sumN]
  omega
theorem sumN_congr {f g : Nat → Int} : ∀ {m : Nat}, (∀ j, j < m → f j = g j) → sumN f m = sumN g m
 | 0, _ => rfl
 | m + 1, h => by
  simp only [sumN]
  rw [sumN_congr (m := m) (fun j hj => h j (by omega)), h m (by omega)]
theorem sumN_bump {f g : Nat → Int} {x : Int} : ∀ {m k : Nat}, (∀ j, j < m → f j ≤ g j) → k < m → f k + x ≤ g k → sumN f m + x ≤ sumN g m
 | 0, k, _, hk, _ => by omega
 | m + 1, k, h, hk, hx => by
  simp only [sumN]
  by_cases e : k = m
  ·subst e
   have := sumN_le (f := f) (g := g) (m := k) (fun j hj => h j (by omega))
   omega
  have := sumN_bump (m := m) (k := k) (fun j hj => h j (by omega)) (by omega) hx
  have := h m (by omega)
  omega
theorem sumN_add {f g : Nat → Int} : ∀ {m : Nat}, sumN (fun j => f j + g j) m = sumN f m + sumN g m
 | 0 => rfl
 | m + 1 => by
  simp only [sumN]
  rw [sumN_add (m := m)]
  omega
theorem sumN_zero {f : Nat → Int} {m : Nat} (h : ∀ j, j < m → f j = 0) : sumN f m = 0 := by
 rw [sumN_congr h]
 clear h
 induction m with
 | zero => rfl
 | succ m ih => simp only [sumN]; rw [ih]; rfl
theorem sumN_nonneg {f : Nat → Int} {m : Nat} (h : ∀ j, j < m → 0 ≤ f j) : 0 ≤ sumN f m := by
 have := sumN_le (f := fun _ => 0) (g := f) h
 rw [sumN_zero (fun _ _ => rfl)] at this
 exact this
theorem sumN_upd {f g : Nat → Int} : ∀ {m k : Nat}, k < m → (∀ j, j < m → j ≠ k → f j = g j) → sumN g m = sumN f m - f k + g k
 | 0, k, hk, _ => by omega
 | m + 1, k, hk, h => by
  simp only [sumN]
  by_cases e : k = m
  ·subst e
   rw [sumN_congr (f := g) (g := f) (m := k) (fun j hj => (h j (by omega) (by omega)).symm)]
   omega
  rw [sumN_upd (m := m) (k := k) (by omega) (fun j hj hne => h j (by omega) hne), h m (by omega) (by omega)]
  omega
def bestK (f : Nat → Int) (p : Nat → Bool) (x : Int) : Nat → Int
 | 0 => x
 | k + 1 => if p k = true then max (bestK f p x k) (f k) else bestK f p x k
theorem bestK_ge0 {f : Nat → Int} {p : Nat → Bool} {x : Int} : ∀ {m : Nat}, x ≤ bestK f p x m
 | 0 => Int.le_refl _
 | m + 1 => by
  have := bestK_ge0 (f := f) (p := p) (x := x) (m := m)
  simp only [bestK]
  split <;> omega
theorem bestK_ge {f : Nat → Int} {p : Nat → Bool} {x : Int} : ∀ {m k : Nat}, k < m → p k = true → f k ≤ bestK f p x m
 | 0, k, hk, _ => by omega
 | m + 1, k, hk, hp => by
  simp only [bestK]
  by_cases e : k = m
  ·subst e
   rw [if_pos hp]
   omega
  have := bestK_ge (f := f) (p := p) (x := x) (m := m) (k := k) (by omega) hp
  split <;> omega
theorem bestK_cases {f : Nat → Int} {p : Nat → Bool} {x : Int} : ∀ {m : Nat}, bestK f p x m = x ∨ ∃ k, k < m ∧ p k = true ∧ bestK f p x m = f k
 | 0 => Or.inl rfl
 | m + 1 => by
  have ih := bestK_cases (f := f) (p := p) (x := x) (m := m)
  have up : (bestK f p x m = x ∨ ∃ k, k < m ∧ p k = true ∧ bestK f p x m = f k) → (bestK f p x m = x ∨ ∃ k, k < m + 1 ∧ p k = true ∧ bestK f p x m = f k) := fun h => h.imp id (fun ⟨k, h1, h2, h3⟩ => ⟨k, by omega, h2, h3⟩)
  simp only [bestK]
  by_cases hp : p m = true
  ·rw [if_pos hp]
   rcases Int.le_total (bestK f p x m) (f m) with hl | hl
   ·rw [Int.max_eq_right hl]
    exact Or.inr ⟨m, by omega, hp, rfl⟩
   rw [Int.max_eq_left hl]
   exact up ih
  rw [if_neg hp]
  exact up ih
theorem bestK_le {f : Nat → Int} {p : Nat → Bool} {x B : Int} {m : Nat} (h0 : x ≤ B) (h : ∀ k, k < m → p k = true → f k ≤ B) : bestK f p x m ≤ B := by
 rcases bestK_cases (f := f) (p := p) (x := x) (m := m) with e | ⟨k, hk, hp, e⟩
 ·omega
 rw [e]; exact h k hk hp
def okB (c : Nat → Nat → Int) (T : Nat → Bool) (i k : Nat) : Bool := decide (0 ≤ c i k) && !T k
theorem okB_iff {c : Nat → Nat → Int} {T : Nat → Bool} {i k : Nat} : okB c T i k = true ↔ 0 ≤ c i k ∧ T k = false := by unfold okB; simp
def V (c : Nat → Nat → Int) (n m : Nat) : Nat → (Nat → Bool) → Int
 | 0, _ => 0
 | r + 1, T => bestK (fun k => 1073741824 - c (n - (r + 1)) k + V c n m r (setT T k)) (okB c T (n - (r + 1))) (V c n m r T) m
theorem V_nonneg {c : Nat → Nat → Int} {n m : Nat} : ∀ (r : Nat) (T : Nat → Bool), 0 ≤ V c n m r T
 | 0, _ => Int.le_refl _
 | r + 1, T => Int.le_trans (V_nonneg r T) (by simp only [V]; exact bestK_ge0)
theorem V_le {c : Nat → Nat → Int} {n m : Nat} {y z : Nat → Int} (hy : ∀ i, 0 ≤ y i) (hz : ∀ k, 0 ≤ z k) : ∀ (r : Nat) (T : Nat → Bool), r ≤ n →
    (∀ i k, n - r ≤ i → i < n → k < m → 0 ≤ c i k → T k = false → 1073741824 - c i k ≤ y i + z k) →
    V c n m r T ≤ sumN (fun j => y (n - 1 - j)) r + sumN (fun k => if T k then 0 else z k) m
 | 0, T, _, _ => by
  have := sumN_nonneg (f := fun k => if T k then 0 else z k) (m := m) (fun j _ => by
   have := hz j
   split <;> omega)
  simp only [V, sumN]
  omega
 | r + 1, T, hr, h => by
  have ih := fun T h' => V_le (c := c) (n := n) (m := m) hy hz r T (by omega) h'
  simp only [V]
  refine bestK_le ?_ (fun k hk hp => ?_)
  ·have h1 := ih T (fun i k a b d e f => h i k (by omega) b d e f)
   have h2 := hy (n - 1 - r)
   simp only [sumN]
   omega
  obtain ⟨hp0, hp1⟩ := okB_iff.1 hp
  have h1 := ih (setT T k) (fun i j a b d e f => h i j (by omega) b d e (by
   unfold setT at f
   by_cases hj : j = k
   ·rw [if_pos hj] at f; exact absurd f (by decide)
   rw [if_neg hj] at f; exact f))
  have h2 := h (n - (r + 1)) k (by omega) (by omega) hk hp0 hp1
  have h3 := sumN_upd (f := fun k => if T k then 0 else z k) (g := fun j => if setT T k j then 0 else z j) (m := m) (k := k) hk (fun j _ hne => by
   have : setT T k j = T j := if_neg hne
   rw [this])
  have e1 : (if T k = true then (0 : Int) else z k) = z k := if_neg (by rw [hp1]; decide)
  have e2 : (if setT T k k = true then (0 : Int) else z k) = 0 := if_pos (by unfold setT; rw [if_pos rfl])
  simp only [e1, e2] at h3
  have e3 : n - 1 - r = n - (r + 1) := by omega
  simp only [sumN, e3]
  omega
def val (c : Nat → Nat → Int) (m : Nat) (row : Nat → Int) : Int := sumN (fun k => if row k < 0 then 0 else 1073741824 - c (row k).toNat k) m
structure Mat (c : Nat → Nat → Int) (n m fr : Nat) (T : Nat → Bool) (row : Nat → Int) : Prop where
 rng : ∀ k, k < m → row k = -1 ∨ ∃ i : Nat, row k = (i : Int) ∧ fr ≤ i ∧ i < n ∧ T k = false ∧ 0 ≤ c i k
 inj : ∀ j k, j < m → k < m → row j = row k → 0 ≤ row j → j = k
theorem V_ge {c : Nat → Nat → Int} {n m : Nat} : ∀ (r : Nat) (T : Nat → Bool) (row : Nat → Int), r ≤ n → Mat c n m (n - r) T row → val c m row ≤ V c n m r T
 | 0, T, row, _, h => by
  have : val c m row = 0 := sumN_zero (fun j hj => by
   rcases h.rng j hj with e | ⟨i, e, h1, h2, -⟩
   ·rw [if_pos (by omega)]
   omega)
  simp only [V]
  omega
 | r + 1, T, row, hr, h => by
  by_cases hex : ∃ k, k < m ∧ row k = ((n - (r + 1) : Nat) : Int)
  ·obtain ⟨k, hk, e⟩ := hex
   rcases h.rng k hk with e' | ⟨i, e', h1, h2, h3, h4⟩
   ·omega
   have hi : i = n - (r + 1) := by omega
   subst hi
   have ih := V_ge (c := c) (n := n) (m := m) r (setT T k) (upd row k (-1)) (by omega) ⟨fun j hj => by
    by_cases hne : j = k
    ·subst hne; exact Or.inl upd_at
    ·rw [upd_ne hne]
     rcases h.rng j hj with q | ⟨i, q, h1, h2, h3, h4⟩
     ·exact Or.inl q
     refine Or.inr ⟨i, q, ?_, h2, by unfold setT; rw [if_neg hne]; exact h3, h4⟩
     have : i ≠ n - (r + 1) := fun ei => hne (h.inj j k hj hk (by rw [q, e', ei]) (by omega))
     omega, fun j j' hj hj' q q0 => by
    by_cases a : j = k
    ·subst a; rw [upd_at] at q0; omega
    by_cases b : j' = k
    ·subst b; rw [upd_at] at q; omega
    rw [upd_ne a, upd_ne b] at q
    rw [upd_ne a] at q0
    exact h.inj j j' hj hj' q q0⟩
   have h5 := sumN_upd (f := fun j => if row j < 0 then 0 else 1073741824 - c (row j).toNat j) (g := fun j => if upd row k (-1) j < 0 then 0 else 1073741824 - c (upd row k (-1) j).toNat j) (m := m) (k := k) hk (fun j _ hne => by simp only [upd_ne hne])
   have e1 : (if row k < 0 then (0 : Int) else 1073741824 - c (row k).toNat k) = 1073741824 - c (n - (r + 1)) k := by
    rw [if_neg (by omega), e]; rfl
   have e2 : (if upd row k (-1) k < 0 then (0 : Int) else 1073741824 - c (upd row k (-1) k).toNat k) = 0 := if_pos (by rw [upd_at]; omega)
   simp only [e1, e2] at h5
   have h6 := bestK_ge (f := fun k => 1073741824 - c (n - (r + 1)) k + V c n m r (setT T k)) (p := okB c T (n - (r + 1))) (x := V c n m r T) (m := m) (k := k) hk (okB_iff.2 ⟨h4, h3⟩)
   simp only [V]
   unfold val at ih ⊢
   omega
  have ih := V_ge (c := c) (n := n) (m := m) r T row (by omega) ⟨fun k hk => by
   rcases h.rng k hk with q | ⟨i, q, h1, h2, h3⟩
   ·exact Or.inl q
   refine Or.inr ⟨i, q, ?_, h2, h3⟩
   have : i ≠ n - (r + 1) := fun ei => hex ⟨k, hk, by rw [q, ei]⟩
   omega, h.inj⟩
  have h6 := bestK_ge0 (f := fun k => 1073741824 - c (n - (r + 1)) k + V c n m r (setT T k)) (p := okB c T (n - (r + 1))) (x := V c n m r T) (m := m)
  simp only [V]
  omega
theorem rows_sum {n m : Nat} {y : Nat → Int} {row : Nat → Int} (hy : ∀ i, 0 ≤ y i) : ∀ (r : Nat), r ≤ n → (∀ i, n - r ≤ i → i < n → y i = 0 ∨ ∃ k, k < m ∧ row k = (i : Int)) →
    sumN (fun j => y (n - 1 - j)) r ≤ sumN (fun k => if row k < ((n - r : Nat) : Int) then 0 else y (row k).toNat) m
 | 0, _, _ => sumN_nonneg (fun j _ => by
  have := hy (row j).toNat
  split <;> omega)
 | r + 1, hr, h => by
  have ih := rows_sum (n := n) (m := m) (row := row) hy r (by omega) (fun i a b => h i (by omega) b)
  have mono : ∀ j, j < m → (if row j < ((n - r : Nat) : Int) then 0 else y (row j).toNat) ≤ (if row j < ((n - (r + 1) : Nat) : Int) then 0 else y (row j).toNat) := fun j _ => by
   have := hy (row j).toNat
   split <;> split <;> omega
  have e3 : n - 1 - r = n - (r + 1) := by omega
  simp only [sumN, e3]
  rcases h (n - (r + 1)) (by omega) (by omega) with h0 | ⟨k, hk, e⟩
  ·have := sumN_le (m := m) mono
   omega
  have := sumN_bump (x := y (n - (r + 1))) (m := m) mono hk (by
   rw [if_pos (by omega), if_neg (by omega), e]
   simp)
  omega
theorem V_eq {c : Nat → Nat → Int} {n m r : Nat} {T : Nat → Bool} {row y z : Nat → Int} (hr : r ≤ n) (hM : Mat c n m (n - r) T row) (hy : ∀ i, 0 ≤ y i) (hz : ∀ k, 0 ≤ z k)
    (hf : ∀ i k, n - r ≤ i → i < n → k < m → 0 ≤ c i k → T k = false → 1073741824 - c i k ≤ y i + z k)
    (ht : ∀ (i k : Nat), k < m → row k = (i : Int) → 1073741824 - c i k = y i + z k)
    (hy0 : ∀ i, n - r ≤ i → i < n → y i = 0 ∨ ∃ k, k < m ∧ row k = (i : Int))
    (hz0 : ∀ k, k < m → row k < 0 → T k = false → z k = 0) : val c m row = V c n m r T := by
 refine Int.le_antisymm (V_ge r T row hr hM) ?_
 have h1 := V_le hy hz r T hr hf
 have h2 := rows_sum hy r hr hy0
 have h3 : val c m row = sumN (fun k => if row k < ((n - r : Nat) : Int) then 0 else y (row k).toNat) m + sumN (fun k => if T k then 0 else z k) m := by
  rw [← sumN_add]
  refine sumN_congr (fun k hk => ?_)
  rcases hM.rng k hk with e | ⟨i, e, q1, q2, q3, q4⟩
  ·rw [if_pos (by omega), if_pos (by omega)]
   cases hT : T k with
   | true => rfl
   | false => rw [if_neg (by decide), hz0 k hk (by omega) hT]; rfl
  rw [if_neg (by omega), if_neg (by omega), if_neg (by rw [q3]; decide), e]
  exact ht i k hk e
 omega
end AsgMath
end
section
namespace AsgMath
def colOf (m : Nat) (row : Nat → Int) (i : Int) : Option Nat := (List.range m).find? (fun k => decide (row k = i))
theorem colOf_some {m : Nat} {row : Nat → Int} {i : Int} {k : Nat} (h : colOf m row i = some k) : k < m ∧ row k = i := by
 unfold colOf at h
 have h1 := List.find?_some h
 have h2 := List.mem_of_find?_eq_some h
 exact ⟨List.mem_range.1 h2, by simpa using h1⟩
theorem colOf_none {m : Nat} {row : Nat → Int} {i : Int} (h : colOf m row i = none) {k : Nat} (hk : k < m) : row k ≠ i := by
 unfold colOf at h
 have := (List.find?_eq_none.1 h) k (List.mem_range.2 hk)
 simpa using this
def ofV (c : Nat → Nat → Int) (m : Nat) (row dist : Nat → Int) (i : Nat) : Int :=
 match colOf m row (i : Int) with
 | some k => if 1099511627776 ≤ dist k then 1099511627776 else dist k - c i k
 | none => 0
theorem ofV_free {c : Nat → Nat → Int} {m : Nat} {row dist : Nat → Int} {i : Nat} (h : ∀ k, k < m → row k ≠ (i : Int)) : ofV c m row dist i = 0 := by
 unfold ofV
 cases e : colOf m row (i : Int) with
 | none => rfl
 | some k => exact absurd (colOf_some e).2 (h k (colOf_some e).1)
theorem ofV_at {c : Nat → Nat → Int} {n m fr : Nat} {T : Nat → Bool} {row dist : Nat → Int} {i k : Nat} (hM : Mat c n m fr T row) (hk : k < m) (h : row k = (i : Int)) : ofV c m row dist i = if 1099511627776 ≤ dist k then 1099511627776 else dist k - c i k := by
 unfold ofV
 cases e : colOf m row (i : Int) with
 | none => exact absurd h (colOf_none e hk)
 | some j =>
  obtain ⟨h1, h2⟩ := colOf_some e
  have : j = k := hM.inj j k h1 hk (by rw [h2, h]) (by omega)
  subst this
  rfl
theorem ofV_congr {c : Nat → Nat → Int} {m : Nat} {row dist dist' : Nat → Int} {i : Nat} (h : ∀ k, k < m → row k = (i : Int) → dist' k = dist k) : ofV c m row dist' i = ofV c m row dist i := by
 unfold ofV
 cases e : colOf m row (i : Int) with
 | none => rfl
 | some k =>
  have := h k (colOf_some e).1 (colOf_some e).2
  simp only [this]
structure Pot (c : Nat → Nat → Int) (n m fr : Nat) (T : Nat → Bool) (row a b : Nat → Int) (β : Int) : Prop where
 feas : ∀ i k, fr ≤ i → i < n → k < m → T k = false → 0 ≤ c i k → b k ≤ a i + c i k
 tight : ∀ (i k : Nat), k < m → row k = (i : Int) → b k = a i + c i k
 a0 : ∀ i, 0 ≤ a i
 afree : ∀ i, fr ≤ i → i < n → (∀ k, k < m → row k ≠ (i : Int)) → a i = 0
 bfree : ∀ k, k < m → row k < 0 → T k = false → β ≤ b k
 bmat : ∀ k, k < m → 0 ≤ row k → b k ≤ β
 lo : 0 ≤ β
 hi : β ≤ 16777216
inductive Dep (m : Nat) (row by' : Nat → Int) : Nat → Nat → Prop
 | root {k : Nat} (h : ∀ j, j < m → row j ≠ by' k) : Dep m row by' k 0
 | step {k j d : Nat} (hj : j < m) (e : row j = by' k) (h : Dep m row by' j d) : Dep m row by' k (d + 1)
def cnt (dist : Nat → Int) : Nat → Int := sumN (fun k => if dist k < 1099511627776 then 1 else 0)
theorem cnt_le {dist : Nat → Int} : ∀ (m : Nat), cnt dist m ≤ m
 | 0 => Int.le_refl _
 | m + 1 => by
  have := cnt_le (dist := dist) m
  unfold cnt at *
  simp only [sumN]
  split <;> omega
structure DInv (c : Nat → Nat → Int) (n m fr : Nat) (T : Nat → Bool) (row b dist by' : Nat → Int) : Prop where
 tk : ∀ k, k < m → dist k < 1099511627776 → T k = false
 lo : ∀ k, k < m → dist k < 1099511627776 → b k ≤ dist k ∧ 0 ≤ dist k
 le : ∀ k, k < m → dist k ≤ 1099511627776
 par : ∀ k, k < m → dist k < 1099511627776 → ∃ i : Nat, by' k = (i : Int) ∧ fr ≤ i ∧ i < n ∧ 0 ≤ c i k ∧ row k ≠ (i : Int) ∧ ofV c m row dist i < 1099511627776 ∧ ofV c m row dist i + c i k ≤ dist k
 chain : ∀ k, k < m → dist k < 1099511627776 → ∃ d, Dep m row by' k d
 bound : ∀ k, k < m → dist k < 1099511627776 → dist k ≤ cnt dist m * 1048576
theorem DInv.start {c : Nat → Nat → Int} {n m fr : Nat} {T : Nat → Bool} {row b dist by' : Nat → Int} (h : ∀ k, k < m → dist k = 1099511627776) : DInv c n m fr T row b dist by' :=
 ⟨fun k hk q => by rw [h k hk] at q; exact absurd q (by decide), fun k hk q => by rw [h k hk] at q; exact absurd q (by decide), fun k hk => by rw [h k hk]; exact Int.le_refl _, fun k hk q => by rw [h k hk] at q; exact absurd q (by decide), fun k hk q => by rw [h k hk] at q; exact absurd q (by decide), fun k hk q => by rw [h k hk] at q; exact absurd q (by decide)⟩
theorem DInv.ge0 {c : Nat → Nat → Int} {n m fr : Nat} {T : Nat → Bool} {row b dist by' : Nat → Int} (h : DInv c n m fr T row b dist by') {k : Nat} (hk : k < m) : 0 ≤ dist k ∧ dist k ≤ 1099511627776 := by
 have h1 := h.le k hk
 by_cases hf : dist k < 1099511627776
 ·have := h.lo k hk hf; omega
 omega
section
variable {c : Nat → Nat → Int} {n m fr : Nat} {T : Nat → Bool} {row a b : Nat → Int} {β : Int} {dist by' : Nat → Int}
theorem Pot.b0 (h : Pot c n m fr T row a b β) (hM : Mat c n m fr T row) {k : Nat} (hk : k < m) (hT : T k = false) : 0 ≤ b k := by
 rcases hM.rng k hk with e | ⟨i, e, h1, h2, h3, h4⟩
 ·have := h.bfree k hk (by omega) hT
  have := h.lo
  omega
 have := h.tight i k hk e
 have := h.a0 i
 omega
theorem of_lo (hM : Mat c n m fr T row) (hP : Pot c n m fr T row a b β) (hD : DInv c n m fr T row b dist by') {i : Nat} (h1 : fr ≤ i) (h2 : i < n) (hf : ofV c m row dist i < 1099511627776) : a i ≤ ofV c m row dist i ∧ ofV c m row dist i ≤ cnt dist m * 1048576 := by
 have hc0 : 0 ≤ cnt dist m := sumN_nonneg (fun j _ => by split <;> omega)
 cases e : colOf m row (i : Int) with
 | none =>
  rw [ofV_free (fun k hk => colOf_none e hk), hP.afree i h1 h2 (fun k hk => colOf_none e hk)]
  omega
 | some k =>
  obtain ⟨hk, hr⟩ := colOf_some e
  have ho := ofV_at (dist := dist) hM hk hr
  rw [ho] at hf ⊢
  by_cases hd : 1099511627776 ≤ dist k
  ·rw [if_pos hd] at hf; omega
  rw [if_neg hd] at hf ⊢
  have := hD.lo k hk (by omega)
  have := hD.bound k hk (by omega)
  have := hP.tight i k hk hr
  rcases hM.rng k hk with e | ⟨i', e', q1, q2, q3, q4⟩
  ·omega
  have : i' = i := by omega
  subst this
  omega
theorem Dep.uniq (hM : Mat c n m fr T row) (hby : ∀ k, 0 ≤ by' k ∨ ∀ j, j < m → row j ≠ by' k) {k d : Nat} (h : Dep m row by' k d) : ∀ {d' : Nat}, Dep m row by' k d' → d = d' := by
 induction h with
 | root h0 =>
  intro d' h'
  cases h' with
  | root _ => rfl
  | step hj e _ => exact absurd e (h0 _ hj)
 | step hj e h ih =>
  intro d' h'
  cases h' with
  | root h0 => exact absurd e (h0 _ hj)
  | step hj' e' h' =>
   rename_i k j d j' d'
   have : j = j' := by
    rcases hby k with q | q
    ·exact hM.inj _ _ hj hj' (by rw [e, e']) (by omega)
    exact absurd e (q _ hj)
   subst this
   rw [ih h']
theorem DInv.relax (hm : m ≤ 16) (hcost : ∀ i k, i < n → k < m → c i k ≤ 1048576) (hM : Mat c n m fr T row) (hP : Pot c n m fr T row a b β) (hD : DInv c n m fr T row b dist by') {i k : Nat} (h1 : fr ≤ i) (h2 : i < n) (hk : k < m) (hT : T k = false) (hc : 0 ≤ c i k) (hr : row k ≠ (i : Int)) (hf : ofV c m row dist i < 1099511627776) (hlt : ofV c m row dist i + c i k < dist k) :
    DInv c n m fr T row b (upd dist k (ofV c m row dist i + c i k)) (upd by' k (i : Int)) := by
 have hlo := of_lo hM hP hD h1 h2 hf
 have hcl := hcost i k h2 hk
 have hle := hD.le k hk
 have hb := hP.feas i k h1 h2 hk hT hc
 have ha := hP.a0 i
 have hcm := cnt_le (dist := dist) m
 generalize hd : ofV c m row dist i = d at *
 -- the cost of the rows behind the step
 have hof : ∀ i', ofV c m row dist i' < 1099511627776 → ofV c m row (upd dist k (d + c i k)) i' ≤ ofV c m row dist i' ∧ ofV c m row (upd dist k (d + c i k)) i' < 1099511627776 := by
  intro i' hi'
  cases e : colOf m row (i' : Int) with
  | none =>
   rw [ofV_free (fun j hj => colOf_none e hj)] at hi' ⊢
   rw [ofV_free (fun j hj => colOf_none e hj)]
   omega
  | some j =>
   obtain ⟨hj, hrj⟩ := colOf_some e
   rw [ofV_at hM hj hrj] at hi' ⊢
   rw [ofV_at hM hj hrj]
   by_cases hjk : j = k
   ·subst hjk
    rw [upd_at]
    have hnk : ¬ (1099511627776 ≤ dist j) := fun hh => by rw [if_pos hh] at hi'; omega
    have hci : 0 ≤ c i' j := by
     rcases hM.rng j hk with q | ⟨i2, q, _, _, _, q4⟩
     ·omega
     have : i2 = i' := by omega
     subst this
     exact q4
    rw [if_neg hnk] at hi' ⊢
    rw [if_neg (by omega)]
    omega
   rw [upd_ne hjk]
   exact ⟨Int.le_refl _, hi'⟩
 have hcnt : cnt dist m ≤ cnt (upd dist k (d + c i k)) m ∧ (dist k = 1099511627776 → cnt dist m + 1 ≤ cnt (upd dist k (d + c i k)) m) := by
  refine ⟨sumN_le (fun j _ => ?_), fun he => sumN_bump (fun j _ => ?_) hk ?_⟩
  ·by_cases hjk : j = k
   ·subst hjk; rw [upd_at]; split <;> split <;> omega
   rw [upd_ne hjk]; exact Int.le_refl _
  ·by_cases hjk : j = k
   ·subst hjk; rw [upd_at]; split <;> split <;> omega
   rw [upd_ne hjk]; exact Int.le_refl _
  rw [upd_at, if_neg (by omega), if_pos (by omega)]; decide
 refine ⟨fun j hj h => ?_, fun j hj h => ?_, fun j hj => ?_, fun j hj h => ?_, fun j hj h => ?_, fun j hj h => ?_⟩
 ·by_cases hjk : j = k
  ·subst hjk; exact hT
  rw [upd_ne hjk] at h; exact hD.tk j hj h
 ·by_cases hjk : j = k
  ·subst hjk; rw [upd_at]; omega
  rw [upd_ne hjk] at h ⊢; exact hD.lo j hj h
 ·by_cases hjk : j = k
  ·subst hjk; rw [upd_at]; omega
  rw [upd_ne hjk]; exact hD.le j hj
 ·by_cases hjk : j = k
  ·subst hjk
   refine ⟨i, upd_at, h1, h2, hc, hr, ?_, ?_⟩
   ·rw [ofV_congr (dist := dist) (fun j hj hrj => upd_ne (fun e => hr (by rw [← e]; exact hrj))), hd]; exact hf
   rw [ofV_congr (dist := dist) (fun j hj hrj => upd_ne (fun e => hr (by rw [← e]; exact hrj))), hd, upd_at]; exact Int.le_refl _
  rw [upd_ne hjk] at h ⊢
  obtain ⟨i', e, q1, q2, q3, q4, q5, q6⟩ := hD.par j hj h
  have := hof i' q5
  rw [upd_ne hjk]
  exact ⟨i', e, q1, q2, q3, q4, this.2, by omega⟩
 · --no way leads back
  have low : ∀ j dd, Dep m row by' j dd → j < m → dist j < 1099511627776 → (dist k = 1099511627776 ∨ dist j - b j < dist k - b k) → Dep m row (upd by' k (i : Int)) j dd := by
   intro j dd hdep
   induction hdep with
   | @root j h0 =>
    intro hj hfin hr'
    have hjk : j ≠ k := fun e => by subst e; omega
    exact .root (by rw [upd_ne hjk]; exact h0)
   | @step j j' dd hj' e hdep ih =>
    intro hj hfin hr'
    have hjk : j ≠ k := fun e => by subst e; omega
    obtain ⟨i', e', q1, q2, q3, q4, q5, q6⟩ := hD.par j hj hfin
    have hri : row j' = (i' : Int) := by rw [e, e']
    have ho := ofV_at (dist := dist) hM hj' hri
    have ht := hP.tight i' j' hj' hri
    have hfe := hP.feas i' j q1 q2 hj (hD.tk j hj hfin) q3
    by_cases hd' : 1099511627776 ≤ dist j'
    ·rw [if_pos hd'] at ho; omega
    rw [if_neg hd'] at ho
    exact .step hj' (by rw [upd_ne hjk]; exact e) (ih hj' (by omega) (by omega))
  have hk' : ∃ dd, Dep m row (upd by' k (i : Int)) k dd := by
   cases e : colOf m row (i : Int) with
   | none => exact ⟨0, .root (fun j hj => by rw [upd_at]; exact colOf_none e hj)⟩
   | some j =>
    obtain ⟨hj, hrj⟩ := colOf_some e
    have ho := ofV_at (dist := dist) hM hj hrj
    rw [hd] at ho
    have ht := hP.tight i j hj hrj
    by_cases hd' : 1099511627776 ≤ dist j
    ·rw [if_pos hd'] at ho; omega
    rw [if_neg hd'] at ho
    obtain ⟨dd, hdd⟩ := hD.chain j hj (by omega)
    exact ⟨dd + 1, .step hj (by rw [upd_at]; exact hrj) (low j dd hdd hj (by omega) (by omega))⟩
  have all : ∀ j dd, Dep m row by' j dd → j < m → (dist j < 1099511627776 ∨ j = k) → ∃ d', Dep m row (upd by' k (i : Int)) j d' := by
   intro j dd hdep
   induction hdep with
   | @root j h0 =>
    intro hj hfin
    by_cases hjk : j = k
    ·subst hjk; exact hk'
    exact ⟨0, .root (by rw [upd_ne hjk]; exact h0)⟩
   | @step j j' dd hj' e hdep ih =>
    intro hj hfin
    by_cases hjk : j = k
    ·subst hjk; exact hk'
    obtain ⟨i', e', q1, q2, q3, q4, q5, q6⟩ := hD.par j hj (by rcases hfin with q | q; exact q; exact absurd q hjk)
    have hri : row j' = (i' : Int) := by rw [e, e']
    have ho := ofV_at (dist := dist) hM hj' hri
    by_cases hd' : 1099511627776 ≤ dist j'
    ·rw [if_pos hd'] at ho; omega
    obtain ⟨d', h'⟩ := ih hj' (Or.inl (by omega))
    exact ⟨d' + 1, .step hj' (by rw [upd_ne hjk]; exact e) h'⟩
  by_cases hjk : j = k
  ·subst hjk; exact hk'
  rw [upd_ne hjk] at h
  obtain ⟨dd, hdd⟩ := hD.chain j hj h
  exact all j dd hdd hj (Or.inl h)
 by_cases hjk : j = k
 ·subst hjk
  rw [upd_at]
  by_cases he : dist j = 1099511627776
  ·have := hcnt.2 he; omega
  have := hcnt.1
  have := hD.bound j hk (by omega)
  omega
 rw [upd_ne hjk] at h ⊢
 have := hcnt.1
 have := hD.bound j hj h
 omega
end
end AsgMath
end
