/-
  Plain laws of layer 1 (bits): the value of a field, two ways. No program in sight.
-/
namespace BitsMath

/-- Each of the first m is 0 or 1. -/
def Small (xs : List Nat) (m : Nat) : Prop := ∀ i, i < m → xs[i]?.getD 0 ≤ 1
def getStep (xs : List Nat) (p N : Nat) (v j : Nat) : Nat := v ||| (xs[p + N - 1 - j]?.getD 0) <<< j
def getL (xs : List Nat) (p N : Nat) (js : List Nat) : Nat := js.foldl (getStep xs p N) 0
/-- The value of a field: bit j from the end on is that of place p + N - 1 - j. -/
def getV (xs : List Nat) (p N : Nat) : Nat := getL xs p N (List.range N)
theorem getL_snoc (xs : List Nat) (p N : Nat) (js : List Nat) (j : Nat) : getL xs p N (js ++ [j]) = getStep xs p N (getL xs p N js) j := by simp [getL]
/-- The value by doubling, k bits. -/
def refV (xs : List Nat) (p : Nat) : Nat → Nat
  | 0 => 0
  | k + 1 => 2 * refV xs p k + xs[p + k]?.getD 0

theorem bit01 {b : Nat} (h : b ≤ 1) (i : Nat) : b.testBit i = (decide (i = 0) && decide (b = 1)) := by
  have : b = 0 ∨ b = 1 := by omega
  rcases this with rfl | rfl
  · simp
  · cases i <;> simp [Nat.testBit_succ]

theorem getL_bit (xs : List Nat) (p N m : Nat) (hs : Small xs m) (hp : p + N ≤ m) (k : Nat) (hk : k ≤ N) (i : Nat) :
    (getL xs p N (List.range k)).testBit i = (decide (i < k) && decide (xs[p + N - 1 - i]?.getD 0 = 1)) := by
  induction k with
  | zero => simp [getL]
  | succ k ih =>
    rw [List.range_succ, getL_snoc, getStep, Nat.testBit_or, ih (by omega), Nat.testBit_shiftLeft]
    have hb := hs (p + N - 1 - k) (by omega)
    by_cases h1 : i < k
    · have h2 : ¬ i ≥ k := by omega
      simp [h1, h2, show i < k + 1 by omega]
    · by_cases h2 : i = k
      · subst h2
        rw [bit01 hb]; simp
      · rw [bit01 hb]
        have h3 : i - k ≠ 0 := by omega
        simp [h1, h3, show ¬ i < k + 1 by omega]

theorem refV_bit (xs : List Nat) (p m : Nat) (hs : Small xs m) (k : Nat) (hk : p + k ≤ m) (i : Nat) :
    (refV xs p k).testBit i = (decide (i < k) && decide (xs[p + k - 1 - i]?.getD 0 = 1)) := by
  induction k generalizing i with
  | zero => simp [refV]
  | succ k ih =>
    have hb := hs (p + k) (by omega)
    unfold refV
    cases i with
    | zero =>
      rw [Nat.testBit_zero]
      have e1 : p + (k + 1) - 1 - 0 = p + k := by omega
      rw [e1]
      have e2 : (2 * refV xs p k + xs[p + k]?.getD 0) % 2 = xs[p + k]?.getD 0 := by omega
      rw [e2]; simp
    | succ i =>
      rw [Nat.testBit_succ]
      have e2 : (2 * refV xs p k + xs[p + k]?.getD 0) / 2 = refV xs p k := by omega
      rw [e2, ih (by omega)]
      have e1 : p + (k + 1) - 1 - (i + 1) = p + k - 1 - i := by omega
      rw [e1]
      simp
theorem getV_ref (xs : List Nat) (p N m : Nat) (hs : Small xs m) (hp : p + N ≤ m) : getV xs p N = refV xs p N := by
  apply Nat.eq_of_testBit_eq
  intro i
  rw [getV, getL_bit xs p N m hs hp N (Nat.le_refl _), refV_bit xs p m hs N hp]
theorem refV_lt (xs : List Nat) (p m : Nat) (hs : Small xs m) (k : Nat) (hk : p + k ≤ m) : refV xs p k < 2 ^ k := by
  induction k with
  | zero => simp [refV]
  | succ k ih =>
    have hb := hs (p + k) (by omega)
    have := ih (by omega)
    unfold refV
    rw [Nat.pow_succ]; omega
theorem getV_lt (xs : List Nat) (p N m : Nat) (hs : Small xs m) (hp : p + N ≤ m) : getV xs p N < 2 ^ N := by
  rw [getV_ref xs p N m hs hp]; exact refV_lt xs p m hs N hp
end BitsMath
