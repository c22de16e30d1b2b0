/-
  Plain laws of layer 2 (parity): what the laws say of addresses. No program in sight.
-/
import Derived.Test.YthabecfajponfaaSealMath
namespace ParityMath
open BitsMath

theorem xr_get {xs ys : List Nat} (h : xs.length = ys.length) (i : Nat) : (xr xs ys)[i]?.getD 0 = xs[i]?.getD 0 ^^^ ys[i]?.getD 0 := by
  unfold xr
  by_cases hi : i < xs.length
  · rw [List.getElem?_eq_getElem (by simp; omega), List.getElem?_eq_getElem hi, List.getElem?_eq_getElem (by omega)]
    simp
  · rw [List.getElem?_eq_none (by simp; omega), List.getElem?_eq_none (by omega), List.getElem?_eq_none (by omega)]
    rfl
/-- A string of n zeros but for a one at place i. -/
def unitL (n i : Nat) : List Nat := (List.replicate n 0).set i 1
theorem unit_len (n i : Nat) : (unitL n i).length = n := by simp [unitL]
theorem unit_all1 (n i : Nat) : all1 (unitL n i) := by
  intro x hx
  unfold unitL at hx
  rcases List.mem_or_eq_of_mem_set hx with h | h
  · have := List.eq_of_mem_replicate h; omega
  · omega
theorem unit_get (n i j : Nat) (hj : j < n) : (unitL n i)[j]?.getD 0 = if i = j then 1 else 0 := by
  unfold unitL
  rw [List.getElem?_set]
  by_cases e : i = j
  · rw [if_pos e, if_pos (by simpa [e] using hj), if_pos e]; rfl
  · rw [if_neg e, if_neg e, List.getElem?_replicate, if_pos hj]; rfl
/-- One bit changed. -/
def flL (xs : List Nat) (i : Nat) : List Nat := xs.set i (xs[i]?.getD 0 ^^^ 1)
theorem fl_len (xs : List Nat) (i : Nat) : (flL xs i).length = xs.length := by simp [flL]
theorem fl_xr {xs : List Nat} {i : Nat} (hi : i < xs.length) : flL xs i = xr xs (unitL xs.length i) := by
  apply get_ext
  · rw [fl_len, xr_len (by rw [unit_len])]
  · intro j hj
    rw [fl_len] at hj
    rw [xr_get (by rw [unit_len]), unit_get _ _ _ hj]
    unfold flL
    rw [List.getElem?_set]
    by_cases e : i = j
    · subst e; rw [if_pos rfl, if_pos hi, if_pos rfl]; rfl
    · rw [if_neg e, if_neg e, Nat.xor_zero]
theorem fl_all1 {xs : List Nat} (h : all1 xs) {i : Nat} (hi : i < xs.length) : all1 (flL xs i) := by rw [fl_xr hi]; exact xr_all1 h (unit_all1 _ _)
theorem rg_fl {xs : List Nat} {i : Nat} (hi : i < xs.length) : rg (flL xs i) = rg xs ^^^ rg (unitL xs.length i) := by rw [fl_xr hi, rg_lin (by rw [unit_len])]
theorem xr_self (xs : List Nat) : xr xs xs = List.replicate xs.length 0 := by
  apply get_ext
  · rw [xr_len rfl, List.length_replicate]
  · intro i hi
    rw [xr_len rfl] at hi
    rw [xr_get rfl, Nat.xor_self, List.getElem?_replicate, if_pos hi]
    rfl
theorem unit_split {n i : Nat} (hi : i < n) : unitL n i = List.replicate i 0 ++ ([1] ++ List.replicate (n - 1 - i) 0) := by
  apply get_ext
  · rw [unit_len]; simp; omega
  · intro j hj
    rw [unit_len] at hj
    rw [unit_get _ _ _ hj]
    by_cases h : j < i
    · rw [if_neg (by omega), List.getElem?_append_left (by simpa using h), List.getElem?_replicate, if_pos h]; rfl
    · rw [List.getElem?_append_right (by simpa using h), List.length_replicate]
      by_cases e : i = j
      · subst e; rw [if_pos rfl, Nat.sub_self]; rfl
      · rw [if_neg e, List.getElem?_append_right (by simp; omega), List.getElem?_replicate]
        rw [if_pos (by simp; omega)]
        rfl
/-- No bit alone is without a syndrome. -/
theorem unit_ne {n i : Nat} (hi : i < n) : rg (unitL n i) ≠ 0 := by
  rw [unit_split hi, rg_pad, rg_tail]
  intro h
  exact absurd (Fi_inj (by decide) h) (by decide)

/-! ### Bursts -/
theorem vl_zero : ∀ {xs : List Nat}, vl xs = 0 → ∀ x ∈ xs, x = 0 := by
  intro xs
  induction xs using snoc_ind with
  | h0 => intro _ x hx; cases hx
  | h1 xs x ih =>
    intro h y hy
    rw [vl_snoc] at h
    rcases List.mem_append.1 hy with h1 | h1
    · exact ih (by omega) y h1
    · simp at h1; omega
def burst (ch m : Nat) : List Nat := (List.range m).map fun i => (ch >>> i) % 2
theorem burst_len (ch m : Nat) : (burst ch m).length = m := by simp [burst]
theorem burst_all1 (ch m : Nat) : all1 (burst ch m) := by
  intro x hx
  obtain ⟨i, _, rfl⟩ := List.mem_map.1 hx
  omega
theorem burst_get (ch m i : Nat) (hi : i < m) : (burst ch m)[i]?.getD 0 = (ch >>> i) % 2 := by
  unfold burst
  rw [List.getElem?_map, List.getElem?_range hi]
  rfl
/-- The changes of the first m places from place p on, in a string of n. -/
def mask (n p ch m : Nat) : List Nat := List.replicate p 0 ++ (burst ch m ++ List.replicate (n - p - m) 0)
theorem mask_len {n p ch m : Nat} (h : p + m ≤ n) : (mask n p ch m).length = n := by unfold mask; simp [burst_len]; omega
theorem mask_get {n p ch m j : Nat} (h : p + m ≤ n) (hj : j < n) : (mask n p ch m)[j]?.getD 0 = if p ≤ j ∧ j < p + m then (ch >>> (j - p)) % 2 else 0 := by
  unfold mask
  by_cases h1 : j < p
  · rw [if_neg (by omega), List.getElem?_append_left (by simpa using h1), List.getElem?_replicate, if_pos h1]; rfl
  · rw [List.getElem?_append_right (by simpa using h1), List.length_replicate]
    by_cases h2 : j < p + m
    · rw [if_pos (by omega), List.getElem?_append_left (by rw [burst_len]; omega), burst_get _ _ _ (by omega)]
    · rw [if_neg (by omega), List.getElem?_append_right (by rw [burst_len]; omega), burst_len, List.getElem?_replicate, if_pos (by omega)]; rfl
theorem mask_rg {n p ch m : Nat} (hm : m ≤ 24) : (rg (mask n p ch m) = 0) ↔ ∀ i, i < m → (ch >>> i) % 2 = 0 := by
  unfold mask
  rw [rg_pad, rg_tail]
  constructor
  · intro h i hi
    have h0 := Fi_inj (rg_lt (burst_all1 ch m)) h
    rw [rg_vl (burst_all1 ch m) (by rw [burst_len]; exact hm)] at h0
    have := vl_zero h0 ((ch >>> i) % 2) (List.mem_map.2 ⟨i, List.mem_range.2 hi, rfl⟩)
    exact this
  · intro h
    have hb : burst ch m = List.replicate m 0 := by
      apply get_ext
      · rw [burst_len, List.length_replicate]
      · intro i hi
        rw [burst_len] at hi
        rw [burst_get _ _ _ hi, h i hi, List.getElem?_replicate, if_pos hi]
        rfl
    rw [hb, rg_zeros, Fi_zero]
/-- The string with its first k changes. -/
def chL (xs : List Nat) (p ch k : Nat) : List Nat := xr xs (mask xs.length p ch k)
def chB (ch k : Nat) : Bool := (List.range k).any fun i => (ch >>> i) % 2 == 1
theorem chL_zero (xs : List Nat) (p ch : Nat) (hp : p ≤ xs.length) : chL xs p ch 0 = xs := by
  unfold chL
  apply get_ext
  · rw [xr_len (by rw [mask_len (by omega)])]
  · intro i hi
    rw [xr_len (by rw [mask_len (by omega)])] at hi
    rw [xr_get (by rw [mask_len (by omega)]), mask_get (by omega) hi, if_neg (by omega), Nat.xor_zero]
theorem chL_len {xs : List Nat} {p ch k : Nat} (h : p + k ≤ xs.length) : (chL xs p ch k).length = xs.length := xr_len (by rw [mask_len h])
theorem chL_get {xs : List Nat} {p ch k j : Nat} (h : p + k ≤ xs.length) (hj : j < xs.length) : (chL xs p ch k)[j]?.getD 0 = xs[j]?.getD 0 ^^^ (if p ≤ j ∧ j < p + k then (ch >>> (j - p)) % 2 else 0) := by
  unfold chL
  rw [xr_get (by rw [mask_len h]), mask_get h hj]
theorem one_sub {x : Nat} (h : x ≤ 1) : x ^^^ 1 = 1 - x := by
  have : x = 0 ∨ x = 1 := by omega
  rcases this with rfl | rfl <;> rfl
theorem chL_no {xs : List Nat} {p ch k : Nat} (h : p + (k + 1) ≤ xs.length) (h0 : (ch >>> k) % 2 ≠ 1) : chL xs p ch (k + 1) = chL xs p ch k := by
  apply get_ext
  · rw [chL_len h, chL_len (by omega)]
  · intro j hj
    rw [chL_len h] at hj
    rw [chL_get h hj, chL_get (by omega) hj]
    by_cases e : j = p + k
    · subst e
      rw [if_pos (by omega), if_neg (by omega), show p + k - p = k by omega, show (ch >>> k) % 2 = 0 by omega]
    · by_cases h1 : p ≤ j ∧ j < p + k
      · rw [if_pos h1, if_pos (by omega)]
      · rw [if_neg h1, if_neg (by omega)]
theorem chL_yes {xs : List Nat} {p ch k : Nat} (h : p + (k + 1) ≤ xs.length) (h0 : (ch >>> k) % 2 = 1) (ha : all1 xs) : chL xs p ch (k + 1) = (chL xs p ch k).set (p + k) (1 - xs[p + k]?.getD 0) := by
  have hx : xs[p + k]?.getD 0 ≤ 1 := by rw [List.getElem?_eq_getElem (by omega)]; exact ha _ (List.getElem_mem _)
  apply get_ext
  · rw [chL_len h, List.length_set, chL_len (by omega)]
  · intro j hj
    rw [chL_len h] at hj
    rw [chL_get h hj, List.getElem?_set]
    by_cases e : p + k = j
    · subst e
      rw [if_pos (show p ≤ p + k ∧ p + k < p + (k + 1) by omega), if_pos rfl, if_pos (by rw [chL_len (by omega)]; omega), show p + k - p = k by omega, h0, one_sub hx]
      rfl
    · rw [if_neg e, chL_get (by omega) hj]
      by_cases h1 : p ≤ j ∧ j < p + k
      · rw [if_pos h1, if_pos (by omega)]
      · rw [if_neg h1, if_neg (by omega)]
theorem chL_cur {xs : List Nat} {p ch k : Nat} (h : p + (k + 1) ≤ xs.length) : (chL xs p ch k)[p + k]?.getD 0 = xs[p + k]?.getD 0 := by
  rw [chL_get (by omega) (by omega), if_neg (by omega), Nat.xor_zero]
theorem chL_all1 {xs : List Nat} (ha : all1 xs) (p ch k : Nat) : all1 (chL xs p ch k) := by
  refine xr_all1 ha (all1_cat ?_ (all1_cat (burst_all1 _ _) ?_)) <;> exact fun x hx => by rw [List.eq_of_mem_replicate hx]; decide
theorem chB_succ (ch k : Nat) : chB ch (k + 1) = (chB ch k || (ch >>> k) % 2 == 1) := by unfold chB; rw [List.range_succ, List.any_append]; simp
/-- Changing bits that lie within 24 places changes the remainder. -/
theorem burst_law {xs : List Nat} {p ch k : Nat} (h : p + k ≤ xs.length) (hk : k ≤ 24) : (rg (chL xs p ch k) != rg xs) = chB ch k := by
  have e : rg (chL xs p ch k) = rg xs ^^^ rg (mask xs.length p ch k) := rg_lin (by rw [mask_len h])
  rw [e]
  have hz := mask_rg (n := xs.length) (p := p) (ch := ch) hk
  by_cases h0 : rg (mask xs.length p ch k) = 0
  · rw [h0, Nat.xor_zero, bne_self_eq_false]
    unfold chB
    symm
    rw [List.any_eq_false]
    intro i hi
    have := hz.1 h0 i (List.mem_range.1 hi)
    simp; omega
  · have hne : rg xs ^^^ rg (mask xs.length p ch k) ≠ rg xs := fun hh => h0 (by
      have := congrArg (fun n => rg xs ^^^ n) hh
      simp only [← Nat.xor_assoc, Nat.xor_self, Nat.zero_xor] at this
      exact this)
    rw [bne_iff_ne.2 hne]
    symm
    unfold chB
    rw [List.any_eq_true]
    apply Decidable.byContradiction
    intro hn
    refine h0 (hz.2 (fun i hi => ?_))
    have : ¬ (ch >>> i) % 2 = 1 := fun h1 => hn ⟨i, List.mem_range.2 hi, by simp [h1]⟩
    omega
end ParityMath
