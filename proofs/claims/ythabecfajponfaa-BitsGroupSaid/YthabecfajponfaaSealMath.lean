/-
  Plain laws of layer 2 (parity): sealed strings, changed strings. No program in sight.
-/
import Derived.Test.YthabecfajponfaaPutMath
namespace ParityMath
open BitsMath

/-- The lowest k bits of a number, the highest first. -/
def bitsL (v k : Nat) : List Nat := (List.range k).map fun i => (v >>> (k - 1 - i)) &&& 1
theorem bitsL_len (v k : Nat) : (bitsL v k).length = k := by simp [bitsL]
theorem bitsL_all1 (v k : Nat) : all1 (bitsL v k) := by
  intro x hx
  obtain ⟨i, _, rfl⟩ := List.mem_map.1 hx
  exact and1_le _
theorem bitsL_succ (v k : Nat) : bitsL v (k + 1) = bitsL (v >>> 1) k ++ [v &&& 1] := by
  unfold bitsL
  rw [List.range_succ, List.map_append, List.map_singleton]
  congr 1
  · apply List.map_congr_left
    intro i hi
    have := List.mem_range.1 hi
    rw [← Nat.shiftRight_add, show 1 + (k - 1 - i) = k + 1 - 1 - i by omega]
  · rw [show k + 1 - 1 - k = 0 by omega]; rfl
theorem vl_bits (k : Nat) : ∀ v, vl (bitsL v k) = v % 2 ^ k := by
  induction k with
  | zero => intro v; rw [Nat.pow_zero, Nat.mod_one]; rfl
  | succ k ih =>
    intro v
    rw [bitsL_succ, vl_snoc, ih, Nat.and_one_is_mod, Nat.shiftRight_eq_div_pow, Nat.pow_one, Nat.pow_succ, Nat.mul_comm (2 ^ k) 2, Nat.mod_mul]
    omega
theorem get_ext {xs ys : List Nat} (hl : xs.length = ys.length) (h : ∀ i, i < xs.length → xs[i]?.getD 0 = ys[i]?.getD 0) : xs = ys := by
  apply List.ext_getElem hl
  intro i h1 h2
  have := h i h1
  simpa [List.getElem?_eq_getElem h1, List.getElem?_eq_getElem h2] using this
theorem put_pad (xs : List Nat) (k v : Nat) : putL (xs ++ List.replicate k 0) xs.length k v = xs ++ bitsL v k := by
  apply get_ext
  · rw [putL_len]; simp [bitsL_len]
  · intro i hi
    rw [putL_len, List.length_append, List.length_replicate] at hi
    rw [putL_get _ _ _ _ (by simp) i (by simpa using hi)]
    by_cases h : i < xs.length
    · rw [if_neg (by omega), List.getElem?_append_left h, List.getElem?_append_left h]
    · rw [if_pos (by omega), List.getElem?_append_right (by omega)]
      unfold bitsL
      rw [List.getElem?_map, List.getElem?_range (by omega)]
      show _ = (v >>> (k - 1 - (i - xs.length))) &&& 1
      rw [show xs.length + k - 1 - i = k - 1 - (i - xs.length) by omega]
/-- The address of a sealed string is the address with which it was sealed. -/
theorem adr_seal {xs : List Nat} (h : all1 xs) (A : Nat) (hA : A < 2 ^ 24) : adr (xs ++ bitsL (remN xs ^^^ A) 24) = A := by
  have hx : remN xs ^^^ A < 2 ^ 24 := Nat.xor_lt_two_pow (remN_lt h) hA
  rw [adr_app (bitsL_len _ _), vl_bits, Nat.mod_eq_of_lt hx, ← Nat.xor_assoc, Nat.xor_self, Nat.zero_xor]
theorem all1_cat {xs ys : List Nat} (h : all1 xs) (k : all1 ys) : all1 (xs ++ ys) := by
  intro x hx
  rcases List.mem_append.1 hx with h1 | h1
  · exact h x h1
  · exact k x h1
end ParityMath
