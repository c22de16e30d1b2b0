/-
  Plain laws of layer 1 (bits): a field written. No program in sight.
-/
import Derived.Test.YthabecfajponfaaParityMath
namespace ParityMath
open BitsMath

theorem list_snoc_ind {α : Type} {P : List α → Prop} (h0 : P []) (h1 : ∀ xs x, P xs → P (xs ++ [x])) : ∀ xs, P xs := by
  intro xs
  have : ∀ ys : List α, P ys.reverse := by
    intro ys
    induction ys with
    | nil => exact h0
    | cons y ys ih => rw [List.reverse_cons]; exact h1 _ _ ih
  have h := this xs.reverse
  rwa [List.reverse_reverse] at h

def putS (p N v : Nat) (ys : List Nat) (j : Nat) : List Nat := ys.set (p + N - 1 - j) ((v >>> j) &&& 1)
def putF (xs : List Nat) (p N v : Nat) (js : List Nat) : List Nat := js.foldl (putS p N v) xs
/-- The string in which the field of N places from p on holds v. -/
def putL (xs : List Nat) (p N v : Nat) : List Nat := putF xs p N v (List.range N)
theorem putF_snoc (xs : List Nat) (p N v : Nat) (js : List Nat) (j : Nat) : putF xs p N v (js ++ [j]) = putS p N v (putF xs p N v js) j := by simp [putF]
theorem putF_len (xs : List Nat) (p N v : Nat) (js : List Nat) : (putF xs p N v js).length = xs.length := by
  induction js using list_snoc_ind with
  | h0 => rfl
  | h1 js j ih => rw [putF_snoc, putS, List.length_set, ih]
theorem putL_len (xs : List Nat) (p N v : Nat) : (putL xs p N v).length = xs.length := putF_len _ _ _ _ _
theorem putF_get (xs : List Nat) (p N v m : Nat) (hm : xs.length = m) (k : Nat) (hk : k ≤ N) (i : Nat) (hi : i < m) :
    (putF xs p N v (List.range k))[i]?.getD 0 = if p + N - k ≤ i ∧ i < p + N then (v >>> (p + N - 1 - i)) &&& 1 else xs[i]?.getD 0 := by
  induction k with
  | zero => rw [if_neg (by omega)]; rfl
  | succ k ih =>
    rw [List.range_succ, putF_snoc, putS, List.getElem?_set]
    by_cases e : p + N - 1 - k = i
    · rw [if_pos e, if_pos (by rw [putF_len]; omega), if_pos (by omega), show p + N - 1 - i = k by omega]
      rfl
    · rw [if_neg e, ih (by omega)]
      by_cases h : p + N - k ≤ i ∧ i < p + N
      · rw [if_pos h, if_pos (by omega)]
      · rw [if_neg h, if_neg (by omega)]
theorem putL_get (xs : List Nat) (p N v : Nat) (_hp : p + N ≤ xs.length) (i : Nat) (hi : i < xs.length) :
    (putL xs p N v)[i]?.getD 0 = if p ≤ i ∧ i < p + N then (v >>> (p + N - 1 - i)) &&& 1 else xs[i]?.getD 0 := by
  have := putF_get xs p N v xs.length rfl N (Nat.le_refl _) i hi
  rwa [show p + N - N = p by omega] at this
theorem and1_le (x : Nat) : x &&& 1 ≤ 1 := by have := Nat.and_lt_two_pow (n := 1) x (y := 1) (by decide); omega
theorem putL_all1 {xs : List Nat} (h : all1 xs) (p N v : Nat) (hp : p + N ≤ xs.length) : all1 (putL xs p N v) := by
  intro x hx
  obtain ⟨i, hi, rfl⟩ := List.getElem_of_mem hx
  rw [putL_len] at hi
  have := putL_get xs p N v hp i hi
  rw [List.getElem?_eq_getElem (by rw [putL_len]; exact hi)] at this
  rw [Option.getD_some] at this
  rw [this]
  split
  · exact and1_le _
  · rw [List.getElem?_eq_getElem hi]; exact h _ (List.getElem_mem hi)
end ParityMath
