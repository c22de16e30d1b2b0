/-
  Plain laws of layer 2 (parity): remainders of bit strings, as a register and as a polynomial's remainder. No program in sight.
-/
import Derived.Test.YthabecfajponfaaBitsMath
namespace ParityMath
open BitsMath

/-- Times x. -/
def F (r : Nat) : Nat := ((r <<< 1) &&& 16777215) ^^^ (if r.testBit 23 then 16774153 else 0)
def Fi : Nat → Nat → Nat
  | 0, r => r
  | k + 1, r => F (Fi k r)
theorem F_zero : F 0 = 0 := by decide
theorem F_lt (r : Nat) : F r < 2 ^ 24 := by
  unfold F
  refine Nat.xor_lt_two_pow (Nat.and_lt_two_pow _ (by decide)) ?_
  split <;> decide
theorem F_lin (r s : Nat) : F (r ^^^ s) = F r ^^^ F s := by
  unfold F
  rw [Nat.shiftLeft_xor_distrib, Nat.and_xor_distrib_right, Nat.testBit_xor]
  generalize r <<< 1 &&& 16777215 = a
  generalize s <<< 1 &&& 16777215 = b
  cases r.testBit 23 <;> cases s.testBit 23
  · simp
  · simp [Nat.xor_assoc]
  · simp only [Bool.true_bne, Bool.not_false, if_true, Bool.false_eq_true, if_false, Nat.xor_zero]
    rw [Nat.xor_assoc, Nat.xor_assoc, Nat.xor_comm b]
  · simp only [bne_self_eq_false, Bool.false_eq_true, if_false, if_true, Nat.xor_zero]
    rw [Nat.xor_assoc, Nat.xor_comm 16774153, Nat.xor_assoc, Nat.xor_self, Nat.xor_zero]
theorem F_inj {r : Nat} (hr : r < 2 ^ 24) (h : F r = 0) : r = 0 := by
  unfold F at h
  have h0 : (r <<< 1 &&& 16777215).testBit 0 = false := by
    rw [Nat.testBit_and, Nat.testBit_shiftLeft]
    simp
  cases hb : r.testBit 23 with
  | true =>
    rw [hb, if_pos rfl] at h
    have := congrArg (fun n : Nat => n.testBit 0) h
    simp only [Nat.testBit_xor, h0] at this
    exact absurd this (by decide)
  | false =>
    rw [hb, if_neg (by decide), Nat.xor_zero, show (16777215 : Nat) = 2 ^ 24 - 1 from rfl, Nat.and_two_pow_sub_one_eq_mod, Nat.shiftLeft_eq] at h
    have hlt : r < 2 ^ 23 := by
      rw [Nat.testBit_eq_decide_div_mod_eq] at hb
      have := of_decide_eq_false hb
      omega
    omega
theorem Fi_zero (k : Nat) : Fi k 0 = 0 := by
  induction k with
  | zero => rfl
  | succ k ih => show F (Fi k 0) = 0; rw [ih]; rfl
theorem Fi_lin (k r s : Nat) : Fi k (r ^^^ s) = Fi k r ^^^ Fi k s := by
  induction k with
  | zero => rfl
  | succ k ih => show F _ = F _ ^^^ F _; rw [ih, F_lin]
theorem Fi_F (k r : Nat) : Fi k (F r) = F (Fi k r) := by
  induction k with
  | zero => rfl
  | succ k ih => show F (Fi k (F r)) = _; rw [ih]; rfl
theorem Fi_lt {k r : Nat} (h : r < 2 ^ 24) : Fi k r < 2 ^ 24 := by
  cases k with
  | zero => exact h
  | succ k => exact F_lt _
theorem Fi_inj {k r : Nat} (hr : r < 2 ^ 24) (h : Fi k r = 0) : r = 0 := by
  induction k with
  | zero => exact h
  | succ k ih => exact ih (F_inj (Fi_lt hr) h)

/-- The remainder of a string: its first bit is the highest coefficient. -/
def rg (xs : List Nat) : Nat := xs.foldl (fun r x => F r ^^^ x) 0
theorem rg_nil : rg [] = 0 := rfl
theorem rg_snoc (xs : List Nat) (x : Nat) : rg (xs ++ [x]) = F (rg xs) ^^^ x := by simp [rg]
theorem snoc_ind {P : List Nat → Prop} (h0 : P []) (h1 : ∀ xs x, P xs → P (xs ++ [x])) : ∀ xs, P xs := by
  intro xs
  have : ∀ ys : List Nat, P ys.reverse := by
    intro ys
    induction ys with
    | nil => exact h0
    | cons y ys ih => rw [List.reverse_cons]; exact h1 _ _ ih
  have h := this xs.reverse
  rwa [List.reverse_reverse] at h
theorem rg_app (xs ys : List Nat) : rg (xs ++ ys) = Fi ys.length (rg xs) ^^^ rg ys := by
  induction ys using snoc_ind with
  | h0 => simp [rg_nil, Fi]
  | h1 ys y ih =>
    rw [← List.append_assoc, rg_snoc, rg_snoc, ih, F_lin, List.length_append, Nat.xor_assoc]
    rfl
def all1 (xs : List Nat) : Prop := ∀ x ∈ xs, x ≤ 1
theorem all1_app {xs ys : List Nat} (h : all1 (xs ++ ys)) : all1 xs ∧ all1 ys := ⟨fun x hx => h x (by simp [hx]), fun x hx => h x (by simp [hx])⟩
theorem le1_lt {x : Nat} (h : x ≤ 1) : x < 2 ^ 24 := by omega
theorem rg_lt {xs : List Nat} (h : all1 xs) : rg xs < 2 ^ 24 := by
  induction xs using snoc_ind with
  | h0 => decide
  | h1 xs x ih =>
    rw [rg_snoc]
    exact Nat.xor_lt_two_pow (F_lt _) (le1_lt (h x (by simp)))
theorem rg_zeros (k : Nat) : rg (List.replicate k 0) = 0 := by
  induction k with
  | zero => rfl
  | succ k ih => rw [List.replicate_succ', rg_snoc, ih]; rfl
theorem rg_pad (k : Nat) (xs : List Nat) : rg (List.replicate k 0 ++ xs) = rg xs := by rw [rg_app, rg_zeros, Fi_zero, Nat.zero_xor]
theorem rg_tail (k : Nat) (xs : List Nat) : rg (xs ++ List.replicate k 0) = Fi k (rg xs) := by rw [rg_app, rg_zeros, Nat.xor_zero, List.length_replicate]

/-- The value by doubling. -/
def vl (xs : List Nat) : Nat := xs.foldl (fun r x => 2 * r + x) 0
theorem vl_snoc (xs : List Nat) (x : Nat) : vl (xs ++ [x]) = 2 * vl xs + x := by simp [vl]
theorem vl_lt {xs : List Nat} (h : all1 xs) : vl xs < 2 ^ xs.length := by
  induction xs using snoc_ind with
  | h0 => decide
  | h1 xs x ih =>
    have := ih (all1_app h).1
    have := h x (by simp)
    rw [vl_snoc, List.length_append, List.length_singleton, Nat.pow_succ]
    omega
theorem F_small {r : Nat} (h : r < 2 ^ 23) : F r = 2 * r := by
  unfold F
  have hb : r.testBit 23 = false := Nat.testBit_lt_two_pow h
  rw [hb, if_neg (by decide), Nat.xor_zero, show (16777215 : Nat) = 2 ^ 24 - 1 from rfl, Nat.and_two_pow_sub_one_eq_mod, Nat.shiftLeft_eq]
  omega
theorem dbl_xor {r x : Nat} (h : x ≤ 1) : (2 * r) ^^^ x = 2 * r + x := by
  have : x = 0 ∨ x = 1 := by omega
  rcases this with rfl | rfl
  · simp
  · apply Nat.eq_of_testBit_eq
    intro i
    rw [Nat.testBit_xor]
    cases i with
    | zero => simp
    | succ i =>
      rw [Nat.testBit_succ, Nat.testBit_succ, Nat.testBit_succ]
      simp
      rw [show (2 * r + 1) / 2 = r by omega]
/-- A string of 24 bits at most is its own remainder. -/
theorem rg_vl {xs : List Nat} (h : all1 xs) (hl : xs.length ≤ 24) : rg xs = vl xs := by
  induction xs using snoc_ind with
  | h0 => rfl
  | h1 xs x ih =>
    have h1 := (all1_app h).1
    have hx := h x (by simp)
    rw [List.length_append, List.length_singleton] at hl
    have hv := vl_lt h1
    have hp : (2 : Nat) ^ xs.length ≤ 2 ^ 23 := Nat.pow_le_pow_right (by decide) (by omega)
    rw [rg_snoc, vl_snoc, ih h1 (by omega), F_small (by omega), dbl_xor hx]

/-- One bit into the register. -/
def stepN (r x : Nat) : Nat := if ((r >>> 23) &&& 1) ^^^ x = 1 then ((r <<< 1) &&& 16777215) ^^^ 16774153 else (r <<< 1) &&& 16777215
def remN (xs : List Nat) : Nat := xs.foldl stepN 0
theorem remN_snoc (xs : List Nat) (x : Nat) : remN (xs ++ [x]) = stepN (remN xs) x := by simp [remN]
theorem stepN_F (r x : Nat) (h : x ≤ 1) : stepN r x = F (r ^^^ x <<< 23) := by
  rw [F_lin]
  have hx : F (x <<< 23) = if x = 1 then 16774153 else 0 := by
    have : x = 0 ∨ x = 1 := by omega
    rcases this with rfl | rfl <;> decide
  rw [hx]
  unfold stepN F
  have ht : (r >>> 23) &&& 1 = (r.testBit 23).toNat := by
    rw [Nat.and_one_is_mod, Nat.shiftRight_eq_div_pow, Nat.testBit_eq_decide_div_mod_eq]
    have : r / 2 ^ 23 % 2 = 0 ∨ r / 2 ^ 23 % 2 = 1 := by omega
    rcases this with h | h <;> rw [h] <;> rfl
  rw [ht]
  have : x = 0 ∨ x = 1 := by omega
  rcases this with rfl | rfl <;> cases r.testBit 23 <;> simp [Nat.xor_assoc]
theorem stepN_lt (r x : Nat) (h : x ≤ 1) : stepN r x < 2 ^ 24 := by rw [stepN_F r x h]; exact F_lt _
theorem remN_lt {xs : List Nat} (h : all1 xs) : remN xs < 2 ^ 24 := by
  induction xs using snoc_ind with
  | h0 => decide
  | h1 xs x ih => rw [remN_snoc]; exact stepN_lt _ _ (h x (by simp))
theorem remN_Fi {xs : List Nat} (h : all1 xs) : remN xs = Fi 24 (rg xs) := by
  induction xs using snoc_ind with
  | h0 => rw [rg_nil, Fi_zero]; rfl
  | h1 xs x ih =>
    have hx := h x (by simp)
    have h24 : Fi 24 x = F (x <<< 23) := by
      have : x = 0 ∨ x = 1 := by omega
      rcases this with rfl | rfl <;> decide
    rw [remN_snoc, stepN_F _ _ hx, ih (all1_app h).1, rg_snoc, Fi_lin, Fi_F, F_lin, h24]
theorem remN_tail {xs : List Nat} (h : all1 xs) : remN xs = rg (xs ++ List.replicate 24 0) := by rw [rg_tail, remN_Fi h]
/-- The address: the remainder of all but the last 24 bits, xor the value of the last 24. -/
def adr (xs : List Nat) : Nat := remN (xs.take (xs.length - 24)) ^^^ vl (xs.drop (xs.length - 24))
theorem adr_rg {xs : List Nat} (h : all1 xs) (hl : 24 ≤ xs.length) : adr xs = rg xs := by
  unfold adr
  have hs : all1 (xs.take (xs.length - 24) ++ xs.drop (xs.length - 24)) := by rw [List.take_append_drop]; exact h
  have e := rg_app (xs.take (xs.length - 24)) (xs.drop (xs.length - 24))
  rw [List.take_append_drop] at e
  have hd : (xs.drop (xs.length - 24)).length = 24 := by rw [List.length_drop]; omega
  rw [e, hd, remN_Fi (all1_app hs).1, rg_vl (all1_app hs).2 (by omega)]
theorem adr_app {xs ys : List Nat} (h : ys.length = 24) : adr (xs ++ ys) = remN xs ^^^ vl ys := by
  unfold adr
  rw [List.length_append, h, Nat.add_sub_cancel, List.take_left, List.drop_left]

/-- The sum of two strings of one length. -/
def xr (xs ys : List Nat) : List Nat := List.zipWith (· ^^^ ·) xs ys
theorem xr_len {xs ys : List Nat} (h : xs.length = ys.length) : (xr xs ys).length = xs.length := by simp [xr, h]
theorem xor_le1 {x y : Nat} (h : x ≤ 1) (k : y ≤ 1) : x ^^^ y ≤ 1 := by
  have : x = 0 ∨ x = 1 := by omega
  have : y = 0 ∨ y = 1 := by omega
  rcases ‹x = 0 ∨ x = 1› with rfl | rfl <;> rcases ‹y = 0 ∨ y = 1› with rfl | rfl <;> decide
theorem xr_all1 {xs ys : List Nat} (h : all1 xs) (k : all1 ys) : all1 (xr xs ys) := by
  induction xs generalizing ys with
  | nil => intro x hx; simp [xr] at hx
  | cons x xs ih =>
    cases ys with
    | nil => intro x hx; simp [xr] at hx
    | cons y ys =>
      intro z hz
      simp only [xr, List.zipWith_cons_cons, List.mem_cons] at hz
      rcases hz with rfl | hz
      · exact xor_le1 (h x (by simp)) (k y (by simp))
      · exact ih (fun a ha => h a (by simp [ha])) (fun a ha => k a (by simp [ha])) z hz
theorem xor4 (a b c d : Nat) : (a ^^^ b) ^^^ (c ^^^ d) = (a ^^^ c) ^^^ (b ^^^ d) := by
  rw [Nat.xor_assoc, Nat.xor_assoc, ← Nat.xor_assoc b, Nat.xor_comm b c, Nat.xor_assoc c]
theorem rgl_lin : ∀ (xs ys : List Nat) (r s : Nat), xs.length = ys.length → (xr xs ys).foldl (fun r x => F r ^^^ x) (r ^^^ s) = xs.foldl (fun r x => F r ^^^ x) r ^^^ ys.foldl (fun r x => F r ^^^ x) s
  | [], [], r, s, _ => rfl
  | x :: xs, y :: ys, r, s, h => by
    show (xr xs ys).foldl _ (F (r ^^^ s) ^^^ (x ^^^ y)) = _
    rw [F_lin, xor4, rgl_lin xs ys _ _ (by simpa using h)]
    rfl
theorem rg_lin {xs ys : List Nat} (h : xs.length = ys.length) : rg (xr xs ys) = rg xs ^^^ rg ys := rgl_lin xs ys 0 0 h
end ParityMath
