/-
  Plain laws of layer 2 (parity): long division. No program in sight.
-/
import Derived.Test.YtpfohhmhadjdpaaParLaw
namespace ParityMath
open BitsMath

/-- Coefficient k of the divisor, the highest first. -/
def gB (k : Nat) : Nat := (33551369 >>> (24 - k)) &&& 1
theorem gB_le (k : Nat) : gB k ≤ 1 := and1_le _
/-- The divisor's first m coefficients, from place i on, in n places. -/
def gM (n i m : Nat) : List Nat := List.replicate i 0 ++ ((List.range m).map gB ++ List.replicate (n - i - m) 0)
theorem gM_len {n i m : Nat} (h : i + m ≤ n) : (gM n i m).length = n := by unfold gM; simp; omega
theorem gM_get {n i m j : Nat} (h : i + m ≤ n) (hj : j < n) : (gM n i m)[j]?.getD 0 = if i ≤ j ∧ j < i + m then gB (j - i) else 0 := by
  unfold gM
  by_cases h1 : j < i
  · rw [if_neg (by omega), List.getElem?_append_left (by simpa using h1), List.getElem?_replicate, if_pos h1]; rfl
  · rw [List.getElem?_append_right (by simpa using h1), List.length_replicate]
    by_cases h2 : j < i + m
    · rw [if_pos (by omega), List.getElem?_append_left (by simp; omega), List.getElem?_map, List.getElem?_range (by omega)]; rfl
    · rw [if_neg (by omega), List.getElem?_append_right (by simp; omega), List.length_map, List.length_range, List.getElem?_replicate, if_pos (by omega)]; rfl
theorem gM_all1 (n i m : Nat) : all1 (gM n i m) := by
  refine all1_cat (fun x hx => by rw [List.eq_of_mem_replicate hx]; decide) (all1_cat (fun x hx => ?_) (fun x hx => by rw [List.eq_of_mem_replicate hx]; decide))
  obtain ⟨k, _, rfl⟩ := List.mem_map.1 hx
  exact gB_le k
theorem gM_rg {n i : Nat} : rg (gM n i 25) = 0 := by
  unfold gM
  rw [rg_pad, rg_tail, show rg ((List.range 25).map gB) = 0 from by decide, Fi_zero]
/-- The string with the divisor's first m coefficients taken away from place i on. -/
def xg (W : List Nat) (i m : Nat) : List Nat := xr W (gM W.length i m)
theorem xg_len {W : List Nat} {i m : Nat} (h : i + m ≤ W.length) : (xg W i m).length = W.length := xr_len (by rw [gM_len h])
theorem xg_all1 {W : List Nat} (h : all1 W) (i m : Nat) : all1 (xg W i m) := xr_all1 h (gM_all1 _ _ _)
theorem xg_get {W : List Nat} {i m j : Nat} (h : i + m ≤ W.length) (hj : j < W.length) : (xg W i m)[j]?.getD 0 = W[j]?.getD 0 ^^^ (if i ≤ j ∧ j < i + m then gB (j - i) else 0) := by
  unfold xg
  rw [xr_get (by rw [gM_len h]), gM_get h hj]
theorem xg_zero {W : List Nat} {i : Nat} (h : i ≤ W.length) : xg W i 0 = W := by
  apply get_ext
  · rw [xg_len (by omega)]
  · intro j hj
    rw [xg_len (by omega)] at hj
    rw [xg_get (by omega) hj, if_neg (by omega), Nat.xor_zero]
theorem xg_succ {W : List Nat} {i m : Nat} (h : i + (m + 1) ≤ W.length) : xg W i (m + 1) = (xg W i m).set (i + m) ((xg W i m)[i + m]?.getD 0 ^^^ gB m) := by
  apply get_ext
  · rw [xg_len h, List.length_set, xg_len (by omega)]
  · intro j hj
    rw [xg_len h] at hj
    rw [xg_get h hj, List.getElem?_set]
    by_cases e : i + m = j
    · subst e
      rw [if_pos (show i ≤ i + m ∧ i + m < i + (m + 1) by omega), if_pos rfl, if_pos (by rw [xg_len (by omega)]; omega), xg_get (by omega) (by omega), if_neg (by omega), Nat.xor_zero, show i + m - i = m by omega]
      rfl
    · rw [if_neg e, xg_get (by omega) hj]
      by_cases h1 : i ≤ j ∧ j < i + m
      · rw [if_pos h1, if_pos (by omega)]
      · rw [if_neg h1, if_neg (by omega)]
/-- Behind i places of the division: nothing is left of them, the remainder is as it was. -/
structure Dv (xs W : List Nat) (i : Nat) : Prop where
  len : W.length = xs.length + 24
  one : all1 W
  rem : rg W = rg (xs ++ List.replicate 24 0)
  zero : ∀ j, j < i → W[j]?.getD 0 = 0
theorem dv_start {xs : List Nat} (h : all1 xs) : Dv xs (xs ++ List.replicate 24 0) 0 :=
  ⟨by simp, all1_cat h (fun x hx => by rw [List.eq_of_mem_replicate hx]; decide), rfl, fun j hj => by omega⟩
theorem dv_no {xs W : List Nat} {i : Nat} (h : Dv xs W i) (h0 : W[i]?.getD 0 ≠ 1) (hi : i < xs.length) : Dv xs W (i + 1) := by
  refine ⟨h.len, h.one, h.rem, fun j hj => ?_⟩
  by_cases e : j = i
  · subst e
    have : W[j]?.getD 0 ≤ 1 := by rw [List.getElem?_eq_getElem (by have := h.len; omega)]; exact h.one _ (List.getElem_mem _)
    omega
  · exact h.zero j (by omega)
theorem dv_yes {xs W : List Nat} {i : Nat} (h : Dv xs W i) (h0 : W[i]?.getD 0 = 1) (hi : i < xs.length) : Dv xs (xg W i 25) (i + 1) := by
  have hl := h.len
  refine ⟨by rw [xg_len (by omega)]; exact hl, xg_all1 h.one _ _, ?_, fun j hj => ?_⟩
  · unfold xg
    rw [rg_lin (by rw [gM_len (by omega)]), gM_rg, Nat.xor_zero]
    exact h.rem
  · rw [xg_get (by omega) (by omega)]
    by_cases e : j = i
    · subst e
      rw [if_pos (by omega), h0, Nat.sub_self]
      rfl
    · rw [if_neg (by omega), Nat.xor_zero]
      exact h.zero j (by omega)
/-- At the end the last 24 places hold the remainder. -/
theorem dv_end {xs W : List Nat} (hx : all1 xs) (h : Dv xs W xs.length) : vl (W.drop xs.length) = remN xs := by
  have hl := h.len
  have hs : W = List.replicate xs.length 0 ++ W.drop xs.length := by
    apply get_ext
    · simp; omega
    · intro j hj
      by_cases e : j < xs.length
      · rw [h.zero j e, List.getElem?_append_left (by simpa using e), List.getElem?_replicate, if_pos e]; rfl
      · rw [List.getElem?_append_right (by simpa using e), List.length_replicate, List.getElem?_drop, show xs.length + (j - xs.length) = j by omega]
  have h1 : all1 (W.drop xs.length) := fun x hx => h.one x (List.mem_of_mem_drop hx)
  have e : rg W = rg (W.drop xs.length) := by
    have := rg_pad xs.length (W.drop xs.length)
    rw [← hs] at this
    exact this
  rw [remN_tail hx, ← h.rem, e, rg_vl h1 (by rw [List.length_drop]; omega)]
end ParityMath
