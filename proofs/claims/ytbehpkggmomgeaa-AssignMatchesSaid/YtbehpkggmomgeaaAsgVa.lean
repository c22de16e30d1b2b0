/-
  Layer 19 (assign): sets of columns as numbers; the reference's table. No program in sight.
-/
import Derived.Test.YtbehpkggmomgeaaAsgMathD
import Derived.Test.YtbehpkggmomgeaaAsgRows
namespace AsgMath
open AsgRows

/-- The columns of a number. -/
def bitsT (u : Nat) : Nat → Bool := fun k => decide (u / 2 ^ k % 2 = 1)
theorem bitsT_zero : bitsT 0 = fun _ => false := by
  funext k
  unfold bitsT
  rw [Nat.zero_div]
  rfl
/-- A column more. -/
theorem add_split {u k : Nat} (h : u / 2 ^ k % 2 = 0) : (u + 2 ^ k) / 2 ^ (k + 1) = u / 2 ^ (k + 1) ∧ (u + 2 ^ k) / 2 ^ k = u / 2 ^ k + 1 ∧ (u + 2 ^ k) % 2 ^ k = u % 2 ^ k := by
  have hp : 0 < 2 ^ k := Nat.two_pow_pos k
  refine ⟨?_, Nat.add_div_right u hp, Nat.add_mod_right u _⟩
  rw [Nat.pow_succ, ← Nat.div_div_eq_div_mul, ← Nat.div_div_eq_div_mul, Nat.add_div_right u hp]
  show (u / 2 ^ k + 1) / 2 = u / 2 ^ k / 2
  omega
theorem div_pow {u k j : Nat} (h : k ≤ j) : u / 2 ^ j = u / 2 ^ k / 2 ^ (j - k) := by
  rw [Nat.div_div_eq_div_mul, ← Nat.pow_add, Nat.add_sub_cancel' h]
theorem bitsT_set {u k : Nat} (h : u / 2 ^ k % 2 = 0) : bitsT (u + 2 ^ k) = setT (bitsT u) k := by
  obtain ⟨h1, h2, h3⟩ := add_split h
  funext j
  unfold setT
  by_cases e : j = k
  · subst e
    rw [if_pos rfl]
    unfold bitsT
    rw [h2, decide_eq_true (by omega)]
  · rw [if_neg e]
    unfold bitsT
    rcases Nat.lt_or_ge j k with q | q
    · have hd : ∀ x : Nat, x / 2 ^ j % 2 = x % 2 ^ k / 2 ^ j % 2 := fun x => by
        have e1 : 2 ^ k = 2 ^ j * 2 ^ (k - j) := by rw [← Nat.pow_add, Nat.add_sub_cancel' (Nat.le_of_lt q)]
        obtain ⟨d, hd⟩ : ∃ d, k - j = d + 1 := ⟨k - j - 1, by omega⟩
        have e2 : 2 ^ (k - j) = 2 * 2 ^ d := by rw [hd, Nat.pow_succ, Nat.mul_comm]
        rw [e1, Nat.mod_mul_right_div_self, e2, Nat.mod_mul_right_mod]
      rw [hd, h3, ← hd]
    · rw [div_pow (u := u + 2 ^ k) (k := k + 1) (j := j) (by omega), h1, ← div_pow (by omega)]
theorem bits_add_lt {u k m : Nat} (hu : u < 2 ^ m) (hk : k < m) (h : u / 2 ^ k % 2 = 0) : u + 2 ^ k < 2 ^ m := by
  have hp : 0 < 2 ^ (k + 1) := Nat.two_pow_pos _
  have h1 := (add_split h).1
  have e1 : 2 ^ m = 2 ^ (m - (k + 1)) * 2 ^ (k + 1) := by rw [← Nat.pow_add, Nat.sub_add_cancel (by omega)]
  rw [e1] at hu ⊢
  rw [← Nat.div_lt_iff_lt_mul hp] at hu ⊢
  rw [h1]
  exact hu
theorem pow_le9 {m : Nat} (h : m ≤ 9) : 2 ^ m ≤ 512 := Nat.pow_le_pow_right (n := 2) (by decide) h
/-- The value of the rows from i on. -/
def Vr (L : List (List Int)) (n m i u : Nat) : Int := V (ent L) n m (n - i) (bitsT u)
theorem Vr_last {L : List (List Int)} {n m u : Nat} : Vr L n m n u = 0 := by unfold Vr; rw [Nat.sub_self]; rfl
theorem Vr_bound {L : List (List Int)} {n m i u : Nat} (hn : n ≤ 16) (hc : ∀ i k, i < n → k < m → ent L i k ≤ 1048576) : 0 ≤ Vr L n m i u ∧ Vr L n m i u ≤ 17179869184 := by
  refine ⟨V_nonneg _ _, ?_⟩
  obtain ⟨P, C, h1, h2, h3, h4, h5⟩ := V_parts (c := ent L) (n := n) (m := m) hn hc (n - i) (bitsT u) (by omega)
  unfold Vr
  omega
/-- What the loop over the columns holds. -/
def Vk (L : List (List Int)) (n m i u k : Nat) : Int := bestK (fun k => 1073741824 - ent L i k + V (ent L) n m (n - (i + 1)) (setT (bitsT u) k)) (okB (ent L) (bitsT u) i) (V (ent L) n m (n - (i + 1)) (bitsT u)) k
theorem Vk_zero {L : List (List Int)} {n m i u : Nat} : Vk L n m i u 0 = Vr L n m (i + 1) u := rfl
theorem Vk_all {L : List (List Int)} {n m i u : Nat} (hi : i < n) : Vk L n m i u m = Vr L n m i u := by
  unfold Vr Vk
  have e : n - i = (n - (i + 1)) + 1 := by omega
  have e2 : n - ((n - (i + 1)) + 1) = i := by omega
  rw [e]
  simp only [V, e2]
theorem Vk_skip {L : List (List Int)} {n m i u k : Nat} (h : ¬ (0 ≤ ent L i k ∧ u / 2 ^ k % 2 = 0)) : Vk L n m i u (k + 1) = Vk L n m i u k := by
  unfold Vk
  simp only [bestK]
  rw [if_neg]
  intro hh
  obtain ⟨h1, h2⟩ := okB_iff.1 hh
  unfold bitsT at h2
  have := of_decide_eq_false h2
  exact h ⟨h1, by omega⟩
theorem Vk_take {L : List (List Int)} {n m i u k : Nat} (h0 : 0 ≤ ent L i k) (h : u / 2 ^ k % 2 = 0) : Vk L n m i u (k + 1) = max (Vk L n m i u k) (1073741824 - ent L i k + Vr L n m (i + 1) (u + 2 ^ k)) := by
  unfold Vk Vr
  simp only [bestK]
  rw [if_pos (okB_iff.2 ⟨h0, by unfold bitsT; exact decide_eq_false (by omega)⟩), bitsT_set h]
theorem Vk_bound {L : List (List Int)} {n m i u k : Nat} (hn : n ≤ 16) (hc : ∀ i k, i < n → k < m → ent L i k ≤ 1048576) : 0 ≤ Vk L n m i u k ∧ Vk L n m i u k ≤ 19000000000 := by
  refine ⟨Int.le_trans (V_nonneg _ _) (bestK_ge0 : V (ent L) n m (n - (i + 1)) (bitsT u) ≤ _), ?_⟩
  unfold Vk
  have hb : ∀ T, V (ent L) n m (n - (i + 1)) T ≤ 17179869184 := fun T => by
    obtain ⟨P, C, h1, h2, h3, h4, h5⟩ := V_parts (c := ent L) (n := n) (m := m) hn hc (n - (i + 1)) T (by omega)
    omega
  refine bestK_le (by have := hb (bitsT u); omega) (fun j hj hp => ?_)
  have := (okB_iff.1 hp).1
  have := hb (setT (bitsT u) j)
  show 1073741824 - ent L i j + V (ent L) n m (n - (i + 1)) (setT (bitsT u) j) ≤ _
  omega
/-- The test of the reference's Best. -/
theorem take_iff {L : List (List Int)} {n m i u k : Nat} (hi : i < n) (h0 : 0 ≤ ent L i k) (h : u / 2 ^ k % 2 = 0) : takeB (ent L) n m (n - (i + 1)) (bitsT u) k = true ↔ 1073741824 - ent L i k + Vr L n m (i + 1) (u + 2 ^ k) = Vr L n m i u := by
  have e : n - (i + 1) + 1 = n - i := by omega
  have e2 : n - (n - i) = i := by omega
  rw [takeB_iff, e, e2]
  unfold Vr
  rw [bitsT_set h]
  constructor
  · exact fun q => q.2
  · exact fun q => ⟨⟨h0, by unfold bitsT; exact decide_eq_false (by omega)⟩, q⟩
theorem take_no {L : List (List Int)} {n m i u k : Nat} (hi : i < n) (h : ¬ (0 ≤ ent L i k ∧ u / 2 ^ k % 2 = 0)) : takeB (ent L) n m (n - (i + 1)) (bitsT u) k = false := by
  have e : n - (i + 1) + 1 = n - i := by omega
  have e2 : n - (n - i) = i := by omega
  cases hb : takeB (ent L) n m (n - (i + 1)) (bitsT u) k with
  | false => rfl
  | true =>
    obtain ⟨⟨h1, h2⟩, -⟩ := takeB_iff.1 hb
    rw [e, e2] at h1
    unfold bitsT at h2
    have := of_decide_eq_false h2
    exact absurd ⟨h1, by omega⟩ h
end AsgMath
