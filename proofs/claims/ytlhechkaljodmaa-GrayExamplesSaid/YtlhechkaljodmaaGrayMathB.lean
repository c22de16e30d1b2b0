/-
  More plain laws of layer 3: neighbours. No program in sight.
-/
import Derived.Test.YtlhechkaljodmaaGrayMath
import Derived.Test.YtlhechkaljodmaaBitsLib
namespace GrayMath

theorem xor_half (a b : Nat) : (a ^^^ b) / 2 = a / 2 ^^^ b / 2 := by simpa using Nat.xor_div_two_pow (n := 1) (a := a) (b := b)
theorem xor_odd (a b : Nat) : (a ^^^ b) % 2 = (a % 2 + b % 2) % 2 := by
  have h := Nat.xor_mod_two_pow (n := 1) (a := a) (b := b)
  simp only [Nat.pow_one] at h
  rw [h]
  rcases Nat.mod_two_eq_zero_or_one a with h1 | h1 <;> rcases Nat.mod_two_eq_zero_or_one b with h2 | h2 <;> rw [h1, h2] <;> rfl

theorem gr_half (n : Nat) : gr n / 2 = gr (n / 2) := by unfold gr; rw [xor_half]
theorem gr_odd (n : Nat) : gr n % 2 = (n % 2 + n / 2 % 2) % 2 := by unfold gr; rw [xor_odd]

theorem gr_succ (n : Nat) : ∃ t, gr n ^^^ gr (n + 1) = 2 ^ t ∧ 2 ^ t ≤ n + 1 := by
  induction n using Nat.strongRecOn with
  | ind n ih =>
    have d : (gr n ^^^ gr (n + 1)) / 2 = gr (n / 2) ^^^ gr ((n + 1) / 2) := by rw [xor_half, gr_half, gr_half]
    have o := xor_odd (gr n) (gr (n + 1))
    rw [gr_odd, gr_odd] at o
    by_cases h : n % 2 = 0
    · refine ⟨0, ?_, by omega⟩
      rw [show (n + 1) / 2 = n / 2 by omega, Nat.xor_self] at d
      have : (gr n ^^^ gr (n + 1)) % 2 = 1 := by rw [o]; omega
      omega
    · obtain ⟨t, ht, hl⟩ := ih (n / 2) (by omega)
      refine ⟨t + 1, ?_, by rw [Nat.pow_succ]; omega⟩
      rw [show (n + 1) / 2 = n / 2 + 1 by omega, ht] at d
      have : (gr n ^^^ gr (n + 1)) % 2 = 0 := by rw [o]; omega
      rw [Nat.pow_succ]
      omega

/-- Two numbers whose xor is a power of two differ in one digit, as the law asks it. -/
theorem one_of_pow (a b t : Nat) (ht : t ≤ 62) (h : a ^^^ b = 2 ^ t) (ha : a < 2 ^ 63) (hb : b < 2 ^ 63) :
    Go.bits .xor .i64 (a : Int) (b : Int) = ((2 ^ t : Nat) : Int) ∧ Go.bits .and .i64 ((2 ^ t : Nat) : Int) (((2 ^ t : Nat) : Int) - 1) = 0 := by
  have hp : 0 < 2 ^ t := Nat.pow_pos (by decide)
  have hp2 : 2 ^ t ≤ 2 ^ 62 := Nat.pow_le_pow_right (by decide) ht
  constructor
  · rw [Go.MyBits.i64_xor_nat a b (by omega) (by omega), h]
  · rw [show (((2 ^ t : Nat) : Int) - 1) = ((2 ^ t - 1 : Nat) : Int) by omega, Go.MyBits.i64_and_nat _ _ (by omega) (by omega), Nat.and_two_pow_sub_one_eq_mod, Nat.mod_self]
    rfl

/-! Codes one step apart. -/
theorem fine_next (k : Nat) (h : k < 2048) : ∃ t, t ≤ 62 ∧ (4096 + gr k) ^^^ (4096 + gr (k + 1)) = 2 ^ t := by
  obtain ⟨t, ht, hl⟩ := gr_succ k
  have h1 := gr_lt k 12 (by omega)
  have h2 := gr_lt (k + 1) 12 (by omega)
  refine ⟨t, ?_, ?_⟩
  · have : 2 ^ t < 2 ^ 12 := by omega
    have := (Nat.pow_lt_pow_iff_right (by decide : 1 < 2)).1 this
    omega
  · have e1 : 4096 + gr k = 2 ^ 12 * 1 ||| gr k := Nat.two_pow_add_eq_or_of_lt (i := 12) (b := gr k) h1 1
    have e2 : 4096 + gr (k + 1) = 2 ^ 12 * 1 ||| gr (k + 1) := Nat.two_pow_add_eq_or_of_lt (i := 12) (b := gr (k + 1)) h2 1
    rw [← ht, e1, e2]
    apply Nat.eq_of_testBit_eq
    intro i
    have z1 : 12 ≤ i → (gr k).testBit i = false := fun hi => Nat.testBit_lt_two_pow (Nat.lt_of_lt_of_le h1 (Nat.pow_le_pow_right (by decide) hi))
    have z2 : 12 ≤ i → (gr (k + 1)).testBit i = false := fun hi => Nat.testBit_lt_two_pow (Nat.lt_of_lt_of_le h2 (Nat.pow_le_pow_right (by decide) hi))
    simp only [Nat.testBit_xor, Nat.testBit_or]
    by_cases hi : i = 12
    · subst hi; rw [z1 (by omega), z2 (by omega)]; rfl
    · have : (2 ^ 12 * 1).testBit i = false := by rw [Nat.mul_one, Nat.testBit_two_pow]; simp; omega
      rw [this]; simp
theorem coarse_next' : ∀ k, k < 512 → (List.range 15).any (fun t => (cc k ^^^ cc (k + 1)) == 2 ^ t) = true := by decide +kernel
theorem coarse_next (k : Nat) (h : k < 512) : ∃ t, t ≤ 62 ∧ cc k ^^^ cc (k + 1) = 2 ^ t := by
  have := coarse_next' k h
  simp only [List.any_eq_true, List.mem_range, beq_iff_eq] at this
  obtain ⟨t, h1, h2⟩ := this
  exact ⟨t, by omega, h2⟩
end GrayMath
