/-
  The plain laws of layer 3 (Gray codes), in numbers alone: no program in sight.
-/
namespace GrayMath

/-- One step 'x ^ x >> j'. -/
def dstep (j x : Nat) : Nat := x ^^^ x >>> j

theorem dstep_dstep (j x : Nat) : dstep j (dstep j x) = dstep (j + j) x := by
  unfold dstep
  apply Nat.eq_of_testBit_eq
  intro i
  simp only [Nat.testBit_xor, Nat.testBit_shiftRight]
  rw [show j + (j + i) = j + j + i by omega]
  cases x.testBit i <;> cases x.testBit (j + i) <;> cases x.testBit (j + j + i) <;> rfl

theorem dstep_comm (i j x : Nat) : dstep i (dstep j x) = dstep j (dstep i x) := by
  unfold dstep
  apply Nat.eq_of_testBit_eq
  intro k
  simp only [Nat.testBit_xor, Nat.testBit_shiftRight]
  rw [show j + (i + k) = i + (j + k) by omega]
  cases x.testBit k <;> cases x.testBit (j + k) <;> cases x.testBit (i + k) <;> cases x.testBit (i + (j + k)) <;> rfl

/-- The Gray code. -/
def gr (n : Nat) : Nat := n ^^^ n / 2
theorem gr_eq (n : Nat) : gr n = dstep 1 n := by simp [gr, dstep, Nat.shiftRight_eq_div_pow]

/-- The number whose Gray code is g. -/
def un (g : Nat) : Nat := dstep 32 (dstep 16 (dstep 8 (dstep 4 (dstep 2 (dstep 1 g)))))

theorem dstep_lt (j x k : Nat) (h : x < 2 ^ k) : dstep j x < 2 ^ k := by
  unfold dstep
  refine Nat.xor_lt_two_pow h ?_
  exact Nat.lt_of_le_of_lt (Nat.shiftRight_le x j) h

theorem un_lt (g k : Nat) (h : g < 2 ^ k) : un g < 2 ^ k := by
  unfold un; repeat (first | exact h | apply dstep_lt)
theorem gr_lt (g k : Nat) (h : g < 2 ^ k) : gr g < 2 ^ k := by
  rw [gr_eq]; exact dstep_lt _ _ _ h

theorem dstep_big (j x : Nat) (h : x < 2 ^ j) : dstep j x = x := by
  unfold dstep
  rw [Nat.shiftRight_eq_div_pow, Nat.div_eq_of_lt h]; simp

theorem gr_un (g : Nat) (h : g < 2 ^ 64) : gr (un g) = g := by
  rw [gr_eq, un]
  rw [dstep_comm 1 32, dstep_comm 1 16, dstep_comm 1 8, dstep_comm 1 4, dstep_comm 1 2, dstep_dstep 1, dstep_dstep 2, dstep_dstep 4, dstep_dstep 8, dstep_dstep 16, dstep_dstep 32]
  exact dstep_big _ _ h

theorem un_gr (g : Nat) (h : g < 2 ^ 64) : un (gr g) = g := by
  rw [gr_eq, un]
  rw [dstep_dstep 1, dstep_dstep 2, dstep_dstep 4, dstep_dstep 8, dstep_dstep 16, dstep_dstep 32]
  exact dstep_big _ _ h

/-- Each binary digit of un g is the xor of g's and the next of un g. -/
theorem un_bit (g k : Nat) (h : g < 2 ^ 64) : (un g).testBit k = (g.testBit k ^^ (un g).testBit (k + 1)) := by
  have e := congrArg (fun x => x.testBit k) (gr_un g h)
  simp only [gr_eq, dstep, Nat.testBit_xor, Nat.testBit_shiftRight] at e
  rw [Nat.add_comm 1 k] at e
  revert e
  cases (un g).testBit k <;> cases (un g).testBit (k + 1) <;> cases g.testBit k <;> simp

/-- What the reference's loop has when the digits from k on are done. -/
def upper (N k : Nat) : Nat := N >>> k <<< k

theorem upper_zero (N : Nat) : upper N 0 = N := by simp [upper]
theorem upper_top (N k : Nat) (h : N < 2 ^ k) : upper N k = 0 := by
  unfold upper; rw [Nat.shiftRight_eq_div_pow, Nat.div_eq_of_lt h]; simp
theorem upper_step (N k : Nat) : upper N (k + 1) ||| ((N.testBit k).toNat <<< k) = upper N k := by
  unfold upper
  apply Nat.eq_of_testBit_eq
  intro i
  simp only [Nat.testBit_or, Nat.testBit_shiftLeft, Nat.testBit_shiftRight]
  by_cases h1 : k + 1 ≤ i
  · have : (N.testBit k).toNat.testBit (i - k) = false := by
      rw [show i - k = (i - k - 1) + 1 by omega]
      cases N.testBit k <;> simp [Nat.testBit_succ]
    simp [h1, this, show k ≤ i by omega, show k + 1 + (i - (k + 1)) = k + (i - k) by omega]
  · by_cases h2 : i = k
    · subst h2
      simp [show ¬ (i + 1 ≤ i) by omega]
      cases N.testBit i <;> simp
    · simp [h1, show ¬ k ≤ i by omega]

theorem digit_step (g k : Nat) (h : g < 2 ^ 64) : (((un g).testBit (k + 1)).toNat ^^^ (g / 2 ^ k % 2)) = ((un g).testBit k).toNat := by
  rw [un_bit g k h]
  have : g / 2 ^ k % 2 = (g.testBit k).toNat := by
    rw [Nat.testBit_eq_decide_div_mod_eq]
    by_cases e : g / 2 ^ k % 2 = 1
    · simp [e]
    · have : g / 2 ^ k % 2 = 0 := by omega
      simp [this]
  rw [this]
  cases (un g).testBit (k + 1) <;> cases g.testBit k <;> rfl

/-! ### The coarse codes -/

/-- The lower 3 bits of the coarse code of place r of the 500 feet of number h. -/
def low (h r : Nat) : Nat := match (if h % 2 = 1 then 4 - r else r) with | 0 => 1 | 1 => 3 | 2 => 2 | 3 => 6 | _ => 4
def cc (k : Nat) : Nat := 8 * gr (k / 5) + low (k / 5) (k % 5)
/-- Where x stands among the five. -/
def idx (h x : Nat) : Option Nat := (List.range 5).find? (fun r => low h r == x)
def dec (c : Nat) : Option Nat := (idx (un (c / 8)) (c % 8)).map (5 * un (c / 8) + ·)

theorem dec_cc' : ∀ a, a < 40 → ∀ b, b < 64 → dec (cc (64 * a + b)) = some (64 * a + b) := by decide +kernel
theorem dec_cc (k : Nat) (h : k < 2560) : dec (cc k) = some k := by
  have := dec_cc' (k / 64) (by omega) (k % 64) (by omega)
  rwa [show 64 * (k / 64) + k % 64 = k by omega] at this
theorem cc_dec'' : ∀ a, a < 64 → ∀ b, b < 64 → (match dec (64 * a + b) with | none => true | some k => decide (k < 2560) && (cc k == 64 * a + b)) = true := by decide +kernel
theorem cc_dec' (c : Nat) (h : c < 4096) : (match dec c with | none => true | some k => decide (k < 2560) && (cc k == c)) = true := by
  have := cc_dec'' (c / 64) (by omega) (c % 64) (by omega)
  rwa [show 64 * (c / 64) + c % 64 = c by omega] at this
theorem cc_dec (c k : Nat) (h : c < 4096) (hd : dec c = some k) : k < 2560 ∧ cc k = c := by
  have := cc_dec' c h
  rw [hd] at this
  simpa using this
theorem low_lt (h r : Nat) : 1 ≤ low h r ∧ low h r ≤ 6 := by
  unfold low; split <;> omega
theorem cc_lt (k : Nat) (h : k < 2560) : cc k < 4096 := by
  have h1 := gr_lt (k / 5) 9 (by omega)
  have h2 := low_lt (k / 5) (k % 5)
  unfold cc; omega

/-! ### The functions, over Int -/
def grI (n : Int) : Int := if n < 0 then 0 else (gr n.toNat : Nat)
def unI (n : Int) : Int := if n < 0 then 0 else (un n.toNat : Nat)
def lowI (h r : Int) : Int := (low h.toNat r.toNat : Nat)
def inR (a : Int) : Bool := decide (-1000 ≤ a) && decide (a ≤ 50000)
def errA (a : Int) : Int := if inR a then 0 else 1
def fineC (a : Int) : Int := if inR a then ((4096 + gr ((a + 1000) / 25).toNat : Nat) : Int) else 0
def coarseC (a : Int) : Int := if inR a then (cc ((a + 1200) / 100).toNat : Nat) else 0
/-- What Altitude returns: the altitude, the step, the error. -/
def altT (c : Int) : Int × Int × Int :=
  if c < 0 ∨ 8191 < c then (0, 0, 1)
  else if 4096 ≤ c then (if inR (25 * (un (c - 4096).toNat : Nat) - 1000) then (25 * (un (c - 4096).toNat : Nat) - 1000, 25, 0) else (0, 0, 7))
  else match dec c.toNat with
    | none => (0, 0, 2)
    | some k => if inR (100 * (k : Int) - 1200) then (100 * (k : Int) - 1200, 100, 0) else (0, 0, 7)
def altA (c : Int) : Int := (altT c).1
def altS (c : Int) : Int := (altT c).2.1
def altE (c : Int) : Int := (altT c).2.2

theorem grI_nonneg (n : Int) : 0 ≤ grI n := by unfold grI; split <;> omega
theorem unI_nonneg (n : Int) : 0 ≤ unI n := by unfold unI; split <;> omega
theorem grI_nat (n : Nat) : grI (n : Int) = (gr n : Nat) := by simp [grI, show ¬ ((n : Int) < 0) by omega]
theorem unI_nat (n : Nat) : unI (n : Int) = (un n : Nat) := by simp [unI, show ¬ ((n : Int) < 0) by omega]
theorem grI_lt (n : Int) (k : Nat) (h : n < (2 : Int) ^ k) : grI n < (2 : Int) ^ k := by
  have hp : (0 : Int) < 2 ^ k := Int.pow_pos (by decide)
  unfold grI
  split
  · exact hp
  · have := gr_lt n.toNat k (by have : ((2 ^ k : Nat) : Int) = 2 ^ k := by push_cast; rfl
                                omega)
    have e : ((2 ^ k : Nat) : Int) = 2 ^ k := by push_cast; rfl
    omega
theorem unI_lt (n : Int) (k : Nat) (h : n < (2 : Int) ^ k) : unI n < (2 : Int) ^ k := by
  have hp : (0 : Int) < 2 ^ k := Int.pow_pos (by decide)
  unfold unI
  split
  · exact hp
  · have := un_lt n.toNat k (by have : ((2 ^ k : Nat) : Int) = 2 ^ k := by push_cast; rfl
                                omega)
    have e : ((2 ^ k : Nat) : Int) = 2 ^ k := by push_cast; rfl
    omega
theorem lowI_bd (h r : Int) : 1 ≤ lowI h r ∧ lowI h r ≤ 6 := by
  have := low_lt h.toNat r.toNat
  unfold lowI; omega
theorem ccI (j : Nat) : 8 * grI ((j : Int) / 5) + lowI ((j : Int) / 5) ((j : Int) % 5) = (cc j : Nat) := by
  have e1 : (j : Int) / 5 = ((j / 5 : Nat) : Int) := by omega
  have e2 : (j : Int) % 5 = ((j % 5 : Nat) : Int) := by omega
  rw [e1, e2, grI_nat, lowI, cc, Int.toNat_natCast, Int.toNat_natCast]
  omega
end GrayMath
