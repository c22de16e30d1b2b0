/-
  TrkMath, AltMath, GrayMath, TrkTab, HeapLib, OwnLib
-/
import Derived.Lib.Hide
import Derived.WalkKit
import Derived.WalkSmall
set_option linter.all false
set_option maxRecDepth 100000
set_option maxHeartbeats 64000000
theorem Go.qh {p : Prop} (h : p) : Go.RowKit.Hid p := h
section
namespace TrkMath
structure Rg where
 r : Int
 v : Int
 n : Int
def rg0 : Rg := ⟨0, 0, 0⟩
def rgBad (x : Rg) : Prop := x.r < 0 ∨ 2097152 < x.r ∨ x.v < -16384 ∨ 16384 < x.v ∨ x.n < 1 ∨ 1000 < x.n
instance (x : Rg) : Decidable (rgBad x) := by unfold rgBad; infer_instance
def rgE (x : Rg) : Int := if rgBad x then 1 else 0
theorem jG {x : Rg} (h : rgBad x) : rgE x = 1 := if_pos h
theorem rgE_ok {x : Rg} (h : ¬ rgBad x) : rgE x = 0 := if_neg h
theorem eR {x : Rg} (h : rgE x = 0) : 0 ≤ x.r ∧ x.r ≤ 2097152 ∧ -16384 ≤ x.v ∧ x.v ≤ 16384 ∧ 1 ≤ x.n ∧ x.n ≤ 1000 := by
 unfold rgE at h
 split at h
 ·exact absurd h (by decide)
 rename_i q; unfold rgBad at q; omega
def nwE (r : Int) : Int := if r < 0 ∨ 8192 < r then 1 else 0
def nwX (r : Int) : Rg := if nwE r = 0 then ⟨256 * r, 0, 1⟩ else rg0
def lim (n lo hi : Int) : Int := min (max n lo) hi
def rnd (p q : Int) : Int := if p < 0 then -((2 * -p + q).tdiv (2 * q)) else (2 * p + q).tdiv (2 * q)
theorem rnd_neg {p q : Int} (h : p < 0) : rnd p q = (2 * p + -q).tdiv (2 * q) := by
 unfold rnd
 rw [if_pos h, ← Int.neg_tdiv]
 congr 1
 omega
def prE (x : Rg) (c : Int) : Int := if rgE x ≠ 0 then rgE x else if c < 0 ∨ 16 < c then 1 else 0
def prV (x : Rg) (c : Int) : Int := if prE x c = 0 then lim (x.r + c * x.v) 0 2097152 else 0
def upE (x : Rg) (r c : Int) : Int := if rgE x ≠ 0 then rgE x else if r < 0 ∨ 8192 < r ∨ c < 1 ∨ 16 < c then 1 else 0
def upN (x : Rg) : Int := min (x.n + 1) 8
def upD (x : Rg) (r c : Int) : Int := 256 * r - (x.r + c * x.v)
def upX (x : Rg) (r c : Int) : Rg :=
 if upE x r c = 0 then ⟨lim ((x.r + c * x.v) + rnd (2 * (2 * upN x - 1) * upD x r c) (upN x * (upN x + 1))) 0 2097152, lim (x.v + rnd (6 * upD x r c) (upN x * (upN x + 1) * c)) (-16384) 16384, min (x.n + 1) 1000⟩ else rg0
theorem jF {p q B : Int} (hq : 1 ≤ q) (h1 : -B ≤ p) (h2 : p ≤ B) : -B ≤ p.tdiv q ∧ p.tdiv q ≤ B := by
 rcases Int.lt_or_le p 0 with h | h
 ·have e : p.tdiv q = -((-p).tdiv q) := by rw [Int.neg_tdiv, Int.neg_neg]
  have h3 := Int.tdiv_le_self (a := -p) q (by omega)
  have h4 : 0 ≤ (-p).tdiv q := Int.tdiv_nonneg (by omega) (by omega)
  omega
 have h3 := Int.tdiv_le_self (a := p) q h
 have h4 : 0 ≤ p.tdiv q := Int.tdiv_nonneg h (by omega)
 omega
end TrkMath
end
section
namespace AltMath
def gi (l : List Int) (i : Nat) : Int := l[i]?.getD 0
def nonAt (lo hi : List Int) (i : Nat) : Prop := gi lo i = 1 ∧ gi hi i = 0
instance (lo hi : List Int) (i : Nat) : Decidable (nonAt lo hi i) := by unfold nonAt; infer_instance
def nonB (lo hi : List Int) (i : Nat) : Bool := gi lo i == 1 && gi hi i == 0
theorem rD {lo hi : List Int} {i : Nat} : nonB lo hi i = true ↔ nonAt lo hi i := by unfold nonB nonAt; simp
theorem pY {lo hi : List Int} {i : Nat} (h : nonAt lo hi i) : nonB lo hi i = true := rD.2 h
theorem pZ {lo hi : List Int} {i : Nat} (h : ¬ nonAt lo hi i) : nonB lo hi i = false := by
 cases hb : nonB lo hi i with
 | false => rfl
 | true => exact absurd (rD.1 hb) h
def badAt (lo hi : List Int) (i : Nat) : Prop := ¬ nonAt lo hi i ∧ (gi lo i < -1000 ∨ gi hi i < gi lo i ∨ 50000 < gi hi i)
instance (lo hi : List Int) (i : Nat) : Decidable (badAt lo hi i) := by unfold badAt; infer_instance
def chB (lo hi : List Int) : Int := if lo.length = 201 ∧ hi.length = 201 then (if ∀ i ∈ List.range 201, ¬ badAt lo hi i then 0 else 1) else 2
theorem chB_form {lo hi : List Int} (h : ¬ (lo.length = 201 ∧ hi.length = 201)) : chB lo hi = 2 := if_neg h
theorem fJ {lo hi : List Int} (h1 : lo.length = 201) (h2 : hi.length = 201) {i : Nat} (hi' : i < 201) (h : badAt lo hi i) : chB lo hi = 1 := by
 unfold chB
 rw [if_pos ⟨h1, h2⟩, if_neg (fun hh => hh i (List.mem_range.2 hi') h)]
theorem mS {lo hi : List Int} (h1 : lo.length = 201) (h2 : hi.length = 201) (h : ∀ i, i < 201 → ¬ badAt lo hi i) : chB lo hi = 0 := by
 unfold chB
 rw [if_pos ⟨h1, h2⟩, if_pos (fun i hi => h i (List.mem_range.1 hi))]
theorem chB_ok {lo hi : List Int} (h : chB lo hi = 0) : lo.length = 201 ∧ hi.length = 201 ∧ ∀ i, i < 201 → ¬ badAt lo hi i := by
 unfold chB at h
 by_cases h1 : lo.length = 201 ∧ hi.length = 201
 ·rw [if_pos h1] at h
  by_cases h2 : ∀ i ∈ List.range 201, ¬ badAt lo hi i
  ·exact ⟨h1.1, h1.2, fun i hi => h2 i (List.mem_range.2 hi)⟩
  rw [if_neg h2] at h; cases h
 rw [if_neg h1] at h; cases h
theorem ok_at {lo hi : List Int} (h : ∀ i, i < 201 → ¬ badAt lo hi i) {i : Nat} (hi' : i < 201) : nonAt lo hi i ∨ (¬ nonAt lo hi i ∧ -1000 ≤ gi lo i ∧ gi lo i ≤ gi hi i ∧ gi hi i ≤ 50000) := by
 by_cases hn : nonAt lo hi i
 ·exact Or.inl hn
 have := h i hi'
 unfold badAt at this
 right
 refine ⟨hn, ?_, ?_, ?_⟩ <;> (apply Decidable.byContradiction; intro hh; exact this ⟨hn, by omega⟩)
theorem fI {lo hi : List Int} (h : ∀ i, i < 201 → ¬ badAt lo hi i) {i : Nat} (hi' : i < 201) : (gi lo i ≤ gi hi i) ↔ ¬ nonAt lo hi i := by
 rcases ok_at h hi' with hn | ⟨hn, h1, h2, h3⟩
 ·exact ⟨fun e => by unfold nonAt at hn; omega, fun e => absurd hn e⟩
 exact ⟨fun _ => hn, fun _ => h2⟩
theorem ok_bd {lo hi : List Int} (h : ∀ i, i < 201 → ¬ badAt lo hi i) {i : Nat} (hi' : i < 201) : -1000 ≤ gi lo i ∧ gi lo i ≤ 50000 ∧ -1000 ≤ gi hi i ∧ gi hi i ≤ 50000 := by
 rcases ok_at h hi' with hn | ⟨hn, h1, h2, h3⟩
 ·unfold nonAt at hn; omega
 omega
def meE (alt size : Int) : Int := if alt < -1000 ∨ 50000 < alt ∨ (size ≠ 25 ∧ size ≠ 100) then 1 else 0
def nm (p : Int × Int) : Int × Int := if p.2 < p.1 then (1, 0) else p
theorem nm_no {p : Int × Int} (h : p.2 < p.1) : nm p = (1, 0) := if_pos h
theorem gU {p : Int × Int} (h : p.1 ≤ p.2) : nm p = p := if_neg (by omega)
def loK (f : Nat → Int × Int) (k : Nat) : List Int := (List.range k).map fun i => (nm (f i)).1
def hiK (f : Nat → Int × Int) (k : Nat) : List Int := (List.range k).map fun i => (nm (f i)).2
theorem loK_len (f : Nat → Int × Int) (k : Nat) : (loK f k).length = k := by simp [loK]
theorem hiK_len (f : Nat → Int × Int) (k : Nat) : (hiK f k).length = k := by simp [hiK]
theorem loK_succ (f : Nat → Int × Int) (k : Nat) : loK f (k + 1) = loK f k ++ [(nm (f k)).1] := by simp [loK, List.range_succ]
theorem hiK_succ (f : Nat → Int × Int) (k : Nat) : hiK f (k + 1) = hiK f k ++ [(nm (f k)).2] := by simp [hiK, List.range_succ]
theorem oZ (f : Nat → Int × Int) {k i : Nat} (h : i < k) : gi (loK f k) i = (nm (f i)).1 := by unfold gi loK; rw [List.getElem?_map, List.getElem?_range h]; rfl
theorem o7 (f : Nat → Int × Int) {k i : Nat} (h : i < k) : gi (hiK f k) i = (nm (f i)).2 := by unfold gi hiK; rw [List.getElem?_map, List.getElem?_range h]; rfl
def addO (a : Option (Int × Int)) (p : Int × Int) : Option (Int × Int) := some (match a with | none => p | some q => (min q.1 p.1, max q.2 p.2))
def acc (on : Nat → Prop) [DecidablePred on] (g : Nat → Int × Int) (a : Nat) : Nat → Option (Int × Int)
 | 0 => none
 | k + 1 => if on (a + k) then addO (acc on g a k) (g (a + k)) else acc on g a k
def hasB (lo hi : List Int) (i : Nat) : Prop := ¬ nonAt lo hi i
instance (lo hi : List Int) : DecidablePred (hasB lo hi) := fun i => by unfold hasB; infer_instance
def stA (pull w : Nat) : Nat := w - pull
def stN (pull w : Nat) : Nat := min 200 (w + pull) + 1 - stA pull w
def shG (lo hi : List Int) (i : Nat) : Int × Int := (gi lo i + ((i : Int) - 100), gi hi i + ((i : Int) - 100))
def stA' (lo hi : List Int) (pull w k : Nat) : Option (Int × Int) := acc (hasB lo hi) (shG lo hi) (stA pull w) k
def clip (a : Option (Int × Int)) : Int × Int := match a with | none => (1, 0) | some q => (max q.1 (-1000), min q.2 50000)
def stF (lo hi : List Int) (pull w : Nat) : Int × Int := clip (stA' lo hi pull w (stN pull w))
def stE (lo hi : List Int) (pull : Int) : Int := if chB lo hi ≠ 0 then chB lo hi else if pull < 0 ∨ 32 < pull then 1 else 0
def neF (alt size : Int) (_i : Nat) : Int × Int := (alt, min (alt + size - 1) 50000)
def maF (lo hi : List Int) (alt size : Int) (i : Nat) : Int × Int := if nonAt lo hi i then (1, 0) else (max (gi lo i) alt, min (gi hi i) (alt + size - 1))
def maE (lo hi : List Int) (alt size : Int) : Int := if chB lo hi ≠ 0 then chB lo hi else meE alt size
def spZ (lo hi : List Int) (k : Nat) : Option (Int × Int) := acc (hasB lo hi) (fun i => (gi lo i, gi hi i)) 0 k
def spV (lo hi : List Int) (k : Nat) : Option (Int × Int) := acc (hasB lo hi) (fun i => ((i : Int) - 100, (i : Int) - 100)) 0 k
def spE (lo hi : List Int) : Int := if chB lo hi ≠ 0 then chB lo hi else if (spZ lo hi 201).isNone then 9 else 0
def vals (a : Option (Int × Int)) : Int × Int := a.getD (0, 0)
structure Ext where
 low : Int
 high : Int
 slow : Int
 fast : Int
def spX (lo hi : List Int) : Ext := if spE lo hi = 0 then ⟨(vals (spZ lo hi 201)).1, (vals (spZ lo hi 201)).2, (vals (spV lo hi 201)).1, (vals (spV lo hi 201)).2⟩ else ⟨0, 0, 0, 0⟩
theorem jO {on : Nat → Prop} [DecidablePred on] {g : Nat → Int × Int} {a k : Nat} : (acc on g a k).isSome ↔ ∃ i, i < k ∧ on (a + i) := by
 induction k with
 | zero => constructor
           ·intro h; cases h
           rintro ⟨i, hi, _⟩; omega
 | succ k ih =>
  unfold acc
  by_cases h : on (a + k)
  ·rw [if_pos h]
   exact ⟨fun _ => ⟨k, by omega, h⟩, fun _ => rfl⟩
  rw [if_neg h, ih]
  constructor
  ·rintro ⟨i, hi, ho⟩; exact ⟨i, by omega, ho⟩
  rintro ⟨i, hi, ho⟩
  refine ⟨i, ?_, ho⟩
  rcases Nat.lt_succ_iff_lt_or_eq.1 hi with h1 | rfl
  ·exact h1
  exact absurd ho h
theorem acc_same {on : Nat → Prop} [DecidablePred on] {g g' : Nat → Int × Int} {a k : Nat} : (acc on g a k).isSome = (acc on g' a k).isSome := by
 rw [Bool.eq_iff_iff, jO, jO]
end AltMath
end
section
namespace GrayMath
def dstep (j x : Nat) : Nat := x ^^^ x >>> j
theorem dT (j x : Nat) : dstep j (dstep j x) = dstep (j + j) x := by
 unfold dstep
 apply Nat.eq_of_testBit_eq
 intro i
 simp only [Nat.testBit_xor, Nat.testBit_shiftRight]
 rw [show j + (j + i) = j + j + i by omega]
 cases x.testBit i <;> cases x.testBit (j + i) <;> cases x.testBit (j + j + i) <;> rfl
theorem fF (i j x : Nat) : dstep i (dstep j x) = dstep j (dstep i x) := by
 unfold dstep
 apply Nat.eq_of_testBit_eq
 intro k
 simp only [Nat.testBit_xor, Nat.testBit_shiftRight]
 rw [show j + (i + k) = i + (j + k) by omega]
 cases x.testBit k <;> cases x.testBit (j + k) <;> cases x.testBit (i + k) <;> cases x.testBit (i + (j + k)) <;> rfl
def gr (n : Nat) : Nat := n ^^^ n / 2
theorem gr_eq (n : Nat) : gr n = dstep 1 n := by simp [gr, dstep, Nat.shiftRight_eq_div_pow]
def un (g : Nat) : Nat := dstep 32 (dstep 16 (dstep 8 (dstep 4 (dstep 2 (dstep 1 g)))))
theorem dstep_lt (j x k : Nat) (h : x < 2 ^ k) : dstep j x < 2 ^ k := by
 unfold dstep
 refine Nat.xor_lt_two_pow h ?_
 exact Nat.lt_of_le_of_lt (Nat.shiftRight_le x j) h
theorem un_lt (g k : Nat) (h : g < 2 ^ k) : un g < 2 ^ k := by
 unfold un; repeat (first | exact h | apply dstep_lt)
theorem gr_lt (g k : Nat) (h : g < 2 ^ k) : gr g < 2 ^ k := by
 rw [gr_eq]; exact dstep_lt _ _ _ h
theorem dstep_big (j x : Nat) (h : x < 2 ^ j) : dstep j x = x := by
 unfold dstep
 rw [Nat.shiftRight_eq_div_pow, Nat.div_eq_of_lt h]; simp
theorem gr_un (g : Nat) (h : g < 2 ^ 64) : gr (un g) = g := by
 rw [gr_eq, un]
 rw [fF 1 32, fF 1 16, fF 1 8, fF 1 4, fF 1 2, dT 1, dT 2, dT 4, dT 8, dT 16, dT 32]
 exact dstep_big _ _ h
theorem un_bit (g k : Nat) (h : g < 2 ^ 64) : (un g).testBit k = (g.testBit k ^^ (un g).testBit (k + 1)) := by
 have e := congrArg (fun x => x.testBit k) (gr_un g h)
 simp only [gr_eq, dstep, Nat.testBit_xor, Nat.testBit_shiftRight] at e
 rw [Nat.add_comm 1 k] at e
 revert e
 cases (un g).testBit k <;> cases (un g).testBit (k + 1) <;> cases g.testBit k <;> simp
def upper (N k : Nat) : Nat := N >>> k <<< k
theorem upper_zero (N : Nat) : upper N 0 = N := by simp [upper]
theorem upper_top (N k : Nat) (h : N < 2 ^ k) : upper N k = 0 := by
 unfold upper; rw [Nat.shiftRight_eq_div_pow, Nat.div_eq_of_lt h]; simp
theorem upper_step (N k : Nat) : upper N (k + 1) ||| ((N.testBit k).toNat <<< k) = upper N k := by
 unfold upper
 apply Nat.eq_of_testBit_eq
 intro i
 simp only [Nat.testBit_or, Nat.testBit_shiftLeft, Nat.testBit_shiftRight]
 by_cases h1 : k + 1 ≤ i
 ·have : (N.testBit k).toNat.testBit (i - k) = false := by
   rw [show i - k = (i - k - 1) + 1 by omega]
   cases N.testBit k <;> simp [Nat.testBit_succ]
  simp [h1, this, show k ≤ i by omega, show k + 1 + (i - (k + 1)) = k + (i - k) by omega]
 by_cases h2 : i = k
 ·subst h2
  simp [show ¬ (i + 1 ≤ i) by omega]
  cases N.testBit i <;> simp
 simp [h1, show ¬ k ≤ i by omega]
theorem digit_step (g k : Nat) (h : g < 2 ^ 64) : (((un g).testBit (k + 1)).toNat ^^^ (g / 2 ^ k % 2)) = ((un g).testBit k).toNat := by
 rw [un_bit g k h]
 have : g / 2 ^ k % 2 = (g.testBit k).toNat := by
  rw [Nat.testBit_eq_decide_div_mod_eq]
  by_cases e : g / 2 ^ k % 2 = 1
  ·simp [e]
  have : g / 2 ^ k % 2 = 0 := by omega
  simp [this]
 rw [this]
 cases (un g).testBit (k + 1) <;> cases g.testBit k <;> rfl
/-! ### The coarse codes -/
def low (h r : Nat) : Nat := match (if h % 2 = 1 then 4 - r else r) with | 0 => 1 | 1 => 3 | 2 => 2 | 3 => 6 | _ => 4
def cc (k : Nat) : Nat := 8 * gr (k / 5) + low (k / 5) (k % 5)
def idx (h x : Nat) : Option Nat := (List.range 5).find? (fun r => low h r == x)
def dec (c : Nat) : Option Nat := (idx (un (c / 8)) (c % 8)).map (5 * un (c / 8) + ·)
theorem dec_cc' : ∀ a, a < 40 → ∀ b, b < 64 → dec (cc (64 * a + b)) = some (64 * a + b) := by decide +kernel
theorem dec_cc (k : Nat) (h : k < 2560) : dec (cc k) = some k := by
 have := dec_cc' (k / 64) (by omega) (k % 64) (by omega)
 rwa [show 64 * (k / 64) + k % 64 = k by omega] at this
theorem cc_dec'' : ∀ a, a < 64 → ∀ b, b < 64 → (match dec (64 * a + b) with | none => true | some k => decide (k < 2560) && (cc k == 64 * a + b)) = true := by decide +kernel
theorem cc_dec' (c : Nat) (h : c < 4096) : (match dec c with | none => true | some k => decide (k < 2560) && (cc k == c)) = true := by
 have := cc_dec'' (c / 64) (by omega) (c % 64) (by omega)
 rwa [show 64 * (c / 64) + c % 64 = c by omega] at this
theorem cc_dec (c k : Nat) (h : c < 4096) (hd : dec c = some k) : k < 2560 ∧ cc k = c := by
 have := cc_dec' c h
 rw [hd] at this
 simpa using this
theorem low_lt (h r : Nat) : 1 ≤ low h r ∧ low h r ≤ 6 := by
 unfold low; split <;> omega
/-! ### The functions, over Int -/
def grI (n : Int) : Int := if n < 0 then 0 else (gr n.toNat : Nat)
def unI (n : Int) : Int := if n < 0 then 0 else (un n.toNat : Nat)
def lowI (h r : Int) : Int := (low h.toNat r.toNat : Nat)
def inR (a : Int) : Bool := decide (-1000 ≤ a) && decide (a ≤ 50000)
def altT (c : Int) : Int × Int × Int :=
 if c < 0 ∨ 8191 < c then (0, 0, 1)
 else if 4096 ≤ c then (if inR (25 * (un (c - 4096).toNat : Nat) - 1000) then (25 * (un (c - 4096).toNat : Nat) - 1000, 25, 0) else (0, 0, 7))
 else match dec c.toNat with
  | none => (0, 0, 2)
  | some k => if inR (100 * (k : Int) - 1200) then (100 * (k : Int) - 1200, 100, 0) else (0, 0, 7)
def altA (c : Int) : Int := (altT c).1
def altS (c : Int) : Int := (altT c).2.1
def altE (c : Int) : Int := (altT c).2.2
theorem grI_nonneg (n : Int) : 0 ≤ grI n := by unfold grI; split <;> omega
theorem fD (n : Int) : 0 ≤ unI n := by unfold unI; split <;> omega
theorem grI_nat (n : Nat) : grI (n : Int) = (gr n : Nat) := by simp [grI, show ¬ ((n : Int) < 0) by omega]
theorem lT (n : Nat) : unI (n : Int) = (un n : Nat) := by simp [unI, show ¬ ((n : Int) < 0) by omega]
theorem grI_lt (n : Int) (k : Nat) (h : n < (2 : Int) ^ k) : grI n < (2 : Int) ^ k := by
 have hp : (0 : Int) < 2 ^ k := Int.pow_pos (by decide)
 unfold grI
 split
 ·exact hp
 have := gr_lt n.toNat k (by have : ((2 ^ k : Nat) : Int) = 2 ^ k := by push_cast; rfl
                             omega)
 have e : ((2 ^ k : Nat) : Int) = 2 ^ k := by push_cast; rfl
 omega
theorem unI_lt (n : Int) (k : Nat) (h : n < (2 : Int) ^ k) : unI n < (2 : Int) ^ k := by
 have hp : (0 : Int) < 2 ^ k := Int.pow_pos (by decide)
 unfold unI
 split
 ·exact hp
 have := un_lt n.toNat k (by have : ((2 ^ k : Nat) : Int) = 2 ^ k := by push_cast; rfl
                             omega)
 have e : ((2 ^ k : Nat) : Int) = 2 ^ k := by push_cast; rfl
 omega
theorem lowI_bd (h r : Int) : 1 ≤ lowI h r ∧ lowI h r ≤ 6 := by
 have := low_lt h.toNat r.toNat
 unfold lowI; omega
theorem ccI (j : Nat) : 8 * grI ((j : Int) / 5) + lowI ((j : Int) / 5) ((j : Int) % 5) = (cc j : Nat) := by
 have e1 : (j : Int) / 5 = ((j / 5 : Nat) : Int) := by omega
 have e2 : (j : Int) % 5 = ((j % 5 : Nat) : Int) := by omega
 rw [e1, e2, grI_nat, lowI, cc, Int.toNat_natCast, Int.toNat_natCast]
 omega
end GrayMath
end
section
namespace TrkMath
open AltMath
structure Par where
 gate : Int
 need : Int
 most : Int
 pull : Int
def ParOk (p : Par) : Prop := (1 ≤ p.gate ∧ p.gate ≤ 256) ∧ (1 ≤ p.need ∧ p.need ≤ 8) ∧ (1 ≤ p.most ∧ p.most ≤ 15) ∧ (0 ≤ p.pull ∧ p.pull ≤ 32)
instance (p : Par) : Decidable (ParOk p) := by unfold ParOk; infer_instance
def parE (p : Par) : Int := if ParOk p then 0 else 1
theorem kE {p : Par} (h : ParOk p) : parE p = 0 := if_pos h
theorem dE {p : Par} (h : ¬ ParOk p) : parE p = 1 := if_neg h
theorem nN {p : Par} (h : parE p = 0) : ParOk p := by
 unfold parE at h
 split at h
 ·assumption
 cases h
theorem mJ (p : Par) : parE p = 0 ∨ parE p = 1 := by unfold parE; split <;> simp
structure Tk where
 id : Int
 addr : Int
 rg : Rg
 lo : List Int
 hi : List Int
 hits : Int
 misses : Int
 firm : Bool
def tk0 : Tk := ⟨0, 0, rg0, [], [], 0, 0, false⟩
def emptyB (lo hi : List Int) : Bool := spE lo hi == 9
def emptyE (lo hi : List Int) : Int := if spE lo hi = 9 then 0 else spE lo hi
def tkBad (p : Par) (t : Tk) : Prop := ¬ (-1 ≤ t.addr ∧ t.addr ≤ 16777215) ∨ rgE t.rg ≠ 0 ∨ ¬ (1 ≤ t.hits ∧ t.hits ≤ 1073741824) ∨ ¬ (0 ≤ t.misses ∧ t.misses ≤ p.most - 1) ∨ t.firm ≠ decide (p.need ≤ t.hits)
instance (p : Par) (t : Tk) : Decidable (tkBad p t) := by unfold tkBad; infer_instance
def tkE (p : Par) (t : Tk) : Int := if tkBad p t then 1 else if emptyE t.lo t.hi ≠ 0 then emptyE t.lo t.hi else if emptyB t.lo t.hi then 9 else 0
def ckL (p : Par) (next last : Int) : List Tk → Int
 | [] => 0
 | t :: ts => if t.id ≤ last ∨ next ≤ t.id then 8 else if tkE p t ≠ 0 then tkE p t else ckL p next t.id ts
def headBad (p : Par) (now next : Int) : Prop := parE p ≠ 0 ∨ ¬ (0 ≤ now ∧ now ≤ 1073741824) ∨ ¬ (0 ≤ next ∧ next ≤ 1073741824)
instance (p : Par) (now next : Int) : Decidable (headBad p now next) := by unfold headBad; infer_instance
def ckE (p : Par) (now next : Int) (L : List Tk) : Int := if headBad p now next then 1 else if 16 < L.length then 4 else ckL p next (-1) L
theorem eE {p : Par} {now next : Int} {L : List Tk} (h : headBad p now next) : ckE p now next L = 1 := if_pos h
theorem mR {p : Par} {now next : Int} {L : List Tk} (h : ¬ headBad p now next) (hl : 16 < L.length) : ckE p now next L = 4 := by unfold ckE; rw [if_neg h, if_pos hl]
theorem iT {p : Par} {now next : Int} {L : List Tk} (h : ¬ headBad p now next) (hl : ¬ 16 < L.length) : ckE p now next L = ckL p next (-1) L := by unfold ckE; rw [if_neg h, if_neg hl]
def lastId (L : List Tk) (k : Nat) : Int := match k with
 | 0 => -1
 | k + 1 => (L[k]?.getD tk0).id
theorem kP {L : List Tk} {k : Nat} (hk : k < L.length) : L.drop k = L[k]?.getD tk0 :: L.drop (k + 1) := by
 rw [List.drop_eq_getElem_cons hk, List.getElem?_eq_getElem hk, Option.getD_some]
theorem iZ {p : Par} {next : Int} {L : List Tk} {k : Nat} (hk : k < L.length) (h : (L[k]?.getD tk0).id ≤ lastId L k ∨ next ≤ (L[k]?.getD tk0).id) : ckL p next (lastId L k) (L.drop k) = 8 := by
 rw [kP hk]; unfold ckL; rw [if_pos h]
theorem b8 {p : Par} {next : Int} {L : List Tk} {k : Nat} (hk : k < L.length) (h : ¬ ((L[k]?.getD tk0).id ≤ lastId L k ∨ next ≤ (L[k]?.getD tk0).id)) (hb : tkE p (L[k]?.getD tk0) ≠ 0) : ckL p next (lastId L k) (L.drop k) = tkE p (L[k]?.getD tk0) := by
 rw [kP hk]; unfold ckL; rw [if_neg h, if_pos hb]
theorem qH {p : Par} {next : Int} {L : List Tk} {k : Nat} (hk : k < L.length) (h : ¬ ((L[k]?.getD tk0).id ≤ lastId L k ∨ next ≤ (L[k]?.getD tk0).id)) (hb : tkE p (L[k]?.getD tk0) = 0) : ckL p next (lastId L k) (L.drop k) = ckL p next (lastId L (k + 1)) (L.drop (k + 1)) := by
 rw [kP hk]
 conv => lhs; unfold ckL
 rw [if_neg h, if_neg (by rw [hb]; exact fun e => e rfl)]
 rfl
theorem ckL_end (p : Par) (next : Int) (L : List Tk) : ckL p next (lastId L L.length) (L.drop L.length) = 0 := by
 rw [List.drop_length]; rfl
theorem bP {p : Par} {t : Tk} (h : tkBad p t) : tkE p t = 1 := if_pos h
theorem eD {p : Par} {t : Tk} (h : ¬ tkBad p t) (he : emptyE t.lo t.hi ≠ 0) : tkE p t = emptyE t.lo t.hi := by unfold tkE; rw [if_neg h, if_pos he]
theorem eC {p : Par} {t : Tk} (h : ¬ tkBad p t) (he : emptyE t.lo t.hi = 0) (hn : emptyB t.lo t.hi = true) : tkE p t = 9 := by unfold tkE; rw [if_neg h, if_neg (fun e => e he), if_pos hn]
theorem nD {p : Par} {t : Tk} (h : ¬ tkBad p t) (he : emptyE t.lo t.hi = 0) (hn : emptyB t.lo t.hi = false) : tkE p t = 0 := by unfold tkE; rw [if_neg h, if_neg (fun e => e he), if_neg (by rw [hn]; decide)]
theorem tkE_zero {p : Par} {t : Tk} (h : tkE p t = 0) : ¬ tkBad p t ∧ emptyE t.lo t.hi = 0 ∧ emptyB t.lo t.hi = false := by
 by_cases h1 : tkBad p t
 ·rw [bP h1] at h; cases h
 by_cases h2 : emptyE t.lo t.hi = 0
 ·cases h3 : emptyB t.lo t.hi with
  | true => rw [eC h1 h2 h3] at h; cases h
  | false => exact ⟨h1, h2, rfl⟩
 rw [eD h1 h2] at h; exact absurd h h2
structure Pl where
 r : Int
 code : Int
 addr : Int
def pl0 : Pl := ⟨0, 0, 0⟩
def gp (L : List Pl) (k : Nat) : Pl := L[k]?.getD pl0
structure Ev where
 kind : Int
 id : Int
 plot : Int
abbrev Lv := Int × Int
def gl (L : List Lv) (k : Nat) : Lv := L[k]?.getD (0, 0)
def LvOk (l : Lv) : Prop := 0 < l.2 → meE l.1 l.2 = 0
def meaL (lo hi : List Int) (l : Lv) : List Int := if 0 < l.2 then loK (maF lo hi l.1 l.2) 201 else lo
def meaH (lo hi : List Int) (l : Lv) : List Int := if 0 < l.2 then hiK (maF lo hi l.1 l.2) 201 else hi
theorem mea_yes {lo hi : List Int} {l : Lv} (h : 0 < l.2) : meaL lo hi l = loK (maF lo hi l.1 l.2) 201 ∧ meaH lo hi l = hiK (maF lo hi l.1 l.2) 201 := ⟨if_pos h, if_pos h⟩
theorem p8 {lo hi : List Int} {l : Lv} (h : ¬ 0 < l.2) : meaL lo hi l = lo ∧ meaH lo hi l = hi := ⟨if_neg h, if_neg h⟩
def offV (t : Tk) (y : Pl) : Int := max (256 * y.r - prV t.rg (t.misses + 1)) (-(256 * y.r - prV t.rg (t.misses + 1)))
def bothB (t : Tk) (y : Pl) : Prop := 0 ≤ t.addr ∧ 0 ≤ y.addr
instance (t : Tk) (y : Pl) : Decidable (bothB t y) := by unfold bothB; infer_instance
def farB (p : Par) (t : Tk) (y : Pl) : Prop := 256 * p.gate < offV t y ∨ (bothB t y ∧ t.addr ≠ y.addr)
instance (p : Par) (t : Tk) (y : Pl) : Decidable (farB p t y) := by unfold farB; infer_instance
def costV (p : Par) (t : Tk) (y : Pl) (l : Lv) : Int := if farB p t y then -1 else if emptyB (meaL t.lo t.hi l) (meaH t.lo t.hi l) then -1 else if bothB t y then offV t y else offV t y + 65536
theorem bU {p : Par} {t : Tk} {y : Pl} {l : Lv} (h : farB p t y) : costV p t y l = -1 := if_pos h
theorem bV {p : Par} {t : Tk} {y : Pl} {l : Lv} (h : ¬ farB p t y) (h2 : emptyB (meaL t.lo t.hi l) (meaH t.lo t.hi l) = true) : costV p t y l = -1 := by unfold costV; rw [if_neg h, if_pos h2]
theorem gR {p : Par} {t : Tk} {y : Pl} {l : Lv} (h : ¬ farB p t y) (h2 : emptyB (meaL t.lo t.hi l) (meaH t.lo t.hi l) = false) (h3 : bothB t y) : costV p t y l = offV t y := by unfold costV; rw [if_neg h, if_neg (by rw [h2]; decide), if_pos h3]
theorem dO {p : Par} {t : Tk} {y : Pl} {l : Lv} (h : ¬ farB p t y) (h2 : emptyB (meaL t.lo t.hi l) (meaH t.lo t.hi l) = false) (h3 : ¬ bothB t y) : costV p t y l = offV t y + 65536 := by unfold costV; rw [if_neg h, if_neg (by rw [h2]; decide), if_neg h3]
end TrkMath
end
section
namespace Go.MyHeap
open Go.RowKit
theorem aD {w : World} {b i : Nat} {cs : Array Value} {T : TypeId} {fr : Nat × Nat} {v : Value} (h : w.heap[b]? = some (.cells cs T fr)) : (w.setCell ⟨b, i, none⟩ v).heap[b]? = some (.cells (cs.setIfInBounds i v) T fr) := by
 have hlt : b < w.heap.size := (Array.getElem?_eq_some_iff.1 h).1
 have h' : w.heap[b] = .cells cs T fr := by simpa [Array.getElem?_eq_getElem hlt] using h
 show (w.heap.modify b _)[b]? = _
 rw [Array.getElem?_eq_getElem (by simpa using hlt), Array.getElem_modify_self, h']; rfl
theorem aG {w : World} {b : Nat} {o o' : Obj} (h : w.heap[b]? = some o) : (w.alloc o').heap[b]? = some o :=
 (Below.heap_alloc w o' b (Array.getElem?_eq_some_iff.1 h).1).trans h
theorem aA {w : World} {b i : Nat} {cs : Array Value} {T : TypeId} {fr : Nat × Nat} {v : Value} (h : w.heap[b]? = some (.cells cs T fr)) (hv : cs[i]? = some v) : w.cell? ⟨b, i, none⟩ = some v := by simp [World.cell?, h, hv]
theorem aF {w : World} {b i : Nat} {cs : Array Value} {T : TypeId} (h : w.heap[b]? = some (.cells cs T (0, 0))) : w.frozen? ⟨b, i, none⟩ = false := by simp [World.frozen?, h]
def Only (b : Nat) (w w' : World) : Prop := w.grownBy w' (some b)
theorem Only.refl (b : Nat) (w : World) : Only b w w := ⟨rfl, rfl, rfl, Nat.le_refl _, fun _ _ _ => rfl⟩
theorem Only.trans {b : Nat} {x y z : World} (h : Only b x y) (k : Only b y z) : Only b x z :=
 ⟨k.os.trans h.os, k.tape.trans h.tape, k.output.trans h.output, Nat.le_trans h.size k.size, fun i hi hne => (k.block i (Nat.lt_of_lt_of_le hi h.size) hne).trans (h.block i hi hne)⟩
theorem Only.alloc {b : Nat} {x y : World} (h : Only b x y) (o : Obj) : Only b x (y.alloc o) := h.trans (World.grownBy_alloc y o _)
theorem Only.drew {b : Nat} {x y : World} (h : Only b x y) : Only b x y.drew := h.trans ⟨rfl, rfl, rfl, Nat.le_refl _, fun _ _ _ => rfl⟩
theorem Only.drewN {b : Nat} {x y : World} (h : Only b x y) (n : Nat) : Only b x (y.drewN n) := h.trans ⟨rfl, rfl, rfl, Nat.le_refl _, fun _ _ _ => rfl⟩
theorem Only.setCell {b : Nat} {x y : World} (h : Only b x y) (i : Nat) (v : Value) : Only b x (y.setCell ⟨b, i, none⟩ v) :=
 h.trans ⟨rfl, rfl, rfl, by simp [World.setCell], fun k _ hne => Below.heap_setCell y ⟨b, i, none⟩ v k (fun e => hne (by rw [e]))⟩
theorem Only.of_below {b : Nat} {x y : World} (h : Below x.heap.size x y) : Only b x y := ⟨h.os, h.tape, h.output, h.size, fun k hk _ => h.block k hk⟩
theorem Only.below {b B : Nat} {x y : World} (h : Only b x y) (hb : B ≤ b) (hB : B ≤ x.heap.size) : Below B x y := ⟨h.os, h.tape, h.output, h.size, fun k hk => h.block k (Nat.lt_of_lt_of_le hk hB) (fun e => by cases e; omega)⟩
theorem Only.keeps {b k : Nat} {x y : World} {o : Obj} (h : Only b x y) (hk : x.heap[k]? = some o) (hne : k ≠ b) : y.heap[k]? = some o :=
 (h.block k (Array.getElem?_eq_some_iff.1 hk).1 (fun e => hne (by cases e; rfl))).trans hk
theorem Only.cell {b : Nat} {x y : World} {a : Addr} {v : Value} (h : Only b x y) (hv : x.cell? a = some v) (hne : a.block ≠ b) : y.cell? a = some v :=
 (World.cell?_of_block (w := x) (h.block a.block (World.block_lt_of_cell? x a hv) (fun e => hne (by cases e; rfl)))).trans hv
theorem keeps_below {B k : Nat} {x y : World} {o : Obj} (h : Below B x y) (hk : x.heap[k]? = some o) (hB : k < B) : y.heap[k]? = some o := (h.block k hB).trans hk
theorem aI (w : World) (o : Obj) {n : Nat} (hn : n = w.heap.size) : (w.alloc o).heap[n]? = some o := by subst hn; exact heap_alloc_new w o
theorem dJ {w : World} {a : Addr} {v : Value} (o : Obj) (h : w.cell? a = some v) : (w.alloc o).cell? a = some v :=
 (World.cell?_of_block (w := w) (Below.heap_alloc w o a.block (World.block_lt_of_cell? w a h))).trans h
theorem aS {W w1 : World} {a : Addr} {v : Value} (hb : Below W.heap.size W w1) (h : W.cell? a = some v) : w1.cell? a = some v := (hb.cell (World.block_lt_of_cell? W a h)).trans h
theorem jY {W w1 : World} {a : Addr} {v : Value} {f : Bool} (hb : Below W.heap.size W w1) (h : W.cell? a = some v) (hf : W.frozen? a = f) : w1.frozen? a = f := (hb.frozen (World.block_lt_of_cell? W a h)).trans hf
theorem aN {W w1 : World} {k : Nat} {o : Obj} (hb : Below W.heap.size W w1) (h : W.heap[k]? = some o) : w1.heap[k]? = some o := (hb.block k (Array.getElem?_eq_some_iff.1 h).1).trans h
theorem aB {w : World} {b : Nat} {o : Obj} (h : w.heap[b]? = some o) : b < w.heap.size := (Array.getElem?_eq_some_iff.1 h).1
theorem gW {w : World} {b : Nat} {c0 c1 : Value} {T : TypeId} (h : w.heap[b]? = some (.cells #[c0, c1] T (0, 0))) :
    w.cell? ⟨b, 0, none⟩ = some c0 ∧ w.cell? ⟨b, 1, none⟩ = some c1 ∧ w.frozen? ⟨b, 0, none⟩ = false ∧ w.frozen? ⟨b, 1, none⟩ = false :=
 ⟨aA h rfl, aA h rfl, aF h, aF h⟩
theorem two_new {w : World} {b : Nat} {c0 c1 : Value} {T : TypeId} (h : w.heap[b]? = some (.cells #[c0, c1] T (0, 0))) (x y : Value) :
    ((w.setCell ⟨b, 0, none⟩ x).setCell ⟨b, 1, none⟩ y).cell? ⟨b, 0, none⟩ = some x ∧ ((w.setCell ⟨b, 0, none⟩ x).setCell ⟨b, 1, none⟩ y).cell? ⟨b, 1, none⟩ = some y :=
 ⟨aA (aD (aD h)) rfl, aA (aD (aD h)) rfl⟩
end Go.MyHeap
end
section
namespace Go.MyOwn
open Go.RowKit
def flat2 (ps : List (Int × Int)) : List Value := ps.flatMap fun p => [.int .i64 p.1, .int .i64 p.2]
theorem flat2_nil : flat2 [] = [] := rfl
theorem lQ (ps : List (Int × Int)) (p : Int × Int) : flat2 (ps ++ [p]) = flat2 ps ++ [.int .i64 p.1, .int .i64 p.2] := by simp [flat2]
theorem flat2_length (ps : List (Int × Int)) : (flat2 ps).length = ps.length * 2 := by
 induction ps with
 | nil => rfl
 | cons p ps ih => simp only [flat2, List.flatMap_cons, List.length_append, List.length_cons, List.length_nil] at ih ⊢; omega
theorem oB (ps : List (Int × Int)) (i : Nat) (hi : i < ps.length) : (flat2 ps)[i * 2]? = some (.int .i64 (ps[i]?.getD (0, 0)).1) ∧ (flat2 ps)[i * 2 + 1]? = some (.int .i64 (ps[i]?.getD (0, 0)).2) := by
 induction ps generalizing i with
 | nil => simp at hi
 | cons p ps ih =>
  have e : flat2 (p :: ps) = .int .i64 p.1 :: .int .i64 p.2 :: flat2 ps := rfl
  cases i with
  | zero => rw [e]; exact ⟨rfl, rfl⟩
  | succ i =>
   have := ih i (by simpa using hi)
   rw [e, show (i + 1) * 2 = i * 2 + 1 + 1 by omega]
   simpa using this
theorem bR {w : World} {base base' : Nat} {e : TypeId} {size : Nat} {v : Value} {n : Nat} {xs : List Value} (h : w.ownsRow base e size v n xs) (hb : base' ≤ base) : w.ownsRow base' e size v n xs := by
 refine ⟨h.1, ?_⟩
 rcases h.2 with h2 | ⟨g, cap, cur, hv, hg, r⟩
 ·exact Or.inl h2
 exact Or.inr ⟨g, cap, cur, hv, by omega, r⟩
theorem aO {w w' : World} {base n0 : Nat} {e : TypeId} {size : Nat} {v : Value} {n : Nat} {xs : List Value} (h : w.ownsRow base e size v n xs) (hb : Below n0 w w') (hn : w.heap.size ≤ n0) : w'.ownsRow base e size v n xs := by
 refine ⟨h.1, ?_⟩
 rcases h.2 with h2 | ⟨g, cap, cur, hv, hg, hh, r⟩
 ·exact Or.inl h2
 exact Or.inr ⟨g, cap, cur, hv, hg, (hb.block g (by have := (Array.getElem?_eq_some_iff.1 hh).1; omega)).trans hh, r⟩
theorem jV {w w' : World} {base b : Nat} {e : TypeId} {size : Nat} {v : Value} {n : Nat} {xs : List Value} (h : w.ownsRow base e size v n xs) (hg : w.grownBy w' (some b)) (hne : v.ownBlock ≠ some b) : w'.ownsRow base e size v n xs :=
 h.kept hg (Or.inr hne)
end Go.MyOwn
end
