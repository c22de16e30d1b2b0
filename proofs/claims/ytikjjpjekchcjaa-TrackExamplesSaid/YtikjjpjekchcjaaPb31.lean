/-
  BitsLib, PtGrayB, PtGrayC, PtGrayD, PtGrayE, PtGrayF, PtGrayG, PtGrayH, PtGrayI
-/
import Derived.WalkKit
import Derived.Test.YtikjjpjekchcjaaProg
import Derived.Test.YtikjjpjekchcjaaPb1
import Derived.WalkSpells
import Derived.WalkLawsBesides
import Derived.Handy
import Derived.Laws.EntriesVeiled
import Derived.Deep.RegionHeld3
import Derived.Lib.Hide
import Derived.BigQuiet
import Derived.Deep.QuietTactic
section
namespace Go.MyBits
theorem ofInt_i64 (a : Nat) (ha : a < 9223372036854775808) : (BitVec.ofInt 64 (a : Int)).toNat = a := by
 rw [BitVec.ofInt_natCast, BitVec.toNat_ofNat]; exact Nat.mod_eq_of_lt (by omega)
theorem i64_xor_nat (a b : Nat) (ha : a < 9223372036854775808) (hb : b < 9223372036854775808) : bits .xor .i64 (a : Int) (b : Int) = ((a ^^^ b : Nat) : Int) := by
 have hx : a ^^^ b < 2 ^ 63 := Nat.xor_lt_two_pow (by omega) (by omega)
 show IntKind.i64.wrap ((BitVec.ofInt 64 (a : Int) ^^^ BitVec.ofInt 64 (b : Int)).toNat : Int) = _
 rw [BitVec.toNat_xor, ofInt_i64 a ha, ofInt_i64 b hb, IntKind.wrap_i64]
 omega
theorem i64_andNot_nat (a b : Nat) (ha : a < 9223372036854775808) (hb : b < 9223372036854775808) : bits .andNot .i64 (a : Int) (b : Int) = ((a &&& (18446744073709551615 - b) : Nat) : Int) := by
 have hx : (18446744073709551615 - b) &&& a < 2 ^ 63 := Nat.and_lt_two_pow _ (by omega)
 rw [Nat.and_comm] at hx
 show IntKind.i64.wrap ((BitVec.ofInt 64 (a : Int) &&& ~~~BitVec.ofInt 64 (b : Int)).toNat : Int) = _
 rw [BitVec.toNat_and, BitVec.toNat_not, ofInt_i64 a ha, ofInt_i64 b hb, IntKind.wrap_i64]
 have e : 2 ^ 64 - 1 - b = 18446744073709551615 - b := by omega
 rw [e]
 omega
theorem i64_and1 (n : Int) : bits .and .i64 n 1 = n % 2 := by
 have h1 : (BitVec.ofInt 64 1).toNat = 2 ^ 1 - 1 := by decide
 have key : (BitVec.ofInt 64 n &&& BitVec.ofInt 64 1).toNat = (n % ((2 ^ 64 : Nat) : Int)).toNat % 2 ^ 1 := by
  rw [BitVec.toNat_and, BitVec.toNat_ofInt, h1, Nat.and_two_pow_sub_one_eq_mod]
 show IntKind.i64.wrap ((BitVec.ofInt 64 n &&& BitVec.ofInt 64 1).toNat : Nat) = n % 2
 rw [key, IntKind.wrap_i64]
 omega
theorem i64_and7 (n : Int) : bits .and .i64 n 7 = n % 8 := by
 have h1 : (BitVec.ofInt 64 7).toNat = 2 ^ 3 - 1 := by decide
 have key : (BitVec.ofInt 64 n &&& BitVec.ofInt 64 7).toNat = (n % ((2 ^ 64 : Nat) : Int)).toNat % 2 ^ 3 := by
  rw [BitVec.toNat_and, BitVec.toNat_ofInt, h1, Nat.and_two_pow_sub_one_eq_mod]
 show IntKind.i64.wrap ((BitVec.ofInt 64 n &&& BitVec.ofInt 64 7).toNat : Nat) = n % 8
 rw [key, IntKind.wrap_i64]
 omega
end Go.MyBits
end
section
namespace Go.Proofs.Ytikjjpjekchcjaa.Gry
open Go.RowKit
set_option maxRecDepth 100000 in
theorem closure_any (s : Int) (t : Nat) (v : Nat) (b : Nat) (w : World) (hst : s = t) (hs : t ≤ 32) (hv : v < 2 ^ 63) (hc : w.cell? ⟨b, 0, none⟩ = some (.int .i64 v)) (hf : w.frozen? ⟨b, 0, none⟩ = false) :
    Calls Try.prog 80 #[.int .i64 s, .pointer (some ⟨b, 0, none⟩)] w fun e w' => e = .returned (.tuple #[]) ∧ w' = (w.setCell ⟨b, 0, none⟩ (.int .i64 (GrayMath.dstep t v : Nat))).drew := by
 subst hst
 have e : bits .xor .i64 (v : Int) ((v : Int) / 2 ^ t) = (GrayMath.dstep t v : Nat) := by
  have := MyBits.i64_xor_nat v (v / 2 ^ t) (by omega) (Nat.lt_of_le_of_lt (Nat.div_le_self _ _) (by omega))
  rw [GrayMath.dstep, Nat.shiftRight_eq_div_pow, ← this]; simp
 go_enter Try.func80, Try.ntmps80
 go_wp2
 go_region
 all_goals go_end0
 all_goals exact ⟨rfl, rfl⟩
set_option maxHeartbeats 1000000 in
set_option maxRecDepth 100000 in
theorem ungray_walk (n : Nat) (w : World) (h1 : n < 2 ^ 63) :
    Calls Try.prog 52 #[.int .i64 n] w fun e w' => e = .returned (.int .i64 (GrayMath.un n : Nat)) ∧ Below w.heap.size w w' := by
 unfold GrayMath.un
 go_enter Try.func52, Try.ntmps52
 go_wp2_with fail
 refine wp_loop_rounds 7 ?_
 rw [rounds_succ]; go_wp2_with fail
 refine (closure_any 1 1 n _ _ rfl (by decide) (h1) ?_ ?_).mono ?_
 ·go_simp
 ·go_simp
 rintro e w' ⟨rfl, rfl⟩
 go_wp2_with fail
 rw [rounds_succ]; go_wp2_with fail
 refine (closure_any 2 2 (GrayMath.dstep 1 n) _ _ rfl (by decide) (GrayMath.dstep_lt 1 _ 63 (h1)) ?_ ?_).mono ?_
 ·go_simp
 ·go_simp
 rintro e w' ⟨rfl, rfl⟩
 go_wp2_with fail
 rw [rounds_succ]; go_wp2_with fail
 refine (closure_any 4 4 (GrayMath.dstep 2 (GrayMath.dstep 1 n)) _ _ rfl (by decide) (GrayMath.dstep_lt 2 _ 63 (GrayMath.dstep_lt 1 _ 63 (h1))) ?_ ?_).mono ?_
 ·go_simp
 ·go_simp
 rintro e w' ⟨rfl, rfl⟩
 go_wp2_with fail
 rw [rounds_succ]; go_wp2_with fail
 refine (closure_any 8 8 (GrayMath.dstep 4 (GrayMath.dstep 2 (GrayMath.dstep 1 n))) _ _ rfl (by decide) (GrayMath.dstep_lt 4 _ 63 (GrayMath.dstep_lt 2 _ 63 (GrayMath.dstep_lt 1 _ 63 (h1)))) ?_ ?_).mono ?_
 ·go_simp
 ·go_simp
 rintro e w' ⟨rfl, rfl⟩
 go_wp2_with fail
 rw [rounds_succ]; go_wp2_with fail
 refine (closure_any 16 16 (GrayMath.dstep 8 (GrayMath.dstep 4 (GrayMath.dstep 2 (GrayMath.dstep 1 n)))) _ _ rfl (by decide) (GrayMath.dstep_lt 8 _ 63 (GrayMath.dstep_lt 4 _ 63 (GrayMath.dstep_lt 2 _ 63 (GrayMath.dstep_lt 1 _ 63 (h1))))) ?_ ?_).mono ?_
 ·go_simp
 ·go_simp
 rintro e w' ⟨rfl, rfl⟩
 go_wp2_with fail
 rw [rounds_succ]; go_wp2_with fail
 refine (closure_any 32 32 (GrayMath.dstep 16 (GrayMath.dstep 8 (GrayMath.dstep 4 (GrayMath.dstep 2 (GrayMath.dstep 1 n))))) _ _ rfl (by decide) (GrayMath.dstep_lt 16 _ 63 (GrayMath.dstep_lt 8 _ 63 (GrayMath.dstep_lt 4 _ 63 (GrayMath.dstep_lt 2 _ 63 (GrayMath.dstep_lt 1 _ 63 (h1)))))) ?_ ?_).mono ?_
 ·go_simp
 ·go_simp
 rintro e w' ⟨rfl, rfl⟩
 go_wp2_with fail
 rw [rounds_succ]; go_wp2_with fail
 go_ret
 exact ⟨rfl, by go_grown⟩
end Go.Proofs.Ytikjjpjekchcjaa.Gry
end
section
namespace Go.Proofs.Ytikjjpjekchcjaa.Gry
open Go.RowKit GrayMath
set_option maxRecDepth 100000 in
theorem refGray_call (n : Int) (w : World) (h1 : n < 9223372036854775808) :
    Calls Try.prog 49 #[.int .i64 n] w fun e w' => e = .returned (.int .i64 (grI n)) ∧ w = w' := by
 by_cases h : n < 0
 ·have hg : grI n = 0 := by simp [grI, h]
  go_enter Try.func49, Try.ntmps49
  go_wp2
  go_ret
  exact ⟨by first | rfl | simp [hg], rfl⟩
 ·obtain ⟨m, rfl⟩ := Int.eq_ofNat_of_zero_le (show 0 ≤ n by omega)
  have hb : bits .xor .i64 (m : Int) ((m : Int) / 2) = (grI m) := by
   rw [grI_nat, gr, ← MyBits.i64_xor_nat m (m / 2) (by omega) (by omega)]; simp
  go_enter Try.func49, Try.ntmps49
  go_wp2
  go_ret
  exact ⟨by first | rfl | simp [hb], rfl⟩
set_option maxRecDepth 100000 in
theorem ungray_call (n : Int) (w : World) (h1 : n < 9223372036854775808) :
    Calls Try.prog 52 #[.int .i64 n] w fun e w' => e = .returned (.int .i64 (unI n)) ∧ Below w.heap.size w w' := by
 by_cases h : n < 0
 ·have hg : unI n = 0 := by simp [unI, h]
  go_enter Try.func52, Try.ntmps52
  go_wp2
  go_ret
  exact ⟨by first | rfl | simp [hg], by go_grown⟩
 ·obtain ⟨m, rfl⟩ := Int.eq_ofNat_of_zero_le (show 0 ≤ n by omega)
  rw [unI_nat]
  exact ungray_walk m w (by omega)
set_option maxRecDepth 100000 in
theorem known_call (n : Int) (w : World) :
    Calls Try.prog 56 #[.int .i64 n] w fun e w' => e = .returned (.bool (inR n)) ∧ w = w' := by
 unfold inR
 by_cases h : -1000 ≤ n <;> by_cases h2 : n ≤ 50000
 all_goals
  go_enter Try.func56, Try.ntmps56
  go_wp2
  go_ret
  exact ⟨by simp [h, h2], rfl⟩
set_option maxRecDepth 100000 in
theorem in_call (n : Int) (w : World) :
    Calls Try.prog 48 #[.int .i64 n] w fun e w' => e = .returned (.bool (inR n)) ∧ w = w' := by
 unfold inR
 by_cases h : -1000 ≤ n <;> by_cases h2 : n ≤ 50000
 all_goals
  go_enter Try.func48, Try.ntmps48
  go_wp2
  go_ret
  exact ⟨by simp [h, h2], rfl⟩
set_option maxRecDepth 100000 in
theorem fine_call (w : World) :
    Calls Try.prog 51 #[] w fun e w' => e = .returned (.agg #[.int .i64 25, .int .i64 (-1000), .int .i64 4096, .func (.func 79) #[] #[]]) ∧ Below w.heap.size w w' := by
 go_enter Try.func51, Try.ntmps51
 go_wp2
 go_returns
 exact ⟨rfl, by go_grown⟩
set_option maxRecDepth 100000 in
theorem coarse_call (w : World) :
    Calls Try.prog 53 #[] w fun e w' => e = .returned (.agg #[.int .i64 100, .int .i64 (-1200), .int .i64 0, .func (.func 81) #[] #[]]) ∧ Below w.heap.size w w' := by
 go_enter Try.func53, Try.ntmps53
 go_wp2
 go_returns
 exact ⟨rfl, by go_grown⟩
end Go.Proofs.Ytikjjpjekchcjaa.Gry
end
section
namespace Go.Proofs.Ytikjjpjekchcjaa.Gry
open Go.RowKit GrayMath
set_option maxHeartbeats 1000000 in
set_option maxRecDepth 100000 in
theorem hundreds_even (h : Int) (w : World) (h0 : h % 2 = 0) :
    Calls Try.prog 54 #[.int .i64 h] w fun e w' => e = .returned (.agg #[.int .i64 1, .int .i64 3, .int .i64 2, .int .i64 6, .int .i64 4]) ∧ Below w.heap.size w w' := by
 have hb : (bits .and .i64 h 1 == 1) = false := by rw [MyBits.i64_and1, h0]; rfl
 clear h0
 go_enter Try.func54, Try.ntmps54
 go_wp2
 go_returns
 exact ⟨rfl, by go_grown⟩
set_option maxHeartbeats 1000000 in
set_option maxRecDepth 100000 in
theorem reverse5 (a0 a1 a2 a3 a4 : Int) (T : TypeId) (n : Nat) (W : World) (hn : n = W.heap.size) :
    Calls Try.prog 82 #[.slice (some ⟨n, 0, none⟩) 5 5] (W.alloc (.cells #[.int .i64 a0, .int .i64 a1, .int .i64 a2, .int .i64 a3, .int .i64 a4] T)) fun e w' =>
     e = .returned (.tuple #[]) ∧ w' = (W.alloc (.cells #[.int .i64 a4, .int .i64 a3, .int .i64 a2, .int .i64 a1, .int .i64 a0] T)).drew.drew := by
 subst hn
 go_enter Try.func82, Try.ntmps82
 go_wp2
 refine wp_loop_rounds 3 ?_
 rw [rounds_succ]; go_wp2
 go_region
 all_goals (go_wp2; rw [rounds_succ]; go_wp2)
 go_region
 all_goals (go_wp2; rw [rounds_succ]; go_wp2; go_end0; exact ⟨rfl, rfl⟩)
set_option maxHeartbeats 1000000 in
set_option maxRecDepth 100000 in
theorem hundreds_odd (h : Int) (w : World) (h0 : h % 2 = 1) :
    Calls Try.prog 54 #[.int .i64 h] w fun e w' => e = .returned (.agg #[.int .i64 4, .int .i64 6, .int .i64 2, .int .i64 3, .int .i64 1]) ∧ Below w.heap.size w w' := by
 have hb : (bits .and .i64 h 1 == 1) = true := by rw [MyBits.i64_and1, h0]; rfl
 clear h0
 go_enter Try.func54, Try.ntmps54
 go_wp2_with fail
 refine (reverse5 1 3 2 6 4 _ _ _ (by simp)).mono ?_
 rintro e w' ⟨rfl, rfl⟩
 go_wp2
 go_returns
 exact ⟨rfl, by go_grown⟩
end Go.Proofs.Ytikjjpjekchcjaa.Gry
end
section
namespace Go.Proofs.Ytikjjpjekchcjaa.Gry
open Go.RowKit GrayMath
theorem fineC_in (a : Int) (h : inR a = true) : fineC a = 4096 + grI ((a + 1000) / 25) ∧ errA a = 0 := by
 have hb : -1000 ≤ a ∧ a ≤ 50000 := by simpa [inR] using h
 obtain ⟨m, hm⟩ := Int.eq_ofNat_of_zero_le (show 0 ≤ (a + 1000) / 25 by omega)
 refine ⟨?_, by unfold errA; rw [if_pos h]⟩
 unfold fineC
 rw [if_pos h, hm, grI_nat, Int.toNat_natCast]
 omega
theorem fineC_out (a : Int) (h : inR a = false) : fineC a = 0 ∧ errA a = 1 := by simp [fineC, errA, h]
set_option maxHeartbeats 1000000 in
set_option maxRecDepth 100000 in
theorem refFine_call (a : Int) (w : World) :
    Calls Try.prog 19 #[.int .i64 a] w fun e w' => e = .returned (.tuple #[.int .i64 (fineC a), .int .i64 (errA a)]) ∧ w = w' := by
 cases h : inR a with
 | true =>
  have hb : -1000 ≤ a ∧ a ≤ 50000 := by simpa [inR] using h
  obtain ⟨b0, b1⟩ := hb
  rw [(fineC_in a h).1, (fineC_in a h).2]
  have HB := Lib.hid (show (a + 1000) / 25 < 9223372036854775808 by omega)
  have g0 := grI_nonneg ((a + 1000) / 25)
  have g1 := grI_lt ((a + 1000) / 25) 11 (by omega)
  go_enter Try.func19, Try.ntmps19
  go_wp2_with (first | (go_at_call 48; refine (in_call _ _).mono ?_; rintro e w1 ⟨rfl, rfl⟩) | (go_at_call 49; refine (refGray_call _ _ HB.out).mono ?_; rintro e w2 ⟨rfl, rfl⟩))
  go_ret2
  exact ⟨rfl, rfl⟩
 | false =>
  rw [(fineC_out a h).1, (fineC_out a h).2]
  go_enter Try.func19, Try.ntmps19
  go_wp2_with (first | (go_at_call 48; refine (in_call _ _).mono ?_; rintro e w1 ⟨rfl, rfl⟩))
  go_ret2
  exact ⟨rfl, rfl⟩
end Go.Proofs.Ytikjjpjekchcjaa.Gry
end
section
namespace Go.Proofs.Ytikjjpjekchcjaa.Gry
open Go.RowKit GrayMath
theorem bcell {W w1 : World} (hb : Below W.heap.size W w1) : (∀ b o, b < W.heap.size → w1.cell? ⟨b, o, none⟩ = W.cell? ⟨b, o, none⟩) ∧ (∀ b o, b < W.heap.size → w1.frozen? ⟨b, o, none⟩ = W.frozen? ⟨b, o, none⟩) :=
 ⟨fun b o h => hb.cell (p := ⟨b, o, none⟩) h, fun b o h => hb.frozen (p := ⟨b, o, none⟩) h⟩
def ix5 (x v0 v1 v2 v3 v4 : Int) : Int := if x = v0 then 0 else if x = v1 then 1 else if x = v2 then 2 else if x = v3 then 3 else if x = v4 then 4 else -1
set_option maxHeartbeats 1000000 in
set_option maxRecDepth 100000 in
theorem index5 (x v0 v1 v2 v3 v4 : Int) (b : Nat) (w : World) (h0 : w.cell? ⟨b, 0, none⟩ = some (.int .i64 v0)) (h1 : w.cell? ⟨b, 1, none⟩ = some (.int .i64 v1)) (h2 : w.cell? ⟨b, 2, none⟩ = some (.int .i64 v2)) (h3 : w.cell? ⟨b, 3, none⟩ = some (.int .i64 v3)) (h4 : w.cell? ⟨b, 4, none⟩ = some (.int .i64 v4)) :
    Calls Try.prog 55 #[.slice (some ⟨b, 0, none⟩) 5 5, .int .i64 x] w fun e w' => e = .returned (.int .i64 (ix5 x v0 v1 v2 v3 v4)) ∧ w = w' := by
 go_enter Try.func55, Try.ntmps55
 go_wp2
 refine wp_loop_rounds 6 ?_
 rw [rounds_succ]; go_wp2
 all_goals try (rw [rounds_succ]; go_wp2)
 all_goals try (rw [rounds_succ]; go_wp2)
 all_goals try (rw [rounds_succ]; go_wp2)
 all_goals try (rw [rounds_succ]; go_wp2)
 all_goals try (rw [rounds_succ]; go_wp2)
 all_goals go_ret
 all_goals exact ⟨by simp_all [ix5], rfl⟩
def idxI (h x : Nat) : Int := match idx h x with | some r => (r : Int) | none => -1
theorem idx_mod (h x : Nat) : idx h x = idx (h % 2) x := by
 have : ∀ r, low h r = low (h % 2) r := fun r => by unfold low; rw [Nat.mod_mod]
 unfold idx
 congr 1
 funext r
 rw [this]
theorem idxI_tab : ∀ x, x < 8 → idxI 0 x = ix5 x 1 3 2 6 4 ∧ idxI 1 x = ix5 x 4 6 2 3 1 := by decide +kernel
theorem idxI_even (h x : Nat) (hx : x < 8) (hp : h % 2 = 0) : idxI h x = ix5 x 1 3 2 6 4 := by
 have := (idxI_tab x hx).1
 unfold idxI at this ⊢
 rwa [idx_mod, hp]
theorem idxI_odd (h x : Nat) (hx : x < 8) (hp : h % 2 = 1) : idxI h x = ix5 x 4 6 2 3 1 := by
 have := (idxI_tab x hx).2
 unfold idxI at this ⊢
 rwa [idx_mod, hp]
theorem andnot_tab : ∀ a, a < 64 → ∀ b, b < 128 → ((128 * a + b) &&& (18446744073709551615 - 4096)) = (128 * a + b) % 4096 := by decide +kernel
theorem andnot_4096 (c : Int) (h0 : 0 ≤ c) (h1 : c ≤ 8191) : bits .andNot .i64 c 4096 = c % 4096 := by
 obtain ⟨a, rfl⟩ := Int.eq_ofNat_of_zero_le h0
 have := andnot_tab (a / 128) (by omega) (a % 128) (by omega)
 rw [show 128 * (a / 128) + a % 128 = a by omega] at this
 have e := MyBits.i64_andNot_nat a 4096 (by omega) (by omega)
 rw [this] at e
 simpa using e
theorem altT_out (c : Int) (h : c < 0 ∨ 8191 < c) : altA c = 0 ∧ altS c = 0 ∧ altE c = 1 := by
 unfold altA altS altE altT; rw [if_pos h]; exact ⟨rfl, rfl, rfl⟩
theorem altT_fine (c : Int) (h0 : 4096 ≤ c) (h1 : c ≤ 8191) : altT c = if inR (-1000 + 25 * unI (c - 4096)) then (-1000 + 25 * unI (c - 4096), 25, 0) else (0, 0, 7) := by
 rw [show -1000 + 25 * unI (c - 4096) = 25 * unI (c - 4096) - 1000 by omega]
 obtain ⟨a, ha⟩ := Int.eq_ofNat_of_zero_le (show 0 ≤ c - 4096 by omega)
 unfold altT
 rw [if_neg (by omega), if_pos h0, ha, unI_nat, Int.toNat_natCast]
theorem altT_coarse (c : Int) (h0 : 0 ≤ c) (h1 : c < 4096) : altT c = if idxI (unI (c / 8)).toNat (c % 8).toNat < 0 then (0, 0, 2) else if inR (-1200 + 100 * (5 * unI (c / 8) + idxI (unI (c / 8)).toNat (c % 8).toNat)) then (-1200 + 100 * (5 * unI (c / 8) + idxI (unI (c / 8)).toNat (c % 8).toNat), 100, 0) else (0, 0, 7) := by
 rw [show -1200 + 100 * (5 * unI (c / 8) + idxI (unI (c / 8)).toNat (c % 8).toNat) = 100 * (5 * unI (c / 8) + idxI (unI (c / 8)).toNat (c % 8).toNat) - 1200 by omega]
 obtain ⟨a, rfl⟩ := Int.eq_ofNat_of_zero_le h0
 have e1 : (a : Int) / 8 = ((a / 8 : Nat) : Int) := by omega
 have e2 : ((a : Int) % 8).toNat = a % 8 := by omega
 unfold altT dec
 rw [if_neg (by omega), if_neg (by omega), e1, e2, unI_nat, Int.toNat_natCast, Int.toNat_natCast]
 unfold idxI
 cases idx (un (a / 8)) (a % 8) with
 | none => simp
 | some r =>
  have : ¬ ((r : Int) < 0) := by omega
  simp [this]
end Go.Proofs.Ytikjjpjekchcjaa.Gry
end
section
namespace Go.Proofs.Ytikjjpjekchcjaa.Gry
open Go.RowKit GrayMath
theorem alt_ret {c x y z : Int} (h : altT c = (x, y, z)) : Value.tuple #[.int .i64 (altA c), .int .i64 (altS c), .int .i64 (altE c)] = .tuple #[.int .i64 x, .int .i64 y, .int .i64 z] := by
 unfold altA altS altE; rw [h]
set_option maxHeartbeats 1000000 in
set_option maxRecDepth 100000 in
theorem Altitude_out (c : Int) (w : World) (h : c < 0 ∨ 8191 < c) :
    Calls Try.prog 23 #[.int .i64 c] w fun e w' => e = .returned (.tuple #[.int .i64 (altA c), .int .i64 (altS c), .int .i64 (altE c)]) ∧ Below w.heap.size w w' := by
 rw [(altT_out c h).1, (altT_out c h).2.1, (altT_out c h).2.2]
 rcases h with h | h
 ·go_enter Try.func23, Try.ntmps23
  go_wp2
  go_ret3
  exact ⟨rfl, by go_grown⟩
 ·have h' : ¬ c < 0 := by omega
  go_enter Try.func23, Try.ntmps23
  go_wp2
  go_ret3
  exact ⟨rfl, by go_grown⟩
set_option maxHeartbeats 2000000 in
set_option maxRecDepth 100000 in
theorem Altitude_fine (c : Int) (w : World) (h0 : 4096 ≤ c) (h1 : c ≤ 8191) :
    Calls Try.prog 23 #[.int .i64 c] w fun e w' => e = .returned (.tuple #[.int .i64 (altA c), .int .i64 (altS c), .int .i64 (altE c)]) ∧ Below w.heap.size w w' := by
 have hn : ¬ c < 0 := by omega
 have ea : bits .andNot .i64 c 4096 = c - 4096 := by rw [andnot_4096 c (by omega) h1]; omega
 have u0 := unI_nonneg (c - 4096)
 have u1 := unI_lt (c - 4096) 12 (by omega)
 have HB := Lib.hid (show c - 4096 < 9223372036854775808 by omega)
 have HT := Lib.hid (altT_fine c h0 h1)
 cases hr : inR (-1000 + 25 * unI (c - 4096))
 all_goals
  have HR := Lib.hid hr
  go_enter Try.func23, Try.ntmps23
  go_wp2_with (first | (go_at_call 51; refine (fine_call _).mono ?_; rintro e w1 ⟨rfl, hb1⟩; have hz1 := hb1.size) | (go_at_call 52; refine (ungray_call _ _ HB.out).mono ?_; rintro e w2 ⟨rfl, hb2⟩; have hz2 := hb2.size) | (go_at_call 56; refine (known_call _ _).mono ?_; rintro e w' ⟨rfl, rfl⟩))
 ·go_ret3
  rw [alt_ret (HT.out.trans (by rw [HR.out]; first | done | rfl))]
  exact ⟨rfl, (hb1.trans (hb2.mono hz1)).alloc (by omega) _⟩
 ·go_quiet (fail)
  go_wp2
  go_ret3
  rw [alt_ret (HT.out.trans (by rw [HR.out]; first | done | rfl))]
  exact ⟨rfl, below_drewN ((hb1.trans (hb2.mono hz1)).alloc (by omega) _) _⟩
set_option maxHeartbeats 4000000 in
set_option maxRecDepth 100000 in
theorem Altitude_coarse (c r v0 v1 v2 v3 v4 : Int) (w : World) (h0 : 0 ≤ c) (h1 : c ≤ 4095)
    (hA : ∀ w, Calls Try.prog 54 #[.int .i64 (unI (c / 8))] w fun e w' => e = .returned (.agg #[.int .i64 v0, .int .i64 v1, .int .i64 v2, .int .i64 v3, .int .i64 v4]) ∧ Below w.heap.size w w')
    (hx : ix5 (c % 8) v0 v1 v2 v3 v4 = r) (hi : idxI (unI (c / 8)).toNat (c % 8).toNat = r) (hr1 : -1 ≤ r) (hr2 : r ≤ 4) :
    Calls Try.prog 23 #[.int .i64 c] w fun e w' => e = .returned (.tuple #[.int .i64 (altA c), .int .i64 (altS c), .int .i64 (altE c)]) ∧ Below w.heap.size w w' := by
 have ea : bits .andNot .i64 c 4096 = c := by rw [andnot_4096 c (by omega) (by omega)]; omega
 have e7 : bits .and .i64 c 7 = c % 8 := MyBits.i64_and7 c
 have u0 := unI_nonneg (c / 8)
 have u1 := unI_lt (c / 8) 9 (by omega)
 have HB := Lib.hid (show c < 9223372036854775808 by omega)
 have HB2 := Lib.hid (show c / 8 < 9223372036854775808 by omega)
 have HA := Lib.hid hA
 have HX := Lib.hid hx
 have ht := altT_coarse c h0 (by omega)
 rw [hi] at ht
 have HT := Lib.hid ht
 clear hA hx ht hi
 have hcase : r < 0 ∨ (0 ≤ r ∧ inR (-1200 + 100 * (5 * unI (c / 8) + r)) = true) ∨ (0 ≤ r ∧ inR (-1200 + 100 * (5 * unI (c / 8) + r)) = false) := by
  by_cases hn : r < 0
  ·exact Or.inl hn
  ·cases hr : inR (-1200 + 100 * (5 * unI (c / 8) + r))
   ·exact Or.inr (Or.inr ⟨by omega, rfl⟩)
   ·exact Or.inr (Or.inl ⟨by omega, rfl⟩)
 rcases hcase with hn | ⟨hn, hr⟩ | ⟨hn, hr⟩
 all_goals
  go_enter Try.func23, Try.ntmps23
  go_wp2_with fail
  refine (fine_call _).mono ?_; rintro e w1 ⟨rfl, hb1⟩; have hz1 := hb1.size
  go_wp2_with fail
  refine (ungray_call _ _ HB.out).mono ?_; rintro e w2 ⟨rfl, hb2⟩; have hz2 := hb2.size
  have hB2 := hb1.trans (hb2.mono hz1)
  go_wp2_with fail
  refine (coarse_call _).mono ?_; rintro e w3 ⟨rfl, hb3⟩
  have hz3 : w2.heap.size < w3.heap.size := by have := hb3.size; simp at this; omega
  have hB3 := (hB2.alloc (by omega) _).trans (hb3.mono (by simp; omega))
  obtain ⟨hc3, hf3⟩ := bcell hb3
  clear hb3
  go_wp2_with fail
  refine (ungray_call _ _ HB2.out).mono ?_; rintro e w4 ⟨rfl, hb4⟩
  have hz4 : w3.heap.size ≤ w4.heap.size := by have := hb4.size; simpa using this
  have hB4 := ((((hB3.setCell (p := ⟨w2.heap.size, 0, none⟩) (by simp; omega) _).setCell (p := ⟨w2.heap.size, 1, none⟩) (by simp; omega) _).setCell (p := ⟨w2.heap.size, 2, none⟩) (by simp; omega) _).setCell (p := ⟨w2.heap.size, 3, none⟩) (by simp; omega) _).trans (hb4.mono (by simp; omega))
  obtain ⟨hc4, hf4⟩ := bcell hb4
  clear hb4
  have hz42 : w2.heap.size < w4.heap.size := by omega
  go_wp2_with fail
  refine (HA.out _).mono ?_; rintro e w5 ⟨rfl, hb5⟩
  have hz5 := hb5.size
  have hB5 := hB4.trans (hb5.mono (by omega))
  obtain ⟨hc5, hf5⟩ := bcell hb5
  clear hb5
  have hz52 : w2.heap.size < w5.heap.size := by omega
  go_wp2_with fail
  refine (index5 _ v0 v1 v2 v3 v4 _ _ ?_ ?_ ?_ ?_ ?_).mono ?_
  ·go_simp
  ·go_simp
  ·go_simp
  ·go_simp
  ·go_simp
  rw [HX.out]
  rintro e w6 ⟨rfl, rfl⟩
  have HR : Hid (r = r) := rfl
  go_wp2_with (first | (go_at_call 56; refine (known_call _ _).mono ?_; rintro e w' ⟨rfl, rfl⟩))
 ·go_ret3
  rw [alt_ret (HT.out.trans (if_pos hn))]
  exact ⟨rfl, hB5.alloc (by omega) _⟩
 ·go_quiet (fail)
  go_wp2
  go_ret3
  rw [alt_ret ((HT.out.trans (if_neg (by omega))).trans (if_pos hr))]
  exact ⟨rfl, below_drewN (hB5.alloc (by omega) _) _⟩
 ·go_ret3
  rw [alt_ret ((HT.out.trans (if_neg (by omega))).trans (if_neg (by simp [hr])))]
  exact ⟨rfl, hB5.alloc (by omega) _⟩
theorem ix5_bd (x v0 v1 v2 v3 v4 : Int) : -1 ≤ ix5 x v0 v1 v2 v3 v4 ∧ ix5 x v0 v1 v2 v3 v4 ≤ 4 := by
 unfold ix5; repeat' split
 all_goals omega
set_option maxRecDepth 100000 in
theorem Altitude_call (c : Int) (w : World) :
    Calls Try.prog 23 #[.int .i64 c] w fun e w' => e = .returned (.tuple #[.int .i64 (altA c), .int .i64 (altS c), .int .i64 (altE c)]) ∧ Below w.heap.size w w' := by
 by_cases h : c < 0 ∨ 8191 < c
 ·exact Altitude_out c w h
 ·by_cases h2 : 4096 ≤ c
  ·exact Altitude_fine c w h2 (by omega)
  ·have hm : ((c % 8).toNat : Int) = c % 8 := by omega
   by_cases hp : unI (c / 8) % 2 = 1
   ·have hi := idxI_odd (unI (c / 8)).toNat (c % 8).toNat (by omega) (by have := unI_nonneg (c / 8); omega)
    rw [hm] at hi
    exact Altitude_coarse c _ _ _ _ _ _ w (by omega) (by omega) (fun w => hundreds_odd _ w hp) rfl hi (ix5_bd _ _ _ _ _ _).1 (ix5_bd _ _ _ _ _ _).2
   ·have hi := idxI_even (unI (c / 8)).toNat (c % 8).toNat (by omega) (by have := unI_nonneg (c / 8); omega)
    rw [hm] at hi
    exact Altitude_coarse c _ _ _ _ _ _ w (by omega) (by omega) (fun w => hundreds_even _ w (by omega)) rfl hi (ix5_bd _ _ _ _ _ _).1 (ix5_bd _ _ _ _ _ _).2
end Go.Proofs.Ytikjjpjekchcjaa.Gry
end
