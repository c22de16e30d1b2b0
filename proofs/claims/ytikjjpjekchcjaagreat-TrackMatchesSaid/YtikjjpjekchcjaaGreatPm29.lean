/-
  PtGrayI, PtGrayJ, TrkRa
-/
import Derived.Test.YtikjjpjekchcjaaGreatPm28
set_option linter.all false
set_option maxRecDepth 100000
set_option maxHeartbeats 64000000
section
namespace Go.Proofs.YtikjjpjekchcjaaGreat.Gry
open Go.RowKit GrayMath
theorem fK {c x y z : Int} (h : altT c = (x, y, z)) : Value.tuple #[.int .i64 (altA c), .int .i64 (altS c), .int .i64 (altE c)] = .tuple #[.int .i64 x, .int .i64 y, .int .i64 z] := by
 unfold altA altS altE; rw [h]
theorem oQ (c : Int) (w : World) (h : c < 0 ∨ 8191 < c) :
    Calls Tryz.prog 24 #[.int .i64 c] w fun e w' => e = .returned (.tuple #[.int .i64 (altA c), .int .i64 (altS c), .int .i64 (altE c)]) ∧ Below w.heap.size w w' := by
 rw [(gJ c h).1, (gJ c h).2.1, (gJ c h).2.2]
 rcases h with h | h
 ·go_enter Tryz.func24, Tryz.ntmps24
  go_wp2
  go_ret3
  exact ⟨rfl, by go_grown⟩
 have h' : ¬ c < 0 := by omega
 go_enter Tryz.func24, Tryz.ntmps24
 go_wp2
 go_ret3
 exact ⟨rfl, by go_grown⟩
theorem nB (c : Int) (w : World) (h0 : 4096 ≤ c) (h1 : c ≤ 8191) :
    Calls Tryz.prog 24 #[.int .i64 c] w fun e w' => e = .returned (.tuple #[.int .i64 (altA c), .int .i64 (altS c), .int .i64 (altE c)]) ∧ Below w.heap.size w w' := by
 have hn : ¬ c < 0 := by omega
 have ea : bits .andNot .i64 c 4096 = c - 4096 := by rw [kY c (by omega) h1]; omega
 have u0 := fD (c - 4096)
 have u1 := unI_lt (c - 4096) 12 (by omega)
 have HB := qh (show c - 4096 < 9223372036854775808 by omega)
 have HT := qh (oI c h0 h1)
 cases hr : inR (-1000 + 25 * unI (c - 4096))
 all_goals
  have HR := qh hr
  go_enter Tryz.func24, Tryz.ntmps24
  go_wp2_with (first | (go_at_call 48; refine (oD _).mono ?_; rintro e w1 ⟨rfl, hb1⟩; have hz1 := hb1.size) | (go_at_call 49; refine (gY _ _ HB.out).mono ?_; rintro e w2 ⟨rfl, hb2⟩; have hz2 := hb2.size) | (go_at_call 53; refine (lL _ _).mono ?_; rintro e w' ⟨rfl, rfl⟩))
 ·go_ret3
  rw [fK (HT.out.trans (by rw [HR.out]; first | done | rfl))]
  exact ⟨rfl, (hb1.trans (hb2.mono hz1)).alloc (by omega) _⟩
 go_quiet (fail)
 go_wp2
 go_ret3
 rw [fK (HT.out.trans (by rw [HR.out]; first | done | rfl))]
 exact ⟨rfl, aM ((hb1.trans (hb2.mono hz1)).alloc (by omega) _) _⟩
theorem gE (c r v0 v1 v2 v3 v4 : Int) (w : World) (h0 : 0 ≤ c) (h1 : c ≤ 4095)
    (hA : ∀ w, Calls Tryz.prog 51 #[.int .i64 (unI (c / 8))] w fun e w' => e = .returned (.agg #[.int .i64 v0, .int .i64 v1, .int .i64 v2, .int .i64 v3, .int .i64 v4]) ∧ Below w.heap.size w w')
    (hx : ix5 (c % 8) v0 v1 v2 v3 v4 = r) (hi : idxI (unI (c / 8)).toNat (c % 8).toNat = r) (hr1 : -1 ≤ r) (hr2 : r ≤ 4) :
    Calls Tryz.prog 24 #[.int .i64 c] w fun e w' => e = .returned (.tuple #[.int .i64 (altA c), .int .i64 (altS c), .int .i64 (altE c)]) ∧ Below w.heap.size w w' := by
 have ea : bits .andNot .i64 c 4096 = c := by rw [kY c (by omega) (by omega)]; omega
 have e7 : bits .and .i64 c 7 = c % 8 := MyBits.i64_and7 c
 have u0 := fD (c / 8)
 have u1 := unI_lt (c / 8) 9 (by omega)
 have HB := qh (show c < 9223372036854775808 by omega)
 have HB2 := qh (show c / 8 < 9223372036854775808 by omega)
 have HA := qh hA
 have HX := qh hx
 have ht := pU c h0 (by omega)
 rw [hi] at ht
 have HT := qh ht
 clear hA hx ht hi
 have hcase : r < 0 ∨ (0 ≤ r ∧ inR (-1200 + 100 * (5 * unI (c / 8) + r)) = true) ∨ (0 ≤ r ∧ inR (-1200 + 100 * (5 * unI (c / 8) + r)) = false) := by
  by_cases hn : r < 0
  ·exact Or.inl hn
  cases hr : inR (-1200 + 100 * (5 * unI (c / 8) + r))
  ·exact Or.inr (Or.inr ⟨by omega, rfl⟩)
  exact Or.inr (Or.inl ⟨by omega, rfl⟩)
 rcases hcase with hn | ⟨hn, hr⟩ | ⟨hn, hr⟩
 all_goals
  go_enter Tryz.func24, Tryz.ntmps24
  go_wp2_with fail
  refine (oD _).mono ?_; rintro e w1 ⟨rfl, hb1⟩; have hz1 := hb1.size
  go_wp2_with fail
  refine (gY _ _ HB.out).mono ?_; rintro e w2 ⟨rfl, hb2⟩; have hz2 := hb2.size
  have hB2 := hb1.trans (hb2.mono hz1)
  go_wp2_with fail
  refine (pS _).mono ?_; rintro e w3 ⟨rfl, hb3⟩
  have hz3 : w2.heap.size < w3.heap.size := by have := hb3.size; simp at this; omega
  have hB3 := (hB2.alloc (by omega) _).trans (hb3.mono (by simp; omega))
  obtain ⟨hc3, hf3⟩ := bcell hb3
  clear hb3
  go_wp2_with fail
  refine (gY _ _ HB2.out).mono ?_; rintro e w4 ⟨rfl, hb4⟩
  have hz4 : w3.heap.size ≤ w4.heap.size := by have := hb4.size; simpa using this
  have hB4 := ((((hB3.setCell (p := ⟨w2.heap.size, 0, none⟩) (by simp; omega) _).setCell (p := ⟨w2.heap.size, 1, none⟩) (by simp; omega) _).setCell (p := ⟨w2.heap.size, 2, none⟩) (by simp; omega) _).setCell (p := ⟨w2.heap.size, 3, none⟩) (by simp; omega) _).trans (hb4.mono (by simp; omega))
  obtain ⟨hc4, hf4⟩ := bcell hb4
  clear hb4
  have hz42 : w2.heap.size < w4.heap.size := by omega
  go_wp2_with fail
  refine (HA.out _).mono ?_; rintro e w5 ⟨rfl, hb5⟩
  have hz5 := hb5.size
  have hB5 := hB4.trans (hb5.mono (by omega))
  obtain ⟨hc5, hf5⟩ := bcell hb5
  clear hb5
  have hz52 : w2.heap.size < w5.heap.size := by omega
  go_wp2_with fail
  refine (index5 _ v0 v1 v2 v3 v4 _ _ ?_ ?_ ?_ ?_ ?_).mono ?_
  ·go_simp
  ·go_simp
  ·go_simp
  ·go_simp
  ·go_simp
  rw [HX.out]
  rintro e w6 ⟨rfl, rfl⟩
  have HR : Hid (r = r) := rfl
  go_wp2_with (first | (go_at_call 53; refine (lL _ _).mono ?_; rintro e w' ⟨rfl, rfl⟩))
 ·go_ret3
  rw [fK (HT.out.trans (if_pos hn))]
  exact ⟨rfl, hB5.alloc (by omega) _⟩
 ·go_quiet (fail)
  go_wp2
  go_ret3
  rw [fK ((HT.out.trans (if_neg (by omega))).trans (if_pos hr))]
  exact ⟨rfl, aM (hB5.alloc (by omega) _) _⟩
 go_ret3
 rw [fK ((HT.out.trans (if_neg (by omega))).trans (if_neg (by simp [hr])))]
 exact ⟨rfl, hB5.alloc (by omega) _⟩
theorem qC (x v0 v1 v2 v3 v4 : Int) : -1 ≤ ix5 x v0 v1 v2 v3 v4 ∧ ix5 x v0 v1 v2 v3 v4 ≤ 4 := by
 unfold ix5; repeat' split
 all_goals omega
theorem Altitude_call (c : Int) (w : World) :
    Calls Tryz.prog 24 #[.int .i64 c] w fun e w' => e = .returned (.tuple #[.int .i64 (altA c), .int .i64 (altS c), .int .i64 (altE c)]) ∧ Below w.heap.size w w' := by
 by_cases h : c < 0 ∨ 8191 < c
 ·exact oQ c w h
 by_cases h2 : 4096 ≤ c
 ·exact nB c w h2 (by omega)
 have hm : ((c % 8).toNat : Int) = c % 8 := by omega
 by_cases hp : unI (c / 8) % 2 = 1
 ·have hi := idxI_odd (unI (c / 8)).toNat (c % 8).toNat (by omega) (by have := fD (c / 8); omega)
  rw [hm] at hi
  exact gE c _ _ _ _ _ _ w (by omega) (by omega) (fun w => oN _ w hp) rfl hi (qC _ _ _ _ _ _).1 (qC _ _ _ _ _ _).2
 have hi := idxI_even (unI (c / 8)).toNat (c % 8).toNat (by omega) (by have := fD (c / 8); omega)
 rw [hm] at hi
 exact gE c _ _ _ _ _ _ w (by omega) (by omega) (fun w => mZ _ w (by omega)) rfl hi (qC _ _ _ _ _ _).1 (qC _ _ _ _ _ _).2
end Go.Proofs.YtikjjpjekchcjaaGreat.Gry
end
section
namespace Go.Proofs.YtikjjpjekchcjaaGreat.Gry
open Go.RowKit GrayMath
def NotYet (c : Int) (j : Nat) : Prop := ∀ i, i < j → ((cc i : Nat) : Int) ≠ c
theorem dec_none (c : Nat) (h : c < 4096) (hn : NotYet c 2560) : dec c = none := by
 cases hd : dec c with
 | none => rfl
 | some k =>
  obtain ⟨h1, h2⟩ := cc_dec c k h hd
  exact absurd (by rw [h2]) (hn k h1)
theorem low_vals (h r : Nat) : low h r ≠ 5 := by unfold low; split <;> omega
theorem dec_skip (c : Int) (h0 : 0 ≤ c) (h1 : c < 4096) (hm : c % 8 = 0 ∨ c % 8 = 5 ∨ c % 8 = 7) : altT c = (0, 0, 2) := by
 obtain ⟨a, rfl⟩ := Int.eq_ofNat_of_zero_le h0
 have hd : dec a = none := by
  apply dec_none a (by omega)
  intro i hi he
  have e1 : cc i = a := by omega
  have := low_lt (i / 5) (i % 5)
  have h5 := low_vals (i / 5) (i % 5)
  unfold cc at e1
  omega
 unfold altT
 rw [if_neg (by omega), if_neg (by omega), Int.toNat_natCast, hd]
theorem alt_none (c : Int) (h0 : 0 ≤ c) (h1 : c < 4096) (hn : NotYet c 2560) : altT c = (0, 0, 2) := by
 obtain ⟨a, rfl⟩ := Int.eq_ofNat_of_zero_le h0
 unfold altT
 rw [if_neg (by omega), if_neg (by omega), Int.toNat_natCast, dec_none a (by omega) hn]
theorem alt_some (c : Int) (j : Nat) (h0 : 0 ≤ c) (h1 : c < 4096) (hj : j < 2560) (he : ((cc j : Nat) : Int) = c) : altT c = if inR (100 * (j : Int) - 1200) then (100 * (j : Int) - 1200, 100, 0) else (0, 0, 7) := by
 subst he
 unfold altT
 rw [if_neg (by omega), if_neg (by omega), Int.toNat_natCast, dec_cc j hj]
theorem kZ (c : Int) (w : World) (h : c < 0 ∨ 8191 < c) :
    Calls Tryz.prog 36 #[.int .i64 c] w fun e w' => e = .returned (.tuple #[.int .i64 (altA c), .int .i64 (altS c), .int .i64 (altE c)]) ∧ Below w.heap.size w w' := by
 rw [(gJ c h).1, (gJ c h).2.1, (gJ c h).2.2]
 rcases h with h | h
 ·go_enter Tryz.func36, Tryz.ntmps36
  go_wp2
  go_ret3
  exact ⟨rfl, by go_grown⟩
 have h' : ¬ c < 0 := by omega
 go_enter Tryz.func36, Tryz.ntmps36
 go_wp2
 go_ret3
 exact ⟨rfl, by go_grown⟩
theorem j3 (c : Int) (w : World) (h0 : 4096 ≤ c) (h1 : c ≤ 8191) :
    Calls Tryz.prog 36 #[.int .i64 c] w fun e w' => e = .returned (.tuple #[.int .i64 (altA c), .int .i64 (altS c), .int .i64 (altE c)]) ∧ Below w.heap.size w w' := by
 have hn : ¬ c < 0 := by omega
 have u0 := fD (c - 4096)
 have u1 := unI_lt (c - 4096) 12 (by omega)
 have HB := qh (show c - 4096 < 9223372036854775808 by omega)
 have ht := oI c h0 h1
 rw [show -1000 + 25 * unI (c - 4096) = 25 * unI (c - 4096) - 1000 by omega] at ht
 have HT := qh ht
 clear ht
 cases hr : inR (25 * unI (c - 4096) - 1000)
 all_goals
  have HR := qh hr
  go_enter Tryz.func36, Tryz.ntmps36
  go_wp2_with (first | (go_at_call 71; refine (k6 _ _ HB.out).mono ?_; rintro e w2 ⟨rfl, rfl⟩) | (go_at_call 72; refine (in_call _ _).mono ?_; rintro e w' ⟨rfl, rfl⟩))
  go_ret3
  rw [fK (HT.out.trans (by rw [HR.out]; first | done | rfl))]
  exact ⟨rfl, by go_grown⟩
theorem jZ (c : Int) (w : World) (h0 : 0 ≤ c) (h1 : c < 4096) (hm : c % 8 = 0 ∨ c % 8 = 5 ∨ c % 8 = 7) :
    Calls Tryz.prog 36 #[.int .i64 c] w fun e w' => e = .returned (.tuple #[.int .i64 (altA c), .int .i64 (altS c), .int .i64 (altE c)]) ∧ Below w.heap.size w w' := by
 have hn : ¬ c < 0 := by omega
 rw [fK (dec_skip c h0 h1 hm)]
 rcases hm with hm | hm | hm
 all_goals
  go_enter Tryz.func36, Tryz.ntmps36
  go_wp2
  go_ret3
  exact ⟨rfl, by go_grown⟩
theorem j2 (c : Int) (w : World) (h0 : 0 ≤ c) (h1 : c < 4096) (m0 : ¬ c % 8 = 0) (m5 : ¬ c % 8 = 5) (m7 : ¬ c % 8 = 7) :
    Calls Tryz.prog 36 #[.int .i64 c] w fun e w' => e = .returned (.tuple #[.int .i64 (altA c), .int .i64 (altS c), .int .i64 (altE c)]) ∧ Below w.heap.size w w' := by
 have hn : ¬ c < 0 := by omega
 have b0 : (c % 8 == 0) = false := beq_eq_false_iff_ne.2 m0
 have b5 : (c % 8 == 5) = false := beq_eq_false_iff_ne.2 m5
 have b7 : (c % 8 == 7) = false := beq_eq_false_iff_ne.2 m7
 go_enter Tryz.func36, Tryz.ntmps36
 go_wp2
 go_loopw [6] (fun k wr => ∃ j : Nat, j ≤ 2560 ∧ k = .int .i64 j ∧ NotYet c j ∧ Below w.heap.size w wr) (fun k _ => 2560 - (intOf k).toNat)
 case atStart => exact ⟨0, by omega, rfl, fun i hi => by omega, Below.refl _ _⟩
 case round =>
  obtain ⟨j, hj, rfl, hN, hB⟩ := hrel
  by_cases hlt : j < 2560
  ·have HI := qh (show (0 : Int) ≤ (j : Int) / 5 ∧ (j : Int) / 5 < 9223372036854775808 ∧ 0 ≤ (j : Int) % 5 ∧ (j : Int) % 5 ≤ 4 by omega)
   have g0 := grI_nonneg ((j : Int) / 5)
   have g1 := grI_lt ((j : Int) / 5) 9 (by omega)
   obtain ⟨l0, l1⟩ := lowI_bd ((j : Int) / 5) ((j : Int) % 5)
   have HC := qh (ccI j)
   by_cases hc : ((cc j : Nat) : Int) = c
   ·have ht : (8 * grI ((j : Int) / 5) + lowI ((j : Int) / 5) ((j : Int) % 5) == c) = true := by rw [ccI, hc]; simp
    have HS := qh (alt_some c j h0 h1 hlt hc)
    have HN := qh hN
    clear hc hN
    cases hr : inR (100 * (j : Int) - 1200)
    all_goals
     have HR := qh hr
     go_wp2_with (first | (go_at_call 72; refine (in_call _ _).mono ?_; rintro e w1 ⟨rfl, rfl⟩) | (go_at_call 73; refine (jT _ _ HI.out.2.1).mono ?_; rintro e w2 ⟨rfl, rfl⟩) | (go_at_call 74; refine (lK _ _ _ HI.out.1 HI.out.2.2.1 HI.out.2.2.2).mono ?_; rintro e w2 ⟨rfl, hb⟩))
     go_ret3
     rw [fK (HS.out.trans (by rw [HR.out]; first | done | rfl))]
     exact ⟨rfl, hB.trans (hb.mono hB.size)⟩
   have ht : (8 * grI ((j : Int) / 5) + lowI ((j : Int) / 5) ((j : Int) % 5) == c) = false := by rw [ccI]; simpa using hc
   have HN : Hid (NotYet c (j + 1)) := fun i hi => by
    by_cases e : i = j
    ·subst e; exact hc
    exact hN i (by omega)
   clear hc hN
   go_wp2_with (first | (go_at_call 73; refine (jT _ _ HI.out.2.1).mono ?_; rintro e w2 ⟨rfl, rfl⟩) | (go_at_call 74; refine (lK _ _ _ HI.out.1 HI.out.2.2.1 HI.out.2.2.2).mono ?_; rintro e w2 ⟨rfl, hb⟩))
   go_roundw
   case rel => exact ⟨j + 1, by omega, by go_num, HN.out, hB.trans (hb.mono hB.size)⟩
   case measure => simp [intOf]; omega
  obtain rfl : j = 2560 := by omega
  have HN := qh hN
  clear hN
  go_wp2
  go_ret3
  rw [fK (alt_none c h0 h1 HN.out)]
  exact ⟨rfl, hB⟩
theorem refAltitude_call (c : Int) (w : World) :
    Calls Tryz.prog 36 #[.int .i64 c] w fun e w' => e = .returned (.tuple #[.int .i64 (altA c), .int .i64 (altS c), .int .i64 (altE c)]) ∧ Below w.heap.size w w' := by
 by_cases h : c < 0 ∨ 8191 < c
 ·exact kZ c w h
 by_cases h2 : 4096 ≤ c
 ·exact j3 c w h2 (by omega)
 by_cases hm : c % 8 = 0 ∨ c % 8 = 5 ∨ c % 8 = 7
 ·exact jZ c w (by omega) (by omega) hm
 exact j2 c w (by omega) (by omega) (by omega) (by omega) (by omega)
end Go.Proofs.YtikjjpjekchcjaaGreat.Gry
end
section
namespace Go.Proofs.YtikjjpjekchcjaaGreat
open Go.RowKit TrkMath MyHeap MyOwn
theorem dF (p : Par) (w : World) : Calls Tryz.prog 42 #[parV p] w (NPost (parE p) w) := by
 have HB := qh (aC w (.cells #[.int .i64 p.gate, .int .i64 p.need, .int .i64 p.most, .int .i64 p.pull] 36))
 unfold parV
 by_cases h0 : p.gate < 1
 ·have HE := qh (dE (p := p) (fun h => by have := h.1; omega))
  go_enter Tryz.func42, Tryz.ntmps42
  go_wp2_with fail
  go_ret
  exact aJ HE.out.symm HB.out
 by_cases h1 : 256 < p.gate
 ·have HE := qh (dE (p := p) (fun h => by have := h.1; omega))
  go_enter Tryz.func42, Tryz.ntmps42
  go_wp2_with fail
  go_ret
  exact aJ HE.out.symm HB.out
 by_cases h2 : p.need < 1
 ·have HE := qh (dE (p := p) (fun h => by have := h.2.1; omega))
  go_enter Tryz.func42, Tryz.ntmps42
  go_wp2_with fail
  go_ret
  exact aJ HE.out.symm HB.out
 by_cases h3 : 8 < p.need
 ·have HE := qh (dE (p := p) (fun h => by have := h.2.1; omega))
  go_enter Tryz.func42, Tryz.ntmps42
  go_wp2_with fail
  go_ret
  exact aJ HE.out.symm HB.out
 by_cases h4 : p.most < 1
 ·have HE := qh (dE (p := p) (fun h => by have := h.2.2.1; omega))
  go_enter Tryz.func42, Tryz.ntmps42
  go_wp2_with fail
  go_ret
  exact aJ HE.out.symm HB.out
 by_cases h5 : 15 < p.most
 ·have HE := qh (dE (p := p) (fun h => by have := h.2.2.1; omega))
  go_enter Tryz.func42, Tryz.ntmps42
  go_wp2_with fail
  go_ret
  exact aJ HE.out.symm HB.out
 by_cases h6 : p.pull < 0
 ·have HE := qh (dE (p := p) (fun h => by have := h.2.2.2; omega))
  go_enter Tryz.func42, Tryz.ntmps42
  go_wp2_with fail
  go_ret
  exact aJ HE.out.symm HB.out
 by_cases h7 : 32 < p.pull
 ·have HE := qh (dE (p := p) (fun h => by have := h.2.2.2; omega))
  go_enter Tryz.func42, Tryz.ntmps42
  go_wp2_with fail
  go_ret
  exact aJ HE.out.symm HB.out
 have HE := qh (kE (p := p) ⟨by omega, by omega, by omega, by omega⟩)
 go_enter Tryz.func42, Tryz.ntmps42
 go_wp2_with fail
 go_ret
 exact aJ HE.out.symm HB.out
def plV (y : Pl) : Value := .agg #[.int .i64 y.r, .int .i64 y.code, .int .i64 y.addr]
theorem rplot_call (y : Pl) (w : World) : Calls Tryz.prog 61 #[plV y] w (NPost (plE y) w) := by
 obtain ⟨yr, yc, ya⟩ := y
 have HB := qh (aC w (.cells #[.int .i64 yr, .int .i64 yc, .int .i64 ya] 63))
 have HX := qh (aI w (.cells #[.int .i64 yr, .int .i64 yc, .int .i64 ya] 63 (0, 0)) rfl)
 unfold plV
 simp only []
 by_cases h0 : yr < 0
 ·have HE := qh (dQ (y := ⟨yr, yc, ya⟩) (show plBad ⟨yr, yc, ya⟩ from by unfold plBad; dsimp only; omega))
  go_enter Tryz.func61, Tryz.ntmps61
  go_wp2_with fail
  go_ret
  exact aJ HE.out.symm HB.out
 by_cases h1 : 8192 < yr
 ·have HE := qh (dQ (y := ⟨yr, yc, ya⟩) (show plBad ⟨yr, yc, ya⟩ from by unfold plBad; dsimp only; omega))
  go_enter Tryz.func61, Tryz.ntmps61
  go_wp2_with fail
  go_ret
  exact aJ HE.out.symm HB.out
 by_cases h2 : yc < -1
 ·have HE := qh (dQ (y := ⟨yr, yc, ya⟩) (show plBad ⟨yr, yc, ya⟩ from by unfold plBad; dsimp only; omega))
  go_enter Tryz.func61, Tryz.ntmps61
  go_wp2_with fail
  go_ret
  exact aJ HE.out.symm HB.out
 by_cases h3 : 8191 < yc
 ·have HE := qh (dQ (y := ⟨yr, yc, ya⟩) (show plBad ⟨yr, yc, ya⟩ from by unfold plBad; dsimp only; omega))
  go_enter Tryz.func61, Tryz.ntmps61
  go_wp2_with fail
  go_ret
  exact aJ HE.out.symm HB.out
 by_cases h4 : ya < -1
 ·have HE := qh (dQ (y := ⟨yr, yc, ya⟩) (show plBad ⟨yr, yc, ya⟩ from by unfold plBad; dsimp only; omega))
  go_enter Tryz.func61, Tryz.ntmps61
  go_wp2_with fail
  go_ret
  exact aJ HE.out.symm HB.out
 by_cases h5 : 16777215 < ya
 ·have HE := qh (dQ (y := ⟨yr, yc, ya⟩) (show plBad ⟨yr, yc, ya⟩ from by unfold plBad; dsimp only; omega))
  go_enter Tryz.func61, Tryz.ntmps61
  go_wp2_with fail
  go_ret
  exact aJ HE.out.symm HB.out
 have HN := qh (show ¬ plBad ⟨yr, yc, ya⟩ from by unfold plBad; dsimp only; omega)
 by_cases h6 : yc < 0
 ·have HE := qh (qW HN.out (show ¬ 0 ≤ yc by omega))
  go_enter Tryz.func61, Tryz.ntmps61
  go_wp2_with fail
  go_ret
  exact aJ HE.out.symm HB.out
 have HE := qh (mI HN.out (show 0 ≤ yc by omega))
 go_enter Tryz.func61, Tryz.ntmps61
 go_wp2_with fail
 refine (Gry.refAltitude_call yc _).mono ?_; rintro e w1 ⟨rfl, hb⟩
 replace HB := qh (HB.out.trans (hb.mono HB.out.size))
 clear hb
 go_wp2_with fail
 go_ret
 exact aJ HE.out.symm HB.out
theorem qL {B b : Nat} {W W' : World} {vL vH : Value} {lo hi : List Int} (h : Alt.TwoOwn B vL vH lo hi W) (hO : Only b W W') (hb : b < B) : Alt.TwoOwn B vL vH lo hi W' :=
 ⟨Outs.row (Outs.of_only (X := [some b]) hO (List.mem_singleton.2 rfl)) h.L (fun g e hg => by have h1 := (h.L.lt g e).1; have h2 := Option.some.inj (List.mem_singleton.1 hg); omega), Outs.row (Outs.of_only (X := [some b]) hO (List.mem_singleton.2 rfl)) h.H (fun g e hg => by have h1 := (h.H.lt g e).1; have h2 := Option.some.inj (List.mem_singleton.1 hg); omega), h.A⟩
def RmPost (t : Tk) (s : Bs) (lo' hi' : List Int) (w : World) (e : Ending) (w' : World) : Prop :=
 ∃ s' : Bs, e = .returned (bdV' s') ∧ Below w.heap.size w w' ∧ BdI w' ({ t with lo := lo', hi := hi' }, s') ∧
  ∀ (B : Nat) (X : List (Option Nat)), B ≤ w.heap.size → (∀ g, some g ∈ X → g < w.heap.size) → BdX B X w (t, s) → BdX B X w' ({ t with lo := lo', hi := hi' }, s')
theorem bF (t : Tk) (s : Bs) (y : Pl) (w : World) (hy : plE y = 0) (hC : AltMath.chB t.lo t.hi = 0) (hI : BdI w (t, s)) :
    Calls Tryz.prog 67 #[bdV' s, plV y] w (RmPost t s (meaL t.lo t.hi (lvOf y)) (meaH t.lo t.hi (lvOf y)) w) := by
 have HLv := qh (jH hy)
 have HI := qh hI
 have HC := qh hC
 have HPe := qh hy
 obtain ⟨yr, yc, ya⟩ := y
 obtain ⟨aL, nL, cL, aH, nH, cH⟩ := s
 obtain ⟨R, hR⟩ : ∃ b, b = w.heap.size + 1 + 1 := ⟨_, rfl⟩
 have HB := qh (((aC w (.cells #[.slice aL nL cL, .slice aH nH cH] 53)).alloc (by simp) (.cells #[.int .i64 yr, .int .i64 yc, .int .i64 ya] 63)).alloc (by simp; omega) (.cells #[.slice none 0 0, .slice none 0 0] 53))
 have HX := qh (show (((w.alloc (.cells #[.slice aL nL cL, .slice aH nH cH] 53)).alloc (.cells #[.int .i64 yr, .int .i64 yc, .int .i64 ya] 63)).alloc (.cells #[.slice none 0 0, .slice none 0 0] 53)).heap[w.heap.size]? = some (.cells #[.slice aL nL cL, .slice aH nH cH] 53 (0, 0)) ∧ (((w.alloc (.cells #[.slice aL nL cL, .slice aH nH cH] 53)).alloc (.cells #[.int .i64 yr, .int .i64 yc, .int .i64 ya] 63)).alloc (.cells #[.slice none 0 0, .slice none 0 0] 53)).heap[w.heap.size + 1]? = some (.cells #[.int .i64 yr, .int .i64 yc, .int .i64 ya] 63 (0, 0)) ∧ (((w.alloc (.cells #[.slice aL nL cL, .slice aH nH cH] 53)).alloc (.cells #[.int .i64 yr, .int .i64 yc, .int .i64 ya] 63)).alloc (.cells #[.slice none 0 0, .slice none 0 0] 53)).heap[w.heap.size + 1 + 1]? = some (.cells #[.slice none 0 0, .slice none 0 0] 53 (0, 0))
  from ⟨aG (aG (aI _ _ rfl)), aG (aI _ _ (by simp)), aI _ _ (by simp)⟩)
 have HRr := qh hR
 clear hy hC hI hR
 unfold bdV' plV
 simp only []
 by_cases hc : yc < 0
 ·have HM := qh (p8 (lo := t.lo) (hi := t.hi) (l := lvOf ⟨yr, yc, ya⟩) (by rw [jI (by show ¬ 0 ≤ yc; omega)]; decide))
  go_enter Tryz.func67, Tryz.ntmps67
  go_wp2_with fail
  have hB := ((aC w (.cells #[.slice aL nL cL, .slice aH nH cH] 53)).alloc (by simp) (.cells #[.int .i64 yr, .int .i64 yc, .int .i64 ya] 63)).alloc (by simp; omega) (.cells #[.slice aL nL cL, .slice aH nH cH] 53)
  refine bodyPost_ret (v := .agg #[.slice aL nL cL, .slice aH nH cH]) ?_ rfl ?_
  ·simp [results, Tryz.f67, go_sem]
  rw [HM.out.1, HM.out.2]
  exact ⟨⟨aL, nL, cL, aH, nH, cH⟩, rfl, hB, ⟨HI.out.L.below hB, HI.out.H.below hB⟩, fun B X _ _ hq => hq.outs (Outs.of_below hB)⟩
 have hc0 : 0 ≤ yc := by omega
 have hlv := gI (y := ⟨yr, yc, ya⟩) hc0
 obtain ⟨A, hA⟩ : ∃ x, GrayMath.altA yc = x := ⟨_, rfl⟩
 obtain ⟨S, hS⟩ : ∃ x, GrayMath.altS yc = x := ⟨_, rfl⟩
 have hlv : lvOf ⟨yr, yc, ya⟩ = (A, S) := by rw [hlv, ← hA, ← hS]
 have hpos : 0 < S := by
  have h := (mK HPe.out).2 hc0
  rw [hlv] at h
  exact h
 have hme : AltMath.meE A S = 0 := by
  have h := HLv.out
  rw [hlv] at h
  exact h hpos
 have HM := qh (show meaL t.lo t.hi (lvOf ⟨yr, yc, ya⟩) = AltMath.loK (AltMath.maF t.lo t.hi A S) 201 ∧ meaH t.lo t.hi (lvOf ⟨yr, yc, ya⟩) = AltMath.hiK (AltMath.maF t.lo t.hi A S) 201 from by rw [hlv]; exact mea_yes (l := (A, S)) hpos)
 have HE0 := qh (show AltMath.maE t.lo t.hi A S = 0 from AltMath.maE_ok HC.out hme)
 have HCA := qh (show ∀ W : World, Calls Tryz.prog 36 #[.int .i64 yc] W (fun e w' => (∃ E, e = .returned (.tuple #[.int .i64 A, .int .i64 S, .int .i64 E])) ∧ Below W.heap.size W w') from fun W => (Gry.refAltitude_call yc W).mono fun e w' h => ⟨⟨_, by rw [← hA, ← hS]; exact h.1⟩, h.2⟩)
 clear hlv hme hpos hA hS hc0 HLv HPe
 go_enter Tryz.func67, Tryz.ntmps67
 go_wp2_with fail
 refine (HCA.out _).mono ?_; rintro e w1 ⟨⟨E, rfl⟩, hb⟩
 have K := qh (And.intro (HB.out.trans (hb.mono HB.out.size)) (And.intro (aN hb HX.out.1) (aN hb HX.out.2.2)))
 clear hb
 obtain ⟨x0, x1, f0, f1⟩ := Alt.two_facts K.out.2.1
 have xl := aB K.out.2.1
 have hcall := Alt.rMea_call aL aH nL nH cL cH t.lo t.hi A S w1 (HI.out.L.below K.out.1) (HI.out.H.below K.out.1)
 obtain ⟨lo', hlo⟩ : ∃ l, AltMath.loK (AltMath.maF t.lo t.hi A S) 201 = l := ⟨_, rfl⟩
 obtain ⟨hi', hhi⟩ : ∃ l, AltMath.hiK (AltMath.maF t.lo t.hi A S) 201 = l := ⟨_, rfl⟩
 have l1 : lo'.length = 201 := by rw [← hlo]; exact AltMath.loK_len _ _
 have l2 : hi'.length = 201 := by rw [← hhi]; exact AltMath.hiK_len _ _
 rw [HE0.out, hlo, hhi] at hcall
 rw [hlo, hhi] at HM
 have HLn := qh (And.intro l1 l2)
 clear hlo hhi l1 l2
 unfold Alt.bdV at hcall
 go_wp2_with fail
 refine hcall.mono ?_; rintro e w2 ⟨vL, vH, rfl, hT2, -, hb⟩
 replace hT2 := hT2 rfl
 obtain ⟨aP, cP, rfl⟩ := aU (HLn.out.1 ▸ hT2.L)
 obtain ⟨aQ, cQ, rfl⟩ := aU (HLn.out.2 ▸ hT2.H)
 have HT := qh hT2
 have HW1 := qh (show w.heap.size + 1 + 1 < w1.heap.size from aB K.out.2.2)
 replace K := qh (And.intro (K.out.1.trans (hb.mono K.out.1.size)) (And.intro (aN hb K.out.2.1) (aN hb K.out.2.2)))
 clear hb hT2 hcall x0 x1 f0 f1 xl
 obtain ⟨x0, x1, f0, f1⟩ := Alt.two_facts K.out.2.1
 have xl := aB K.out.2.1
 go_upto_region 5 with fail
 have hO := iN w2 w.heap.size (.slice aP 201 cP) (.slice aQ 201 cQ)
 replace HT := qh (show Alt.TwoOwn w1.heap.size (.slice aP 201 cP) (.slice aQ 201 cQ) lo' hi' _ from qL HT.out hO (by have := HW1.out; omega))
 replace K := qh (And.intro (K.out.1.trans (hO.below (Nat.le_refl _) K.out.1.size)) (And.intro (fE K.out.2.1 (.slice aP 201 cP) (.slice aQ 201 cQ)) (hO.keeps K.out.2.2 (by omega))))
 clear hO x0 x1 f0 f1 xl
 generalize (w2.setCell ⟨w.heap.size, 0, none⟩ (.slice aP 201 cP)).setCell ⟨w.heap.size, 1, none⟩ (.slice aQ 201 cQ) = w3 at *
 obtain ⟨x0, x1, f0, f1⟩ := Alt.two_facts K.out.2.1
 have xl := aB K.out.2.1
 obtain ⟨z0, z1, g0, g1⟩ := Alt.two_facts K.out.2.2
 have zl := aB K.out.2.2
 go_wp2_with fail
 have hO := iN w3 (w.heap.size + 1 + 1) (.slice aP 201 cP) (.slice aQ 201 cQ)
 have hx := fE K.out.2.2 (.slice aP 201 cP) (.slice aQ 201 cQ)
 have s0 := aA (i := 0) (v := .slice aP 201 cP) hx rfl
 have s1 := aA (i := 1) (v := .slice aQ 201 cQ) hx rfl
 have hT9 := qL HT.out hO (by have := HW1.out; omega)
 have hB := K.out.1.trans (hO.below (by omega) K.out.1.size)
 refine bodyPost_ret (v := .agg #[.slice aP 201 cP, .slice aQ 201 cQ]) ?_ rfl ?_
 ·simp [results, Tryz.f67, go_sem, s0, s1]
 rw [HM.out.1, HM.out.2]
 have key := kA (w := w) (t := t) hT9 (by have := HW1.out; omega) HLn.out.1 HLn.out.2
 exact ⟨⟨aP, 201, cP, aQ, 201, cQ⟩, rfl, hB, (key 0 [] (Nat.zero_le _) (fun g hg => by cases hg)).I, fun B X hB' hX _ => key B X hB' hX⟩
end Go.Proofs.YtikjjpjekchcjaaGreat
end
