import Derived.Test.YtlhechkaljodmaaGrayI
namespace Go.Proofs.Ytlhechkaljodmaa
open Go.RowKit GrayMath

/-- None of the codes below j is c. -/
def NotYet (c : Int) (j : Nat) : Prop := ∀ i, i < j → ((cc i : Nat) : Int) ≠ c

theorem dec_none (c : Nat) (h : c < 4096) (hn : NotYet c 2560) : dec c = none := by
  cases hd : dec c with
  | none => rfl
  | some k =>
    obtain ⟨h1, h2⟩ := cc_dec c k h hd
    exact absurd (by rw [h2]) (hn k h1)
theorem low_vals (h r : Nat) : low h r ≠ 5 := by unfold low; split <;> omega
theorem dec_skip (c : Int) (h0 : 0 ≤ c) (h1 : c < 4096) (hm : c % 8 = 0 ∨ c % 8 = 5 ∨ c % 8 = 7) : altT c = (0, 0, 2) := by
  obtain ⟨a, rfl⟩ := Int.eq_ofNat_of_zero_le h0
  have hd : dec a = none := by
    apply dec_none a (by omega)
    intro i hi he
    have e1 : cc i = a := by omega
    have := low_lt (i / 5) (i % 5)
    have h5 := low_vals (i / 5) (i % 5)
    unfold cc at e1
    omega
  unfold altT
  rw [if_neg (by omega), if_neg (by omega), Int.toNat_natCast, hd]
theorem alt_none (c : Int) (h0 : 0 ≤ c) (h1 : c < 4096) (hn : NotYet c 2560) : altT c = (0, 0, 2) := by
  obtain ⟨a, rfl⟩ := Int.eq_ofNat_of_zero_le h0
  unfold altT
  rw [if_neg (by omega), if_neg (by omega), Int.toNat_natCast, dec_none a (by omega) hn]
theorem alt_some (c : Int) (j : Nat) (h0 : 0 ≤ c) (h1 : c < 4096) (hj : j < 2560) (he : ((cc j : Nat) : Int) = c) : altT c = if inR (100 * (j : Int) - 1200) then (100 * (j : Int) - 1200, 100, 0) else (0, 0, 7) := by
  subst he
  unfold altT
  rw [if_neg (by omega), if_neg (by omega), Int.toNat_natCast, dec_cc j hj]

set_option maxHeartbeats 1000000 in
theorem refAltitude_out (c : Int) (w : World) (h : c < 0 ∨ 8191 < c) :
    Calls Try.prog 14 #[.int .i64 c] w fun e w' => e = .returned (.tuple #[.int .i64 (altA c), .int .i64 (altS c), .int .i64 (altE c)]) ∧ Below w.heap.size w w' := by
  rw [(altT_out c h).1, (altT_out c h).2.1, (altT_out c h).2.2]
  rcases h with h | h
  · go_enter Try.func14, Try.ntmps14
    go_wp2
    go_ret3
    exact ⟨rfl, by go_grown⟩
  · have h' : ¬ c < 0 := by omega
    go_enter Try.func14, Try.ntmps14
    go_wp2
    go_ret3
    exact ⟨rfl, by go_grown⟩

set_option maxHeartbeats 2000000 in
theorem refAltitude_fine (c : Int) (w : World) (h0 : 4096 ≤ c) (h1 : c ≤ 8191) :
    Calls Try.prog 14 #[.int .i64 c] w fun e w' => e = .returned (.tuple #[.int .i64 (altA c), .int .i64 (altS c), .int .i64 (altE c)]) ∧ Below w.heap.size w w' := by
  have hn : ¬ c < 0 := by omega
  have u0 := unI_nonneg (c - 4096)
  have u1 := unI_lt (c - 4096) 12 (by omega)
  have HB := Lib.hid (show c - 4096 < 9223372036854775808 by omega)
  have ht := altT_fine c h0 h1
  rw [show -1000 + 25 * unI (c - 4096) = 25 * unI (c - 4096) - 1000 by omega] at ht
  have HT := Lib.hid ht
  clear ht
  cases hr : inR (25 * unI (c - 4096) - 1000)
  all_goals
    have HR := Lib.hid hr
    go_enter Try.func14, Try.ntmps14
    go_wp2_with (first | (go_at_call 18; refine (refUngray_call _ _ HB.out).mono ?_; rintro e w2 ⟨rfl, rfl⟩) | (go_at_call 25; refine (in_call _ _).mono ?_; rintro e w' ⟨rfl, rfl⟩))
    go_ret3
    rw [alt_ret (HT.out.trans (by rw [HR.out]; first | done | rfl))]
    exact ⟨rfl, by go_grown⟩

set_option maxHeartbeats 2000000 in
theorem refAltitude_skip (c : Int) (w : World) (h0 : 0 ≤ c) (h1 : c < 4096) (hm : c % 8 = 0 ∨ c % 8 = 5 ∨ c % 8 = 7) :
    Calls Try.prog 14 #[.int .i64 c] w fun e w' => e = .returned (.tuple #[.int .i64 (altA c), .int .i64 (altS c), .int .i64 (altE c)]) ∧ Below w.heap.size w w' := by
  have hn : ¬ c < 0 := by omega
  rw [alt_ret (dec_skip c h0 h1 hm)]
  rcases hm with hm | hm | hm
  all_goals
    go_enter Try.func14, Try.ntmps14
    go_wp2
    go_ret3
    exact ⟨rfl, by go_grown⟩

set_option maxHeartbeats 2000000 in
set_option maxRecDepth 100000 in
theorem refAltitude_loop (c : Int) (w : World) (h0 : 0 ≤ c) (h1 : c < 4096) (m0 : ¬ c % 8 = 0) (m5 : ¬ c % 8 = 5) (m7 : ¬ c % 8 = 7) :
    Calls Try.prog 14 #[.int .i64 c] w fun e w' => e = .returned (.tuple #[.int .i64 (altA c), .int .i64 (altS c), .int .i64 (altE c)]) ∧ Below w.heap.size w w' := by
  have hn : ¬ c < 0 := by omega
  have b0 : (c % 8 == 0) = false := beq_eq_false_iff_ne.2 m0
  have b5 : (c % 8 == 5) = false := beq_eq_false_iff_ne.2 m5
  have b7 : (c % 8 == 7) = false := beq_eq_false_iff_ne.2 m7
  go_enter Try.func14, Try.ntmps14
  go_wp2
  go_loopw [6] (fun k wr => ∃ j : Nat, j ≤ 2560 ∧ k = .int .i64 j ∧ NotYet c j ∧ Below w.heap.size w wr) (fun k _ => 2560 - (intOf k).toNat)
  case atStart => exact ⟨0, by omega, rfl, fun i hi => by omega, Below.refl _ _⟩
  case round =>
    obtain ⟨j, hj, rfl, hN, hB⟩ := hrel
    by_cases hlt : j < 2560
    · have HI := Lib.hid (show (0 : Int) ≤ (j : Int) / 5 ∧ (j : Int) / 5 < 9223372036854775808 ∧ 0 ≤ (j : Int) % 5 ∧ (j : Int) % 5 ≤ 4 by omega)
      have g0 := grI_nonneg ((j : Int) / 5)
      have g1 := grI_lt ((j : Int) / 5) 9 (by omega)
      obtain ⟨l0, l1⟩ := lowI_bd ((j : Int) / 5) ((j : Int) % 5)
      have HC := Lib.hid (ccI j)
      by_cases hc : ((cc j : Nat) : Int) = c
      · have ht : (8 * grI ((j : Int) / 5) + lowI ((j : Int) / 5) ((j : Int) % 5) == c) = true := by rw [ccI, hc]; simp
        have HS := Lib.hid (alt_some c j h0 h1 hlt hc)
        have HN := Lib.hid hN
        clear hc hN
        cases hr : inR (100 * (j : Int) - 1200)
        all_goals
          have HR := Lib.hid hr
          go_wp2_with (first | (go_at_call 25; refine (in_call _ _).mono ?_; rintro e w1 ⟨rfl, rfl⟩) | (go_at_call 16; refine (refGray_call _ _ HI.out.2.1).mono ?_; rintro e w2 ⟨rfl, rfl⟩) | (go_at_call 27; refine (lower_call _ _ _ HI.out.1 HI.out.2.2.1 HI.out.2.2.2).mono ?_; rintro e w2 ⟨rfl, hb⟩))
          go_ret3
          rw [alt_ret (HS.out.trans (by rw [HR.out]; first | done | rfl))]
          exact ⟨rfl, hB.trans (hb.mono hB.size)⟩
      · have ht : (8 * grI ((j : Int) / 5) + lowI ((j : Int) / 5) ((j : Int) % 5) == c) = false := by rw [ccI]; simpa using hc
        have HN : Hid (NotYet c (j + 1)) := fun i hi => by
          by_cases e : i = j
          · subst e; exact hc
          · exact hN i (by omega)
        clear hc hN
        go_wp2_with (first | (go_at_call 16; refine (refGray_call _ _ HI.out.2.1).mono ?_; rintro e w2 ⟨rfl, rfl⟩) | (go_at_call 27; refine (lower_call _ _ _ HI.out.1 HI.out.2.2.1 HI.out.2.2.2).mono ?_; rintro e w2 ⟨rfl, hb⟩))
        go_roundw
        case rel => exact ⟨j + 1, by omega, by go_num, HN.out, hB.trans (hb.mono hB.size)⟩
        case measure => simp [intOf]; omega
    · obtain rfl : j = 2560 := by omega
      have HN := Lib.hid hN
      clear hN
      go_wp2
      go_ret3
      rw [alt_ret (alt_none c h0 h1 HN.out)]
      exact ⟨rfl, hB⟩

theorem refAltitude_call (c : Int) (w : World) :
    Calls Try.prog 14 #[.int .i64 c] w fun e w' => e = .returned (.tuple #[.int .i64 (altA c), .int .i64 (altS c), .int .i64 (altE c)]) ∧ Below w.heap.size w w' := by
  by_cases h : c < 0 ∨ 8191 < c
  · exact refAltitude_out c w h
  · by_cases h2 : 4096 ≤ c
    · exact refAltitude_fine c w h2 (by omega)
    · by_cases hm : c % 8 = 0 ∨ c % 8 = 5 ∨ c % 8 = 7
      · exact refAltitude_skip c w (by omega) (by omega) hm
      · exact refAltitude_loop c w (by omega) (by omega) (by omega) (by omega) (by omega)
end Go.Proofs.Ytlhechkaljodmaa
