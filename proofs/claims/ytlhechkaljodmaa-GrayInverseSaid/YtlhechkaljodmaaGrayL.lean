import Derived.Test.YtlhechkaljodmaaGrayK
namespace Go.Proofs.Ytlhechkaljodmaa
open Go.RowKit GrayMath

set_option maxRecDepth 100000 in
set_option maxHeartbeats 4000000 in
theorem matches_walk (n : Int) (w : World) (h1 : n < 9223372036854775808) :
    Calls Try.prog 3 #[.int .i64 n] w fun e w' => e = .returned (.bool true) ∧ Below w.heap.size w w' := by
  have HN := Lib.hid h1
  clear h1
  go_enter Try.func3, Try.ntmps3
  go_wp2_with fail
  refine (Fine_call _ _).mono ?_; rintro e w1 ⟨rfl, hb1⟩
  go_wp2_with fail
  refine (refFine_call _ _).mono ?_; rintro e w2 ⟨rfl, rfl⟩
  go_wp2_with fail
  refine (Coarse_call _ _).mono ?_; rintro e w3 ⟨rfl, hb3⟩
  go_wp2_with fail
  refine (refCoarse_call _ _).mono ?_; rintro e w4 ⟨rfl, hb4⟩
  go_wp2_with fail
  refine (Altitude_call _ _).mono ?_; rintro e w5 ⟨rfl, hb5⟩
  go_wp2_with fail
  refine (refAltitude_call _ _).mono ?_; rintro e w6 ⟨rfl, hb6⟩
  go_wp2_with fail
  refine (gray_call _ _ HN.out).mono ?_; rintro e w6 ⟨rfl, rfl⟩
  go_wp2_with fail
  refine (refGray_call _ _ HN.out).mono ?_; rintro e w6 ⟨rfl, rfl⟩
  go_wp2_with fail
  refine (ungray_call _ _ HN.out).mono ?_; rintro e w7 ⟨rfl, hb7⟩
  go_wp2_with fail
  refine (refUngray_call _ _ HN.out).mono ?_; rintro e w8 ⟨rfl, rfl⟩
  go_wp2_with fail
  refine (awake_call _).mono ?_; rintro e w9 ⟨rfl, hb9⟩
  have hB := hb1.trans (hb3.mono hb1.size)
  have hB := hB.trans (hb4.mono hB.size)
  have hB := hB.trans (hb5.mono hB.size)
  have hB := hB.trans (hb6.mono hB.size)
  have hB := hB.trans (hb7.mono hB.size)
  have hB := hB.trans (hb9.mono hB.size)
  go_wp2_with fail
  go_ret
  exact ⟨rfl, hB⟩

theorem grI_unI (n : Int) (h0 : 0 ≤ n) (h1 : n < 9223372036854775808) : grI (unI n) = n ∧ unI (grI n) = n := by
  obtain ⟨m, rfl⟩ := Int.eq_ofNat_of_zero_le h0
  rw [unI_nat, grI_nat, grI_nat, unI_nat, gr_un m (by omega), un_gr m (by omega)]
  exact ⟨rfl, rfl⟩

set_option maxRecDepth 100000 in
set_option maxHeartbeats 4000000 in
theorem inverse_walk (n : Int) (w : World) (h1 : n < 9223372036854775808) :
    Calls Try.prog 4 #[.int .i64 n] w fun e w' => e = .returned (.bool true) ∧ Below w.heap.size w w' := by
  by_cases h0 : n < 0
  · clear h1
    go_enter Try.func4, Try.ntmps4
    go_wp2_with fail
    refine (awake_call _).mono ?_; rintro e w9 ⟨rfl, hb9⟩
    go_wp2_with fail
    go_ret
    exact ⟨rfl, hb9⟩
  · obtain ⟨m, rfl⟩ := Int.eq_ofNat_of_zero_le (show 0 ≤ n by omega)
    have HN := Lib.hid h1
    have HG := Lib.hid (grI_unI m (by omega) h1)
    have hl := grI_lt m 63 (by omega)
    have hl2 := unI_lt m 63 (by omega)
    have HL := Lib.hid (show grI m < 9223372036854775808 ∧ unI m < 9223372036854775808 from ⟨by omega, by omega⟩)
    clear hl hl2
    have e1 := (HG.out).1
    have e2 := (HG.out).2
    by_cases hm : m < 9223372036854775807
    · obtain ⟨t, ht, hle⟩ := gr_succ m
      have ht2 : t ≤ 62 := by
        have : 2 ^ t < 2 ^ 63 := by omega
        have := (Nat.pow_lt_pow_iff_right (by decide : 1 < 2)).1 this
        omega
      have hp : 1 ≤ 2 ^ t := Nat.pow_pos (by decide)
      have hp2 : 2 ^ t < 9223372036854775808 := by
        have : 2 ^ t ≤ 2 ^ 62 := Nat.pow_le_pow_right (by decide) ht2
        omega
      have ho := one_of_pow _ _ t ht2 ht (gr_lt m 63 (by omega)) (gr_lt (m + 1) 63 (by omega))
      rw [← grI_nat, ← grI_nat] at ho
      have HO := Lib.hid ho
      have HN1 := Lib.hid (show ((m + 1 : Nat) : Int) < 9223372036854775808 by omega)
      have hm' : (m : Int) < 9223372036854775807 := by omega
      have hs : ((m + 1 : Nat) : Int) = (m : Int) + 1 := by omega
      rw [hs] at HO HN1
      clear ht hle ho hs hm
      go_enter Try.func4, Try.ntmps4
      go_wp2_with fail
      refine (gray_call _ _ HN.out).mono ?_; rintro e w1 ⟨rfl, rfl⟩
      go_wp2_with fail
      refine (gray_call _ _ HN1.out).mono ?_; rintro e w1 ⟨rfl, rfl⟩
      go_wp2_with fail
      refine (one_call _ _ _ _ HO.out.1 HO.out.2 hp hp2).mono ?_; rintro e w1 ⟨rfl, rfl⟩
      go_wp2_with fail
      refine (gray_call _ _ HN.out).mono ?_; rintro e w1 ⟨rfl, rfl⟩
      go_wp2_with fail
      refine (ungray_call _ _ HL.out.1).mono ?_; rintro e w2 ⟨rfl, hb2⟩
      go_wp2_with fail
      refine (ungray_call _ _ HN.out).mono ?_; rintro e w3 ⟨rfl, hb3⟩
      go_wp2_with fail
      refine (gray_call _ _ HL.out.2).mono ?_; rintro e w1 ⟨rfl, rfl⟩
      go_wp2_with fail
      refine (awake_call _).mono ?_; rintro e w9 ⟨rfl, hb9⟩
      have hB := hb2.trans (hb3.mono hb2.size)
      have hB := hB.trans (hb9.mono hB.size)
      go_wp2_with fail
      go_ret
      exact ⟨rfl, hB⟩
    · have hm' : ¬ (m : Int) < 9223372036854775807 := by omega
      clear hm
      go_enter Try.func4, Try.ntmps4
      go_wp2_with fail
      refine (gray_call _ _ HN.out).mono ?_; rintro e w1 ⟨rfl, rfl⟩
      go_wp2_with fail
      refine (ungray_call _ _ HL.out.1).mono ?_; rintro e w2 ⟨rfl, hb2⟩
      go_wp2_with fail
      refine (ungray_call _ _ HN.out).mono ?_; rintro e w3 ⟨rfl, hb3⟩
      go_wp2_with fail
      refine (gray_call _ _ HL.out.2).mono ?_; rintro e w1 ⟨rfl, rfl⟩
      go_wp2_with fail
      refine (awake_call _).mono ?_; rintro e w9 ⟨rfl, hb9⟩
      have hB := hb2.trans (hb3.mono hb2.size)
      have hB := hB.trans (hb9.mono hB.size)
      go_wp2_with fail
      go_ret
      exact ⟨rfl, hB⟩
end Go.Proofs.Ytlhechkaljodmaa
