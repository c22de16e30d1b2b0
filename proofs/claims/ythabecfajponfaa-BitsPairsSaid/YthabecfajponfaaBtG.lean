/-
  Layer 1 (bits): the reference's field and Get.
-/
import Derived.Test.YthabecfajponfaaBitsF
namespace Go.Proofs.Ythabecfajponfaa
open Go.RowKit BitsMath

set_option maxRecDepth 100000 in
set_option maxHeartbeats 2000000 in
theorem refField_call (a : Option Addr) (m c : Nat) (xs : List Nat) (p n : Int) (w : World) (h : U8s w a m xs) (n0 : -9223372036854775808 ≤ n) (n1 : n ≤ 9223372036854775807) :
    Calls Try.prog 37 #[.slice a m c, .int .i64 p, .int .i64 n] w fun e w' => e = .returned (.int .i64 (fldE xs p n)) ∧ w = w' := by
  have hm := h.bound
  have hl := h.len
  have H := Lib.hid h
  clear h
  unfold fldE
  rw [hl]
  clear hl
  by_cases hc : chkE xs = 0
  · have hcb : (chkE xs != 0) = false := by simp [hc]
    by_cases h1 : n < 0 ∨ 64 < n
    · rw [if_neg (by simp [hc]), if_pos h1]
      clear hc
      rcases h1 with h1 | h1
      · go_enter Try.func37, Try.ntmps37
        go_wp2_with fail
        refine (refCheck_call a m c xs _ H.out).mono ?_; rintro e w' ⟨rfl, rfl⟩
        go_wp2
        go_ret
        exact ⟨rfl, rfl⟩
      · have h1' : ¬ n < 0 := by omega
        go_enter Try.func37, Try.ntmps37
        go_wp2_with fail
        refine (refCheck_call a m c xs _ H.out).mono ?_; rintro e w' ⟨rfl, rfl⟩
        go_wp2
        go_ret
        exact ⟨rfl, rfl⟩
    · rw [if_neg (by simp [hc]), if_neg h1]
      have h1a : ¬ n < 0 := by omega
      have h1b : ¬ 64 < n := by omega
      by_cases h2 : p < 0 ∨ (m : Int) - n < p
      · rw [if_pos h2]
        clear hc h1
        rcases h2 with h2 | h2
        · go_enter Try.func37, Try.ntmps37
          go_wp2_with fail
          refine (refCheck_call a m c xs _ H.out).mono ?_; rintro e w' ⟨rfl, rfl⟩
          go_wp2
          go_ret
          exact ⟨rfl, rfl⟩
        · by_cases h3 : p < 0
          · go_enter Try.func37, Try.ntmps37
            go_wp2_with fail
            refine (refCheck_call a m c xs _ H.out).mono ?_; rintro e w' ⟨rfl, rfl⟩
            go_wp2
            go_ret
            exact ⟨rfl, rfl⟩
          · go_enter Try.func37, Try.ntmps37
            go_wp2_with fail
            refine (refCheck_call a m c xs _ H.out).mono ?_; rintro e w' ⟨rfl, rfl⟩
            go_wp2
            go_ret
            exact ⟨rfl, rfl⟩
      · rw [if_neg h2]
        have h2a : ¬ p < 0 := by omega
        have h2b : ¬ (m : Int) - n < p := by omega
        clear hc h1 h2
        go_enter Try.func37, Try.ntmps37
        go_wp2_with fail
        refine (refCheck_call a m c xs _ H.out).mono ?_; rintro e w' ⟨rfl, rfl⟩
        go_wp2
        go_ret
        exact ⟨rfl, rfl⟩
  · rw [if_pos hc]
    have hcb : (chkE xs != 0) = true := by simpa using hc
    clear hc
    go_enter Try.func37, Try.ntmps37
    go_wp2_with fail
    refine (refCheck_call a m c xs _ H.out).mono ?_; rintro e w' ⟨rfl, rfl⟩
    go_wp2
    go_ret
    exact ⟨rfl, rfl⟩

set_option maxRecDepth 100000 in
set_option maxHeartbeats 2000000 in
theorem refGet_call (a : Option Addr) (m c : Nat) (xs : List Nat) (p n : Int) (w : World) (h : U8s w a m xs) (n0 : -9223372036854775808 ≤ n) (n1 : n ≤ 9223372036854775807) :
    Calls Try.prog 17 #[.slice a m c, .int .i64 p, .int .i64 n] w fun e w' => e = .returned (.tuple #[.int .u64 (getR xs p n), .int .i64 (fldE xs p n)]) ∧ w = w' := by
  have H := Lib.hid h
  by_cases he : fldE xs p n = 0
  · obtain ⟨h1, h2, h3, h4, h5⟩ := fld_ok he
    obtain ⟨s1, s2⟩ := small_of h1
    obtain ⟨P, rfl⟩ := Int.eq_ofNat_of_zero_le h4
    obtain ⟨N, rfl⟩ := Int.eq_ofNat_of_zero_le h2
    rw [h.len] at s1 s2 h5
    have hg : getR xs (P : Int) (N : Int) = ((refV xs P N : Nat) : Int) := by
      unfold getR
      rw [if_pos he, Int.toNat_natCast, Int.toNat_natCast, getV_ref xs P N m s2 (by omega)]
    rw [he, hg]
    have HE := Lib.hid he
    have hcs := h.cells
    clear h hg h1 h2 h4 he
    have hN : N ≤ 64 := by omega
    have hPm : P + N ≤ m := by omega
    clear h3 h5
    go_enter Try.func17, Try.ntmps17
    go_wp2_with fail
    refine (refField_call a m c xs _ _ _ H.out n0 n1).mono ?_
    rw [HE.out]
    rintro e w' ⟨rfl, rfl⟩
    go_wp2
    go_loop [9, 10] (fun v k => ∃ j : Nat, j ≤ N ∧ k = .int .i64 j ∧ v = .int .u64 (refV xs P j : Nat)) (fun _ k => N - (intOf k).toNat)
    case atStart => exact ⟨0, by omega, rfl, rfl⟩
    case round =>
      obtain ⟨j, hj, rfl, rfl⟩ := hrel
      by_cases hlt : j < N
      · rcases hcs with h0 | ⟨b, off, rfl, hc⟩
        · omega
        · have hcj := hc (P + j) (by omega)
          have hv := refV_lt xs P m s2 j (by omega)
          have hx := s2 (P + j) (by omega)
          have hp : 2 ^ j ≤ 2 ^ 63 := Nat.pow_le_pow_right (by decide) (by omega)
          have e1 : IntKind.u64.wrap (2 * ((refV xs P j : Nat) : Int)) = ((2 * refV xs P j : Nat) : Int) := by rw [IntKind.wrap_u64]; omega
          have e2 : IntKind.u64.wrap (((xs[P + j]?.getD 0 : Nat) : Int)) = ((xs[P + j]?.getD 0 : Nat) : Int) := by rw [IntKind.wrap_u64]; omega
          have e3 : IntKind.u64.wrap (((2 * refV xs P j : Nat) : Int) + ((xs[P + j]?.getD 0 : Nat) : Int)) = ((refV xs P (j + 1) : Nat) : Int) := by rw [IntKind.wrap_u64, show refV xs P (j + 1) = 2 * refV xs P j + xs[P + j]?.getD 0 from rfl]; omega
          have HE3 := Lib.hid (And.intro e1 (And.intro e2 e3))
          clear hc hv hp e1 e2 e3
          go_wp2
          exact ⟨⟨j + 1, by omega, by go_num, by rw [HE3.out.1, HE3.out.2.2]⟩, by simp [intOf]; omega⟩
      · obtain rfl : j = N := by omega
        go_wp2
        go_ret2
        exact ⟨rfl, rfl⟩
  · have hg : getR xs p n = 0 := by unfold getR; rw [if_neg he]
    rw [hg]
    have hb : (fldE xs p n != 0) = true := by simpa using he
    clear he hg h
    go_enter Try.func17, Try.ntmps17
    go_wp2_with fail
    refine (refField_call a m c xs _ _ _ H.out n0 n1).mono ?_
    rintro e w' ⟨rfl, rfl⟩
    go_wp2
    go_ret2
    exact ⟨rfl, rfl⟩
end Go.Proofs.Ythabecfajponfaa
