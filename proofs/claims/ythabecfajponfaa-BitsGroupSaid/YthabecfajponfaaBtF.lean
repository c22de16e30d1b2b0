/-
  Layer 1 (bits): Put at every input.
-/
import Derived.Test.YthabecfajponfaaBtE
import Derived.BigQuiet
namespace Go.Proofs.Ythabecfajponfaa
open Go.RowKit BitsMath ParityMath MyHeap

def putE (xs : List Nat) (p n : Int) (v : Nat) : Int := if fldE xs p n ≠ 0 then fldE xs p n else if n < 64 ∧ 2 ^ n.toNat ≤ v then 7 else 0

set_option maxRecDepth 100000 in
theorem Put_fld (a : Option Addr) (m c : Nat) (xs : List Nat) (p n : Int) (v : Nat) (w : World) (h : U8s w a m xs) (n0 : -9223372036854775808 ≤ n) (n1 : n ≤ 9223372036854775807) (he : fldE xs p n ≠ 0) (ys : List Nat) :
    Calls Try.prog 11 #[.slice a m c, .int .i64 p, .int .i64 n, .int .u64 (v : Int)] w (OPost (fldE xs p n) ys w) := by
  have HF := Lib.hid h
  have HE := Lib.hid he
  have d1 : (fldE xs p n != 0) = true := by simpa using he
  have HB2 := Lib.hid ((below_alloc w (.cells #[.slice a m c] 23)).alloc (by simp) (.cells #[.int .u64 (v : Int)] 24))
  clear h he
  go_enter Try.func11, Try.ntmps11
  go_wp2_with fail
  refine (field_call a m c xs p n _ (HF.out.below HB2.out) n0 n1).mono ?_
  rintro e w1 ⟨rfl, hb1⟩
  have HB := Lib.hid (HB2.out.trans (hb1.mono HB2.out.size))
  clear hb1
  go_wp2_with fail
  go_ret2
  exact oPost_err HE.out rfl HB.out

set_option maxRecDepth 100000 in
theorem Put_big (a : Option Addr) (m c : Nat) (xs : List Nat) (p N v : Nat) (w : World) (h : U8s w a m xs) (he : fldE xs p N = 0) (h64 : N < 64) (hv : 2 ^ N ≤ v) (ys : List Nat) :
    Calls Try.prog 11 #[.slice a m c, .int .i64 p, .int .i64 N, .int .u64 (v : Int)] w (OPost 7 ys w) := by
  have HF := Lib.hid h
  have HE := Lib.hid he
  have d1 : decide ((N : Int) < 64) = true := decide_eq_true (by omega)
  have d2 : decide (IntKind.u64.wrap ((2 : Int) ^ N) ≤ (v : Int)) = true := by
    refine decide_eq_true ?_
    have hpw : (2 : Nat) ^ N ≤ 2 ^ 63 := Nat.pow_le_pow_right (by decide) (by omega)
    have e : ((2 : Int) ^ N) = ((2 ^ N : Nat) : Int) := by push_cast; rfl
    have h2 : 2 ^ N < 18446744073709551616 := by omega
    rw [e, IntKind.wrap_u64, Int.emod_eq_of_lt (Int.natCast_nonneg _) (show ((2 ^ N : Nat) : Int) < 18446744073709551616 from Int.ofNat_lt.2 h2)]
    exact Int.ofNat_le.2 hv
  have K0 := Lib.hid (show PuK w (.slice a m c) v ((w.alloc (.cells #[.slice a m c] 23)).alloc (.cells #[.int .u64 (v : Int)] 24)) from ⟨block_alloc (block_new _ _ rfl), block_new _ _ (by simp), (below_alloc _ _).alloc (by simp) _⟩)
  have hN0 : -9223372036854775808 ≤ (N : Int) := by omega
  have hN1 : (N : Int) ≤ 9223372036854775807 := by omega
  clear h he hv
  go_enter Try.func11, Try.ntmps11
  go_wp2_with fail
  refine (field_call a m c xs p N _ (HF.out.below K0.out.2.2) hN0 hN1).mono ?_
  rintro e w1 ⟨rfl, hb1⟩
  rw [HE.out]
  have K1 := Lib.hid (K0.out.keep hb1)
  clear hb1 K0
  have x1 : w1.cell? ⟨w.heap.size + 1, 0, none⟩ = some (.int .u64 (v : Int)) := cell_of_block K1.out.2.1 rfl
  have hl1 := lt_of_block K1.out.2.1
  go_wp2_with fail
  go_quiet (fail)
  go_wp2_with fail
  go_ret2
  exact oPost_err (by decide) rfl (below_drewN K1.out.2.2 _)

theorem Put_call (a : Option Addr) (m c : Nat) (xs : List Nat) (p n : Int) (v : Nat) (w : World) (h : U8s w a m xs) (n0 : -9223372036854775808 ≤ n) (n1 : n ≤ 9223372036854775807) (hv : v < 2 ^ 64) :
    Calls Try.prog 11 #[.slice a m c, .int .i64 p, .int .i64 n, .int .u64 (v : Int)] w (OPost (putE xs p n v) (putL xs p.toNat n.toNat v) w) := by
  unfold putE
  by_cases he : fldE xs p n = 0
  · obtain ⟨h1, h2, h3, h4, h5⟩ := fld_ok he
    obtain ⟨P, rfl⟩ := Int.eq_ofNat_of_zero_le h4
    obtain ⟨N, rfl⟩ := Int.eq_ofNat_of_zero_le h2
    rw [if_neg (by rw [he]; decide), Int.toNat_natCast, Int.toNat_natCast]
    obtain ⟨s1, s2⟩ := small_of h1
    rw [h.len] at s1 h5
    by_cases hb : (N : Int) < 64 ∧ 2 ^ N ≤ v
    · rw [if_pos hb]
      exact Put_big a m c xs P N v w h he (by omega) hb.2 _
    · rw [if_neg hb]
      refine Put_ok a m c xs P N v w h he (by omega) s1 (by omega) ?_
      by_cases h64 : N < 64
      · have : ¬ 2 ^ N ≤ v := fun h' => hb ⟨by omega, h'⟩
        omega
      · rw [show N = 64 by omega]; exact hv
  · rw [if_pos he]
    exact Put_fld a m c xs p n v w h n0 n1 he _
end Go.Proofs.Ythabecfajponfaa
