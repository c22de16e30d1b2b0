/-
  Layer 2 (parity): the law Bursts, the walk at every input.
-/
import Derived.Test.YtpfohhmhadjdpaaParK
namespace Go.Proofs.Ytpfohhmhadjdpaa
open Go.RowKit BitsMath ParityMath MyHeap MyCopy MyOwn

set_option maxRecDepth 100000 in
set_option maxHeartbeats 4000000 in
theorem bursts_long (a : Option Addr) (n c : Nat) (p ch : Int) (w : World) (hn : n ≤ 9223372036854775807) (h : 200 < n) :
    Calls Try.prog 4 #[.slice a n c, .int .i64 p, .int .u32 ch] w (BPost true w) := by
  have hlong : decide ((200 : Int) < (n : Int)) = true := decide_eq_true (by omega)
  clear h
  go_enter Try.func4, Try.ntmps4
  go_wp2_with fail
  refine (awake_call _).mono ?_; rintro e w1 ⟨rfl, hb1⟩
  have HB1 := Lib.hid hb1
  clear hb1
  go_wp2_with fail
  go_ret
  exact bPost_of rfl HB1.out
set_option maxRecDepth 100000 in
set_option maxHeartbeats 4000000 in
theorem bursts_out (a : Option Addr) (n c : Nat) (xs : List Nat) (p ch : Int) (w : World) (h : U8s w a n xs) (hc : n ≤ c) (hn : n ≤ 200) (b1 b2 b3 : Bool) (h1 : (adrE xs != 0) = b1) (h2 : decide (p < 0) = b2) (h3 : decide ((n : Int) ≤ p) = b3)
    (hor : b1 = true ∨ b1 = false ∧ b2 = true ∨ b1 = false ∧ b2 = false ∧ b3 = true) :
    Calls Try.prog 4 #[.slice a n c, .int .i64 p, .int .u32 ch] w (BPost true w) := by
  have HL := Lib.hid h
  have hlong : decide ((200 : Int) < (n : Int)) = false := decide_eq_false (by omega)
  clear h
  rcases hor with rfl | ⟨rfl, rfl⟩ | ⟨rfl, rfl, rfl⟩
  · have hv : adrR xs = 0 := if_neg (bne_iff_ne.1 h1)
    have HV := Lib.hid hv
    clear hv
    have d5 : (adrE xs == 0) = false := by simpa using bne_iff_ne.1 h1
    go_enter Try.func4, Try.ntmps4
    go_wp2_with fail
    refine (awake_call _).mono ?_; rintro e w1 ⟨rfl, hb1⟩
    have HB1 := Lib.hid hb1
    clear hb1
    go_wp2_with fail
    refine (Address_call a n c xs _ (HL.out.below HB1.out) hc).mono ?_; rintro e w2 ⟨rfl, hb2⟩
    have HB2 := Lib.hid (HB1.out.trans (hb2.mono HB1.out.size))
    clear hb2 HB1
    rw [HV.out]
    go_wp2_with fail
    go_ret
    exact bPost_of rfl HB2.out
  · have hv : adrE xs = 0 := by simpa using h1
    have HV := Lib.hid hv
    clear hv h1
    go_enter Try.func4, Try.ntmps4
    go_wp2_with fail
    refine (awake_call _).mono ?_; rintro e w1 ⟨rfl, hb1⟩
    have HB1 := Lib.hid hb1
    clear hb1
    go_wp2_with fail
    refine (Address_call a n c xs _ (HL.out.below HB1.out) hc).mono ?_; rintro e w2 ⟨rfl, hb2⟩
    have HB2 := Lib.hid (HB1.out.trans (hb2.mono HB1.out.size))
    clear hb2 HB1
    rw [HV.out]
    go_wp2_with fail
    go_ret
    exact bPost_of rfl HB2.out
  · have hv : adrE xs = 0 := by simpa using h1
    have HV := Lib.hid hv
    clear hv h1
    go_enter Try.func4, Try.ntmps4
    go_wp2_with fail
    refine (awake_call _).mono ?_; rintro e w1 ⟨rfl, hb1⟩
    have HB1 := Lib.hid hb1
    clear hb1
    go_wp2_with fail
    refine (Address_call a n c xs _ (HL.out.below HB1.out) hc).mono ?_; rintro e w2 ⟨rfl, hb2⟩
    have HB2 := Lib.hid (HB1.out.trans (hb2.mono HB1.out.size))
    clear hb2 HB1
    rw [HV.out]
    go_wp2_with fail
    go_ret
    exact bPost_of rfl HB2.out
theorem bursts_call (a : Option Addr) (n c : Nat) (xs : List Nat) (p : Int) (ch : Nat) (w : World) (h : U8s w a n xs) (hc : n ≤ c) :
    Calls Try.prog 4 #[.slice a n c, .int .i64 p, .int .u32 (ch : Int)] w (BPost true w) := by
  by_cases hn : n ≤ 200
  · by_cases hE : adrE xs = 0
    · by_cases h1 : p < 0
      · exact bursts_out a n c xs p ch w h hc hn false true _ (by rw [hE]; rfl) (decide_eq_true h1) rfl (Or.inr (Or.inl ⟨rfl, rfl⟩))
      · by_cases h2 : (n : Int) ≤ p
        · exact bursts_out a n c xs p ch w h hc hn false false true (by rw [hE]; rfl) (decide_eq_false h1) (decide_eq_true h2) (Or.inr (Or.inr ⟨rfl, rfl, rfl⟩))
        · obtain ⟨P, rfl⟩ := Int.eq_ofNat_of_zero_le (show 0 ≤ p by omega)
          exact bursts_in a n c xs P ch w h hc hn hE (by omega)
    · exact bursts_out a n c xs p ch w h hc hn true _ _ (bne_iff_ne.2 hE) rfl rfl (Or.inl rfl)
  · exact bursts_long a n c p ch w h.bound (by omega)
end Go.Proofs.Ytpfohhmhadjdpaa
