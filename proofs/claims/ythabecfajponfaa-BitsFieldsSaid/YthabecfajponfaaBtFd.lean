/-
  Layer 1 (bits): the law Fields, the walk.
-/
import Derived.Test.YthabecfajponfaaBtLaw
namespace Go.Proofs.Ythabecfajponfaa
open Go.RowKit BitsMath ParityMath TextMath MyHeap MyCopy MyOwn

theorem getR_lt (xs : List Nat) (p n : Int) : 0 ≤ getR xs p n ∧ getR xs p n < 18446744073709551616 := by
  by_cases h : fldE xs p n = 0
  · rw [getR_ok h]
    have := (put_back h).2.2
    omega
  · rw [getR_no h]; decide

set_option maxRecDepth 100000 in
set_option maxHeartbeats 8000000 in
theorem fields_no (a : Option Addr) (n c : Nat) (xs : List Nat) (p m q r : Int) (u : Nat) (w : World) (h : U8s w a n xs) (hn : n ≤ 200) (m0 : -9223372036854775808 ≤ m) (m1 : m ≤ 9223372036854775807) (he : fldE xs p m ≠ 0) :
    Calls Try.prog 3 #[.slice a n c, .int .i64 p, .int .i64 m, .int .i64 q, .int .i64 r, .int .u64 (u : Int)] w (BPost true w) := by
  have HL := Lib.hid h
  have hlong : decide ((200 : Int) < (n : Int)) = false := decide_eq_false (by omega)
  have d1 : (fldE xs p m != 0) = true := bne_iff_ne.2 he
  have d2 : (fldE xs p m == 0) = false := by simpa using he
  have HG := Lib.hid (getR_no he)
  clear h he
  go_enter Try.func3, Try.ntmps3
  go_wp2_with fail
  refine (awake_call _).mono ?_; rintro e w1 ⟨rfl, hb⟩
  have B := Lib.hid hb
  clear hb
  go_wp2_with fail
  refine (Get_call a n c xs p m _ (HL.out.below B.out) m0 m1).mono ?_; rintro e w2 ⟨rfl, hb⟩
  replace B := Lib.hid (B.out.trans (hb.mono B.out.size))
  rw [HG.out]
  clear hb
  go_wp2_with fail
  go_ret
  exact bPost_of rfl B.out

set_option maxRecDepth 100000 in
set_option maxHeartbeats 16000000 in
theorem fields_in (a : Option Addr) (n c : Nat) (xs : List Nat) (p m q r : Int) (u : Nat) (w : World) (h : U8s w a n xs) (hn : n ≤ 200) (m0 : -9223372036854775808 ≤ m) (m1 : m ≤ 9223372036854775807) (r0 : -9223372036854775808 ≤ r) (r1 : r ≤ 9223372036854775807) (hu : u < 2 ^ 64) (he : fldE xs p m = 0) :
    Calls Try.prog 3 #[.slice a n c, .int .i64 p, .int .i64 m, .int .i64 q, .int .i64 r, .int .u64 (u : Int)] w (BPost true w) := by
  have HL := Lib.hid h
  have HLn := Lib.hid h.len
  have hlong : decide ((200 : Int) < (n : Int)) = false := decide_eq_false (by omega)
  have HE := Lib.hid he
  have HG := Lib.hid (And.intro (getR_ok he) (put_back he))
  have HF := Lib.hid (fld_all he)
  have HU := Lib.hid hu
  have hN := h.len
  clear h he hu
  generalize hV : getV xs p.toNat m.toNat = V at *
  have HV := Lib.hid hV
  clear hV
  go_enter Try.func3, Try.ntmps3
  go_wp2_with fail
  refine (awake_call _).mono ?_; rintro e w1 ⟨rfl, hb⟩
  have B := Lib.hid hb
  clear hb
  go_wp2_with fail
  refine (Get_call a n c xs p m _ (HL.out.below B.out) m0 m1).mono ?_; rintro e w2 ⟨rfl, hb⟩
  replace B := Lib.hid (B.out.trans (hb.mono B.out.size))
  rw [HE.out, HG.out.1]
  clear hb
  go_wp2_with fail
  refine (Put_call a n c xs p m V _ (HL.out.below B.out) m0 m1 HG.out.2.2.2).mono ?_; rintro e w3 ⟨v3, rfl, hO, hb⟩
  rw [HG.out.2.1, HG.out.2.2.1] at hO
  rw [HG.out.2.1]
  obtain ⟨aS, cS, rfl, hUS, hcS⟩ := own_u8s (hO.1 rfl) rfl (by rw [hN]; omega)
  rw [hN] at hUS ⊢
  replace B := Lib.hid (B.out.trans (hb.mono B.out.size))
  have HS := Lib.hid hUS
  clear hb hO hUS hcS
  go_wp2_with fail
  refine (equalBits_call aS a n n cS c xs xs _ HS.out (HL.out.below B.out)).mono ?_; rintro e w4 ⟨rfl, hb⟩
  rw [decide_eq_true (rfl : xs = xs)]
  replace B := Lib.hid (B.out.trans (hb.mono B.out.size))
  clear hb HS
  go_wp2_with fail
  refine (Put_call a n c xs p m u _ (HL.out.below B.out) m0 m1 HU.out).mono ?_; rintro e w5 ⟨v5, rfl, hO, hb⟩
  replace B := Lib.hid (B.out.trans (hb.mono B.out.size))
  by_cases hp : putE xs p m u = 0
  · have HP := Lib.hid (put_get hp HU.out)
    have HPo := Lib.hid (fun hq => @put_other xs p m q r u hp HU.out hq)
    rw [hp] at hO ⊢
    obtain ⟨aC, cC, rfl, hUC, hcC⟩ := own_u8s (hO.1 rfl) rfl (by rw [putL_len, hN]; omega)
    rw [putL_len, hN] at hUC ⊢
    have HC := Lib.hid hUC
    clear hb hO hUC hcC hp
    generalize hY : putL xs p.toNat m.toNat u = Y at *
    clear hY
    go_wp2_with fail
    refine (Get_call aC n cC Y p m _ HC.out m0 m1).mono ?_; rintro e w6 ⟨rfl, hb⟩
    replace B := Lib.hid (B.out.trans (hb.mono B.out.size))
    replace HC := Lib.hid (HC.out.below hb)
    rw [HP.out.2.1, HP.out.2.2.1]
    clear hb
    go_wp2_with fail
    refine (Get_call a n c xs q r _ (HL.out.below B.out) r0 r1).mono ?_; rintro e w7 ⟨rfl, hb⟩
    replace B := Lib.hid (B.out.trans (hb.mono B.out.size))
    replace HC := Lib.hid (HC.out.below hb)
    clear hb
    go_wp2_with fail
    refine (Get_call aC n cC Y q r _ HC.out r0 r1).mono ?_; rintro e w8 ⟨rfl, hb⟩
    replace B := Lib.hid (B.out.trans (hb.mono B.out.size))
    rw [HP.out.2.2.2.2]
    have e3 : (fldE xs q r != fldE xs q r) = false := by simp
    clear hb HC
    by_cases hq : fldE xs q r = 0
    · have HQ := Lib.hid (fld_all hq)
      have HO := Lib.hid (HPo.out hq)
      rw [hq]
      obtain ⟨-, -, -, f1, f2, f3, f4⟩ := HF.out
      obtain ⟨-, -, -, k1, k2, k3, k4⟩ := HQ.out
      rw [hN] at f4 k4
      clear e3
      by_cases hd : q < p + m ∧ p < q + r
      · obtain ⟨hd1, hd2⟩ := hd
        go_wp2_with fail
        go_ret
        exact bPost_of rfl B.out
      · rw [HO.out hd]
        by_cases hd1 : q < p + m
        · have hd2 : ¬ p < q + r := fun hh => hd ⟨hd1, hh⟩
          clear hd
          go_wp2_with fail
          go_ret
          exact bPost_of (by simp) B.out
        · clear hd
          go_wp2_with fail
          go_ret
          exact bPost_of (by simp) B.out
    · have d5 : (fldE xs q r != 0) = true := bne_iff_ne.2 hq
      clear hq
      go_wp2_with fail
      go_ret
      exact bPost_of rfl B.out
  · have h7 := putE_no hp HE.out
    have hv := hO.2 hp
    subst hv
    rw [h7]
    clear hb hO hp h7
    go_wp2_with fail
    go_ret
    exact bPost_of rfl B.out

set_option maxRecDepth 100000 in
set_option maxHeartbeats 4000000 in
theorem fields_long (a : Option Addr) (n c : Nat) (p m q r : Int) (u : Nat) (w : World) (hn : n ≤ 9223372036854775807) (h : 200 < n) :
    Calls Try.prog 3 #[.slice a n c, .int .i64 p, .int .i64 m, .int .i64 q, .int .i64 r, .int .u64 (u : Int)] w (BPost true w) := by
  have hlong : decide ((200 : Int) < (n : Int)) = true := decide_eq_true (by omega)
  have hn1 : (n : Int) ≤ 9223372036854775807 := by omega
  clear h hn
  go_enter Try.func3, Try.ntmps3
  go_wp2_with fail
  refine (awake_call _).mono ?_; rintro e w1 ⟨rfl, hb1⟩
  have HB1 := Lib.hid hb1
  clear hb1
  go_wp2_with fail
  go_ret
  exact bPost_of rfl HB1.out
theorem fields_call (a : Option Addr) (n c : Nat) (xs : List Nat) (p m q r : Int) (u : Nat) (w : World) (h : U8s w a n xs) (m0 : -9223372036854775808 ≤ m) (m1 : m ≤ 9223372036854775807) (r0 : -9223372036854775808 ≤ r) (r1 : r ≤ 9223372036854775807) (hu : u < 2 ^ 64) :
    Calls Try.prog 3 #[.slice a n c, .int .i64 p, .int .i64 m, .int .i64 q, .int .i64 r, .int .u64 (u : Int)] w (BPost true w) := by
  by_cases hn : n ≤ 200
  · by_cases he : fldE xs p m = 0
    · exact fields_in a n c xs p m q r u w h hn m0 m1 r0 r1 hu he
    · exact fields_no a n c xs p m q r u w h hn m0 m1 he
  · exact fields_long a n c p m q r u w h.bound (by omega)
end Go.Proofs.Ythabecfajponfaa
