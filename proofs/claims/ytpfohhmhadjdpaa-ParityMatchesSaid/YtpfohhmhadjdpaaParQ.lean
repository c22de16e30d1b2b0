/-
  Layer 2 (parity): the law Seals, the walk. Printed by genParQ.py.
-/
import Derived.Test.YtpfohhmhadjdpaaParP
namespace Go.Proofs.Ytpfohhmhadjdpaa
open Go.RowKit BitsMath ParityMath MyHeap MyCopy MyOwn

theorem sea_ok {xs : List Nat} {ad : Int} (h : seaE xs ad = 0) : remE xs = 0 ∧ 0 ≤ ad ∧ ad ≤ 16777215 := by
  unfold seaE at h
  by_cases h1 : remE xs = 0
  · rw [if_neg (by rw [h1]; decide)] at h
    by_cases h2 : ad < 0 ∨ 16777215 < ad
    · rw [if_pos h2] at h; cases h
    · exact ⟨h1, by omega, by omega⟩
  · rw [if_pos h1] at h; exact absurd h h1
theorem seaL_eq (xs : List Nat) (A : Nat) : seaL xs A = xs ++ bitsL (remN xs ^^^ A) 24 := put_pad xs 24 _
theorem seaL_len (xs : List Nat) (A : Nat) : (seaL xs A).length = xs.length + 24 := by rw [seaL_eq, List.length_append, bitsL_len]
theorem seaL_all1 {xs : List Nat} (h : all1 xs) (A : Nat) : all1 (seaL xs A) := by rw [seaL_eq]; exact all1_cat h (bitsL_all1 _ _)
/-- A sealed string: its address. -/
theorem sea_adr {xs : List Nat} (h : remE xs = 0) (A : Nat) (hA : A < 2 ^ 24) : adrE (seaL xs A) = 0 ∧ adrR (seaL xs A) = (A : Int) ∧ rg (seaL xs A) = A := by
  obtain ⟨_, h2, h3⟩ := remE_ok h
  have hl := seaL_len xs A
  have ha := seaL_all1 h3 A
  have hr : rg (seaL xs A) = A := by rw [← adr_rg ha (by omega), seaL_eq]; exact adr_seal h3 A hA
  obtain ⟨e1, e2⟩ := adr_of ha (by omega) (by omega)
  exact ⟨e1, by rw [e2, hr], hr⟩
theorem sea_cor {xs : List Nat} (h : remE xs = 0) (A : Nat) (hA : A < 2 ^ 24) : corE (seaL xs A) (A : Int) = 0 ∧ corA (seaL xs A) (A : Int) = -1 ∧ corL (seaL xs A) (A : Int) = seaL xs A := by
  obtain ⟨e1, _, e3⟩ := sea_adr h A hA
  have hb : ¬ ((A : Int) < 0 ∨ 16777215 < (A : Int)) := by omega
  have e : corE (seaL xs A) (A : Int) = 0 := by unfold corE; rw [if_neg (by rw [e1]; decide), if_neg hb, Int.toNat_natCast, if_pos e3]
  exact ⟨e, by unfold corA; rw [e, if_neg (by decide), Int.toNat_natCast, if_pos e3], by unfold corL; rw [Int.toNat_natCast, if_pos e3]⟩
theorem remN_lead (xs : List Nat) : remN (0 :: xs) = remN xs := by
  show xs.foldl stepN (stepN 0 0) = xs.foldl stepN 0
  rfl
theorem all1_lead {xs : List Nat} (h : all1 xs) : all1 (0 :: xs) := by
  intro x hx
  rcases List.mem_cons.1 hx with rfl | hx
  · decide
  · exact h x hx
theorem lead_rem {xs : List Nat} (h : remE xs = 0) : remE (0 :: xs) = (if xs.length = 104 then 4 else 0) := by
  obtain ⟨_, h2, h3⟩ := remE_ok h
  have hck : chkE (0 :: xs) = 0 := chkE_of (all1_lead h3) (by simp; omega)
  unfold remE
  rw [if_neg (by rw [hck]; decide), List.length_cons]
  by_cases e : xs.length = 104
  · rw [if_pos (by omega), if_pos e]
  · rw [if_neg (by omega), if_neg e]
theorem lead_sea (xs : List Nat) (A : Nat) : seaL (0 :: xs) A = 0 :: seaL xs A := by rw [seaL_eq, seaL_eq, remN_lead]; rfl
theorem own_some {w : World} {base : Nat} {T : TypeId} {v : Value} {n : Nat} {ys : List Nat} (h : w.ownsRow base T 1 v n (flatU ys)) (hn : ys.length = n) (h0 : 0 < n) (hm : n ≤ 9223372036854775807) : ∃ g c, v = .slice (some ⟨g, 0, none⟩) n c ∧ U8s w (some ⟨g, 0, none⟩) n ys ∧ n ≤ c := by
  obtain ⟨a, c, rfl, hU, hc⟩ := own_u8s h hn hm
  rcases h.2 with ⟨_, e⟩ | ⟨g, cap, cur, hv, _⟩
  · omega
  · cases hv
    exact ⟨g, c, rfl, hU, hc⟩
theorem U8s.tail_ {w : World} {g off n x : Nat} {xs : List Nat} (h : U8s w (some ⟨g, off, none⟩) (n + 1) (x :: xs)) : U8s w (some ⟨g, off + 1, none⟩) n xs := by
  refine ⟨by have := h.len; simpa using this, by have := h.bound; omega, ?_⟩
  rcases h.cells with h0 | ⟨b, o, e, hc⟩
  · omega
  · cases e
    refine Or.inr ⟨g, off + 1, rfl, fun i hi => ?_⟩
    have := hc (i + 1) (by omega)
    rw [show off + (i + 1) = off + 1 + i by omega] at this
    simpa using this

set_option maxRecDepth 100000 in
set_option maxHeartbeats 8000000 in
theorem seals_err (a : Option Addr) (n c : Nat) (xs : List Nat) (ad : Int) (w : World) (h : U8s w a n xs) (hn : n ≤ 200) (h1 : seaE xs ad ≠ 0) :
    Calls Try.prog 8 #[.slice a n c, .int .i64 ad] w (BPost true w) := by
  have HL := Lib.hid h
  have hl := h.len
  have HLn := Lib.hid hl
  have hlong : decide ((200 : Int) < (n : Int)) = false := decide_eq_false (by omega)
  have d1 : (seaE xs ad != 0) = true := bne_iff_ne.2 h1
  have H1 := Lib.hid h1
  clear h hl h1
  go_enter Try.func8, Try.ntmps8
  go_wp2_with fail
  refine (awake_call _).mono ?_; rintro e w1 ⟨rfl, hb1⟩
  have B1 := Lib.hid hb1
  clear hb1
  go_wp2_with fail
  refine (Seal_call a n c xs ad _ (HL.out.below B1.out)).mono ?_; rintro e w2 ⟨v2, rfl, hO, hb2⟩
  have B2 := Lib.hid (B1.out.trans (hb2.mono B1.out.size))
  obtain rfl := hO.2 H1.out
  clear hb2 hO B1
  go_wp2_with fail
  go_ret
  exact bPost_of rfl B2.out

set_option maxRecDepth 100000 in
set_option maxHeartbeats 8000000 in
theorem seals_top (a : Option Addr) (n c : Nat) (xs : List Nat) (ad : Int) (w : World) (h : U8s w a n xs) (hn : n ≤ 200) (h1 : seaE xs ad = 0) (h2 : n = 104) (hcz : a = none → c = 0) :
    Calls Try.prog 8 #[.slice a n c, .int .i64 ad] w (BPost true w) := by
  have HL := Lib.hid h
  have hl := h.len
  have HLn := Lib.hid hl
  have hlong : decide ((200 : Int) < (n : Int)) = false := decide_eq_false (by omega)
  obtain ⟨e1, e2, e3⟩ := sea_ok h1
  obtain ⟨A, rfl⟩ := Int.eq_ofNat_of_zero_le e2
  have hA : A < 2 ^ 24 := by omega
  have HE := Lib.hid h1
  have HS := Lib.hid (sea_adr e1 A hA)
  have HC := Lib.hid (sea_cor e1 A hA)
  have HR := Lib.hid (show remE xs = 0 ∧ remR xs = (remN xs : Nat) from ⟨e1, by unfold remR; rw [if_pos e1]⟩)
  have HSL := Lib.hid (seaL_len xs A)
  have HLR := Lib.hid (lead_rem e1)
  have h104 := (remE_ok e1).2.1
  rw [hl] at h104
  obtain ⟨i0, hi, hiz, his, hib⟩ := info_parts' infoU8
  have HI := Lib.hid (And.intro hi (And.intro hiz (And.intro his hib)))
  have d7 : ((A : Int) != (A : Int)) = false := by simp
  have d8 : ((n : Int) + 24 != (n : Int) + 24) = false := by simp
  clear e1 e2 e3 hi hiz his hib
  have HX := Lib.hid (show remE (0 :: xs) = 4 from by rw [HLR.out, if_pos (by rw [hl]; exact h2)])
  have d9 : decide ((104 : Int) < (n : Int) + 1) = true := decide_eq_true (by omega)
  clear h2

  clear h hl h1
  go_enter Try.func8, Try.ntmps8
  go_wp2_with fail
  refine (awake_call _).mono ?_; rintro e w1 ⟨rfl, hb1⟩
  have B1 := Lib.hid hb1
  clear hb1
  go_wp2_with fail
  refine (Seal_call a n c xs (A : Int) _ (HL.out.below B1.out)).mono ?_; rintro e w2 ⟨v2, rfl, hO, hb2⟩
  have B2 := Lib.hid (B1.out.trans (hb2.mono B1.out.size))
  rw [HE.out, Int.toNat_natCast] at hO
  rw [HE.out]
  obtain ⟨a2, c2, rfl, hU2, hc2⟩ := own_u8s (hO.1 rfl) rfl (by rw [HSL.out, HLn.out]; omega)
  rw [HSL.out, HLn.out] at hU2 hc2 ⊢
  have HU2 := Lib.hid hU2
  clear hb2 hO B1 hU2
  go_wp2_with fail
  refine (Address_call a2 (n + 24) c2 (seaL xs A) _ HU2.out hc2).mono ?_; rintro e w3 ⟨rfl, hb3⟩
  have B3 := Lib.hid (B2.out.trans (hb3.mono B2.out.size))
  have HU3 := Lib.hid (HU2.out.below hb3)
  rw [HS.out.1, HS.out.2.1]
  clear hb3 HU2 B2
  go_wp2_with fail
  refine (Correct_call a2 (n + 24) c2 (seaL xs A) (A : Int) _ HU3.out hc2).mono ?_; rintro e w4 ⟨v4, rfl, hO, hb4⟩
  rw [HC.out.1, HC.out.2.2] at hO
  rw [HC.out.1, HC.out.2.1]
  obtain ⟨a4, c4, rfl, hU4, hc4⟩ := own_u8s (hO.1 rfl) rfl (by rw [HSL.out, HLn.out]; omega)
  rw [HSL.out, HLn.out] at hU4 hc4 ⊢
  have B4 := Lib.hid (B3.out.trans (hb4.mono B3.out.size))
  have HU4 := Lib.hid (And.intro hU4 (HU3.out.below hb4))
  clear hb4 HU3 B3 hO hU4
  go_wp2_with fail
  refine (equalBits_call a4 a2 (n + 24) (n + 24) c4 c2 _ _ _ HU4.out.1 HU4.out.2).mono ?_; rintro e w5 ⟨rfl, hb5⟩
  rw [decide_eq_true (rfl : seaL xs A = seaL xs A)]
  have B5 := Lib.hid (B4.out.trans (hb5.mono B4.out.size))
  have HU5 := Lib.hid (HU4.out.2.below hb5)
  clear hb5 HU4 B4
  go_wp2_with fail
  refine (Remainder_call a n c xs _ (HL.out.below B5.out)).mono ?_; rintro e w6 ⟨rfl, hb6⟩
  rw [HR.out.1, HR.out.2]
  have B6 := Lib.hid (B5.out.trans (hb6.mono B5.out.size))
  have HU6 := Lib.hid (HU5.out.below hb6)
  clear hb6 HU5 B5
  have hOw : (w6.alloc (.cells #[.int .u8 0] 5)).ownsRow w6.heap.size 5 1 (.slice (some ⟨w6.heap.size, 0, none⟩) 1 1) 1 (flatU [0]) := own_lit (block_new _ _ rfl) (Nat.le_refl _) rfl rfl (by decide)
  have HOw := Lib.hid hOw
  clear hOw
  go_upto_region 11 with fail
  go_wp2_with (refine wpList_append_src rfl _ _ 28 rfl w6.heap.size 5 i0 _ 1 1 Try.underlying28 HI.out.1 HI.out.2.1 HI.out.2.2.1 HI.out.2.2.2 rfl (by decide) _ 1 _ rfl HOw.out a n c (flatU xs) rfl ?c0 ?c1 ?c2 (flatU_cell xs) ?c3 ?c4 ?c5 ?_; rotate_right; intro v7 w7 hown7 hgrow)
  case c0 =>
    intro e0
    rcases HL.out.cells with h0 | ⟨b, off, e1, _⟩
    · exact ⟨h0, hcz e0⟩
    · rw [e1] at e0; cases e0
  case c1 => rw [flatU_len, HLn.out, Nat.mul_one]
  case c2 => intro ad' had; subst had; exact u8s_src (HL.out.below (B6.out.alloc B6.out.size _))
  case c3 => unfold maxLen; omega
  case c4 => omega
  case c5 => simp
  have hb7 : Below w6.heap.size w6 w7 := (below_alloc w6 (.cells #[.int .u8 0] 5)).trans (grownB HOw.out hgrow (Nat.le_refl _) (by simp))
  obtain ⟨a7, c7, rfl, hU7, hc7⟩ := own_u8s (ys := 0 :: xs) (n := 1 + n) hown7 (by rw [List.length_cons, HLn.out]; omega) (by omega)
  rw [show 1 + n = n + 1 by omega] at hU7 hc7 ⊢
  have B7 := Lib.hid (B6.out.trans (hb7.mono B6.out.size))
  have HU7 := Lib.hid (And.intro hU7 (HU6.out.below hb7))
  clear hb7 HU6 B6 hown7 hgrow HOw hU7
  go_wp2_with fail
  refine (Remainder_call a7 (n + 1) c7 (0 :: xs) _ HU7.out.1).mono ?_; rintro e w8 ⟨rfl, hb8⟩
  have B8 := Lib.hid (B7.out.trans (hb8.mono B7.out.size))
  have HU8 := Lib.hid (And.intro (HU7.out.1.below hb8) (HU7.out.2.below hb8))
  clear hb8 HU7 B7
  rw [HX.out]
  go_wp2_with fail
  go_ret
  exact bPost_of rfl B8.out

set_option maxRecDepth 100000 in
set_option maxHeartbeats 8000000 in
theorem seals_low (a : Option Addr) (n c : Nat) (xs : List Nat) (ad : Int) (w : World) (h : U8s w a n xs) (hn : n ≤ 200) (h1 : seaE xs ad = 0) (h2 : n < 104) (hcz : a = none → c = 0) :
    Calls Try.prog 8 #[.slice a n c, .int .i64 ad] w (BPost true w) := by
  have HL := Lib.hid h
  have hl := h.len
  have HLn := Lib.hid hl
  have hlong : decide ((200 : Int) < (n : Int)) = false := decide_eq_false (by omega)
  obtain ⟨e1, e2, e3⟩ := sea_ok h1
  obtain ⟨A, rfl⟩ := Int.eq_ofNat_of_zero_le e2
  have hA : A < 2 ^ 24 := by omega
  have HE := Lib.hid h1
  have HS := Lib.hid (sea_adr e1 A hA)
  have HC := Lib.hid (sea_cor e1 A hA)
  have HR := Lib.hid (show remE xs = 0 ∧ remR xs = (remN xs : Nat) from ⟨e1, by unfold remR; rw [if_pos e1]⟩)
  have HSL := Lib.hid (seaL_len xs A)
  have HLR := Lib.hid (lead_rem e1)
  have h104 := (remE_ok e1).2.1
  rw [hl] at h104
  obtain ⟨i0, hi, hiz, his, hib⟩ := info_parts' infoU8
  have HI := Lib.hid (And.intro hi (And.intro hiz (And.intro his hib)))
  have d7 : ((A : Int) != (A : Int)) = false := by simp
  have d8 : ((n : Int) + 24 != (n : Int) + 24) = false := by simp
  clear e1 e2 e3 hi hiz his hib
  have HX := Lib.hid (show remE (0 :: xs) = 0 ∧ remR (0 :: xs) = (remN xs : Nat) ∧ seaE (0 :: xs) (A : Int) = 0 from by
    have e : remE (0 :: xs) = 0 := by rw [HLR.out, if_neg (by rw [hl]; omega)]
    exact ⟨e, by unfold remR; rw [if_pos e, remN_lead], by unfold seaE; rw [if_neg (by rw [e]; decide), if_neg (by omega)]⟩)
  have d9 : (((remN xs : Nat) : Int) == ((remN xs : Nat) : Int)) = true := by simp
  have d10 : ((n : Int) + 24 + 1 == (n : Int) + 24 + 1) = true := by simp
  clear h2

  clear h hl h1
  go_enter Try.func8, Try.ntmps8
  go_wp2_with fail
  refine (awake_call _).mono ?_; rintro e w1 ⟨rfl, hb1⟩
  have B1 := Lib.hid hb1
  clear hb1
  go_wp2_with fail
  refine (Seal_call a n c xs (A : Int) _ (HL.out.below B1.out)).mono ?_; rintro e w2 ⟨v2, rfl, hO, hb2⟩
  have B2 := Lib.hid (B1.out.trans (hb2.mono B1.out.size))
  rw [HE.out, Int.toNat_natCast] at hO
  rw [HE.out]
  obtain ⟨a2, c2, rfl, hU2, hc2⟩ := own_u8s (hO.1 rfl) rfl (by rw [HSL.out, HLn.out]; omega)
  rw [HSL.out, HLn.out] at hU2 hc2 ⊢
  have HU2 := Lib.hid hU2
  clear hb2 hO B1 hU2
  go_wp2_with fail
  refine (Address_call a2 (n + 24) c2 (seaL xs A) _ HU2.out hc2).mono ?_; rintro e w3 ⟨rfl, hb3⟩
  have B3 := Lib.hid (B2.out.trans (hb3.mono B2.out.size))
  have HU3 := Lib.hid (HU2.out.below hb3)
  rw [HS.out.1, HS.out.2.1]
  clear hb3 HU2 B2
  go_wp2_with fail
  refine (Correct_call a2 (n + 24) c2 (seaL xs A) (A : Int) _ HU3.out hc2).mono ?_; rintro e w4 ⟨v4, rfl, hO, hb4⟩
  rw [HC.out.1, HC.out.2.2] at hO
  rw [HC.out.1, HC.out.2.1]
  obtain ⟨a4, c4, rfl, hU4, hc4⟩ := own_u8s (hO.1 rfl) rfl (by rw [HSL.out, HLn.out]; omega)
  rw [HSL.out, HLn.out] at hU4 hc4 ⊢
  have B4 := Lib.hid (B3.out.trans (hb4.mono B3.out.size))
  have HU4 := Lib.hid (And.intro hU4 (HU3.out.below hb4))
  clear hb4 HU3 B3 hO hU4
  go_wp2_with fail
  refine (equalBits_call a4 a2 (n + 24) (n + 24) c4 c2 _ _ _ HU4.out.1 HU4.out.2).mono ?_; rintro e w5 ⟨rfl, hb5⟩
  rw [decide_eq_true (rfl : seaL xs A = seaL xs A)]
  have B5 := Lib.hid (B4.out.trans (hb5.mono B4.out.size))
  have HU5 := Lib.hid (HU4.out.2.below hb5)
  clear hb5 HU4 B4
  go_wp2_with fail
  refine (Remainder_call a n c xs _ (HL.out.below B5.out)).mono ?_; rintro e w6 ⟨rfl, hb6⟩
  rw [HR.out.1, HR.out.2]
  have B6 := Lib.hid (B5.out.trans (hb6.mono B5.out.size))
  have HU6 := Lib.hid (HU5.out.below hb6)
  clear hb6 HU5 B5
  have hOw : (w6.alloc (.cells #[.int .u8 0] 5)).ownsRow w6.heap.size 5 1 (.slice (some ⟨w6.heap.size, 0, none⟩) 1 1) 1 (flatU [0]) := own_lit (block_new _ _ rfl) (Nat.le_refl _) rfl rfl (by decide)
  have HOw := Lib.hid hOw
  clear hOw
  go_upto_region 11 with fail
  go_wp2_with (refine wpList_append_src rfl _ _ 28 rfl w6.heap.size 5 i0 _ 1 1 Try.underlying28 HI.out.1 HI.out.2.1 HI.out.2.2.1 HI.out.2.2.2 rfl (by decide) _ 1 _ rfl HOw.out a n c (flatU xs) rfl ?c0 ?c1 ?c2 (flatU_cell xs) ?c3 ?c4 ?c5 ?_; rotate_right; intro v7 w7 hown7 hgrow)
  case c0 =>
    intro e0
    rcases HL.out.cells with h0 | ⟨b, off, e1, _⟩
    · exact ⟨h0, hcz e0⟩
    · rw [e1] at e0; cases e0
  case c1 => rw [flatU_len, HLn.out, Nat.mul_one]
  case c2 => intro ad' had; subst had; exact u8s_src (HL.out.below (B6.out.alloc B6.out.size _))
  case c3 => unfold maxLen; omega
  case c4 => omega
  case c5 => simp
  have hb7 : Below w6.heap.size w6 w7 := (below_alloc w6 (.cells #[.int .u8 0] 5)).trans (grownB HOw.out hgrow (Nat.le_refl _) (by simp))
  obtain ⟨a7, c7, rfl, hU7, hc7⟩ := own_u8s (ys := 0 :: xs) (n := 1 + n) hown7 (by rw [List.length_cons, HLn.out]; omega) (by omega)
  rw [show 1 + n = n + 1 by omega] at hU7 hc7 ⊢
  have B7 := Lib.hid (B6.out.trans (hb7.mono B6.out.size))
  have HU7 := Lib.hid (And.intro hU7 (HU6.out.below hb7))
  clear hb7 HU6 B6 hown7 hgrow HOw hU7
  go_wp2_with fail
  refine (Remainder_call a7 (n + 1) c7 (0 :: xs) _ HU7.out.1).mono ?_; rintro e w8 ⟨rfl, hb8⟩
  have B8 := Lib.hid (B7.out.trans (hb8.mono B7.out.size))
  have HU8 := Lib.hid (And.intro (HU7.out.1.below hb8) (HU7.out.2.below hb8))
  clear hb8 HU7 B7
  rw [HX.out.1, HX.out.2.1]
  go_wp2_with fail
  refine (Seal_call a7 (n + 1) c7 (0 :: xs) (A : Int) _ HU8.out.1).mono ?_; rintro e w9 ⟨v9, rfl, hO, hb9⟩
  rw [HX.out.2.2, Int.toNat_natCast, lead_sea] at hO
  rw [HX.out.2.2]
  have hO9 := hO.1 rfl
  have hl9 : (0 :: seaL xs A).length = n + 24 + 1 := by rw [List.length_cons, HSL.out, HLn.out]
  rw [hl9] at hO9
  obtain ⟨g9, c9, rfl, hU9, hc9⟩ := own_some hO9 hl9 (by omega) (by omega)
  have hU9t := hU9.tail_
  have B9 := Lib.hid (B8.out.trans (hb9.mono B8.out.size))
  have HU9 := Lib.hid (And.intro hU9t (HU8.out.2.below hb9))
  have hcc : ¬ c9 = 1 := by omega
  have hcc1 : 1 ≤ c9 := by omega
  have hcc2 : n + 24 + 1 ≤ c9 := hc9
  clear hb9 HU8 B8 hO hO9 hU9 hU9t hl9 hc9
  go_wp2_with fail
  refine (equalBits_call (some ⟨g9, 1, none⟩) a2 (n + 24) (n + 24) (c9 - 1) c2 _ _ _ HU9.out.1 HU9.out.2).mono ?_; rintro e wA ⟨rfl, hbA⟩
  rw [decide_eq_true (rfl : seaL xs A = seaL xs A)]
  have BA := Lib.hid (B9.out.trans (hbA.mono B9.out.size))
  clear hbA
  go_wp2_with fail
  go_ret
  exact bPost_of rfl BA.out

set_option maxRecDepth 100000 in
set_option maxHeartbeats 4000000 in
theorem seals_long (a : Option Addr) (n c : Nat) (ad : Int) (w : World) (hn : n ≤ 9223372036854775807) (h : 200 < n) :
    Calls Try.prog 8 #[.slice a n c, .int .i64 ad] w (BPost true w) := by
  have hlong : decide ((200 : Int) < (n : Int)) = true := decide_eq_true (by omega)
  have hn1 : (n : Int) ≤ 9223372036854775807 := by omega
  clear h hn
  go_enter Try.func8, Try.ntmps8
  go_wp2_with fail
  refine (awake_call _).mono ?_; rintro e w1 ⟨rfl, hb1⟩
  have HB1 := Lib.hid hb1
  clear hb1
  go_wp2_with fail
  go_ret
  exact bPost_of rfl HB1.out
theorem seals_call (a : Option Addr) (n c : Nat) (xs : List Nat) (ad : Int) (w : World) (h : U8s w a n xs) (hcz : a = none → c = 0) :
    Calls Try.prog 8 #[.slice a n c, .int .i64 ad] w (BPost true w) := by
  by_cases hn : n ≤ 200
  · by_cases h1 : seaE xs ad = 0
    · have h104 := (remE_ok (sea_ok h1).1).2.1
      rw [h.len] at h104
      by_cases h2 : n = 104
      · exact seals_top a n c xs ad w h hn h1 h2 hcz
      · exact seals_low a n c xs ad w h hn h1 (by omega) hcz
    · exact seals_err a n c xs ad w h hn h1
  · exact seals_long a n c ad w h.bound (by omega)
end Go.Proofs.Ytpfohhmhadjdpaa
