/-
  Layer 2 (parity): the reference's Remainder, Address, Seal, walked.
-/
import Derived.Test.YtpfohhmhadjdpaaParV
namespace Go.Proofs.Ytpfohhmhadjdpaa
open Go.RowKit BitsMath ParityMath MyHeap MyCopy MyOwn

set_option maxRecDepth 100000 in
theorem rRem_call (a : Option Addr) (n c : Nat) (xs : List Nat) (w : World) (h : U8s w a n xs) (hcz : a = none → c = 0) : Calls Try.prog 17 #[.slice a n c] w (TPost (remR xs) (remE xs) w) := by
  have HL := Lib.hid h
  have hn := h.bound
  have hl := h.len
  clear h
  by_cases hE : chkE xs = 0
  · obtain ⟨h1, h2⟩ := all1_of hE
    have H1 := Lib.hid h1
    have HE := Lib.hid hE
    rw [hl] at h2
    by_cases h3 : 104 < n
    · have HR := Lib.hid (show remE xs = 4 from by unfold remE; rw [if_neg (by rw [hE]; decide), if_pos (by omega)])
      have d1 : (104 : Int) < (n : Int) := by omega
      clear hl h1 hE
      go_enter Try.func17, Try.ntmps17
      go_wp2_with fail
      refine (refCheck_call a n c xs _ HL.out).mono ?_; rintro e w1 ⟨rfl, rfl⟩
      rw [HE.out]
      go_wp2_with fail
      go_ret2
      exact tPost_of (by unfold remR; rw [HR.out]; rfl) (by rw [HR.out]) (Below.refl _ _)
    · have HR := Lib.hid (show remE xs = 0 from by unfold remE; rw [if_neg (by rw [hE]; decide), if_neg (by omega)])
      have d1 : ¬ (104 : Int) < (n : Int) := by omega
      clear hl h1 hE
      go_enter Try.func17, Try.ntmps17
      go_wp2_with fail
      refine (refCheck_call a n c xs _ HL.out).mono ?_; rintro e w1 ⟨rfl, rfl⟩
      rw [HE.out]
      go_wp2_with fail
      refine (rRemainder_call a n c xs _ HL.out H1.out (by omega) hcz).mono ?_; rintro e w2 ⟨rfl, hb2⟩
      have HB2 := Lib.hid hb2
      clear hb2
      go_wp2_with fail
      go_ret2
      exact tPost_of (by unfold remR; rw [if_pos HR.out]) (by rw [HR.out]) HB2.out
  · have HR := Lib.hid (show remE xs = chkE xs from if_pos hE)
    have d1 : (chkE xs != 0) = true := by simpa using hE
    have HE := Lib.hid hE
    clear hl hE
    go_enter Try.func17, Try.ntmps17
    go_wp2_with fail
    refine (refCheck_call a n c xs _ HL.out).mono ?_; rintro e w1 ⟨rfl, rfl⟩
    go_wp2_with fail
    go_ret2
    exact tPost_of (by unfold remR; rw [HR.out, if_neg HE.out]) (by rw [HR.out]) (Below.refl _ _)

set_option maxRecDepth 100000 in
theorem rAdr_call (a : Option Addr) (n c : Nat) (xs : List Nat) (w : World) (h : U8s w a n xs) (hc : n ≤ c) : Calls Try.prog 19 #[.slice a n c] w (TPost (adrR xs) (adrE xs) w) := by
  have HL := Lib.hid h
  have hn := h.bound
  have hl := h.len
  by_cases hE : chkE xs = 0
  · obtain ⟨h1, h2⟩ := all1_of hE
    have H1 := Lib.hid h1
    have HE := Lib.hid hE
    rw [hl] at h2
    by_cases h3 : n < 24
    · have HR := Lib.hid (show adrE xs = 3 from by unfold adrE; rw [if_neg (by rw [hE]; decide), if_pos (by omega)])
      have d1 : (n : Int) < 24 := by omega
      clear hl h1 hE h
      go_enter Try.func19, Try.ntmps19
      go_wp2_with fail
      refine (refCheck_call a n c xs _ HL.out).mono ?_; rintro e w1 ⟨rfl, rfl⟩
      rw [HE.out]
      go_wp2_with fail
      go_ret2
      exact tPost_of (by unfold adrR; rw [HR.out]; rfl) (by rw [HR.out]) (Below.refl _ _)
    · have HR := Lib.hid (adr_of h1 (by omega) (by omega))
      have d1 : ¬ (n : Int) < 24 := by omega
      obtain ⟨m, rfl⟩ : ∃ m, n = m + 24 := ⟨n - 24, by omega⟩
      have d2 : ¬ ((m + 24 : Nat) : Int) < 24 := d1
      have HH := Lib.hid h
      clear hl h1 hE h
      go_enter Try.func19, Try.ntmps19
      go_wp2_with fail
      refine (refCheck_call a (m + 24) c xs _ HL.out).mono ?_; rintro e w1 ⟨rfl, rfl⟩
      rw [HE.out]
      go_wp2_with fail
      refine (raddress_call a m c xs _ HH.out H1.out h2 hc).mono ?_; rintro e w2 ⟨rfl, hb2⟩
      have HB2 := Lib.hid hb2
      clear hb2
      go_wp2_with fail
      go_ret2
      exact tPost_of (by rw [HR.out.2]) (by rw [HR.out.1]) HB2.out
  · have HR := Lib.hid (show adrE xs = chkE xs from if_pos hE)
    have d1 : (chkE xs != 0) = true := by simpa using hE
    have HE := Lib.hid hE
    clear hl hE h
    go_enter Try.func19, Try.ntmps19
    go_wp2_with fail
    refine (refCheck_call a n c xs _ HL.out).mono ?_; rintro e w1 ⟨rfl, rfl⟩
    go_wp2_with fail
    go_ret2
    exact tPost_of (by unfold adrR; rw [HR.out, if_neg HE.out]) (by rw [HR.out]) (Below.refl _ _)

theorem flatU_snoc (l : List Nat) (x : Nat) : flatU (l ++ [x]) = flatU l ++ [.int .u8 ((x : Nat) : Int)] := by unfold flatU; rw [List.map_append]; rfl
/-- The highest k bits of the 24 lowest. -/
theorem bitsL_take (v k : Nat) (hk : k < 24) : (bitsL v 24).take (k + 1) = (bitsL v 24).take k ++ [(v >>> (23 - k)) &&& 1] := by
  rw [take_snoc' (by rw [bitsL_len]; exact hk)]
  congr 2
  unfold bitsL
  rw [List.getElem?_map, List.getElem?_range hk]
  rfl

set_option maxRecDepth 100000 in
set_option maxHeartbeats 4000000 in
theorem rSeal_ok (a : Option Addr) (n c : Nat) (xs : List Nat) (A : Nat) (w : World) (h : U8s w a n xs) (hE : remE xs = 0) (hA : A < 16777216) (hcz : a = none → c = 0) : Calls Try.prog 18 #[.slice a n c, .int .i64 (A : Int)] w (OPost 0 (seaL xs A) w) := by
  have HL := Lib.hid h
  have hn := h.bound
  have hl := h.len
  obtain ⟨h1, h2, h3⟩ := remE_ok hE
  have hRR := Lib.hid (show remR xs = (remN xs : Nat) from by unfold remR; rw [if_pos hE])
  have HE := Lib.hid hE
  have hr := remN_lt h3
  have hr2 : remN xs < 16777216 := hr
  rw [hl] at h2
  have d1 : decide ((A : Int) < 0) = false := decide_eq_false (by omega)
  have d2 : decide (16777215 < (A : Int)) = false := decide_eq_false (by omega)
  obtain ⟨V, hV⟩ : ∃ V, remN xs ^^^ A = V := ⟨_, rfl⟩
  have hVlt : V < 16777216 := by rw [← hV]; exact Nat.xor_lt_two_pow (n := 24) hr hA
  have hx := xor_adr (remN xs) A hr2 hA
  rw [hV] at hx
  have HSL := Lib.hid (show seaL xs A = xs ++ bitsL V 24 from by rw [seaL_eq, hV])
  have HLn := Lib.hid hl
  obtain ⟨i0, hi, hiz, his, hib⟩ := info_parts' infoU8
  have HI := Lib.hid (And.intro hi (And.intro hiz (And.intro his hib)))
  clear h hl hE h1 h3 hr hV hi hiz his hib
  go_enter Try.func18, Try.ntmps18
  go_wp2_with fail
  refine (rRem_call a n c xs _ HL.out hcz).mono ?_; rintro e w0 ⟨rfl, hb0⟩
  rw [HE.out, hRR.out]
  have B0 := Lib.hid hb0
  clear hb0
  go_upto_region 6 with fail
  go_wp2_with (refine wpList_append_src rfl _ _ 28 rfl w0.heap.size 5 i0 _ 1 1 Try.underlying28 HI.out.1 HI.out.2.1 HI.out.2.2.1 HI.out.2.2.2 rfl (by decide) _ 0 _ rfl (own_nil w0 _ _ _) a n c (flatU xs) rfl ?c0 ?c1 ?c2 (flatU_cell xs) ?c3 ?c4 ?c5 ?_; rotate_right; intro v1 w1 hown1 hgrow1)
  case c0 =>
    intro e0
    rcases HL.out.cells with h0 | ⟨b, off, e1, _⟩
    · exact ⟨h0, hcz e0⟩
    · rw [e1] at e0; cases e0
  case c1 => rw [flatU_len, HLn.out, Nat.mul_one]
  case c2 => intro ad' had; subst had; exact u8s_src (HL.out.below B0.out)
  case c3 => unfold maxLen; omega
  case c4 => omega
  case c5 => exact Nat.le_refl _
  have hb1 : Below w0.heap.size w0 w1 := grownB (own_nil w0 w0.heap.size 5 1) hgrow1 (Nat.le_refl _) (Nat.le_refl _)
  have K := Lib.hid (show w1.ownsRow w.heap.size 5 1 v1 (n + 0) (flatU (xs ++ (bitsL V 24).take 0)) ∧ Below w.heap.size w w1 from ⟨by
    have := hown1
    rw [Nat.zero_add, List.nil_append] at this
    rw [List.take_zero, List.append_nil]
    exact ownsRow_base this B0.out.size, B0.out.trans (hb1.mono B0.out.size)⟩)
  clear hb1 hown1 hgrow1 B0
  go_wp2_with fail
  go_loopw [8, 9] (fun v iv wq => ∃ k : Nat, k ≤ 24 ∧ iv = .int .i64 (23 - (k : Int)) ∧ wq.ownsRow w.heap.size 5 1 v (n + k) (flatU (xs ++ (bitsL V 24).take k)) ∧ Below w.heap.size w wq) (fun _ iv _ => (intOf iv + 1).toNat)
  case atStart => exact ⟨0, by omega, by simp, K.out.1, K.out.2⟩
  case round =>
    clear K
    obtain ⟨k, hk, rfl, hO, hB⟩ := hrel
    have HQ := Lib.hid (And.intro hO hB)
    by_cases hk24 : k < 24
    · obtain ⟨j, hj⟩ : ∃ j : Nat, (23 : Int) - (k : Int) = (j : Int) := ⟨23 - k, by omega⟩
      have hj0 : (0 : Int) ≤ (j : Int) := by omega
      have hj2 : (j : Int) ≤ 23 := by omega
      have HT := Lib.hid (show (bitsL V 24).take (k + 1) = (bitsL V 24).take k ++ [(V >>> j) &&& 1] from by rw [bitsL_take V k hk24, show 23 - k = j by omega])
      rw [hj]
      have HJ := Lib.hid hj
      have hsle := shr_le V j
      have e1 := shr_div V j
      obtain ⟨q, hq⟩ : ∃ q, V >>> j = q := ⟨_, rfl⟩
      rw [hq] at e1 hsle
      have e2 := bit_and q (by omega)
      have HQ2 := Lib.hid hq
      have hz := HQ.out.2.size
      have hw8 : IntKind.u8.wrap ((q : Int) % 2) = (q : Int) % 2 := by rw [IntKind.wrap_u8]; omega
      have HO := Lib.hid (show (wr.alloc (.cells #[.int .u8 ((q : Int) % 2)] 5)).ownsRow w.heap.size 5 1 _ (n + k) (flatU (xs ++ (bitsL V 24).take k)) from ownsRow_below hO (below_alloc wr _) (Nat.le_refl _))
      clear hO hB hj hq
      go_upto_region 10 with fail
      go_wp2_with (refine wpList_append_src rfl _ _ 28 rfl w.heap.size 5 i0 _ 1 1 Try.underlying28 HI.out.1 HI.out.2.1 HI.out.2.2.1 HI.out.2.2.2 rfl (by decide) _ (n + k) _ rfl HO.out (some ⟨wr.heap.size, 0, none⟩) 1 1 [.int .u8 ((q : Int) % 2)] rfl (fun e => by cases e) rfl ?c1 ?c2 ?c3 ?c4 ?c5 ?_; rotate_right; intro v7 w7 hown7 hgrow)
      case c1 => intro ad had; cases had; exact cells_one rfl
      case c2 => intro u hu; simp at hu; subst hu; rfl
      case c3 => unfold maxLen; omega
      case c4 => omega
      case c5 => simp; omega
      have hg' := grownB (B := w.heap.size) HO.out hgrow (Nat.le_refl _) (by simp; omega)
      have H7 := Lib.hid (show w7.ownsRow w.heap.size 5 1 v7 (n + (k + 1)) (flatU (xs ++ (bitsL V 24).take (k + 1))) ∧ Below w.heap.size w w7 from ⟨by
        have := hown7
        rw [HT.out, HQ2.out, ← List.append_assoc, flatU_snoc, show ((q &&& 1 : Nat) : Int) = (q : Int) % 2 from by rw [Nat.and_one_is_mod]; omega]
        exact this, (HQ.out.2.alloc HQ.out.2.size _).trans hg'⟩)
      clear hown7 hgrow hg' e1 e2 hw8 hsle
      go_wp2_with fail
      refine ⟨⟨k + 1, ?_, ?_, H7.out.1, H7.out.2⟩, ?_⟩
      · omega
      · have hjj := HJ.out
        rw [show (23 : Int) - ((k + 1 : Nat) : Int) = (j : Int) - 1 by omega]
      · simp [intOf]
    · have hk5 : k = 24 := by omega
      have h24 : (23 : Int) - (k : Int) = -1 := by omega
      rw [h24]
      have HR := Lib.hid (show wr.ownsRow w.heap.size 5 1 u8 (seaL xs A).length (flatU (seaL xs A)) from by
        have h := hO
        rw [hk5, List.take_of_length_le (by rw [bitsL_len]; exact Nat.le_refl _), ← HSL.out] at h
        rw [seaL_len, HLn.out]
        exact h)
      clear hO hB hk5 h24 hk24 hk
      go_wp2_with fail
      go_ret2
      exact oPost_ok rfl HR.out HQ.out.2
theorem rSeal_err (a : Option Addr) (n c : Nat) (xs : List Nat) (ad : Int) (ys : List Nat) (w : World) (h : U8s w a n xs) (hE : remE xs ≠ 0) (hcz : a = none → c = 0) : Calls Try.prog 18 #[.slice a n c, .int .i64 ad] w (OPost (remE xs) ys w) := by
  have HL := Lib.hid h
  have d1 : (remE xs != 0) = true := bne_iff_ne.2 hE
  have HE := Lib.hid hE
  clear h hE
  go_enter Try.func18, Try.ntmps18
  go_wp2_with fail
  refine (rRem_call a n c xs _ HL.out hcz).mono ?_; rintro e w0 ⟨rfl, hb0⟩
  have B0 := Lib.hid hb0
  clear hb0
  go_wp2_with fail
  go_ret2
  exact oPost_err HE.out rfl B0.out
theorem rSeal_bad (a : Option Addr) (n c : Nat) (xs : List Nat) (ad : Int) (ys : List Nat) (w : World) (h : U8s w a n xs) (hE : remE xs = 0) (hcz : a = none → c = 0) (b1 b2 : Bool) (h1 : decide (ad < 0) = b1) (h2 : decide (16777215 < ad) = b2) (hor : b1 = true ∨ b1 = false ∧ b2 = true) : Calls Try.prog 18 #[.slice a n c, .int .i64 ad] w (OPost 1 ys w) := by
  have HL := Lib.hid h
  have HE := Lib.hid hE
  clear h hE
  rcases hor with rfl | ⟨rfl, rfl⟩
  all_goals
    go_enter Try.func18, Try.ntmps18
    go_wp2_with fail
    refine (rRem_call a n c xs _ HL.out hcz).mono ?_; rintro e w0 ⟨rfl, hb0⟩
    rw [HE.out]
    have B0 := Lib.hid hb0
    clear hb0
    go_wp2_with fail
    go_ret2
    exact oPost_err (by decide) rfl B0.out
theorem rSeal_call (a : Option Addr) (n c : Nat) (xs : List Nat) (ad : Int) (w : World) (h : U8s w a n xs) (hcz : a = none → c = 0) : Calls Try.prog 18 #[.slice a n c, .int .i64 ad] w (OPost (seaE xs ad) (seaL xs ad.toNat) w) := by
  by_cases hE : remE xs = 0
  · by_cases hb : ad < 0 ∨ 16777215 < ad
    · have e : seaE xs ad = 1 := by unfold seaE; rw [if_neg (by rw [hE]; decide), if_pos hb]
      rw [e]
      by_cases h1 : ad < 0
      · exact rSeal_bad a n c xs ad _ w h hE hcz true _ (decide_eq_true h1) rfl (Or.inl rfl)
      · exact rSeal_bad a n c xs ad _ w h hE hcz false true (decide_eq_false h1) (decide_eq_true (by omega)) (Or.inr ⟨rfl, rfl⟩)
    · have e : seaE xs ad = 0 := by unfold seaE; rw [if_neg (by rw [hE]; decide), if_neg hb]
      obtain ⟨A, rfl⟩ := Int.eq_ofNat_of_zero_le (show 0 ≤ ad by omega)
      rw [e, Int.toNat_natCast]
      exact rSeal_ok a n c xs A w h hE (by omega) hcz
  · have e : seaE xs ad = remE xs := if_pos hE
    rw [e]
    exact rSeal_err a n c xs ad _ w h hE hcz
end Go.Proofs.Ytpfohhmhadjdpaa
