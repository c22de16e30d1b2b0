/-
  Layer 1 (bits): the reference's Put, walked at every input.
-/
import Derived.Test.YthabecfajponfaaBtW
import Derived.Test.YthabecfajponfaaBtG
namespace Go.Proofs.Ythabecfajponfaa
open Go.RowKit BitsMath ParityMath MyHeap MyCopy MyOwn

set_option maxRecDepth 100000 in
set_option maxHeartbeats 2000000 in
theorem refPut_ok (a : Option Addr) (n c : Nat) (xs : List Nat) (P N v0 : Nat) (w : World) (h : U8s w a n xs) (he : fldE xs P N = 0) (hN : N ≤ 64) (hn : n ≤ 128) (hp : P + N ≤ n) (hv : v0 < 2 ^ N) (hs : all1 xs) :
    Calls Try.prog 18 #[.slice a n c, .int .i64 (P : Int), .int .i64 (N : Int), .int .u64 (v0 : Int)] w (OPost 0 (putL xs P N v0) w) := by
  have hv64 : v0 < 2 ^ 64 := Nat.lt_of_lt_of_le hv (Nat.pow_le_pow_right (by decide) hN)
  have HL := Lib.hid h
  have HE := Lib.hid he
  have HS := Lib.hid hs
  have hl := h.len
  have hpl := putL_len xs P N v0
  rw [hl] at hpl
  have HLn := Lib.hid (And.intro hl hpl)
  have HV := Lib.hid (And.intro hv64 hv)
  obtain ⟨i0, hi, hiz, his, hib⟩ := info_parts' infoU8
  have HI := Lib.hid (And.intro hi (And.intro hiz (And.intro his hib)))
  have hN0 : -9223372036854775808 ≤ (N : Int) := by omega
  have hN1 : (N : Int) ≤ 9223372036854775807 := by omega
  have hz : ((v0 : Int) / (2 : Int) ^ N) = 0 := by rw [shr_div, Nat.shiftRight_eq_div_pow, Nat.div_eq_of_lt hv]; rfl
  clear h he hs hl hpl hi hiz his hib hv hv64
  go_enter Try.func18, Try.ntmps18
  go_wp2_with fail
  refine (refField_call a n c xs P N _ HL.out hN0 hN1).mono ?_; rintro e w1 ⟨rfl, rfl⟩
  rw [HE.out]
  by_cases h64 : N < 64
  · have d1 : decide ((N : Int) < 64) = true := decide_eq_true (by omega)
    go_wp2_with fail
    clear hz
    go_loopw [11, 12] (fun v kv wr => ∃ k : Nat, k ≤ n ∧ kv = .int .i64 k ∧ wr.ownsRow w.heap.size 5 1 v k (flatU ((putL xs P N v0).take k)) ∧ Below w.heap.size w wr) (fun _ kv _ => n - (intOf kv).toNat)
    case atStart => exact ⟨0, by omega, rfl, ⟨rfl, Or.inl ⟨rfl, rfl⟩⟩, Below.refl _ _⟩
    case round =>
      obtain ⟨k, hk, rfl, hO, hB⟩ := hrel
      have H := Lib.hid (And.intro hO hB)
      have hz := hB.size
      by_cases hlt : k < n
      · obtain ⟨b, off, rfl, x0⟩ := u8s_at (HL.out.below hB) hlt
        have hk0 : (0 : Int) ≤ (k : Int) := by omega
        have hk1 : (k : Int) < (n : Int) := by omega
        have HT := Lib.hid (take_snoc' (xs := putL xs P N v0) (k := k) (by rw [HLn.out.2]; exact hlt))
        have HG := Lib.hid (putL_get xs P N v0 (by rw [HLn.out.1]; exact hp) k (by rw [HLn.out.1]; exact hlt))
        obtain ⟨X, hX⟩ : ∃ X, xs[k]?.getD 0 = X := ⟨_, rfl⟩
        rw [hX] at x0
        have HX := Lib.hid hX
        have HB0 := Lib.hid hB
        clear hO hB hX
        by_cases c1 : P ≤ k
        · have q1 : decide ((P : Int) ≤ (k : Int)) = true := decide_eq_true (by omega)
          by_cases c2 : k < P + N
          · have q2 : decide ((k : Int) < (P : Int) + (N : Int)) = true := decide_eq_true (by omega)
            obtain ⟨d, hd⟩ : ∃ d : Nat, P + N - 1 - k = d := ⟨_, rfl⟩
            have hdi : (P : Int) + (N : Int) - 1 - (k : Int) = (d : Int) := by omega
            have hd64 : d < 64 := by omega
            obtain ⟨Y, hY⟩ : ∃ Y, v0 >>> d &&& 1 = Y := ⟨_, rfl⟩
            have hS : bits .and .u64 ((v0 : Int) / 2 ^ d) 1 % 256 = (Y : Int) := by
              have h1 := shr_bit v0 d HV.out.1
              rw [← shr_div] at h1
              rw [h1.1, hY]
              have := and1_le (v0 >>> d)
              omega
            have HY := Lib.hid (show (putL xs P N v0)[k]?.getD 0 = Y by rw [HG.out, if_pos ⟨c1, c2⟩, hd, hY])
            clear hd hY
            go_upto_region 13 with fail
            have HO := Lib.hid (show (wr.alloc (.cells #[.int .u8 (Y : Int)] 5)).ownsRow w.heap.size 5 1 u11 k (flatU ((putL xs P N v0).take k)) from ownsRow_below H.out.1 (below_alloc wr _) (Nat.le_refl _))
            go_wp2_with (refine wpList_append_src rfl _ _ 23 rfl w.heap.size 5 i0 _ 1 1 Try.underlying23 HI.out.1 HI.out.2.1 HI.out.2.2.1 HI.out.2.2.2 rfl (by decide) _ k _ rfl HO.out (some ⟨wr.heap.size, 0, none⟩) 1 1 [.int .u8 (Y : Int)] rfl (fun e => by cases e) rfl ?c1 ?c2 ?c3 ?c4 ?c5 ?_; rotate_right; intro v7 w7 hown7 hgrow)
            case c1 => intro ad' had; cases had; exact cells_one rfl
            case c2 => intro u hu; simp at hu; subst hu; rfl
            case c3 => unfold maxLen; omega
            case c4 => omega
            case c5 => simp; omega
            have hg := grownB (B := w.heap.size) HO.out hgrow (Nat.le_refl _) (by simp; omega)
            have H7 := Lib.hid hown7
            have HB := Lib.hid ((HB0.out.alloc hz (.cells #[.int .u8 (Y : Int)] 5)).trans hg)
            clear hgrow hg hown7
            go_wp2_with fail
            go_roundw
            case rel => exact ⟨k + 1, by omega, by go_num, by rw [HT.out, flatU_snocV, HY.out]; exact H7.out, HB.out⟩
            case measure => simp [intOf]; omega
          · have q2 : decide ((k : Int) < (P : Int) + (N : Int)) = false := decide_eq_false (by omega)
            obtain ⟨Y, hY⟩ : ∃ Y, Y = X := ⟨_, rfl⟩
            have HY := Lib.hid (show (putL xs P N v0)[k]?.getD 0 = Y by rw [HG.out, if_neg (fun h => c2 h.2), HX.out, hY])
            subst hY
            go_upto_region 13 with fail
            have HO := Lib.hid (show (wr.alloc (.cells #[.int .u8 (Y : Int)] 5)).ownsRow w.heap.size 5 1 u11 k (flatU ((putL xs P N v0).take k)) from ownsRow_below H.out.1 (below_alloc wr _) (Nat.le_refl _))
            go_wp2_with (refine wpList_append_src rfl _ _ 23 rfl w.heap.size 5 i0 _ 1 1 Try.underlying23 HI.out.1 HI.out.2.1 HI.out.2.2.1 HI.out.2.2.2 rfl (by decide) _ k _ rfl HO.out (some ⟨wr.heap.size, 0, none⟩) 1 1 [.int .u8 (Y : Int)] rfl (fun e => by cases e) rfl ?c1 ?c2 ?c3 ?c4 ?c5 ?_; rotate_right; intro v7 w7 hown7 hgrow)
            case c1 => intro ad' had; cases had; exact cells_one rfl
            case c2 => intro u hu; simp at hu; subst hu; rfl
            case c3 => unfold maxLen; omega
            case c4 => omega
            case c5 => simp; omega
            have hg := grownB (B := w.heap.size) HO.out hgrow (Nat.le_refl _) (by simp; omega)
            have H7 := Lib.hid hown7
            have HB := Lib.hid ((HB0.out.alloc hz (.cells #[.int .u8 (Y : Int)] 5)).trans hg)
            clear hgrow hg hown7
            go_wp2_with fail
            go_roundw
            case rel => exact ⟨k + 1, by omega, by go_num, by rw [HT.out, flatU_snocV, HY.out]; exact H7.out, HB.out⟩
            case measure => simp [intOf]; omega
        · have q1 : decide ((P : Int) ≤ (k : Int)) = false := decide_eq_false (by omega)
          obtain ⟨Y, hY⟩ : ∃ Y, Y = X := ⟨_, rfl⟩
          have HY := Lib.hid (show (putL xs P N v0)[k]?.getD 0 = Y by rw [HG.out, if_neg (fun h => c1 h.1), HX.out, hY])
          subst hY
          go_upto_region 13 with fail
          have HO := Lib.hid (show (wr.alloc (.cells #[.int .u8 (Y : Int)] 5)).ownsRow w.heap.size 5 1 u11 k (flatU ((putL xs P N v0).take k)) from ownsRow_below H.out.1 (below_alloc wr _) (Nat.le_refl _))
          go_wp2_with (refine wpList_append_src rfl _ _ 23 rfl w.heap.size 5 i0 _ 1 1 Try.underlying23 HI.out.1 HI.out.2.1 HI.out.2.2.1 HI.out.2.2.2 rfl (by decide) _ k _ rfl HO.out (some ⟨wr.heap.size, 0, none⟩) 1 1 [.int .u8 (Y : Int)] rfl (fun e => by cases e) rfl ?c1 ?c2 ?c3 ?c4 ?c5 ?_; rotate_right; intro v7 w7 hown7 hgrow)
          case c1 => intro ad' had; cases had; exact cells_one rfl
          case c2 => intro u hu; simp at hu; subst hu; rfl
          case c3 => unfold maxLen; omega
          case c4 => omega
          case c5 => simp; omega
          have hg := grownB (B := w.heap.size) HO.out hgrow (Nat.le_refl _) (by simp; omega)
          have H7 := Lib.hid hown7
          have HB := Lib.hid ((HB0.out.alloc hz (.cells #[.int .u8 (Y : Int)] 5)).trans hg)
          clear hgrow hg hown7
          go_wp2_with fail
          go_roundw
          case rel => exact ⟨k + 1, by omega, by go_num, by rw [HT.out, flatU_snocV, HY.out]; exact H7.out, HB.out⟩
          case measure => simp [intOf]; omega
      · obtain rfl : k = n := by omega
        have HO := Lib.hid (show wr.ownsRow w.heap.size 5 1 u11 (putL xs P N v0).length (flatU (putL xs P N v0)) by
          rw [List.take_of_length_le (by rw [HLn.out.2]; exact Nat.le_refl _)] at hO
          rw [HLn.out.2]; exact hO)
        clear hO hB
        go_wp2_with fail
        go_ret2
        exact oPost_ok (v := u11) rfl HO.out H.out.2
  · have d1 : decide ((N : Int) < 64) = false := decide_eq_false (by omega)
    go_wp2_with fail
    clear hz
    go_loopw [11, 12] (fun v kv wr => ∃ k : Nat, k ≤ n ∧ kv = .int .i64 k ∧ wr.ownsRow w.heap.size 5 1 v k (flatU ((putL xs P N v0).take k)) ∧ Below w.heap.size w wr) (fun _ kv _ => n - (intOf kv).toNat)
    case atStart => exact ⟨0, by omega, rfl, ⟨rfl, Or.inl ⟨rfl, rfl⟩⟩, Below.refl _ _⟩
    case round =>
      obtain ⟨k, hk, rfl, hO, hB⟩ := hrel
      have H := Lib.hid (And.intro hO hB)
      have hz := hB.size
      by_cases hlt : k < n
      · obtain ⟨b, off, rfl, x0⟩ := u8s_at (HL.out.below hB) hlt
        have hk0 : (0 : Int) ≤ (k : Int) := by omega
        have hk1 : (k : Int) < (n : Int) := by omega
        have HT := Lib.hid (take_snoc' (xs := putL xs P N v0) (k := k) (by rw [HLn.out.2]; exact hlt))
        have HG := Lib.hid (putL_get xs P N v0 (by rw [HLn.out.1]; exact hp) k (by rw [HLn.out.1]; exact hlt))
        obtain ⟨X, hX⟩ : ∃ X, xs[k]?.getD 0 = X := ⟨_, rfl⟩
        rw [hX] at x0
        have HX := Lib.hid hX
        have HB0 := Lib.hid hB
        clear hO hB hX
        by_cases c1 : P ≤ k
        · have q1 : decide ((P : Int) ≤ (k : Int)) = true := decide_eq_true (by omega)
          by_cases c2 : k < P + N
          · have q2 : decide ((k : Int) < (P : Int) + (N : Int)) = true := decide_eq_true (by omega)
            obtain ⟨d, hd⟩ : ∃ d : Nat, P + N - 1 - k = d := ⟨_, rfl⟩
            have hdi : (P : Int) + (N : Int) - 1 - (k : Int) = (d : Int) := by omega
            have hd64 : d < 64 := by omega
            obtain ⟨Y, hY⟩ : ∃ Y, v0 >>> d &&& 1 = Y := ⟨_, rfl⟩
            have hS : bits .and .u64 ((v0 : Int) / 2 ^ d) 1 % 256 = (Y : Int) := by
              have h1 := shr_bit v0 d HV.out.1
              rw [← shr_div] at h1
              rw [h1.1, hY]
              have := and1_le (v0 >>> d)
              omega
            have HY := Lib.hid (show (putL xs P N v0)[k]?.getD 0 = Y by rw [HG.out, if_pos ⟨c1, c2⟩, hd, hY])
            clear hd hY
            go_upto_region 13 with fail
            have HO := Lib.hid (show (wr.alloc (.cells #[.int .u8 (Y : Int)] 5)).ownsRow w.heap.size 5 1 u11 k (flatU ((putL xs P N v0).take k)) from ownsRow_below H.out.1 (below_alloc wr _) (Nat.le_refl _))
            go_wp2_with (refine wpList_append_src rfl _ _ 23 rfl w.heap.size 5 i0 _ 1 1 Try.underlying23 HI.out.1 HI.out.2.1 HI.out.2.2.1 HI.out.2.2.2 rfl (by decide) _ k _ rfl HO.out (some ⟨wr.heap.size, 0, none⟩) 1 1 [.int .u8 (Y : Int)] rfl (fun e => by cases e) rfl ?c1 ?c2 ?c3 ?c4 ?c5 ?_; rotate_right; intro v7 w7 hown7 hgrow)
            case c1 => intro ad' had; cases had; exact cells_one rfl
            case c2 => intro u hu; simp at hu; subst hu; rfl
            case c3 => unfold maxLen; omega
            case c4 => omega
            case c5 => simp; omega
            have hg := grownB (B := w.heap.size) HO.out hgrow (Nat.le_refl _) (by simp; omega)
            have H7 := Lib.hid hown7
            have HB := Lib.hid ((HB0.out.alloc hz (.cells #[.int .u8 (Y : Int)] 5)).trans hg)
            clear hgrow hg hown7
            go_wp2_with fail
            go_roundw
            case rel => exact ⟨k + 1, by omega, by go_num, by rw [HT.out, flatU_snocV, HY.out]; exact H7.out, HB.out⟩
            case measure => simp [intOf]; omega
          · have q2 : decide ((k : Int) < (P : Int) + (N : Int)) = false := decide_eq_false (by omega)
            obtain ⟨Y, hY⟩ : ∃ Y, Y = X := ⟨_, rfl⟩
            have HY := Lib.hid (show (putL xs P N v0)[k]?.getD 0 = Y by rw [HG.out, if_neg (fun h => c2 h.2), HX.out, hY])
            subst hY
            go_upto_region 13 with fail
            have HO := Lib.hid (show (wr.alloc (.cells #[.int .u8 (Y : Int)] 5)).ownsRow w.heap.size 5 1 u11 k (flatU ((putL xs P N v0).take k)) from ownsRow_below H.out.1 (below_alloc wr _) (Nat.le_refl _))
            go_wp2_with (refine wpList_append_src rfl _ _ 23 rfl w.heap.size 5 i0 _ 1 1 Try.underlying23 HI.out.1 HI.out.2.1 HI.out.2.2.1 HI.out.2.2.2 rfl (by decide) _ k _ rfl HO.out (some ⟨wr.heap.size, 0, none⟩) 1 1 [.int .u8 (Y : Int)] rfl (fun e => by cases e) rfl ?c1 ?c2 ?c3 ?c4 ?c5 ?_; rotate_right; intro v7 w7 hown7 hgrow)
            case c1 => intro ad' had; cases had; exact cells_one rfl
            case c2 => intro u hu; simp at hu; subst hu; rfl
            case c3 => unfold maxLen; omega
            case c4 => omega
            case c5 => simp; omega
            have hg := grownB (B := w.heap.size) HO.out hgrow (Nat.le_refl _) (by simp; omega)
            have H7 := Lib.hid hown7
            have HB := Lib.hid ((HB0.out.alloc hz (.cells #[.int .u8 (Y : Int)] 5)).trans hg)
            clear hgrow hg hown7
            go_wp2_with fail
            go_roundw
            case rel => exact ⟨k + 1, by omega, by go_num, by rw [HT.out, flatU_snocV, HY.out]; exact H7.out, HB.out⟩
            case measure => simp [intOf]; omega
        · have q1 : decide ((P : Int) ≤ (k : Int)) = false := decide_eq_false (by omega)
          obtain ⟨Y, hY⟩ : ∃ Y, Y = X := ⟨_, rfl⟩
          have HY := Lib.hid (show (putL xs P N v0)[k]?.getD 0 = Y by rw [HG.out, if_neg (fun h => c1 h.1), HX.out, hY])
          subst hY
          go_upto_region 13 with fail
          have HO := Lib.hid (show (wr.alloc (.cells #[.int .u8 (Y : Int)] 5)).ownsRow w.heap.size 5 1 u11 k (flatU ((putL xs P N v0).take k)) from ownsRow_below H.out.1 (below_alloc wr _) (Nat.le_refl _))
          go_wp2_with (refine wpList_append_src rfl _ _ 23 rfl w.heap.size 5 i0 _ 1 1 Try.underlying23 HI.out.1 HI.out.2.1 HI.out.2.2.1 HI.out.2.2.2 rfl (by decide) _ k _ rfl HO.out (some ⟨wr.heap.size, 0, none⟩) 1 1 [.int .u8 (Y : Int)] rfl (fun e => by cases e) rfl ?c1 ?c2 ?c3 ?c4 ?c5 ?_; rotate_right; intro v7 w7 hown7 hgrow)
          case c1 => intro ad' had; cases had; exact cells_one rfl
          case c2 => intro u hu; simp at hu; subst hu; rfl
          case c3 => unfold maxLen; omega
          case c4 => omega
          case c5 => simp; omega
          have hg := grownB (B := w.heap.size) HO.out hgrow (Nat.le_refl _) (by simp; omega)
          have H7 := Lib.hid hown7
          have HB := Lib.hid ((HB0.out.alloc hz (.cells #[.int .u8 (Y : Int)] 5)).trans hg)
          clear hgrow hg hown7
          go_wp2_with fail
          go_roundw
          case rel => exact ⟨k + 1, by omega, by go_num, by rw [HT.out, flatU_snocV, HY.out]; exact H7.out, HB.out⟩
          case measure => simp [intOf]; omega
      · obtain rfl : k = n := by omega
        have HO := Lib.hid (show wr.ownsRow w.heap.size 5 1 u11 (putL xs P N v0).length (flatU (putL xs P N v0)) by
          rw [List.take_of_length_le (by rw [HLn.out.2]; exact Nat.le_refl _)] at hO
          rw [HLn.out.2]; exact hO)
        clear hO hB
        go_wp2_with fail
        go_ret2
        exact oPost_ok (v := u11) rfl HO.out H.out.2
set_option maxRecDepth 100000 in
theorem refPut_fld (a : Option Addr) (m c : Nat) (xs : List Nat) (p n : Int) (v : Nat) (w : World) (h : U8s w a m xs) (n0 : -9223372036854775808 ≤ n) (n1 : n ≤ 9223372036854775807) (he : fldE xs p n ≠ 0) (ys : List Nat) :
    Calls Try.prog 18 #[.slice a m c, .int .i64 p, .int .i64 n, .int .u64 (v : Int)] w (OPost (fldE xs p n) ys w) := by
  have HF := Lib.hid h
  have HE := Lib.hid he
  have d1 : (fldE xs p n != 0) = true := by simpa using he
  clear h he
  go_enter Try.func18, Try.ntmps18
  go_wp2_with fail
  refine (refField_call a m c xs p n _ HF.out n0 n1).mono ?_; rintro e w1 ⟨rfl, rfl⟩
  go_wp2_with fail
  go_ret2
  exact oPost_err HE.out rfl (Below.refl _ _)

set_option maxRecDepth 100000 in
theorem refPut_big (a : Option Addr) (m c : Nat) (xs : List Nat) (p N v : Nat) (w : World) (h : U8s w a m xs) (he : fldE xs p N = 0) (h64 : N < 64) (hv : 2 ^ N ≤ v) (ys : List Nat) :
    Calls Try.prog 18 #[.slice a m c, .int .i64 (p : Int), .int .i64 (N : Int), .int .u64 (v : Int)] w (OPost 7 ys w) := by
  have HF := Lib.hid h
  have HE := Lib.hid he
  have d1 : decide ((N : Int) < 64) = true := decide_eq_true (by omega)
  obtain ⟨q, hq⟩ : ∃ q : Nat, v >>> N = q := ⟨_, rfl⟩
  have hz : ((v : Int) / (2 : Int) ^ N) = (q : Int) := by rw [shr_div, hq]
  have hq0 : q ≠ 0 := by
    have h2 : 0 < v / 2 ^ N := Nat.div_pos hv (Nat.two_pow_pos N)
    rw [← Nat.shiftRight_eq_div_pow] at h2
    omega
  have d2 : (((q : Nat) : Int) != 0) = true := bne_iff_ne.2 (by omega)
  have hN0 : -9223372036854775808 ≤ (N : Int) := by omega
  have hN1 : (N : Int) ≤ 9223372036854775807 := by omega
  clear h he hv hq
  go_enter Try.func18, Try.ntmps18
  go_wp2_with fail
  refine (refField_call a m c xs p N _ HF.out hN0 hN1).mono ?_; rintro e w1 ⟨rfl, rfl⟩
  rw [HE.out]
  go_wp2_with fail
  go_ret2
  exact oPost_err (by decide) rfl (Below.refl _ _)

theorem refPut_call (a : Option Addr) (m c : Nat) (xs : List Nat) (p n : Int) (v : Nat) (w : World) (h : U8s w a m xs) (n0 : -9223372036854775808 ≤ n) (n1 : n ≤ 9223372036854775807) (hv : v < 2 ^ 64) :
    Calls Try.prog 18 #[.slice a m c, .int .i64 p, .int .i64 n, .int .u64 (v : Int)] w (OPost (putE xs p n v) (putL xs p.toNat n.toNat v) w) := by
  unfold putE
  by_cases he : fldE xs p n = 0
  · obtain ⟨h1, h2, h3, h4, h5⟩ := fld_ok he
    obtain ⟨P, rfl⟩ := Int.eq_ofNat_of_zero_le h4
    obtain ⟨N, rfl⟩ := Int.eq_ofNat_of_zero_le h2
    rw [if_neg (by rw [he]; decide), Int.toNat_natCast, Int.toNat_natCast]
    obtain ⟨s1, s2⟩ := all1_of h1
    rw [h.len] at s2 h5
    by_cases hb : (N : Int) < 64 ∧ 2 ^ N ≤ v
    · rw [if_pos hb]
      exact refPut_big a m c xs P N v w h he (by omega) hb.2 _
    · rw [if_neg hb]
      refine refPut_ok a m c xs P N v w h he (by omega) s2 (by omega) ?_ s1
      by_cases h64 : N < 64
      · have : ¬ 2 ^ N ≤ v := fun h' => hb ⟨by omega, h'⟩
        omega
      · rw [show N = 64 by omega]; exact hv
  · rw [if_pos he]
    exact refPut_fld a m c xs p n v w h n0 n1 he _
end Go.Proofs.Ythabecfajponfaa
