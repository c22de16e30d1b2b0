/-
  Layer 1 (bits): the law Group, the walk.
-/
import Derived.Test.YthabecfajponfaaBtLaw
import Derived.Test.YthabecfajponfaaBtV
namespace Go.Proofs.Ythabecfajponfaa
open Go.RowKit BitsMath ParityMath TextMath MyHeap MyCopy MyOwn

theorem dif_bound (xs ys : List Nat) {k n : Nat} (h : k ≤ n) (hn : n ≤ 200) : ((dif xs ys k : Nat) : Int) ≤ 200 ∧ 0 ≤ ((dif xs ys k : Nat) : Int) := by
  have := dif_le xs ys k
  omega
/-- What stands behind the loop: the sum, and what came in. -/
def GpK (w0 : World) (aX : Option Addr) (n : Nat) (X : List Nat) (W : World) : Prop := Below w0.heap.size w0 W ∧ U8s W aX n X
theorem GpK.keep {w0 W W' : World} {aX : Option Addr} {n : Nat} {X : List Nat} (h : GpK w0 aX n X W) (hb : Below W.heap.size W W') : GpK w0 aX n X W' := ⟨h.1.trans (hb.mono h.1.size), h.2.below hb⟩

theorem group_assoc {xs ys zs : List Nat} (h : xorE xs ys = 0) (h' : xorE ys zs = 0) : (xr ys zs).length = xs.length ∧ xorE (xr xs ys) zs = 0 ∧ xorE xs (xr ys zs) = 0 ∧ xr (xr xs ys) zs = xr xs (xr ys zs) ∧ (xr xs (xr ys zs)).length = xs.length := by
  obtain ⟨a1, a2, a3⟩ := xor_ok h
  obtain ⟨b1, b2, b3⟩ := xor_ok h'
  obtain ⟨c1, c2, _⟩ := xr_chk h
  obtain ⟨d1, d2, _⟩ := xr_chk h'
  exact ⟨by omega, xor_of c1 b2 (by omega), xor_of a1 d1 (by omega), xr_assoc a3 b3, by rw [xr_len (by omega)]⟩

set_option maxRecDepth 100000 in
set_option maxHeartbeats 8000000 in
theorem group_no (a a' a2 : Option Addr) (n n' n2 c c' c2 : Nat) (xs ys : List Nat) (i : Int) (w : World) (h : U8s w a n xs) (h' : U8s w a' n' ys) (hn : n ≤ 200) (hn' : n' ≤ 200) (hn2 : n2 ≤ 200) (he : xorE xs ys ≠ 0) :
    Calls Try.prog 4 #[.slice a n c, .slice a' n' c', .slice a2 n2 c2, .int .i64 i] w (BPost true w) := by
  have HL := Lib.hid h
  have HL' := Lib.hid h'
  have g1 : decide ((200 : Int) < (n : Int)) = false := decide_eq_false (by omega)
  have g2 : decide ((200 : Int) < (n' : Int)) = false := decide_eq_false (by omega)
  have g3 : decide ((200 : Int) < (n2 : Int)) = false := decide_eq_false (by omega)
  have d1 : (xorE xs ys != 0) = true := bne_iff_ne.2 he
  have d2 : (xorE ys xs != 0) = true := bne_iff_ne.2 (xor_comm1 he)
  have HE := Lib.hid he
  clear h h' he
  go_enter Try.func4, Try.ntmps4
  go_wp2_with fail
  refine (awake_call _).mono ?_; rintro e w1 ⟨rfl, hb⟩
  have B := Lib.hid hb
  clear hb
  go_wp2_with fail
  refine (Xor_call a a' n n' c c' xs ys _ (HL.out.below B.out) (HL'.out.below B.out)).mono ?_; rintro e w2 ⟨v2, rfl, hO, hb⟩
  replace B := Lib.hid (B.out.trans (hb.mono B.out.size))
  have hv := hO.2 HE.out
  subst hv
  clear hb hO
  go_wp2_with fail
  refine (Xor_call a' a n' n c' c ys xs _ (HL'.out.below B.out) (HL.out.below B.out)).mono ?_; rintro e w3 ⟨v3, rfl, hO, hb⟩
  replace B := Lib.hid (B.out.trans (hb.mono B.out.size))
  clear hb hO
  go_wp2_with fail
  go_ret
  exact bPost_of rfl B.out

set_option maxRecDepth 100000 in
set_option maxHeartbeats 16000000 in
theorem group_in (a a' a2 : Option Addr) (n n2 c c' c2 : Nat) (xs ys zs : List Nat) (i : Int) (w : World) (h : U8s w a n xs) (h' : U8s w a' n ys) (h2 : U8s w a2 n2 zs) (hn : n ≤ 200) (hn2 : n2 ≤ 200) (he : xorE xs ys = 0) :
    Calls Try.prog 4 #[.slice a n c, .slice a' n c', .slice a2 n2 c2, .int .i64 i] w (BPost true w) := by
  have HL := Lib.hid h
  have HL' := Lib.hid h'
  have HL2 := Lib.hid h2
  have g1 : decide ((200 : Int) < (n : Int)) = false := decide_eq_false (by omega)
  have g3 : decide ((200 : Int) < (n2 : Int)) = false := decide_eq_false (by omega)
  have HE := Lib.hid (And.intro he (And.intro (xor_comm0 he) (And.intro (xr_chk he) (dif_all he))))
  have hN := h.len
  have hN' := h'.len
  have hN2 := h2.len
  have HC := Lib.hid (xr_comm ys xs)
  have HB := Lib.hid (And.intro (xor_of HE.out.2.2.1.1 (xor_ok he).2.1 (by rw [HE.out.2.2.1.2.1, hN, hN'])) (xr_back (xs := xs) (ys := ys) (by rw [hN, hN'])))
  have hXn : (xr xs ys).length = n := by rw [HE.out.2.2.1.2.1, hN]
  have HC1 := Lib.hid (xor_ok he).1
  clear h h' h2 he
  go_enter Try.func4, Try.ntmps4
  go_wp2_with fail
  refine (awake_call _).mono ?_; rintro e w1 ⟨rfl, hb⟩
  have B := Lib.hid hb
  clear hb
  go_wp2_with fail
  refine (Xor_call a a' n n c c' xs ys _ (HL.out.below B.out) (HL'.out.below B.out)).mono ?_; rintro e w2 ⟨v2, rfl, hO, hb⟩
  rw [HE.out.1] at hO ⊢
  obtain ⟨aX, cX, rfl, hU, _⟩ := own_u8s (hO.1 rfl) rfl (by rw [hXn]; omega)
  rw [hXn] at hU ⊢
  have K := Lib.hid (show GpK w aX n (xr xs ys) w2 from ⟨B.out.trans (hb.mono B.out.size), hU⟩)
  clear hb hO hU B
  go_wp2_with fail
  refine (Xor_call a' a n n c' c ys xs _ (HL'.out.below K.out.1) (HL.out.below K.out.1)).mono ?_; rintro e w3 ⟨v3, rfl, hO, hb⟩
  rw [HE.out.2.1, HC.out] at hO
  rw [HE.out.2.1]
  obtain ⟨aY, cY, rfl, hU, _⟩ := own_u8s (hO.1 rfl) rfl (by rw [hXn]; omega)
  rw [hXn] at hU ⊢
  replace K := Lib.hid (K.out.keep hb)
  have HY := Lib.hid hU
  clear hb hO hU
  go_wp2_with fail
  refine (equalBits_call aX aY n n cX cY (xr xs ys) (xr xs ys) _ K.out.2 HY.out).mono ?_; rintro e w4 ⟨rfl, hb⟩
  rw [decide_eq_true (rfl : xr xs ys = xr xs ys)]
  replace K := Lib.hid (K.out.keep hb)
  clear hb HY
  go_wp2_with fail
  refine (Xor_call aX a' n n cX c' (xr xs ys) ys _ K.out.2 (HL'.out.below K.out.1)).mono ?_; rintro e w5 ⟨v5, rfl, hO, hb⟩
  rw [HB.out.1, HB.out.2] at hO
  rw [HB.out.1]
  obtain ⟨aB, cB, rfl, hU, _⟩ := own_u8s (hO.1 rfl) rfl (by rw [hN]; omega)
  rw [hN] at hU ⊢
  replace K := Lib.hid (K.out.keep hb)
  have HY := Lib.hid hU
  clear hb hO hU
  go_wp2_with fail
  refine (Weight_call aX n cX (xr xs ys) _ K.out.2).mono ?_; rintro e w6 ⟨rfl, hb⟩
  rw [HE.out.2.2.1.1, HE.out.2.2.2, hN]
  replace K := Lib.hid (K.out.keep hb)
  replace HY := Lib.hid (HY.out.below hb)
  clear hb
  go_wp2_with fail
  refine (equalBits_call aB a n n cB c xs xs _ HY.out (HL.out.below K.out.1)).mono ?_; rintro e w7 ⟨rfl, hb⟩
  rw [decide_eq_true (rfl : xs = xs)]
  replace K := Lib.hid (K.out.keep hb)
  clear hb HY
  go_wp2_with fail
  go_loopw [17, 18] (fun v kv wr => ∃ k : Nat, k ≤ n ∧ kv = .int .i64 k ∧ v = .int .i64 ((dif xs ys k : Nat) : Int) ∧ GpK w aX n (xr xs ys) wr) (fun _ kv _ => n - (intOf kv).toNat)
  case atStart => exact ⟨0, Nat.zero_le _, rfl, rfl, K.out⟩
  case round =>
    clear K
    obtain ⟨k, hk, rfl, rfl, hK⟩ := hrel
    have K := Lib.hid hK
    clear hK
    by_cases hlt : k < n
    · obtain ⟨b1, o1, rfl, x0⟩ := u8s_at (HL.out.below K.out.1) hlt
      obtain ⟨b2, o2, rfl, y0⟩ := u8s_at (HL'.out.below K.out.1) hlt
      have hx := all1_get HE.out.2.2.1.2.2.1 k
      have hy := all1_get HE.out.2.2.1.2.2.2.1 k
      have hk0 : (0 : Int) ≤ (k : Int) := by omega
      have hk1 : (k : Int) < (n : Int) := by omega
      obtain ⟨hd1, hd0⟩ := dif_bound xs ys hk hn
      have HD := Lib.hid (show dif xs ys (k + 1) = dif xs ys k + if xs[k]?.getD 0 = ys[k]?.getD 0 then 0 else 1 from rfl)
      obtain ⟨X, hX⟩ : ∃ x, xs[k]?.getD 0 = x := ⟨_, rfl⟩
      obtain ⟨Y, hY⟩ : ∃ y, ys[k]?.getD 0 = y := ⟨_, rfl⟩
      rw [hX] at x0 hx HD
      rw [hY] at y0 hy HD
      clear hX hY
      generalize hW : dif xs ys k = D at *
      clear hW
      by_cases hXY : X = Y
      · subst hXY
        go_wp2_with fail
        go_quiet (fail)
        go_wp2_with fail
        go_roundw
        case rel => exact ⟨k + 1, by omega, by go_num, by rw [HD.out, if_pos trivial]; rfl, K.out.keep (below_drewN' (Below.refl _ _) nq)⟩
        case measure => simp [intOf]; omega
      · have hne : ((X : Nat) : Int) ≠ ((Y : Nat) : Int) := by omega
        go_wp2_with fail
        go_quiet (fail)
        go_wp2_with fail
        go_roundw
        case rel => exact ⟨k + 1, by omega, by go_num, by rw [HD.out, if_neg hXY]; push_cast; rfl, K.out.keep (below_drewN' (Below.refl _ _) nq)⟩
        case measure => simp [intOf]; omega
    · obtain rfl : k = n := by omega
      have e9 : (((dif xs ys k : Nat) : Int) != ((dif xs ys k : Nat) : Int)) = false := by simp
      generalize hW : dif xs ys k = D at *
      clear hW hlt hk
      go_wp2_with fail
      refine (Xor_call a' a2 k n2 c' c2 ys zs _ (HL'.out.below K.out.1) (HL2.out.below K.out.1)).mono ?_; rintro e y1 ⟨v1, rfl, hO, hb⟩
      replace K := Lib.hid (K.out.keep hb)
      by_cases hj : xorE ys zs = 0
      · have HJ := Lib.hid (group_assoc HE.out.1 hj)
        have hYn : (xr ys zs).length = k := by rw [HJ.out.1, hN]
        have hZn : (xr xs (xr ys zs)).length = k := by rw [HJ.out.2.2.2.2, hN]
        rw [hj] at hO ⊢
        obtain ⟨aZ, cZ, rfl, hU, _⟩ := own_u8s (hO.1 rfl) rfl (by rw [hYn]; omega)
        rw [hYn] at hU ⊢
        have HUZ := Lib.hid hU
        clear hb hO hU hj
        go_wp2_with fail
        refine (Xor_call aX a2 k n2 cX c2 (xr xs ys) zs _ K.out.2 (HL2.out.below K.out.1)).mono ?_; rintro e y2 ⟨v2, rfl, hO, hb⟩
        replace K := Lib.hid (K.out.keep hb)
        replace HUZ := Lib.hid (HUZ.out.below hb)
        rw [HJ.out.2.1, HJ.out.2.2.2.1] at hO
        rw [HJ.out.2.1]
        obtain ⟨aP, cP, rfl, hU, _⟩ := own_u8s (hO.1 rfl) rfl (by rw [hZn]; omega)
        rw [hZn] at hU ⊢
        have HUP := Lib.hid hU
        clear hb hO hU
        go_wp2_with fail
        refine (Xor_call a aZ k k c cZ xs (xr ys zs) _ (HL.out.below K.out.1) HUZ.out).mono ?_; rintro e y3 ⟨v3, rfl, hO, hb⟩
        replace K := Lib.hid (K.out.keep hb)
        replace HUP := Lib.hid (HUP.out.below hb)
        rw [HJ.out.2.2.1] at hO ⊢
        obtain ⟨aQ, cQ, rfl, hU, _⟩ := own_u8s (hO.1 rfl) rfl (by rw [hZn]; omega)
        rw [hZn] at hU ⊢
        have HUQ := Lib.hid hU
        clear hb hO hU HUZ
        go_wp2_with fail
        refine (equalBits_call aP aQ k k cP cQ (xr xs (xr ys zs)) (xr xs (xr ys zs)) _ HUP.out HUQ.out).mono ?_; rintro e y4 ⟨rfl, hb⟩
        rw [decide_eq_true (rfl : xr xs (xr ys zs) = xr xs (xr ys zs))]
        replace K := Lib.hid (K.out.keep hb)
        clear hb HUP HUQ
        go_wp2_with fail
        by_cases hf : flE xs i = 0
        · have HF := Lib.hid (And.intro hf (fl_one hf))
          obtain ⟨-, i0, i1, i2⟩ := fl_ok hf
          rw [hN] at i1 i2
          have hFn := HF.out.2.2.1
          rw [hN] at hFn
          have hUn := HF.out.2.2.2.2.2.2.2.1.trans hN
          have hU1 := HF.out.2.2.2.2.2.2.2.2
          obtain ⟨J, hJ⟩ : ∃ J, i.toNat = J := ⟨_, rfl⟩
          have hJi : i = (J : Int) := by omega
          have HU1 := Lib.hid hU1
          clear hU1 hf
          refine (Flip_call a k c xs i _ (HL.out.below K.out.1)).mono ?_; rintro e z1 ⟨v1, rfl, hO, hb⟩
          replace K := Lib.hid (K.out.keep hb)
          rw [HF.out.1] at hO ⊢
          obtain ⟨aF, cF, rfl, hU, _⟩ := own_u8s (hO.1 rfl) rfl (by rw [hFn]; omega)
          rw [hFn] at hU ⊢
          have HUF := Lib.hid hU
          clear hb hO hU
          go_wp2_with fail
          refine (Xor_call aF a k k cF c (flL xs i.toNat) xs _ HUF.out (HL.out.below K.out.1)).mono ?_; rintro e z2 ⟨v2, rfl, hO, hb⟩
          replace K := Lib.hid (K.out.keep hb)
          rw [HF.out.2.2.2.1, HF.out.2.2.2.2.1] at hO
          rw [HF.out.2.2.2.1]
          obtain ⟨aO, cO, rfl, hU, _⟩ := own_u8s (hO.1 rfl) rfl (by rw [hUn]; omega)
          rw [hUn] at hU ⊢
          have HUO := Lib.hid hU
          clear hb hO hU HUF
          go_wp2_with fail
          refine (Weight_call aO k cO (unitL xs.length i.toNat) _ HUO.out).mono ?_; rintro e z3 ⟨rfl, hb⟩
          replace K := Lib.hid (K.out.keep hb)
          replace HUO := Lib.hid (HUO.out.below hb)
          rw [HF.out.2.2.2.2.2.1, HF.out.2.2.2.2.2.2.1]
          obtain ⟨bO, oO, rfl, x0⟩ := u8s_at HUO.out i2
          rw [HU1.out] at x0
          rw [hJ] at x0 i2
          subst hJi
          have hJn : (J : Int) < (k : Int) := by omega
          clear hb hJ i1 i2
          go_wp2_with fail
          go_ret
          exact bPost_of rfl K.out.1
        · obtain ⟨h8, hi⟩ := fl_no hf HC1.out
          rw [hN] at hi
          have HF := Lib.hid h8
          clear h8 hf
          refine (Flip_call a k c xs i _ (HL.out.below K.out.1)).mono ?_; rintro e z1 ⟨v1, rfl, hO, hb⟩
          replace K := Lib.hid (K.out.keep hb)
          rw [HF.out]
          clear hb hO
          by_cases hi0 : i < 0
          · clear hi
            go_wp2_with fail
            go_ret
            exact bPost_of rfl K.out.1
          · have hi1 : (k : Int) ≤ i := by omega
            clear hi
            go_wp2_with fail
            go_ret
            exact bPost_of rfl K.out.1
      · have d7 : (xorE ys zs == 0) = false := by simpa using hj
        clear hb hO hj
        go_wp2_with fail
        by_cases hf : flE xs i = 0
        · have HF := Lib.hid (And.intro hf (fl_one hf))
          obtain ⟨-, i0, i1, i2⟩ := fl_ok hf
          rw [hN] at i1 i2
          have hFn := HF.out.2.2.1
          rw [hN] at hFn
          have hUn := HF.out.2.2.2.2.2.2.2.1.trans hN
          have hU1 := HF.out.2.2.2.2.2.2.2.2
          obtain ⟨J, hJ⟩ : ∃ J, i.toNat = J := ⟨_, rfl⟩
          have hJi : i = (J : Int) := by omega
          have HU1 := Lib.hid hU1
          clear hU1 hf
          refine (Flip_call a k c xs i _ (HL.out.below K.out.1)).mono ?_; rintro e z1 ⟨v1, rfl, hO, hb⟩
          replace K := Lib.hid (K.out.keep hb)
          rw [HF.out.1] at hO ⊢
          obtain ⟨aF, cF, rfl, hU, _⟩ := own_u8s (hO.1 rfl) rfl (by rw [hFn]; omega)
          rw [hFn] at hU ⊢
          have HUF := Lib.hid hU
          clear hb hO hU
          go_wp2_with fail
          refine (Xor_call aF a k k cF c (flL xs i.toNat) xs _ HUF.out (HL.out.below K.out.1)).mono ?_; rintro e z2 ⟨v2, rfl, hO, hb⟩
          replace K := Lib.hid (K.out.keep hb)
          rw [HF.out.2.2.2.1, HF.out.2.2.2.2.1] at hO
          rw [HF.out.2.2.2.1]
          obtain ⟨aO, cO, rfl, hU, _⟩ := own_u8s (hO.1 rfl) rfl (by rw [hUn]; omega)
          rw [hUn] at hU ⊢
          have HUO := Lib.hid hU
          clear hb hO hU HUF
          go_wp2_with fail
          refine (Weight_call aO k cO (unitL xs.length i.toNat) _ HUO.out).mono ?_; rintro e z3 ⟨rfl, hb⟩
          replace K := Lib.hid (K.out.keep hb)
          replace HUO := Lib.hid (HUO.out.below hb)
          rw [HF.out.2.2.2.2.2.1, HF.out.2.2.2.2.2.2.1]
          obtain ⟨bO, oO, rfl, x0⟩ := u8s_at HUO.out i2
          rw [HU1.out] at x0
          rw [hJ] at x0 i2
          subst hJi
          have hJn : (J : Int) < (k : Int) := by omega
          clear hb hJ i1 i2
          go_wp2_with fail
          go_ret
          exact bPost_of rfl K.out.1
        · obtain ⟨h8, hi⟩ := fl_no hf HC1.out
          rw [hN] at hi
          have HF := Lib.hid h8
          clear h8 hf
          refine (Flip_call a k c xs i _ (HL.out.below K.out.1)).mono ?_; rintro e z1 ⟨v1, rfl, hO, hb⟩
          replace K := Lib.hid (K.out.keep hb)
          rw [HF.out]
          clear hb hO
          by_cases hi0 : i < 0
          · clear hi
            go_wp2_with fail
            go_ret
            exact bPost_of rfl K.out.1
          · have hi1 : (k : Int) ≤ i := by omega
            clear hi
            go_wp2_with fail
            go_ret
            exact bPost_of rfl K.out.1

set_option maxRecDepth 100000 in
set_option maxHeartbeats 4000000 in
theorem group_long (a a' a2 : Option Addr) (n n' n2 c c' c2 : Nat) (i : Int) (w : World) (_hn : n ≤ 9223372036854775807) (_hn' : n' ≤ 9223372036854775807) (_hn2 : n2 ≤ 9223372036854775807) (b1 b2 b3 : Bool) (h1 : decide ((200 : Int) < (n : Int)) = b1) (h2 : decide ((200 : Int) < (n' : Int)) = b2) (h3 : decide ((200 : Int) < (n2 : Int)) = b3) (hor : b1 = true ∨ b1 = false ∧ b2 = true ∨ b1 = false ∧ b2 = false ∧ b3 = true) :
    Calls Try.prog 4 #[.slice a n c, .slice a' n' c', .slice a2 n2 c2, .int .i64 i] w (BPost true w) := by
  rcases hor with rfl | ⟨rfl, rfl⟩ | ⟨rfl, rfl, rfl⟩
  all_goals
    go_enter Try.func4, Try.ntmps4
    go_wp2_with fail
    refine (awake_call _).mono ?_; rintro e w1 ⟨rfl, hb1⟩
    have HB1 := Lib.hid hb1
    clear hb1
    go_wp2_with fail
    go_ret
    exact bPost_of rfl HB1.out
theorem group_call (a a' a2 : Option Addr) (n n' n2 c c' c2 : Nat) (xs ys zs : List Nat) (i : Int) (w : World) (h : U8s w a n xs) (h' : U8s w a' n' ys) (h2 : U8s w a2 n2 zs) :
    Calls Try.prog 4 #[.slice a n c, .slice a' n' c', .slice a2 n2 c2, .int .i64 i] w (BPost true w) := by
  by_cases hn : n ≤ 200
  · by_cases hn' : n' ≤ 200
    · by_cases hn2 : n2 ≤ 200
      · by_cases he : xorE xs ys = 0
        · have hl := (xor_ok he).2.2
          rw [h.len, h'.len] at hl
          subst hl
          exact group_in a a' a2 n n2 c c' c2 xs ys zs i w h h' h2 hn hn2 he
        · exact group_no a a' a2 n n' n2 c c' c2 xs ys i w h h' hn hn' hn2 he
      · exact group_long a a' a2 n n' n2 c c' c2 i w h.bound h'.bound h2.bound false false true (decide_eq_false (by omega)) (decide_eq_false (by omega)) (decide_eq_true (by omega)) (Or.inr (Or.inr ⟨rfl, rfl, rfl⟩))
    · exact group_long a a' a2 n n' n2 c c' c2 i w h.bound h'.bound h2.bound false true _ (decide_eq_false (by omega)) (decide_eq_true (by omega)) rfl (Or.inr (Or.inl ⟨rfl, rfl⟩))
  · exact group_long a a' a2 n n' n2 c c' c2 i w h.bound h'.bound h2.bound true _ _ (decide_eq_true (by omega)) rfl rfl (Or.inl rfl)
end Go.Proofs.Ythabecfajponfaa
