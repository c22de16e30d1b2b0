/-
  Layer 18 (altitude): the law Nested.
-/
import Derived.Test.YtojjhkahigdkoaaAltZ
import Derived.Test.YtojjhkahigdkoaaAltY2
import Derived.Test.YtojjhkahigdkoaaAltLaw
namespace Go.Proofs.Ytojjhkahigdkoaa
open Go.RowKit AltMath MyHeap MyCopy MyOwn

set_option maxRecDepth 100000 in
set_option maxHeartbeats 4000000 in
theorem nested_long (aL aH : Option Addr) (nL nH cL cH : Nat) (alt size y z : Int) (w : World) (hn : (decide (250 < (nL : Int)) || decide (250 < (nH : Int))) = true) :
    Calls Try.prog 4 #[bdV aL nL cL aH nH cH, .int .i64 alt, .int .i64 size, .agg #[.int .u8 y, .int .u8 z]] w (BPost true w) := by
  have B := Lib.hid (show Below w.heap.size w (((w.alloc (.cells #[.slice aL nL cL, .slice aH nH cH] 24)).alloc (.cells #[.int .u8 y, .int .u8 z] 37)).alloc (.cells #[.slice aL nL cL, .slice aH nH cH] 24)) from ((below_alloc w _).alloc (by simp) _).alloc (by simp; omega) _)
  have HC := Lib.hid (two_cell (block_new ((w.alloc (.cells #[.slice aL nL cL, .slice aH nH cH] 24)).alloc (.cells #[.int .u8 y, .int .u8 z] 37)) (.cells #[.slice aL nL cL, .slice aH nH cH] 24) (n := w.heap.size + 1 + 1) (by simp)))
  have HN := Lib.hid hn
  clear hn
  unfold bdV
  go_enter Try.func4, Try.ntmps4
  go_wp2_with fail
  refine (long_call aL aH nL cL nH cH (w.heap.size + 1 + 1) 1 _ HC.out.1 HC.out.2).mono ?_; rintro e w1 ⟨rfl, hb⟩
  rw [HN.out]
  replace B := Lib.hid (B.out.trans (hb.mono B.out.size))
  clear hb HC
  go_wp2_with fail
  refine (awake_call _).mono ?_; rintro e w2 ⟨rfl, hb⟩
  replace B := Lib.hid (B.out.trans (hb.mono B.out.size))
  clear hb
  go_wp2_with fail
  go_ret
  exact bPost_of rfl B.out

/-- What is held: the argument's block, the pulls' block. -/
structure NK (w0 : World) (aL : Option Addr) (nL cL : Nat) (aH : Option Addr) (nH cH : Nat) (lo hi : List Int) (y z : Int) (W : World) : Prop where
  B : Below w0.heap.size w0 W
  A : BdA w0.heap.size aL nL cL aH nH cH lo hi W
  P : W.heap[w0.heap.size + 1]? = some (.cells #[.int .u8 y, .int .u8 z] 37 (0, 0))
theorem NK.keep {w0 : World} {aL : Option Addr} {nL cL : Nat} {aH : Option Addr} {nH cH : Nat} {lo hi : List Int} {y z : Int} {W W' : World} (h : NK w0 aL nL cL aH nH cH lo hi y z W) (hb : Below W.heap.size W W') : NK w0 aL nL cL aH nH cH lo hi y z W' := ⟨h.B.trans (hb.mono h.B.size), h.A.keep hb, keepO hb h.P⟩

set_option maxRecDepth 100000 in
set_option maxHeartbeats 8000000 in
theorem nested_err (aL aH : Option Addr) (nL nH cL cH : Nat) (lo hi : List Int) (alt size y z : Int) (w : World) (hL : Ints w aL nL lo) (hH : Ints w aH nH hi) (d1 : decide (250 < (nL : Int)) = false) (d2 : decide (250 < (nH : Int)) = false) (hE : maE lo hi alt size ≠ 0) :
    Calls Try.prog 4 #[bdV aL nL cL aH nH cH, .int .i64 alt, .int .i64 size, .agg #[.int .u8 y, .int .u8 z]] w (BPost true w) := by
  have e1 : (maE lo hi alt size != 0) = true := bne_iff_ne.2 hE
  have HE := Lib.hid hE
  have HC := Lib.hid (two_cell (block_new ((w.alloc (.cells #[.slice aL nL cL, .slice aH nH cH] 24)).alloc (.cells #[.int .u8 y, .int .u8 z] 37)) (.cells #[.slice aL nL cL, .slice aH nH cH] 24) (n := w.heap.size + 1 + 1) (by simp)))
  have K := Lib.hid (show NK w aL nL cL aH nH cH lo hi y z (((w.alloc (.cells #[.slice aL nL cL, .slice aH nH cH] 24)).alloc (.cells #[.int .u8 y, .int .u8 z] 37)).alloc (.cells #[.slice aL nL cL, .slice aH nH cH] 24)) from
    ⟨((below_alloc w _).alloc (by simp) _).alloc (by simp; omega) _, ((BdA.new hL hH).keep (below_alloc _ _)).keep (below_alloc _ _), block_alloc (block_new _ _ (by simp))⟩)
  clear hL hH hE
  unfold bdV
  go_enter Try.func4, Try.ntmps4
  go_wp2_with fail
  refine (long_call aL aH nL cL nH cH (w.heap.size + 1 + 1) 1 _ HC.out.1 HC.out.2).mono ?_; rintro e w1 ⟨rfl, hb⟩
  rw [d1, d2]
  replace K := Lib.hid (K.out.keep hb)
  clear hb HC
  go_wp2_with fail
  refine (awake_call _).mono ?_; rintro e w2 ⟨rfl, hb⟩
  replace K := Lib.hid (K.out.keep hb)
  clear hb
  obtain ⟨k0, k1⟩ := two_cell K.out.A.1
  go_wp2_with fail
  refine (pMea_call aL aH nL nH cL cH lo hi alt size _ K.out.A.2.1 K.out.A.2.2).mono ?_; rintro e w3 ⟨vL, vH, rfl, -, hN, hb⟩
  obtain ⟨rfl, rfl⟩ := hN HE.out
  replace K := Lib.hid (K.out.B.trans ((hb.mono K.out.B.size).alloc (Nat.le_trans K.out.B.size hb.size) (.cells #[.slice none 0 0, .slice none 0 0] 24)))
  clear hb k0 k1 hN
  go_wp2_with fail
  go_ret
  exact bPost_of rfl K.out

set_option maxRecDepth 100000 in
set_option maxHeartbeats 16000000 in
theorem nested_ok (aL aH : Option Addr) (cL cH : Nat) (lo hi : List Int) (alt size y z : Int) (w : World) (hL : Ints w aL 201 lo) (hH : Ints w aH 201 hi) (hE : maE lo hi alt size = 0) (y0 : 0 ≤ y) (y1 : y ≤ 255) (z0 : 0 ≤ z) (z1 : z ≤ 255) :
    Calls Try.prog 4 #[bdV aL 201 cL aH 201 cH, .int .i64 alt, .int .i64 size, .agg #[.int .u8 y, .int .u8 z]] w (BPost true w) := by
  have HE := Lib.hid (And.intro hE (maE_zero hE))
  have HC := Lib.hid (two_cell (block_new ((w.alloc (.cells #[.slice aL 201 cL, .slice aH 201 cH] 24)).alloc (.cells #[.int .u8 y, .int .u8 z] 37)) (.cells #[.slice aL 201 cL, .slice aH 201 cH] 24) (n := w.heap.size + 1 + 1) (by simp)))
  have K := Lib.hid (show NK w aL 201 cL aH 201 cH lo hi y z (((w.alloc (.cells #[.slice aL 201 cL, .slice aH 201 cH] 24)).alloc (.cells #[.int .u8 y, .int .u8 z] 37)).alloc (.cells #[.slice aL 201 cL, .slice aH 201 cH] 24)) from
    ⟨((below_alloc w _).alloc (by simp) _).alloc (by simp; omega) _, ((BdA.new hL hH).keep (below_alloc _ _)).keep (below_alloc _ _), block_alloc (block_new _ _ (by simp))⟩)
  clear hL hH hE
  unfold bdV
  go_enter Try.func4, Try.ntmps4
  go_wp2_with fail
  refine (long_call aL aH 201 cL 201 cH (w.heap.size + 1 + 1) 1 _ HC.out.1 HC.out.2).mono ?_; rintro e w1 ⟨rfl, hb⟩
  rw [show (decide (250 < ((201 : Nat) : Int)) || decide (250 < ((201 : Nat) : Int))) = false from by decide]
  replace K := Lib.hid (K.out.keep hb)
  clear hb HC
  go_wp2_with fail
  refine (awake_call _).mono ?_; rintro e w2 ⟨rfl, hb⟩
  replace K := Lib.hid (K.out.keep hb)
  clear hb
  obtain ⟨k0, k1⟩ := two_cell K.out.A.1
  go_wp2_with fail
  refine (pMea_call aL aH 201 201 cL cH lo hi alt size _ K.out.A.2.1 K.out.A.2.2).mono ?_; rintro e w3 ⟨vL, vH, rfl, hT, -, hb⟩
  have hT' := hT HE.out.1
  obtain ⟨xL, xc, xH, xd, rfl, rfl, i1, i2⟩ := two_ints hT' (loK_len _ 201) (hiK_len _ 201) (by decide) (by decide)
  rw [HE.out.1]
  replace K := Lib.hid ((K.out.keep hb).keep (below_alloc w3 (.cells #[.slice xL 201 xc, .slice xH 201 xd] 24)))
  have X := Lib.hid (BdA.new (cL := xc) (cH := xd) i1 i2)
  clear hT hT' hb i1 i2 k0 k1
  obtain ⟨b9, hb9⟩ : ∃ b, w3.heap.size = b := ⟨_, rfl⟩
  rw [hb9] at X
  obtain ⟨p0, p1⟩ := two_cell K.out.P
  obtain ⟨x0, x1⟩ := two_cell X.out.1
  obtain ⟨k0, k1⟩ := two_cell K.out.A.1
  obtain ⟨P, hP⟩ : ∃ P : Nat, y % 33 = (P : Int) := ⟨(y % 33).toNat, by omega⟩
  obtain ⟨Q, hQ⟩ : ∃ Q : Nat, z % 8 = (Q : Int) := ⟨(z % 8).toNat, by omega⟩
  have P1 : (P : Int) ≤ 32 := by omega
  have Q1 : (Q : Int) ≤ 7 := by omega
  have HCx := Lib.hid (ch_ma (lo := lo) (hi := hi) HE.out.2.1 HE.out.2.2)
  have HA := Lib.hid (am_ma (lo := lo) (hi := hi) (alt := alt) (size := size))
  generalize loK (maF lo hi alt size) 201 = AL at *
  generalize hiK (maF lo hi alt size) 201 = AH at *
  obtain ⟨SL, hSL⟩ : ∃ l, loK (stF AL AH P) 201 = l := ⟨_, rfl⟩
  obtain ⟨SH, hSH⟩ : ∃ l, hiK (stF AL AH P) 201 = l := ⟨_, rfl⟩
  have HSL := Lib.hid (And.intro hSL hSH)
  have HCs := Lib.hid (show chB SL SH = 0 from by rw [← hSL, ← hSH]; exact ch_st)
  obtain ⟨CL, hCL⟩ : ∃ l, loK (maF SL SH alt size) 201 = l := ⟨_, rfl⟩
  obtain ⟨CH, hCH⟩ : ∃ l, hiK (maF SL SH alt size) 201 = l := ⟨_, rfl⟩
  have HCl := Lib.hid (And.intro hCL hCH)
  have HCc := Lib.hid (show chB CL CH = 0 from by rw [← hCL, ← hCH]; exact ch_ma HCs.out HE.out.2.2)
  have HCa := Lib.hid (show amB CL CH SL SH from by rw [← hCL, ← hCH]; exact am_ma)
  have HD := Lib.hid (show loK (maF CL CH alt size) 201 = CL ∧ hiK (maF CL CH alt size) 201 = CH from by rw [← hCL, ← hCH]; exact ma_twice)
  clear hSL hSH hCL hCH
  by_cases hc : (P : Int) + (Q : Int) ≤ 32
  · go_wp2_with fail
    clear hb9 hP hQ
    refine (pStep_call xL xH 201 201 xc xd AL AH (P : Int) _ X.out.2.1 X.out.2.2).mono ?_; rintro e w4 ⟨vL, vH, rfl, hT, -, hb⟩
    have hT' := hT (stE_ok HCx.out (by omega))
    obtain ⟨sL, sc, sH, sd, rfl, rfl, i1, i2⟩ := two_ints hT' (loK_len _ 201) (hiK_len _ 201) (by decide) (by decide)
    rw [show stE AL AH (P : Int) = 0 from (stE_ok HCx.out (by omega))]
    replace K := Lib.hid ((K.out.keep hb).keep (below_alloc w4 (.cells #[.slice sL 201 sc, .slice sH 201 sd] 24)))
    replace X := Lib.hid ((X.out.keep hb).keep (below_alloc w4 (.cells #[.slice sL 201 sc, .slice sH 201 sd] 24)))
    have S := Lib.hid (BdA.new (cL := sc) (cH := sd) i1 i2)
    obtain ⟨b13, hb13⟩ : ∃ b, w4.heap.size = b := ⟨_, rfl⟩
    rw [hb13] at S
    clear hT hT' hb i1 i2
    have hSl : loK (stF AL AH (P : Int).toNat) 201 = SL := by rw [Int.toNat_natCast]; exact HSL.out.1
    have hSh : hiK (stF AL AH (P : Int).toNat) 201 = SH := by rw [Int.toNat_natCast]; exact HSL.out.2
    rw [hSl, hSh] at S
    clear hSl hSh x0 x1 p0 p1 k0 k1
    obtain ⟨k0, k1⟩ := two_cell K.out.A.1
    go_wp2_with fail
    clear hb13
    refine (pStep_call aL aH 201 201 cL cH lo hi ((P : Int) + (Q : Int)) _ K.out.A.2.1 K.out.A.2.2).mono ?_; rintro e w5 ⟨vL, vH, rfl, hT, -, hb⟩
    have hT' := hT (stE_ok HE.out.2.1 (by omega))
    obtain ⟨tL, tc, tH, td, rfl, rfl, i1, i2⟩ := two_ints hT' (loK_len _ 201) (hiK_len _ 201) (by decide) (by decide)
    rw [show stE lo hi ((P : Int) + (Q : Int)) = 0 from (stE_ok HE.out.2.1 (by omega))]
    replace K := Lib.hid ((K.out.keep hb).keep (below_alloc w5 (.cells #[.slice tL 201 tc, .slice tH 201 td] 24)))
    replace X := Lib.hid ((X.out.keep hb).keep (below_alloc w5 (.cells #[.slice tL 201 tc, .slice tH 201 td] 24)))
    replace S := Lib.hid ((S.out.keep hb).keep (below_alloc w5 (.cells #[.slice tL 201 tc, .slice tH 201 td] 24)))
    have T := Lib.hid (BdA.new (cL := tc) (cH := td) i1 i2)
    obtain ⟨b15, hb15⟩ : ∃ b, w5.heap.size = b := ⟨_, rfl⟩
    rw [hb15] at T
    clear hT hT' hb i1 i2
    have HT := Lib.hid (show amB SL SH (loK (stF lo hi (((P : Int) + (Q : Int))).toNat) 201) (hiK (stF lo hi (((P : Int) + (Q : Int))).toNat) 201) from by rw [← HSL.out.1, ← HSL.out.2]; exact am_st HCx.out HE.out.2.1 HA.out (by omega))
    generalize loK (stF lo hi (((P : Int) + (Q : Int))).toNat) 201 = TL at *
    generalize hiK (stF lo hi (((P : Int) + (Q : Int))).toNat) 201 = TH at *
    clear k0 k1
    obtain ⟨k0, k1⟩ := two_cell S.out.1
    go_wp2_with fail
    clear hb15
    refine (pMea_call sL sH 201 201 sc sd SL SH alt size _ S.out.2.1 S.out.2.2).mono ?_; rintro e w6 ⟨vL, vH, rfl, hT, -, hb⟩
    have hT' := hT (maE_ok HCs.out HE.out.2.2)
    obtain ⟨cL', cc, cH', cd, rfl, rfl, i1, i2⟩ := two_ints hT' (loK_len _ 201) (hiK_len _ 201) (by decide) (by decide)
    rw [show maE SL SH alt size = 0 from (maE_ok HCs.out HE.out.2.2)]
    replace K := Lib.hid ((K.out.keep hb).keep (below_alloc w6 (.cells #[.slice cL' 201 cc, .slice cH' 201 cd] 24)))
    replace X := Lib.hid ((X.out.keep hb).keep (below_alloc w6 (.cells #[.slice cL' 201 cc, .slice cH' 201 cd] 24)))
    replace S := Lib.hid ((S.out.keep hb).keep (below_alloc w6 (.cells #[.slice cL' 201 cc, .slice cH' 201 cd] 24)))
    replace T := Lib.hid ((T.out.keep hb).keep (below_alloc w6 (.cells #[.slice cL' 201 cc, .slice cH' 201 cd] 24)))
    have C := Lib.hid (BdA.new (cL := cc) (cH := cd) i1 i2)
    obtain ⟨b17, hb17⟩ : ∃ b, w6.heap.size = b := ⟨_, rfl⟩
    rw [hb17] at C
    clear hT hT' hb i1 i2
    rw [HCl.out.1, HCl.out.2] at C
    clear k0 k1
    obtain ⟨k0, k1⟩ := two_cell C.out.1
    go_wp2_with fail
    clear hb17
    refine (pMea_call cL' cH' 201 201 cc cd CL CH alt size _ C.out.2.1 C.out.2.2).mono ?_; rintro e w7 ⟨vL, vH, rfl, hT, -, hb⟩
    have hT' := hT (maE_ok HCc.out HE.out.2.2)
    obtain ⟨dL, dc, dH, dd, rfl, rfl, i1, i2⟩ := two_ints hT' (loK_len _ 201) (hiK_len _ 201) (by decide) (by decide)
    rw [show maE CL CH alt size = 0 from (maE_ok HCc.out HE.out.2.2)]
    replace K := Lib.hid ((K.out.keep hb).keep (below_alloc w7 (.cells #[.slice dL 201 dc, .slice dH 201 dd] 24)))
    replace X := Lib.hid ((X.out.keep hb).keep (below_alloc w7 (.cells #[.slice dL 201 dc, .slice dH 201 dd] 24)))
    replace S := Lib.hid ((S.out.keep hb).keep (below_alloc w7 (.cells #[.slice dL 201 dc, .slice dH 201 dd] 24)))
    replace T := Lib.hid ((T.out.keep hb).keep (below_alloc w7 (.cells #[.slice dL 201 dc, .slice dH 201 dd] 24)))
    replace C := Lib.hid ((C.out.keep hb).keep (below_alloc w7 (.cells #[.slice dL 201 dc, .slice dH 201 dd] 24)))
    have D := Lib.hid (BdA.new (cL := dc) (cH := dd) i1 i2)
    obtain ⟨b19, hb19⟩ : ∃ b, w7.heap.size = b := ⟨_, rfl⟩
    rw [hb19] at D
    clear hT hT' hb i1 i2
    rw [HD.out.1, HD.out.2] at D
    have M := Lib.hid (And.intro K.out (And.intro X.out (And.intro S.out (And.intro T.out (And.intro C.out D.out)))))
    clear k0 k1 K X S T C D
    obtain ⟨k0, k1⟩ := two_cell M.out.1.A.1
    obtain ⟨x0, x1⟩ := two_cell M.out.2.1.1
    obtain ⟨s0, s1⟩ := two_cell M.out.2.2.1.1
    obtain ⟨t0, t1⟩ := two_cell M.out.2.2.2.1.1
    obtain ⟨c0, c1⟩ := two_cell M.out.2.2.2.2.1.1
    obtain ⟨d0, d1⟩ := two_cell M.out.2.2.2.2.2.1
    go_wp2_with fail
    clear hb19
    generalize w7.alloc (.cells #[.slice dL 201 dc, .slice dH 201 dd] 24) = wa at *
    obtain ⟨xb1, xo1, rfl, -⟩ := ints_at M.out.2.1.2.1 (k := 0) (by decide)
    obtain ⟨xb2, xo2, rfl, -⟩ := ints_at M.out.2.1.2.2 (k := 0) (by decide)
    obtain ⟨ab1, ao1, rfl, -⟩ := ints_at M.out.1.A.2.1 (k := 0) (by decide)
    obtain ⟨ab2, ao2, rfl, -⟩ := ints_at M.out.1.A.2.2 (k := 0) (by decide)
    obtain ⟨sb1, so1, rfl, -⟩ := ints_at M.out.2.2.1.2.1 (k := 0) (by decide)
    obtain ⟨sb2, so2, rfl, -⟩ := ints_at M.out.2.2.1.2.2 (k := 0) (by decide)
    obtain ⟨tb1, to1, rfl, -⟩ := ints_at M.out.2.2.2.1.2.1 (k := 0) (by decide)
    obtain ⟨tb2, to2, rfl, -⟩ := ints_at M.out.2.2.2.1.2.2 (k := 0) (by decide)
    obtain ⟨cb1, co1, rfl, -⟩ := ints_at M.out.2.2.2.2.1.2.1 (k := 0) (by decide)
    obtain ⟨cb2, co2, rfl, -⟩ := ints_at M.out.2.2.2.2.1.2.2 (k := 0) (by decide)
    have hc := among_yes xb1 xo1 xb2 xo2 ab1 ao1 ab2 ao2 xc xd cL cH AL AH lo hi _ M.out.2.1.2.1 M.out.2.1.2.2 M.out.1.A.2.1 M.out.1.A.2.2 HA.out
    clear k0 k1 x0 x1 s0 s1 t0 t1 c0 c1 d0 d1
    unfold bdV at hc
    refine hc.mono ?_; clear hc; rintro e wb1 ⟨rfl, hb⟩
    replace M := Lib.hid (And.intro (M.out.1.keep hb) (And.intro (M.out.2.1.keep hb) (And.intro (M.out.2.2.1.keep hb) (And.intro (M.out.2.2.2.1.keep hb) (And.intro (M.out.2.2.2.2.1.keep hb) (M.out.2.2.2.2.2.keep hb))))))
    clear hb
    obtain ⟨k0, k1⟩ := two_cell M.out.1.A.1
    obtain ⟨x0, x1⟩ := two_cell M.out.2.1.1
    obtain ⟨s0, s1⟩ := two_cell M.out.2.2.1.1
    obtain ⟨t0, t1⟩ := two_cell M.out.2.2.2.1.1
    obtain ⟨c0, c1⟩ := two_cell M.out.2.2.2.2.1.1
    obtain ⟨d0, d1⟩ := two_cell M.out.2.2.2.2.2.1
    go_wp2_with fail
    have hc := among_yes sb1 so1 sb2 so2 tb1 to1 tb2 to2 sc sd tc td SL SH TL TH _ M.out.2.2.1.2.1 M.out.2.2.1.2.2 M.out.2.2.2.1.2.1 M.out.2.2.2.1.2.2 HT.out
    clear k0 k1 x0 x1 s0 s1 t0 t1 c0 c1 d0 d1
    unfold bdV at hc
    refine hc.mono ?_; clear hc; rintro e wb2 ⟨rfl, hb⟩
    replace M := Lib.hid (And.intro (M.out.1.keep hb) (And.intro (M.out.2.1.keep hb) (And.intro (M.out.2.2.1.keep hb) (And.intro (M.out.2.2.2.1.keep hb) (And.intro (M.out.2.2.2.2.1.keep hb) (M.out.2.2.2.2.2.keep hb))))))
    clear hb
    obtain ⟨k0, k1⟩ := two_cell M.out.1.A.1
    obtain ⟨x0, x1⟩ := two_cell M.out.2.1.1
    obtain ⟨s0, s1⟩ := two_cell M.out.2.2.1.1
    obtain ⟨t0, t1⟩ := two_cell M.out.2.2.2.1.1
    obtain ⟨c0, c1⟩ := two_cell M.out.2.2.2.2.1.1
    obtain ⟨d0, d1⟩ := two_cell M.out.2.2.2.2.2.1
    go_wp2_with fail
    have hc := among_yes cb1 co1 cb2 co2 sb1 so1 sb2 so2 cc cd sc sd CL CH SL SH _ M.out.2.2.2.2.1.2.1 M.out.2.2.2.2.1.2.2 M.out.2.2.1.2.1 M.out.2.2.1.2.2 HCa.out
    clear k0 k1 x0 x1 s0 s1 t0 t1 c0 c1 d0 d1
    unfold bdV at hc
    refine hc.mono ?_; clear hc; rintro e wb3 ⟨rfl, hb⟩
    replace M := Lib.hid (And.intro (M.out.1.keep hb) (And.intro (M.out.2.1.keep hb) (And.intro (M.out.2.2.1.keep hb) (And.intro (M.out.2.2.2.1.keep hb) (And.intro (M.out.2.2.2.2.1.keep hb) (M.out.2.2.2.2.2.keep hb))))))
    clear hb
    obtain ⟨k0, k1⟩ := two_cell M.out.1.A.1
    obtain ⟨x0, x1⟩ := two_cell M.out.2.1.1
    obtain ⟨s0, s1⟩ := two_cell M.out.2.2.1.1
    obtain ⟨t0, t1⟩ := two_cell M.out.2.2.2.1.1
    obtain ⟨c0, c1⟩ := two_cell M.out.2.2.2.2.1.1
    obtain ⟨d0, d1⟩ := two_cell M.out.2.2.2.2.2.1
    go_wp2_with fail
    have hc := equalBand_call (some ⟨cb1, co1, none⟩) (some ⟨cb2, co2, none⟩) dL dH 201 201 cc cd 201 201 dc dd CL CH CL CH _ M.out.2.2.2.2.1.2.1 M.out.2.2.2.2.1.2.2 M.out.2.2.2.2.2.2.1 M.out.2.2.2.2.2.2.2
    rw [decide_eq_true (rfl : CL = CL), decide_eq_true (rfl : CH = CH)] at hc
    clear k0 k1 x0 x1 s0 s1 t0 t1 c0 c1 d0 d1
    unfold bdV at hc
    refine hc.mono ?_; clear hc; rintro e wb4 ⟨rfl, hb⟩
    replace M := Lib.hid (And.intro (M.out.1.keep hb) (And.intro (M.out.2.1.keep hb) (And.intro (M.out.2.2.1.keep hb) (And.intro (M.out.2.2.2.1.keep hb) (And.intro (M.out.2.2.2.2.1.keep hb) (M.out.2.2.2.2.2.keep hb))))))
    clear hb
    obtain ⟨k0, k1⟩ := two_cell M.out.1.A.1
    obtain ⟨x0, x1⟩ := two_cell M.out.2.1.1
    obtain ⟨s0, s1⟩ := two_cell M.out.2.2.1.1
    obtain ⟨t0, t1⟩ := two_cell M.out.2.2.2.1.1
    obtain ⟨c0, c1⟩ := two_cell M.out.2.2.2.2.1.1
    obtain ⟨d0, d1⟩ := two_cell M.out.2.2.2.2.2.1
    go_wp2_with fail
    have hc := pCheck_call (some ⟨sb1, so1, none⟩) (some ⟨sb2, so2, none⟩) 201 201 sc sd SL SH _ M.out.2.2.1.2.1 M.out.2.2.1.2.2
    rw [HCs.out] at hc
    clear k0 k1 x0 x1 s0 s1 t0 t1 c0 c1 d0 d1
    unfold bdV at hc
    refine hc.mono ?_; clear hc; rintro e wb5 ⟨rfl, hb⟩
    replace M := Lib.hid (And.intro (M.out.1.keep hb) (And.intro (M.out.2.1.keep hb) (And.intro (M.out.2.2.1.keep hb) (And.intro (M.out.2.2.2.1.keep hb) (And.intro (M.out.2.2.2.2.1.keep hb) (M.out.2.2.2.2.2.keep hb))))))
    clear hb
    obtain ⟨k0, k1⟩ := two_cell M.out.1.A.1
    obtain ⟨x0, x1⟩ := two_cell M.out.2.1.1
    obtain ⟨s0, s1⟩ := two_cell M.out.2.2.1.1
    obtain ⟨t0, t1⟩ := two_cell M.out.2.2.2.1.1
    obtain ⟨c0, c1⟩ := two_cell M.out.2.2.2.2.1.1
    obtain ⟨d0, d1⟩ := two_cell M.out.2.2.2.2.2.1
    go_wp2_with fail
    have hc := pCheck_call (some ⟨cb1, co1, none⟩) (some ⟨cb2, co2, none⟩) 201 201 cc cd CL CH _ M.out.2.2.2.2.1.2.1 M.out.2.2.2.2.1.2.2
    rw [HCc.out] at hc
    clear k0 k1 x0 x1 s0 s1 t0 t1 c0 c1 d0 d1
    unfold bdV at hc
    refine hc.mono ?_; clear hc; rintro e wb6 ⟨rfl, hb⟩
    replace M := Lib.hid (And.intro (M.out.1.keep hb) (And.intro (M.out.2.1.keep hb) (And.intro (M.out.2.2.1.keep hb) (And.intro (M.out.2.2.2.1.keep hb) (And.intro (M.out.2.2.2.2.1.keep hb) (M.out.2.2.2.2.2.keep hb))))))
    clear hb
    obtain ⟨k0, k1⟩ := two_cell M.out.1.A.1
    obtain ⟨x0, x1⟩ := two_cell M.out.2.1.1
    obtain ⟨s0, s1⟩ := two_cell M.out.2.2.1.1
    obtain ⟨t0, t1⟩ := two_cell M.out.2.2.2.1.1
    obtain ⟨c0, c1⟩ := two_cell M.out.2.2.2.2.1.1
    obtain ⟨d0, d1⟩ := two_cell M.out.2.2.2.2.2.1
    go_wp2_with fail
    go_ret
    exact bPost_of rfl M.out.1.B
  · go_wp2_with fail
    clear hb9 hP hQ
    refine (pStep_call xL xH 201 201 xc xd AL AH (P : Int) _ X.out.2.1 X.out.2.2).mono ?_; rintro e w4 ⟨vL, vH, rfl, hT, -, hb⟩
    have hT' := hT (stE_ok HCx.out (by omega))
    obtain ⟨sL, sc, sH, sd, rfl, rfl, i1, i2⟩ := two_ints hT' (loK_len _ 201) (hiK_len _ 201) (by decide) (by decide)
    rw [show stE AL AH (P : Int) = 0 from (stE_ok HCx.out (by omega))]
    replace K := Lib.hid ((K.out.keep hb).keep (below_alloc w4 (.cells #[.slice sL 201 sc, .slice sH 201 sd] 24)))
    replace X := Lib.hid ((X.out.keep hb).keep (below_alloc w4 (.cells #[.slice sL 201 sc, .slice sH 201 sd] 24)))
    have S := Lib.hid (BdA.new (cL := sc) (cH := sd) i1 i2)
    obtain ⟨b13, hb13⟩ : ∃ b, w4.heap.size = b := ⟨_, rfl⟩
    rw [hb13] at S
    clear hT hT' hb i1 i2
    have hSl : loK (stF AL AH (P : Int).toNat) 201 = SL := by rw [Int.toNat_natCast]; exact HSL.out.1
    have hSh : hiK (stF AL AH (P : Int).toNat) 201 = SH := by rw [Int.toNat_natCast]; exact HSL.out.2
    rw [hSl, hSh] at S
    clear hSl hSh x0 x1 p0 p1 k0 k1
    obtain ⟨k0, k1⟩ := two_cell K.out.A.1
    go_wp2_with fail
    clear hb13
    refine (pStep_call aL aH 201 201 cL cH lo hi (32 : Int) _ K.out.A.2.1 K.out.A.2.2).mono ?_; rintro e w5 ⟨vL, vH, rfl, hT, -, hb⟩
    have hT' := hT (stE_ok HE.out.2.1 (by omega))
    obtain ⟨tL, tc, tH, td, rfl, rfl, i1, i2⟩ := two_ints hT' (loK_len _ 201) (hiK_len _ 201) (by decide) (by decide)
    rw [show stE lo hi (32 : Int) = 0 from (stE_ok HE.out.2.1 (by omega))]
    replace K := Lib.hid ((K.out.keep hb).keep (below_alloc w5 (.cells #[.slice tL 201 tc, .slice tH 201 td] 24)))
    replace X := Lib.hid ((X.out.keep hb).keep (below_alloc w5 (.cells #[.slice tL 201 tc, .slice tH 201 td] 24)))
    replace S := Lib.hid ((S.out.keep hb).keep (below_alloc w5 (.cells #[.slice tL 201 tc, .slice tH 201 td] 24)))
    have T := Lib.hid (BdA.new (cL := tc) (cH := td) i1 i2)
    obtain ⟨b15, hb15⟩ : ∃ b, w5.heap.size = b := ⟨_, rfl⟩
    rw [hb15] at T
    clear hT hT' hb i1 i2
    have HT := Lib.hid (show amB SL SH (loK (stF lo hi ((32 : Int)).toNat) 201) (hiK (stF lo hi ((32 : Int)).toNat) 201) from by rw [← HSL.out.1, ← HSL.out.2]; exact am_st HCx.out HE.out.2.1 HA.out (by omega))
    generalize loK (stF lo hi ((32 : Int)).toNat) 201 = TL at *
    generalize hiK (stF lo hi ((32 : Int)).toNat) 201 = TH at *
    clear k0 k1
    obtain ⟨k0, k1⟩ := two_cell S.out.1
    go_wp2_with fail
    clear hb15
    refine (pMea_call sL sH 201 201 sc sd SL SH alt size _ S.out.2.1 S.out.2.2).mono ?_; rintro e w6 ⟨vL, vH, rfl, hT, -, hb⟩
    have hT' := hT (maE_ok HCs.out HE.out.2.2)
    obtain ⟨cL', cc, cH', cd, rfl, rfl, i1, i2⟩ := two_ints hT' (loK_len _ 201) (hiK_len _ 201) (by decide) (by decide)
    rw [show maE SL SH alt size = 0 from (maE_ok HCs.out HE.out.2.2)]
    replace K := Lib.hid ((K.out.keep hb).keep (below_alloc w6 (.cells #[.slice cL' 201 cc, .slice cH' 201 cd] 24)))
    replace X := Lib.hid ((X.out.keep hb).keep (below_alloc w6 (.cells #[.slice cL' 201 cc, .slice cH' 201 cd] 24)))
    replace S := Lib.hid ((S.out.keep hb).keep (below_alloc w6 (.cells #[.slice cL' 201 cc, .slice cH' 201 cd] 24)))
    replace T := Lib.hid ((T.out.keep hb).keep (below_alloc w6 (.cells #[.slice cL' 201 cc, .slice cH' 201 cd] 24)))
    have C := Lib.hid (BdA.new (cL := cc) (cH := cd) i1 i2)
    obtain ⟨b17, hb17⟩ : ∃ b, w6.heap.size = b := ⟨_, rfl⟩
    rw [hb17] at C
    clear hT hT' hb i1 i2
    rw [HCl.out.1, HCl.out.2] at C
    clear k0 k1
    obtain ⟨k0, k1⟩ := two_cell C.out.1
    go_wp2_with fail
    clear hb17
    refine (pMea_call cL' cH' 201 201 cc cd CL CH alt size _ C.out.2.1 C.out.2.2).mono ?_; rintro e w7 ⟨vL, vH, rfl, hT, -, hb⟩
    have hT' := hT (maE_ok HCc.out HE.out.2.2)
    obtain ⟨dL, dc, dH, dd, rfl, rfl, i1, i2⟩ := two_ints hT' (loK_len _ 201) (hiK_len _ 201) (by decide) (by decide)
    rw [show maE CL CH alt size = 0 from (maE_ok HCc.out HE.out.2.2)]
    replace K := Lib.hid ((K.out.keep hb).keep (below_alloc w7 (.cells #[.slice dL 201 dc, .slice dH 201 dd] 24)))
    replace X := Lib.hid ((X.out.keep hb).keep (below_alloc w7 (.cells #[.slice dL 201 dc, .slice dH 201 dd] 24)))
    replace S := Lib.hid ((S.out.keep hb).keep (below_alloc w7 (.cells #[.slice dL 201 dc, .slice dH 201 dd] 24)))
    replace T := Lib.hid ((T.out.keep hb).keep (below_alloc w7 (.cells #[.slice dL 201 dc, .slice dH 201 dd] 24)))
    replace C := Lib.hid ((C.out.keep hb).keep (below_alloc w7 (.cells #[.slice dL 201 dc, .slice dH 201 dd] 24)))
    have D := Lib.hid (BdA.new (cL := dc) (cH := dd) i1 i2)
    obtain ⟨b19, hb19⟩ : ∃ b, w7.heap.size = b := ⟨_, rfl⟩
    rw [hb19] at D
    clear hT hT' hb i1 i2
    rw [HD.out.1, HD.out.2] at D
    have M := Lib.hid (And.intro K.out (And.intro X.out (And.intro S.out (And.intro T.out (And.intro C.out D.out)))))
    clear k0 k1 K X S T C D
    obtain ⟨k0, k1⟩ := two_cell M.out.1.A.1
    obtain ⟨x0, x1⟩ := two_cell M.out.2.1.1
    obtain ⟨s0, s1⟩ := two_cell M.out.2.2.1.1
    obtain ⟨t0, t1⟩ := two_cell M.out.2.2.2.1.1
    obtain ⟨c0, c1⟩ := two_cell M.out.2.2.2.2.1.1
    obtain ⟨d0, d1⟩ := two_cell M.out.2.2.2.2.2.1
    go_wp2_with fail
    clear hb19
    generalize w7.alloc (.cells #[.slice dL 201 dc, .slice dH 201 dd] 24) = wa at *
    obtain ⟨xb1, xo1, rfl, -⟩ := ints_at M.out.2.1.2.1 (k := 0) (by decide)
    obtain ⟨xb2, xo2, rfl, -⟩ := ints_at M.out.2.1.2.2 (k := 0) (by decide)
    obtain ⟨ab1, ao1, rfl, -⟩ := ints_at M.out.1.A.2.1 (k := 0) (by decide)
    obtain ⟨ab2, ao2, rfl, -⟩ := ints_at M.out.1.A.2.2 (k := 0) (by decide)
    obtain ⟨sb1, so1, rfl, -⟩ := ints_at M.out.2.2.1.2.1 (k := 0) (by decide)
    obtain ⟨sb2, so2, rfl, -⟩ := ints_at M.out.2.2.1.2.2 (k := 0) (by decide)
    obtain ⟨tb1, to1, rfl, -⟩ := ints_at M.out.2.2.2.1.2.1 (k := 0) (by decide)
    obtain ⟨tb2, to2, rfl, -⟩ := ints_at M.out.2.2.2.1.2.2 (k := 0) (by decide)
    obtain ⟨cb1, co1, rfl, -⟩ := ints_at M.out.2.2.2.2.1.2.1 (k := 0) (by decide)
    obtain ⟨cb2, co2, rfl, -⟩ := ints_at M.out.2.2.2.2.1.2.2 (k := 0) (by decide)
    have hc := among_yes xb1 xo1 xb2 xo2 ab1 ao1 ab2 ao2 xc xd cL cH AL AH lo hi _ M.out.2.1.2.1 M.out.2.1.2.2 M.out.1.A.2.1 M.out.1.A.2.2 HA.out
    clear k0 k1 x0 x1 s0 s1 t0 t1 c0 c1 d0 d1
    unfold bdV at hc
    refine hc.mono ?_; clear hc; rintro e wb1 ⟨rfl, hb⟩
    replace M := Lib.hid (And.intro (M.out.1.keep hb) (And.intro (M.out.2.1.keep hb) (And.intro (M.out.2.2.1.keep hb) (And.intro (M.out.2.2.2.1.keep hb) (And.intro (M.out.2.2.2.2.1.keep hb) (M.out.2.2.2.2.2.keep hb))))))
    clear hb
    obtain ⟨k0, k1⟩ := two_cell M.out.1.A.1
    obtain ⟨x0, x1⟩ := two_cell M.out.2.1.1
    obtain ⟨s0, s1⟩ := two_cell M.out.2.2.1.1
    obtain ⟨t0, t1⟩ := two_cell M.out.2.2.2.1.1
    obtain ⟨c0, c1⟩ := two_cell M.out.2.2.2.2.1.1
    obtain ⟨d0, d1⟩ := two_cell M.out.2.2.2.2.2.1
    go_wp2_with fail
    have hc := among_yes sb1 so1 sb2 so2 tb1 to1 tb2 to2 sc sd tc td SL SH TL TH _ M.out.2.2.1.2.1 M.out.2.2.1.2.2 M.out.2.2.2.1.2.1 M.out.2.2.2.1.2.2 HT.out
    clear k0 k1 x0 x1 s0 s1 t0 t1 c0 c1 d0 d1
    unfold bdV at hc
    refine hc.mono ?_; clear hc; rintro e wb2 ⟨rfl, hb⟩
    replace M := Lib.hid (And.intro (M.out.1.keep hb) (And.intro (M.out.2.1.keep hb) (And.intro (M.out.2.2.1.keep hb) (And.intro (M.out.2.2.2.1.keep hb) (And.intro (M.out.2.2.2.2.1.keep hb) (M.out.2.2.2.2.2.keep hb))))))
    clear hb
    obtain ⟨k0, k1⟩ := two_cell M.out.1.A.1
    obtain ⟨x0, x1⟩ := two_cell M.out.2.1.1
    obtain ⟨s0, s1⟩ := two_cell M.out.2.2.1.1
    obtain ⟨t0, t1⟩ := two_cell M.out.2.2.2.1.1
    obtain ⟨c0, c1⟩ := two_cell M.out.2.2.2.2.1.1
    obtain ⟨d0, d1⟩ := two_cell M.out.2.2.2.2.2.1
    go_wp2_with fail
    have hc := among_yes cb1 co1 cb2 co2 sb1 so1 sb2 so2 cc cd sc sd CL CH SL SH _ M.out.2.2.2.2.1.2.1 M.out.2.2.2.2.1.2.2 M.out.2.2.1.2.1 M.out.2.2.1.2.2 HCa.out
    clear k0 k1 x0 x1 s0 s1 t0 t1 c0 c1 d0 d1
    unfold bdV at hc
    refine hc.mono ?_; clear hc; rintro e wb3 ⟨rfl, hb⟩
    replace M := Lib.hid (And.intro (M.out.1.keep hb) (And.intro (M.out.2.1.keep hb) (And.intro (M.out.2.2.1.keep hb) (And.intro (M.out.2.2.2.1.keep hb) (And.intro (M.out.2.2.2.2.1.keep hb) (M.out.2.2.2.2.2.keep hb))))))
    clear hb
    obtain ⟨k0, k1⟩ := two_cell M.out.1.A.1
    obtain ⟨x0, x1⟩ := two_cell M.out.2.1.1
    obtain ⟨s0, s1⟩ := two_cell M.out.2.2.1.1
    obtain ⟨t0, t1⟩ := two_cell M.out.2.2.2.1.1
    obtain ⟨c0, c1⟩ := two_cell M.out.2.2.2.2.1.1
    obtain ⟨d0, d1⟩ := two_cell M.out.2.2.2.2.2.1
    go_wp2_with fail
    have hc := equalBand_call (some ⟨cb1, co1, none⟩) (some ⟨cb2, co2, none⟩) dL dH 201 201 cc cd 201 201 dc dd CL CH CL CH _ M.out.2.2.2.2.1.2.1 M.out.2.2.2.2.1.2.2 M.out.2.2.2.2.2.2.1 M.out.2.2.2.2.2.2.2
    rw [decide_eq_true (rfl : CL = CL), decide_eq_true (rfl : CH = CH)] at hc
    clear k0 k1 x0 x1 s0 s1 t0 t1 c0 c1 d0 d1
    unfold bdV at hc
    refine hc.mono ?_; clear hc; rintro e wb4 ⟨rfl, hb⟩
    replace M := Lib.hid (And.intro (M.out.1.keep hb) (And.intro (M.out.2.1.keep hb) (And.intro (M.out.2.2.1.keep hb) (And.intro (M.out.2.2.2.1.keep hb) (And.intro (M.out.2.2.2.2.1.keep hb) (M.out.2.2.2.2.2.keep hb))))))
    clear hb
    obtain ⟨k0, k1⟩ := two_cell M.out.1.A.1
    obtain ⟨x0, x1⟩ := two_cell M.out.2.1.1
    obtain ⟨s0, s1⟩ := two_cell M.out.2.2.1.1
    obtain ⟨t0, t1⟩ := two_cell M.out.2.2.2.1.1
    obtain ⟨c0, c1⟩ := two_cell M.out.2.2.2.2.1.1
    obtain ⟨d0, d1⟩ := two_cell M.out.2.2.2.2.2.1
    go_wp2_with fail
    have hc := pCheck_call (some ⟨sb1, so1, none⟩) (some ⟨sb2, so2, none⟩) 201 201 sc sd SL SH _ M.out.2.2.1.2.1 M.out.2.2.1.2.2
    rw [HCs.out] at hc
    clear k0 k1 x0 x1 s0 s1 t0 t1 c0 c1 d0 d1
    unfold bdV at hc
    refine hc.mono ?_; clear hc; rintro e wb5 ⟨rfl, hb⟩
    replace M := Lib.hid (And.intro (M.out.1.keep hb) (And.intro (M.out.2.1.keep hb) (And.intro (M.out.2.2.1.keep hb) (And.intro (M.out.2.2.2.1.keep hb) (And.intro (M.out.2.2.2.2.1.keep hb) (M.out.2.2.2.2.2.keep hb))))))
    clear hb
    obtain ⟨k0, k1⟩ := two_cell M.out.1.A.1
    obtain ⟨x0, x1⟩ := two_cell M.out.2.1.1
    obtain ⟨s0, s1⟩ := two_cell M.out.2.2.1.1
    obtain ⟨t0, t1⟩ := two_cell M.out.2.2.2.1.1
    obtain ⟨c0, c1⟩ := two_cell M.out.2.2.2.2.1.1
    obtain ⟨d0, d1⟩ := two_cell M.out.2.2.2.2.2.1
    go_wp2_with fail
    have hc := pCheck_call (some ⟨cb1, co1, none⟩) (some ⟨cb2, co2, none⟩) 201 201 cc cd CL CH _ M.out.2.2.2.2.1.2.1 M.out.2.2.2.2.1.2.2
    rw [HCc.out] at hc
    clear k0 k1 x0 x1 s0 s1 t0 t1 c0 c1 d0 d1
    unfold bdV at hc
    refine hc.mono ?_; clear hc; rintro e wb6 ⟨rfl, hb⟩
    replace M := Lib.hid (And.intro (M.out.1.keep hb) (And.intro (M.out.2.1.keep hb) (And.intro (M.out.2.2.1.keep hb) (And.intro (M.out.2.2.2.1.keep hb) (And.intro (M.out.2.2.2.2.1.keep hb) (M.out.2.2.2.2.2.keep hb))))))
    clear hb
    obtain ⟨k0, k1⟩ := two_cell M.out.1.A.1
    obtain ⟨x0, x1⟩ := two_cell M.out.2.1.1
    obtain ⟨s0, s1⟩ := two_cell M.out.2.2.1.1
    obtain ⟨t0, t1⟩ := two_cell M.out.2.2.2.1.1
    obtain ⟨c0, c1⟩ := two_cell M.out.2.2.2.2.1.1
    obtain ⟨d0, d1⟩ := two_cell M.out.2.2.2.2.2.1
    go_wp2_with fail
    go_ret
    exact bPost_of rfl M.out.1.B
theorem nested_call (aL aH : Option Addr) (nL nH cL cH : Nat) (lo hi : List Int) (alt size y z : Int) (w : World) (hL : Ints w aL nL lo) (hH : Ints w aH nH hi) (y0 : 0 ≤ y) (y1 : y ≤ 255) (z0 : 0 ≤ z) (z1 : z ≤ 255) :
    Calls Try.prog 4 #[bdV aL nL cL aH nH cH, .int .i64 alt, .int .i64 size, .agg #[.int .u8 y, .int .u8 z]] w (BPost true w) := by
  cases hn : (decide (250 < (nL : Int)) || decide (250 < (nH : Int))) with
  | true => exact nested_long aL aH nL nH cL cH alt size y z w hn
  | false =>
    rw [Bool.or_eq_false_iff] at hn
    by_cases hE : maE lo hi alt size = 0
    · obtain ⟨l1, l2, -⟩ := chB_ok (maE_zero hE).1
      obtain rfl : nL = 201 := by rw [← hL.len]; exact l1
      obtain rfl : nH = 201 := by rw [← hH.len]; exact l2
      exact nested_ok aL aH cL cH lo hi alt size y z w hL hH hE y0 y1 z0 z1
    · exact nested_err aL aH nL nH cL cH lo hi alt size y z w hL hH hn.1 hn.2 hE
end Go.Proofs.Ytojjhkahigdkoaa
