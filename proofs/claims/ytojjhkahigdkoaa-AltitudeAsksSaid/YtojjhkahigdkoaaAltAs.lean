/-
  Layer 18 (altitude): the law Asks.
-/
import Derived.Test.YtojjhkahigdkoaaAltZ
import Derived.Test.YtojjhkahigdkoaaAltSt
import Derived.Test.YtojjhkahigdkoaaAltP
namespace Go.Proofs.Ytojjhkahigdkoaa
open Go.RowKit AltMath MyHeap MyCopy MyOwn

set_option maxRecDepth 100000 in
set_option maxHeartbeats 4000000 in
theorem asks_long (aL aH : Option Addr) (nL nH cL cH : Nat) (z v : Int) (w : World) (hn : (decide (250 < (nL : Int)) || decide (250 < (nH : Int))) = true) :
    Calls Try.prog 6 #[bdV aL nL cL aH nH cH, .agg #[.int .i64 z, .int .i64 v]] w (BPost true w) := by
  have B := Lib.hid (show Below w.heap.size w (((w.alloc (.cells #[.slice aL nL cL, .slice aH nH cH] 24)).alloc (.cells #[.int .i64 z, .int .i64 v] 40)).alloc (.cells #[.slice aL nL cL, .slice aH nH cH] 24)) from ((below_alloc w _).alloc (by simp) _).alloc (by simp; omega) _)
  have HC := Lib.hid (two_cell (block_new ((w.alloc (.cells #[.slice aL nL cL, .slice aH nH cH] 24)).alloc (.cells #[.int .i64 z, .int .i64 v] 40)) (.cells #[.slice aL nL cL, .slice aH nH cH] 24) (n := w.heap.size + 1 + 1) (by simp)))
  have HN := Lib.hid hn
  clear hn
  unfold bdV
  go_enter Try.func6, Try.ntmps6
  go_wp2_with fail
  refine (long_call aL aH nL cL nH cH (w.heap.size + 1 + 1) 1 _ HC.out.1 HC.out.2).mono ?_; rintro e w1 ⟨rfl, hb⟩
  rw [HN.out]
  replace B := Lib.hid (B.out.trans (hb.mono B.out.size))
  clear hb HC
  go_wp2_with fail
  refine (awake_call _).mono ?_; rintro e w2 ⟨rfl, hb⟩
  replace B := Lib.hid (B.out.trans (hb.mono B.out.size))
  clear hb
  go_wp2_with fail
  go_ret
  exact bPost_of rfl B.out

/-- What is held: the argument's block, the plane's, the copy's. -/
structure AK (w0 : World) (aL : Option Addr) (nL cL : Nat) (aH : Option Addr) (nH cH : Nat) (lo hi : List Int) (z v : Int) (b9 : Nat) (oL : Option Addr) (dL : Nat) (oH : Option Addr) (dH : Nat) (W : World) : Prop where
  B : Below w0.heap.size w0 W
  A : BdA w0.heap.size aL nL cL aH nH cH lo hi W
  P : W.heap[w0.heap.size + 1]? = some (.cells #[.int .i64 z, .int .i64 v] 40 (0, 0))
  O : BdA b9 oL nL dL oH nH dH lo hi W
theorem AK.keep {w0 : World} {aL : Option Addr} {nL cL : Nat} {aH : Option Addr} {nH cH : Nat} {lo hi : List Int} {z v : Int} {b9 : Nat} {oL : Option Addr} {dL : Nat} {oH : Option Addr} {dH : Nat} {W W' : World} (h : AK w0 aL nL cL aH nH cH lo hi z v b9 oL dL oH dH W) (hb : Below W.heap.size W W') : AK w0 aL nL cL aH nH cH lo hi z v b9 oL dL oH dH W' := ⟨h.B.trans (hb.mono h.B.size), h.A.keep hb, keepO hb h.P, h.O.keep hb⟩

set_option maxRecDepth 100000 in
set_option maxHeartbeats 16000000 in
theorem asks_go (aL aH : Option Addr) (nL nH cL cH : Nat) (lo hi : List Int) (z v : Int) (w : World) (hL : Ints w aL nL lo) (hH : Ints w aH nH hi) (n1 : nL ≤ 250) (n2 : nH ≤ 250) :
    Calls Try.prog 6 #[bdV aL nL cL aH nH cH, .agg #[.int .i64 z, .int .i64 v]] w (BPost true w) := by
  have d1 : decide (250 < (nL : Int)) = false := decide_eq_false (by omega)
  have d2 : decide (250 < (nH : Int)) = false := decide_eq_false (by omega)
  have HC := Lib.hid (two_cell (block_new ((w.alloc (.cells #[.slice aL nL cL, .slice aH nH cH] 24)).alloc (.cells #[.int .i64 z, .int .i64 v] 40)) (.cells #[.slice aL nL cL, .slice aH nH cH] 24) (n := w.heap.size + 1 + 1) (by simp)))
  have A := Lib.hid (show BdA w.heap.size aL nL cL aH nH cH lo hi (((w.alloc (.cells #[.slice aL nL cL, .slice aH nH cH] 24)).alloc (.cells #[.int .i64 z, .int .i64 v] 40)).alloc (.cells #[.slice aL nL cL, .slice aH nH cH] 24)) from ((BdA.new hL hH).keep (below_alloc _ _)).keep (below_alloc _ _))
  have P := Lib.hid (show (((w.alloc (.cells #[.slice aL nL cL, .slice aH nH cH] 24)).alloc (.cells #[.int .i64 z, .int .i64 v] 40)).alloc (.cells #[.slice aL nL cL, .slice aH nH cH] 24)).heap[w.heap.size + 1]? = some (.cells #[.int .i64 z, .int .i64 v] 40 (0, 0)) from block_alloc (block_new _ _ (by simp)))
  have B := Lib.hid (show Below w.heap.size w (((w.alloc (.cells #[.slice aL nL cL, .slice aH nH cH] 24)).alloc (.cells #[.int .i64 z, .int .i64 v] 40)).alloc (.cells #[.slice aL nL cL, .slice aH nH cH] 24)) from ((below_alloc w _).alloc (by simp) _).alloc (by simp; omega) _)
  have HLn := Lib.hid (And.intro hL.len hH.len)
  clear hL hH
  unfold bdV
  go_enter Try.func6, Try.ntmps6
  go_wp2_with fail
  refine (long_call aL aH nL cL nH cH (w.heap.size + 1 + 1) 1 _ HC.out.1 HC.out.2).mono ?_; rintro e w1 ⟨rfl, hb⟩
  rw [d1, d2]
  replace A := Lib.hid (A.out.keep hb)
  replace P := Lib.hid (keepO hb P.out)
  replace B := Lib.hid (B.out.trans (hb.mono B.out.size))
  obtain ⟨k0, k1⟩ := two_cell A.out.1
  clear hb HC
  go_wp2_with fail
  refine (copyBand_call aL aH nL nH cL cH lo hi _ A.out.2.1 A.out.2.2 (by omega) (by omega)).mono ?_; rintro e w2 ⟨vL, vH, rfl, hT, hb⟩
  obtain ⟨oL, dL, oH, dH, rfl, rfl, i1, i2⟩ := two_ints hT HLn.out.1 HLn.out.2 (by omega) (by omega)
  have K := Lib.hid (show AK w aL nL cL aH nH cH lo hi z v w2.heap.size oL dL oH dH (w2.alloc (.cells #[.slice oL nL dL, .slice oH nH dH] 24)) from
    ⟨(B.out.trans (hb.mono B.out.size)).alloc (Nat.le_trans B.out.size hb.size) _, (A.out.keep hb).keep (below_alloc _ _), block_alloc (keepO hb P.out), BdA.new i1 i2⟩)
  obtain ⟨b9, hb9⟩ : ∃ b, w2.heap.size = b := ⟨_, rfl⟩
  rw [hb9] at K
  clear A B P hT hb i1 i2 k0 k1
  obtain ⟨k0, k1⟩ := two_cell K.out.A.1
  obtain ⟨o0, o1⟩ := two_cell K.out.O.1
  obtain ⟨p0, p1⟩ := two_cell K.out.P
  go_wp2_with fail
  clear hb9
  generalize w2.alloc (.cells #[.slice oL nL dL, .slice oH nH dH] 24) = ws at *
  refine (pCon_call oL oH nL nH dL dH lo hi z v _ K.out.O.2.1 K.out.O.2.2).mono ?_; rintro e w3 ⟨rfl, hb⟩
  replace K := Lib.hid (K.out.keep hb)
  clear hb k0 k1 o0 o1 p0 p1
  obtain ⟨k0, k1⟩ := two_cell K.out.A.1
  obtain ⟨o0, o1⟩ := two_cell K.out.O.1
  obtain ⟨p0, p1⟩ := two_cell K.out.P
  go_wp2_with fail
  refine (rCon_call aL aH nL nH cL cH lo hi z v _ K.out.A.2.1 K.out.A.2.2).mono ?_; rintro e w4 ⟨rfl, hb⟩
  replace K := Lib.hid (K.out.keep hb)
  clear hb k0 k1 o0 o1 p0 p1
  obtain ⟨k0, k1⟩ := two_cell K.out.A.1
  obtain ⟨o0, o1⟩ := two_cell K.out.O.1
  obtain ⟨p0, p1⟩ := two_cell K.out.P
  go_wp2_with fail
  refine (pEmpty_call oL oH nL nH dL dH lo hi _ K.out.O.2.1 K.out.O.2.2).mono ?_; rintro e w5 ⟨rfl, hb⟩
  replace K := Lib.hid (K.out.keep hb)
  clear hb k0 k1 o0 o1 p0 p1
  obtain ⟨k0, k1⟩ := two_cell K.out.A.1
  obtain ⟨o0, o1⟩ := two_cell K.out.O.1
  obtain ⟨p0, p1⟩ := two_cell K.out.P
  go_wp2_with fail
  refine (rEmpty_call aL aH nL nH cL cH lo hi _ K.out.A.2.1 K.out.A.2.2).mono ?_; rintro e w6 ⟨rfl, hb⟩
  replace K := Lib.hid (K.out.keep hb)
  clear hb k0 k1 o0 o1 p0 p1
  obtain ⟨k0, k1⟩ := two_cell K.out.A.1
  obtain ⟨o0, o1⟩ := two_cell K.out.O.1
  obtain ⟨p0, p1⟩ := two_cell K.out.P
  go_wp2_with fail
  refine (pSpread_call oL oH nL nH dL dH lo hi _ K.out.O.2.1 K.out.O.2.2).mono ?_; rintro e w7 ⟨rfl, hb⟩
  unfold exC
  have hb2 := hb.alloc hb.size (.cells #[.int .i64 (spX lo hi).low, .int .i64 (spX lo hi).high, .int .i64 (spX lo hi).slow, .int .i64 (spX lo hi).fast] 48)
  replace K := Lib.hid (K.out.keep hb2)
  have E14 := Lib.hid (block_new w7 (.cells #[.int .i64 (spX lo hi).low, .int .i64 (spX lo hi).high, .int .i64 (spX lo hi).slow, .int .i64 (spX lo hi).fast] 48) rfl)
  obtain ⟨b14, hb14⟩ : ∃ b, w7.heap.size = b := ⟨_, rfl⟩
  rw [hb14] at E14
  clear hb hb2 k0 k1 o0 o1 p0 p1
  obtain ⟨k0, k1⟩ := two_cell K.out.A.1
  obtain ⟨o0, o1⟩ := two_cell K.out.O.1
  obtain ⟨p0, p1⟩ := two_cell K.out.P
  go_wp2_with fail
  clear hb14
  generalize w7.alloc (.cells #[.int .i64 (spX lo hi).low, .int .i64 (spX lo hi).high, .int .i64 (spX lo hi).slow, .int .i64 (spX lo hi).fast] 48) = w7a at *
  refine (rSpread_call aL aH nL nH cL cH lo hi _ K.out.A.2.1 K.out.A.2.2).mono ?_; rintro e w8 ⟨rfl, hb⟩
  unfold exC
  have hb2 := hb.alloc hb.size (.cells #[.int .i64 (spX lo hi).low, .int .i64 (spX lo hi).high, .int .i64 (spX lo hi).slow, .int .i64 (spX lo hi).fast] 53)
  replace K := Lib.hid (K.out.keep hb2)
  replace E14 := Lib.hid (keepO hb2 E14.out)
  have E16 := Lib.hid (block_new w8 (.cells #[.int .i64 (spX lo hi).low, .int .i64 (spX lo hi).high, .int .i64 (spX lo hi).slow, .int .i64 (spX lo hi).fast] 53) rfl)
  obtain ⟨b16, hb16⟩ : ∃ b, w8.heap.size = b := ⟨_, rfl⟩
  rw [hb16] at E16
  clear hb hb2 k0 k1 o0 o1 p0 p1
  obtain ⟨k0, k1⟩ := two_cell K.out.A.1
  obtain ⟨o0, o1⟩ := two_cell K.out.O.1
  obtain ⟨p0, p1⟩ := two_cell K.out.P
  go_wp2_with fail
  clear hb16
  generalize w8.alloc (.cells #[.int .i64 (spX lo hi).low, .int .i64 (spX lo hi).high, .int .i64 (spX lo hi).slow, .int .i64 (spX lo hi).fast] 53) = w8a at *
  refine (pBest_call oL oH nL nH dL dH lo hi _ K.out.O.2.1 K.out.O.2.2).mono ?_; rintro e w9 ⟨rfl, hb⟩
  have hb2 := hb.alloc hb.size (.cells #[.int .i64 (beP lo hi).1, .int .i64 (beP lo hi).2] 40)
  replace K := Lib.hid (K.out.keep hb2)
  replace E14 := Lib.hid (keepO hb2 E14.out)
  replace E16 := Lib.hid (keepO hb2 E16.out)
  have E18 := Lib.hid (block_new w9 (.cells #[.int .i64 (beP lo hi).1, .int .i64 (beP lo hi).2] 40) rfl)
  obtain ⟨b18, hb18⟩ : ∃ b, w9.heap.size = b := ⟨_, rfl⟩
  rw [hb18] at E18
  clear hb hb2 k0 k1 o0 o1 p0 p1
  obtain ⟨k0, k1⟩ := two_cell K.out.A.1
  obtain ⟨o0, o1⟩ := two_cell K.out.O.1
  obtain ⟨p0, p1⟩ := two_cell K.out.P
  go_wp2_with fail
  clear hb18
  generalize w9.alloc (.cells #[.int .i64 (beP lo hi).1, .int .i64 (beP lo hi).2] 40) = w9a at *
  refine (rBest_call aL aH nL nH cL cH lo hi _ K.out.A.2.1 K.out.A.2.2).mono ?_; rintro e w10 ⟨rfl, hb⟩
  have hb2 := hb.alloc hb.size (.cells #[.int .i64 (beP lo hi).1, .int .i64 (beP lo hi).2] 40)
  replace K := Lib.hid (K.out.keep hb2)
  replace E14 := Lib.hid (keepO hb2 E14.out)
  replace E16 := Lib.hid (keepO hb2 E16.out)
  replace E18 := Lib.hid (keepO hb2 E18.out)
  have E20 := Lib.hid (block_new w10 (.cells #[.int .i64 (beP lo hi).1, .int .i64 (beP lo hi).2] 40) rfl)
  obtain ⟨b20, hb20⟩ : ∃ b, w10.heap.size = b := ⟨_, rfl⟩
  rw [hb20] at E20
  clear hb hb2 k0 k1 o0 o1 p0 p1
  obtain ⟨k0, k1⟩ := two_cell K.out.A.1
  obtain ⟨o0, o1⟩ := two_cell K.out.O.1
  obtain ⟨p0, p1⟩ := two_cell K.out.P
  obtain ⟨⟨x0, x1, x2, x3⟩, -⟩ := four_facts E14.out
  obtain ⟨⟨y0, y1, y2, y3⟩, -⟩ := four_facts E16.out
  obtain ⟨q0, q1⟩ := two_cell E18.out
  obtain ⟨r0, r1⟩ := two_cell E20.out
  go_wp2_with fail
  clear hb20 k0 k1 o0 o1 p0 p1 x0 x1 x2 x3 y0 y1 y2 y3 q0 q1 r0 r1 E14 E16 E18 E20
  generalize w10.alloc (.cells #[.int .i64 (beP lo hi).1, .int .i64 (beP lo hi).2] 40) = wa at *
  have q1 := K.out.O.2.1
  have q2 := K.out.O.2.2
  have q3 := K.out.A.2.1
  have q4 := K.out.A.2.2
  have hc := equalBand_call oL oH aL aH nL nH dL dH nL nH cL cH lo hi lo hi _ q1 q2 q3 q4
  unfold bdV at hc
  refine hc.mono ?_; clear hc q1 q2 q3 q4; rintro e wj ⟨rfl, hb⟩
  rw [decide_eq_true (rfl : lo = lo), decide_eq_true (rfl : hi = hi)]
  replace K := Lib.hid (K.out.keep hb)
  clear hb
  go_wp2_with fail
  refine (awake_call _).mono ?_; rintro e wk ⟨rfl, hb⟩
  replace K := Lib.hid (K.out.keep hb)
  clear hb
  go_wp2_with fail
  go_ret
  exact bPost_of rfl K.out.B
theorem asks_call (aL aH : Option Addr) (nL nH cL cH : Nat) (lo hi : List Int) (z v : Int) (w : World) (hL : Ints w aL nL lo) (hH : Ints w aH nH hi) :
    Calls Try.prog 6 #[bdV aL nL cL aH nH cH, .agg #[.int .i64 z, .int .i64 v]] w (BPost true w) := by
  cases hn : (decide (250 < (nL : Int)) || decide (250 < (nH : Int))) with
  | true => exact asks_long aL aH nL nH cL cH z v w hn
  | false =>
    rw [Bool.or_eq_false_iff] at hn
    have h1 := of_decide_eq_false hn.1
    have h2 := of_decide_eq_false hn.2
    exact asks_go aL aH nL nH cL cH lo hi z v w hL hH (by omega) (by omega)
end Go.Proofs.Ytojjhkahigdkoaa
