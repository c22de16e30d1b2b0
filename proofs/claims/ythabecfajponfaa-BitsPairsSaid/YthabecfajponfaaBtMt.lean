/-
  Layer 1 (bits): the law Matches, the walk.
-/
import Derived.Test.YthabecfajponfaaBtAw
import Derived.Test.YthabecfajponfaaBtX
import Derived.Test.YthabecfajponfaaBtT
import Derived.Test.YthabecfajponfaaBtY
namespace Go.Proofs.Ythabecfajponfaa
open Go.RowKit BitsMath ParityMath TextMath MyHeap MyCopy MyOwn

theorem own_u8c {w : World} {base : Nat} {T : TypeId} {v : Value} {n : Nat} {ys : List Nat} (h : w.ownsRow base T 1 v n (flatU ys)) (hn : ys.length = n) (hm : n ≤ 9223372036854775807) : ∃ a c, v = .slice a n c ∧ U8s w a n ys ∧ n ≤ c ∧ c ≤ 9223372036854775807 := by
  rcases h.2 with ⟨rfl, h0⟩ | ⟨g, cap, cur, rfl, hg, hh, hc, hcm, hcs, htake⟩
  · exact ⟨none, 0, by rw [h0], ⟨hn, hm, Or.inl h0⟩, by omega, by decide⟩
  · refine ⟨some ⟨g, 0, none⟩, cap, rfl, ⟨hn, hm, Or.inr ⟨g, 0, rfl, fun i hi => ?_⟩⟩, hc, by unfold maxLen at hcm; omega⟩
    have hx := flatU_get (xs := ys) (i := i) (by omega)
    rw [← htake, List.getElem?_take_of_lt (by omega)] at hx
    rw [Nat.zero_add]
    exact cell_of_block hh (by simpa using hx)
def MtK (w0 : World) (aI : Option Addr) (n : Nat) (xs : List Nat) (aS : Option Addr) (nS : Nat) (ZS : List Nat) (aC : Option Addr) (nC : Nat) (ZC : List Nat) (W : World) : Prop := Below w0.heap.size w0 W ∧ U8s W aI n xs ∧ U8s W aS nS ZS ∧ U8s W aC nC ZC
theorem MtK.keep {w0 W W' : World} {aI aS aC : Option Addr} {n nS nC : Nat} {xs ZS ZC : List Nat} (h : MtK w0 aI n xs aS nS ZS aC nC ZC W) (hb : Below W.heap.size W W') : MtK w0 aI n xs aS nS ZS aC nC ZC W' := ⟨h.1.trans (hb.mono h.1.size), h.2.1.below hb, h.2.2.1.below hb, h.2.2.2.below hb⟩
theorem own_keep {W W' : World} {b : Nat} {e : TypeId} {s : Nat} {v : Value} {n : Nat} {xs : List Value} {row : Option Nat} (h : W.ownsRow b e s v n xs) (hg : W.grownBy W' row) (ha : row = none ∨ v.ownBlock ≠ row) : W'.ownsRow b e s v n xs := by
  refine h.kept hg ?_
  rcases ha with rfl | ha
  · cases hv : v.ownBlock with
    | none => exact Or.inl rfl
    | some g => exact Or.inr (fun e => by cases e)
  · exact Or.inr ha

/-- Two results of a round, each in memory of its own. -/
structure RdK (x0 : World) (B2 : Nat) (aY : Option Addr) (nY cY : Nat) (ZS : List Nat) (aW : Option Addr) (nW cW : Nat) (ZC : List Nat) (W : World) : Prop where
  uY : U8s W aY nY ZS
  oY : W.ownsRow x0.heap.size 5 1 (.slice aY nY cY) nY (flatU ZS)
  uW : U8s W aW nW ZC
  oW : W.ownsRow B2 5 1 (.slice aW nW cW) nW (flatU ZC)
  bl : Below x0.heap.size x0 W
  le : B2 ≤ W.heap.size
  ap : Value.ownBlock (.slice aY nY cY) = none ∨ Value.ownBlock (.slice aW nW cW) ≠ Value.ownBlock (.slice aY nY cY)
theorem RdK.keep {x0 : World} {B2 : Nat} {aY aW : Option Addr} {nY cY nW cW : Nat} {ZS ZC : List Nat} {W W' : World} (h : RdK x0 B2 aY nY cY ZS aW nW cW ZC W) (hb : Below W.heap.size W W') : RdK x0 B2 aY nY cY ZS aW nW cW ZC W' :=
  ⟨h.uY.below hb, ownsRow_below h.oY hb (Nat.le_refl _), h.uW.below hb, ownsRow_below h.oW hb (Nat.le_refl _), h.bl.trans (hb.mono h.bl.size), Nat.le_trans h.le hb.size, h.ap⟩

set_option maxRecDepth 100000 in
set_option maxHeartbeats 16000000 in
theorem matches_go (a : Option Addr) (n c : Nat) (xs : List Nat) (p m : Int) (u : Nat) (w : World) (h : U8s w a n xs) (_hc : n ≤ c) (hn : n ≤ 200) (m0 : -9223372036854775808 ≤ m) (m1 : m ≤ 9223372036854775807) (hu : u < 2 ^ 64) :
    Calls Try.prog 5 #[.slice a n c, .int .i64 p, .int .i64 m, .int .u64 (u : Int)] w (BPost true w) := by
  have HL := Lib.hid h
  have hl := h.len
  have HLn := Lib.hid hl
  have hlong : decide ((200 : Int) < (n : Int)) = false := decide_eq_false (by omega)
  have HPL := Lib.hid (show (putL xs p.toNat m.toNat u).length ≤ 1000 from by rw [putL_len, hl]; omega)
  have HFL := Lib.hid (show (flL xs p.toNat).length ≤ 1000 from by rw [fl_len, hl]; omega)
  have HU := Lib.hid hu
  clear h hl hu
  go_enter Try.func5, Try.ntmps5
  go_wp2_with fail
  refine (copyBits_call a n c xs _ HL.out (by omega)).mono ?_; rintro e w1 ⟨v1, rfl, hO, hb⟩
  obtain ⟨aI, cI, rfl, hUI, hcI, hcI1⟩ := own_u8c hO rfl (by rw [HLn.out]; omega)
  rw [HLn.out] at hUI hcI ⊢
  have B := Lib.hid hb
  have HI := Lib.hid hUI
  clear hb hO hUI
  go_wp2_with fail
  refine (refGet_call a n c xs p m _ (HL.out.below B.out) m0 m1).mono ?_; rintro e w2 ⟨rfl, rfl⟩
  go_wp2_with fail
  refine (refPut_call a n c xs p m u _ (HL.out.below B.out) m0 m1 HU.out).mono ?_; rintro e w3 ⟨v3, rfl, hO, hb⟩
  obtain ⟨aS, nS, cS, rfl, hUS, _, _⟩ := ownR_u8s hO HPL.out
  replace B := Lib.hid (B.out.trans (hb.mono B.out.size))
  replace HI := Lib.hid (And.intro (HI.out.below hb) hUS)
  clear hb hO hUS
  go_wp2_with fail
  refine (refFlip_call a n c xs p _ (HL.out.below B.out)).mono ?_; rintro e w4 ⟨v4, rfl, hO, hb⟩
  obtain ⟨aC, nC, cC, rfl, hUC, _, _⟩ := ownR_u8s hO HFL.out
  replace B := Lib.hid (B.out.trans (hb.mono B.out.size))
  replace HI := Lib.hid (And.intro (HI.out.1.below hb) (And.intro (HI.out.2.below hb) hUC))
  clear hb hO hUC
  go_wp2_with fail
  refine (refWeight_call a n c xs _ (HL.out.below B.out)).mono ?_; rintro e w5 ⟨rfl, hb⟩
  replace B := Lib.hid (B.out.trans (hb.mono B.out.size))
  replace HI := Lib.hid (And.intro (HI.out.1.below hb) (And.intro (HI.out.2.1.below hb) (HI.out.2.2.below hb)))
  clear hb
  go_wp2_with fail
  refine (refText_call a n c xs _ (HL.out.below B.out)).mono ?_; rintro e w6 ⟨rfl, hb⟩
  have K := Lib.hid (show MtK w aI n xs aS nS (if putE xs p m u = 0 then putL xs p.toNat m.toNat u else []) aC nC (if flE xs p = 0 then flL xs p.toNat else []) w6 from ⟨B.out.trans (hb.mono B.out.size), HI.out.1.below hb, HI.out.2.1.below hb, HI.out.2.2.below hb⟩)
  clear hb B HI
  generalize hZS : (if putE xs p m u = 0 then putL xs p.toNat m.toNat u else []) = ZS at *
  generalize hZC : (if flE xs p = 0 then flL xs p.toNat else []) = ZC at *
  have HZ := Lib.hid (And.intro hZS hZC)
  clear hZS hZC
  have e1 : (chkE xs != chkE xs) = false := by simp
  have e2 : (getR xs p m != getR xs p m) = false := by simp
  have e3 : (fldE xs p m != fldE xs p m) = false := by simp
  have e4 : (putE xs p m u != putE xs p m u) = false := by simp
  have e5 : (flE xs p != flE xs p) = false := by simp
  have e6 : (wtR xs != wtR xs) = false := by simp
  have e7 : (txtE xs != txtE xs) = false := by simp
  generalize hTT : (⟨(txtR xs).toArray⟩ : ByteArray) = TT at *
  have HTT := Lib.hid hTT
  clear hTT
  go_wp2_with fail
  go_loopw [20] (fun kv wr => ∃ k : Nat, k ≤ 2 ∧ kv = .int .i64 k ∧ MtK w aI n xs aS nS ZS aC nC ZC wr) (fun kv _ => 2 - (intOf kv).toNat)
  case atStart => exact ⟨0, by omega, rfl, K.out⟩
  case round =>
    clear K
    obtain ⟨k, hk, rfl, hK⟩ := hrel
    have K := Lib.hid hK
    clear hK
    by_cases hlt : k < 2
    · have hk1 : (k : Int) < 2 := by omega
      go_wp2_with fail
      refine (Get_call aI n cI xs p m _ K.out.2.1 m0 m1).mono ?_; rintro e x1 ⟨rfl, hb⟩
      replace K := Lib.hid (K.out.keep hb)
      clear hb
      go_wp2_with fail
      refine (Put_call aI n cI xs p m u _ K.out.2.1 m0 m1 HU.out).mono ?_; rintro e x2 ⟨vY, rfl, hO, hb⟩
      obtain ⟨aY, nY, cY, rfl, hUY, hOY, hnY⟩ := ownR_u8s hO HPL.out
      rw [HZ.out.1] at hUY hOY
      have HY := Lib.hid (And.intro hUY (And.intro hOY hb))
      clear hb hO hUY hOY
      go_wp2_with fail
      refine (Flip_call aI n cI xs p _ (K.out.keep HY.out.2.2).2.1).mono ?_; rintro e x3 ⟨vW, rfl, hO, hb⟩
      obtain ⟨aW, nW, cW, rfl, hUW, hOW, hnW⟩ := ownR_u8s hO HFL.out
      rw [HZ.out.2] at hUW hOW
      have K2 := Lib.hid (show RdK x1 x2.heap.size aY nY cY ZS aW nW cW ZC x3 from ⟨HY.out.1.below hb, ownsRow_below HY.out.2.1 hb (Nat.le_refl _), hUW, hOW, HY.out.2.2.trans (hb.mono HY.out.2.2.size), hb.size, own_apart HY.out.2.1 hOW (Nat.le_refl _)⟩)
      have hB12 := HY.out.2.2.size
      obtain ⟨B2, hB2⟩ : ∃ B, x2.heap.size = B := ⟨_, rfl⟩
      rw [hB2] at K2 hB12
      clear hb hO hUW hOW HY hB2
      go_wp2_with fail
      refine (Weight_call aI n cI xs _ (K.out.keep K2.out.bl).2.1).mono ?_; rintro e x4 ⟨rfl, hb⟩
      replace K2 := Lib.hid (K2.out.keep hb)
      clear hb
      go_wp2_with fail
      refine (Text_call aI n cI xs _ (K.out.keep K2.out.bl).2.1 hcI hcI1).mono ?_; rintro e x5 ⟨rfl, hb⟩
      replace K2 := Lib.hid (K2.out.keep hb)
      rw [HTT.out]
      clear hb
      go_wp2_with fail
      refine (Check_call aI n cI xs _ (K.out.keep K2.out.bl).2.1).mono ?_; rintro e x6 ⟨rfl, hb⟩
      replace K2 := Lib.hid (K2.out.keep hb)
      clear hb
      go_wp2_with fail
      refine (refCheck_call a n c xs _ (HL.out.below (K.out.keep K2.out.bl).1)).mono ?_; rintro e x7 ⟨rfl, rfl⟩
      go_wp2_with fail
      refine (equalBits_call aY aS nY nS cY cS ZS ZS _ K2.out.uY (K.out.keep K2.out.bl).2.2.1).mono ?_; rintro e x8 ⟨rfl, hb⟩
      rw [decide_eq_true (rfl : ZS = ZS)]
      replace K2 := Lib.hid (K2.out.keep hb)
      clear hb
      go_wp2_with fail
      refine (equalBits_call aW aC nW nC cW cC ZC ZC _ K2.out.uW (K.out.keep K2.out.bl).2.2.2).mono ?_; rintro e x9 ⟨rfl, hb⟩
      rw [decide_eq_true (rfl : ZC = ZC)]
      replace K2 := Lib.hid (K2.out.keep hb)
      clear hb
      go_wp2_with fail
      refine (equalBits_call aI a n n cI c xs xs _ (K.out.keep K2.out.bl).2.1 (HL.out.below (K.out.keep K2.out.bl).1)).mono ?_; rintro e x10 ⟨rfl, hb⟩
      rw [decide_eq_true (rfl : xs = xs)]
      replace K2 := Lib.hid (K2.out.keep hb)
      clear hb
      go_wp2_with fail
      refine (over_call x1.heap.size _ nY _ _ K2.out.oY K2.out.bl.size (by omega)).mono ?_; rintro e y8 ⟨rfl, hb, hg⟩
      have hW8 := Lib.hid (own_keep K2.out.oW hg K2.out.ap)
      have hB8 := Lib.hid (K2.out.bl.trans hb)
      have hx6 := Nat.le_trans K2.out.le hg.size
      have hx0 := K2.out.bl.size
      have hx7 := hB12
      clear hb hg
      go_wp2_with fail
      refine (over_call B2 _ nW _ _ hW8.out hx6 (by omega)).mono ?_; rintro e y9 ⟨rfl, hb, hg⟩
      have hB9 := Lib.hid (hB8.out.trans (hb.mono hx7))
      clear hb hg
      go_wp2_with fail
      go_roundw
      case rel => exact ⟨k + 1, by omega, by go_num, K.out.keep hB9.out⟩
      case measure => simp [intOf]; omega
    · have hk2 : (k : Int) = 2 := by omega
      rw [hk2]
      clear hk2 hlt hk
      go_wp2_with fail
      refine (awake_call _).mono ?_; rintro e x1 ⟨rfl, hb⟩
      have HB := Lib.hid (K.out.1.trans (hb.mono K.out.1.size))
      clear hb
      go_wp2_with fail
      go_ret
      exact bPost_of rfl HB.out
set_option maxRecDepth 100000 in
theorem matches_long (a : Option Addr) (n c : Nat) (p m : Int) (u : Nat) (w : World) (hn : n ≤ 9223372036854775807) (h : 200 < n) :
    Calls Try.prog 5 #[.slice a n c, .int .i64 p, .int .i64 m, .int .u64 (u : Int)] w (BPost true w) := by
  have hlong : decide ((200 : Int) < (n : Int)) = true := decide_eq_true (by omega)
  have hn1 : (n : Int) ≤ 9223372036854775807 := by omega
  clear h hn
  go_enter Try.func5, Try.ntmps5
  go_wp2_with fail
  refine (awake_call _).mono ?_; rintro e w1 ⟨rfl, hb1⟩
  have HB1 := Lib.hid hb1
  clear hb1
  go_wp2_with fail
  go_ret
  exact bPost_of rfl HB1.out
theorem matches_call (a : Option Addr) (n c : Nat) (xs : List Nat) (p m : Int) (u : Nat) (w : World) (h : U8s w a n xs) (hc : n ≤ c) (m0 : -9223372036854775808 ≤ m) (m1 : m ≤ 9223372036854775807) (hu : u < 2 ^ 64) :
    Calls Try.prog 5 #[.slice a n c, .int .i64 p, .int .i64 m, .int .u64 (u : Int)] w (BPost true w) := by
  by_cases hn : n ≤ 200
  · exact matches_go a n c xs p m u w h hc hn m0 m1 hu
  · exact matches_long a n c p m u w h.bound (by omega)
end Go.Proofs.Ythabecfajponfaa
