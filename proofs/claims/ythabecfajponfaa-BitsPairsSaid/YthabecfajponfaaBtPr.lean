/-
  Layer 1 (bits): the law Pairs, the walk.
-/
import Derived.Test.YthabecfajponfaaBtMt
import Derived.Test.YthabecfajponfaaBtW
import Derived.Test.YthabecfajponfaaBtZ
namespace Go.Proofs.Ythabecfajponfaa
open Go.RowKit BitsMath ParityMath TextMath MyHeap MyCopy MyOwn

def PrK (w0 : World) (aS : Option Addr) (nS : Nat) (ZS : List Nat) (aC : Option Addr) (nC : Nat) (ZC : List Nat) (W : World) : Prop := Below w0.heap.size w0 W ∧ U8s W aS nS ZS ∧ U8s W aC nC ZC
theorem PrK.keep {w0 W W' : World} {aS aC : Option Addr} {nS nC : Nat} {ZS ZC : List Nat} (h : PrK w0 aS nS ZS aC nC ZC W) (hb : Below W.heap.size W W') : PrK w0 aS nS ZS aC nC ZC W' := ⟨h.1.trans (hb.mono h.1.size), h.2.1.below hb, h.2.2.below hb⟩

set_option maxRecDepth 100000 in
set_option maxHeartbeats 16000000 in
theorem pairs_go (a a' : Option Addr) (n n' c c' : Nat) (xs ys : List Nat) (s : ByteArray) (w : World) (h : U8s w a n xs) (h' : U8s w a' n' ys) (hn : n ≤ 200) (hn' : n' ≤ 200) (hs : s.size ≤ 100) :
    Calls Try.prog 6 #[.slice a n c, .slice a' n' c', .string s] w (BPost true w) := by
  have HL := Lib.hid h
  have HL' := Lib.hid h'
  have hl := h.len
  have hlong : decide ((200 : Int) < (n : Int)) = false := decide_eq_false (by omega)
  have hlong' : decide ((200 : Int) < (n' : Int)) = false := decide_eq_false (by omega)
  have hlong2 : decide ((100 : Int) < (s.size : Int)) = false := decide_eq_false (by omega)
  have hsm : s.size ≤ 9223372036854775807 := by omega
  have HXL := Lib.hid (show (xr xs ys).length ≤ 1000 from by unfold xr; rw [List.length_zipWith, hl]; omega)
  have HPL := Lib.hid (show (prsL s.data.toList).length ≤ 1000 from by rw [prsL_len, Array.length_toList]; show 4 * s.size ≤ 1000; omega)
  clear h h' hl
  go_enter Try.func6, Try.ntmps6
  go_wp2_with fail
  refine (refXor_call a a' n n' c c' xs ys _ HL.out HL'.out).mono ?_; rintro e w1 ⟨v1, rfl, hO, hb⟩
  obtain ⟨aS, nS, cS, rfl, hUS, _, _⟩ := ownR_u8s hO HXL.out
  have B := Lib.hid hb
  have HI := Lib.hid hUS
  clear hb hO hUS
  go_wp2_with fail
  refine (refParse_call s hsm _).mono ?_; rintro e w2 ⟨v2, rfl, hO, hb⟩
  obtain ⟨aC, nC, cC, rfl, hUC, _, _⟩ := ownR_u8s hO HPL.out
  have K := Lib.hid (show PrK w aS nS (if xorE xs ys = 0 then xr xs ys else []) aC nC (if prsE s.data.toList = 0 then prsL s.data.toList else []) w2 from ⟨B.out.trans (hb.mono B.out.size), HI.out.below hb, hUC⟩)
  clear hb hO hUC B HI
  generalize hZS : (if xorE xs ys = 0 then xr xs ys else []) = ZS at *
  generalize hZC : (if prsE s.data.toList = 0 then prsL s.data.toList else []) = ZC at *
  have HZ := Lib.hid (And.intro hZS hZC)
  clear hZS hZC
  have e1 : (xorE xs ys != xorE xs ys) = false := by simp
  have e2 : (prsE s.data.toList != prsE s.data.toList) = false := by simp
  go_wp2_with fail
  go_loopw [11] (fun kv wr => ∃ k : Nat, k ≤ 2 ∧ kv = .int .i64 k ∧ PrK w aS nS ZS aC nC ZC wr) (fun kv _ => 2 - (intOf kv).toNat)
  case atStart => exact ⟨0, by omega, rfl, K.out⟩
  case round =>
    clear K
    obtain ⟨k, hk, rfl, hK⟩ := hrel
    have K := Lib.hid hK
    clear hK
    by_cases hlt : k < 2
    · have hk1 : (k : Int) < 2 := by omega
      obtain ⟨x1, hx1⟩ : ∃ x : World, x = wr := ⟨_, rfl⟩
      subst hx1
      go_wp2_with fail
      refine (Xor_call a a' n n' c c' xs ys _ (HL.out.below K.out.1) (HL'.out.below K.out.1)).mono ?_; rintro e x2 ⟨vY, rfl, hO, hb⟩
      obtain ⟨aY, nY, cY, rfl, hUY, hOY, hnY⟩ := ownR_u8s hO HXL.out
      rw [HZ.out.1] at hUY hOY
      have HY := Lib.hid (And.intro hUY (And.intro hOY hb))
      clear hb hO hUY hOY
      go_wp2_with fail
      refine (Parse_call s hsm _).mono ?_; rintro e x3 ⟨vW, rfl, hO, hb⟩
      obtain ⟨aW, nW, cW, rfl, hUW, hOW, hnW⟩ := ownR_u8s hO HPL.out
      rw [HZ.out.2] at hUW hOW
      have K2 := Lib.hid (show RdK x1 x2.heap.size aY nY cY ZS aW nW cW ZC x3 from ⟨HY.out.1.below hb, ownsRow_below HY.out.2.1 hb (Nat.le_refl _), hUW, hOW, HY.out.2.2.trans (hb.mono HY.out.2.2.size), hb.size, own_apart HY.out.2.1 hOW (Nat.le_refl _)⟩)
      have hB12 := HY.out.2.2.size
      obtain ⟨B2, hB2⟩ : ∃ B, x2.heap.size = B := ⟨_, rfl⟩
      rw [hB2] at K2 hB12
      clear hb hO hUW hOW HY hB2
      go_wp2_with fail
      refine (equalBits_call aY aS nY nS cY cS ZS ZS _ K2.out.uY (K.out.keep K2.out.bl).2.1).mono ?_; rintro e x8 ⟨rfl, hb⟩
      rw [decide_eq_true (rfl : ZS = ZS)]
      replace K2 := Lib.hid (K2.out.keep hb)
      clear hb
      go_wp2_with fail
      refine (equalBits_call aW aC nW nC cW cC ZC ZC _ K2.out.uW (K.out.keep K2.out.bl).2.2).mono ?_; rintro e x9 ⟨rfl, hb⟩
      rw [decide_eq_true (rfl : ZC = ZC)]
      replace K2 := Lib.hid (K2.out.keep hb)
      clear hb
      go_wp2_with fail
      refine (over_call x1.heap.size _ nY _ _ K2.out.oY K2.out.bl.size (by omega)).mono ?_; rintro e y8 ⟨rfl, hb, hg⟩
      have hW8 := Lib.hid (own_keep K2.out.oW hg K2.out.ap)
      have hB8 := Lib.hid (K2.out.bl.trans hb)
      have hx6 := Nat.le_trans K2.out.le hg.size
      have hx0 := K2.out.bl.size
      have hx7 := hB12
      clear hb hg
      go_wp2_with fail
      refine (over_call B2 _ nW _ _ hW8.out hx6 (by omega)).mono ?_; rintro e y9 ⟨rfl, hb, hg⟩
      have hB9 := Lib.hid (hB8.out.trans (hb.mono hx7))
      clear hb hg
      go_wp2_with fail
      go_roundw
      case rel => exact ⟨k + 1, by omega, by go_num, K.out.keep hB9.out⟩
      case measure => simp [intOf]; omega
    · have hk2 : (k : Int) = 2 := by omega
      rw [hk2]
      clear hk2 hlt hk
      go_wp2_with fail
      refine (awake_call _).mono ?_; rintro e x1 ⟨rfl, hb⟩
      have HB := Lib.hid (K.out.1.trans (hb.mono K.out.1.size))
      clear hb
      go_wp2_with fail
      go_ret
      exact bPost_of rfl HB.out
set_option maxRecDepth 100000 in
theorem pairs_long (a a' : Option Addr) (n n' c c' : Nat) (s : ByteArray) (w : World) (_hn : n ≤ 9223372036854775807) (_hn' : n' ≤ 9223372036854775807) (_hs : s.size ≤ 9223372036854775807) (b1 b2 b3 : Bool) (h1 : decide ((200 : Int) < (n : Int)) = b1) (h2 : decide ((200 : Int) < (n' : Int)) = b2) (h3 : decide ((100 : Int) < (s.size : Int)) = b3) (hor : b1 = true ∨ b1 = false ∧ b2 = true ∨ b1 = false ∧ b2 = false ∧ b3 = true) :
    Calls Try.prog 6 #[.slice a n c, .slice a' n' c', .string s] w (BPost true w) := by
  rcases hor with rfl | ⟨rfl, rfl⟩ | ⟨rfl, rfl, rfl⟩
  all_goals
    go_enter Try.func6, Try.ntmps6
    go_wp2_with fail
    refine (awake_call _).mono ?_; rintro e w1 ⟨rfl, hb1⟩
    have HB1 := Lib.hid hb1
    clear hb1
    go_wp2_with fail
    go_ret
    exact bPost_of rfl HB1.out
theorem pairs_call (a a' : Option Addr) (n n' c c' : Nat) (xs ys : List Nat) (s : ByteArray) (w : World) (h : U8s w a n xs) (h' : U8s w a' n' ys) (hsm : s.size ≤ 9223372036854775807) :
    Calls Try.prog 6 #[.slice a n c, .slice a' n' c', .string s] w (BPost true w) := by
  by_cases hn : n ≤ 200
  · by_cases hn' : n' ≤ 200
    · by_cases hs : s.size ≤ 100
      · exact pairs_go a a' n n' c c' xs ys s w h h' hn hn' hs
      · exact pairs_long a a' n n' c c' s w h.bound h'.bound hsm false false true (decide_eq_false (by omega)) (decide_eq_false (by omega)) (decide_eq_true (by omega)) (Or.inr (Or.inr ⟨rfl, rfl, rfl⟩))
    · exact pairs_long a a' n n' c c' s w h.bound h'.bound hsm false true _ (decide_eq_false (by omega)) (decide_eq_true (by omega)) rfl (Or.inr (Or.inl ⟨rfl, rfl⟩))
  · exact pairs_long a a' n n' c c' s w h.bound h'.bound hsm true _ _ (decide_eq_true (by omega)) rfl rfl (Or.inl rfl)
end Go.Proofs.Ythabecfajponfaa
