/-
  Layer 2 (parity): the law Matches, the walk.
-/
import Derived.Test.YtpfohhmhadjdpaaParY
namespace Go.Proofs.Ytpfohhmhadjdpaa
open Go.RowKit BitsMath ParityMath MyHeap MyCopy MyOwn

def MtK (w0 : World) (aI : Option Addr) (n : Nat) (xs : List Nat) (aS : Option Addr) (nS : Nat) (ZS : List Nat) (aC : Option Addr) (nC : Nat) (ZC : List Nat) (W : World) : Prop := Below w0.heap.size w0 W ∧ U8s W aI n xs ∧ U8s W aS nS ZS ∧ U8s W aC nC ZC
theorem MtK.keep {w0 W W' : World} {aI aS aC : Option Addr} {n nS nC : Nat} {xs ZS ZC : List Nat} (h : MtK w0 aI n xs aS nS ZS aC nC ZC W) (hb : Below W.heap.size W W') : MtK w0 aI n xs aS nS ZS aC nC ZC W' := ⟨h.1.trans (hb.mono h.1.size), h.2.1.below hb, h.2.2.1.below hb, h.2.2.2.below hb⟩
theorem own_keep {W W' : World} {b : Nat} {e : TypeId} {s : Nat} {v : Value} {n : Nat} {xs : List Value} {row : Option Nat} (h : W.ownsRow b e s v n xs) (hg : W.grownBy W' row) (ha : row = none ∨ v.ownBlock ≠ row) : W'.ownsRow b e s v n xs := by
  refine h.kept hg ?_
  rcases ha with rfl | ha
  · cases hv : v.ownBlock with
    | none => exact Or.inl rfl
    | some g => exact Or.inr (fun e => by cases e)
  · exact Or.inr ha
theorem corL_len (xs : List Nat) (ad : Int) : (corL xs ad).length = xs.length := by
  unfold corL
  split
  · rfl
  · exact fl_len _ _

set_option maxRecDepth 100000 in
set_option maxHeartbeats 16000000 in
theorem matches_go (a : Option Addr) (n c : Nat) (xs : List Nat) (ad : Int) (w : World) (h : U8s w a n xs) (hc : n ≤ c) (hcz : a = none → c = 0) (hn : n ≤ 200) :
    Calls Try.prog 6 #[.slice a n c, .int .i64 ad] w (BPost true w) := by
  have HL := Lib.hid h
  have hl := h.len
  have HLn := Lib.hid hl
  have hlong : decide ((200 : Int) < (n : Int)) = false := decide_eq_false (by omega)
  have HSL := Lib.hid (show (seaL xs ad.toNat).length ≤ 1000 from by rw [seaL_len, hl]; omega)
  have HCL := Lib.hid (show (corL xs ad).length ≤ 1000 from by rw [corL_len, hl]; omega)
  clear h hl
  go_enter Try.func6, Try.ntmps6
  go_wp2_with fail
  refine (copyBits_call a n c xs _ HL.out (by omega)).mono ?_; rintro e w1 ⟨v1, rfl, hO, hb⟩
  obtain ⟨aI, cI, rfl, hUI, hcI⟩ := own_u8s hO rfl (by rw [HLn.out]; omega)
  rw [HLn.out] at hUI hcI ⊢
  have B := Lib.hid hb
  have HI := Lib.hid hUI
  clear hb hO hUI
  go_wp2_with fail
  refine (rRem_call a n c xs _ (HL.out.below B.out) hcz).mono ?_; rintro e w2 ⟨rfl, hb⟩
  replace B := Lib.hid (B.out.trans (hb.mono B.out.size))
  replace HI := Lib.hid (HI.out.below hb)
  clear hb
  go_wp2_with fail
  refine (rSeal_call a n c xs ad _ (HL.out.below B.out) hcz).mono ?_; rintro e w3 ⟨v3, rfl, hO, hb⟩
  obtain ⟨aS, nS, cS, rfl, hUS, _, _⟩ := ownR_u8s hO HSL.out
  replace B := Lib.hid (B.out.trans (hb.mono B.out.size))
  replace HI := Lib.hid (And.intro (HI.out.below hb) hUS)
  clear hb hO hUS
  go_wp2_with fail
  refine (rAdr_call a n c xs _ (HL.out.below B.out) hc).mono ?_; rintro e w4 ⟨rfl, hb⟩
  replace B := Lib.hid (B.out.trans (hb.mono B.out.size))
  replace HI := Lib.hid (And.intro (HI.out.1.below hb) (HI.out.2.below hb))
  clear hb
  go_wp2_with fail
  refine (rCor_call a n c xs ad _ (HL.out.below B.out) hc hcz).mono ?_; rintro e w5 ⟨v5, rfl, hO, hb⟩
  obtain ⟨aC, nC, cC, rfl, hUC, _, _⟩ := ownR_u8s hO HCL.out
  have K := Lib.hid (show MtK w aI n xs aS nS (if seaE xs ad = 0 then seaL xs ad.toNat else []) aC nC (if corE xs ad = 0 then corL xs ad else []) w5 from ⟨B.out.trans (hb.mono B.out.size), HI.out.1.below hb, HI.out.2.below hb, hUC⟩)
  clear hb hO hUC B HI
  generalize hZS : (if seaE xs ad = 0 then seaL xs ad.toNat else []) = ZS at *
  generalize hZC : (if corE xs ad = 0 then corL xs ad else []) = ZC at *
  have HZ := Lib.hid (And.intro hZS hZC)
  clear hZS hZC
  have e1 : (remR xs != remR xs) = false := by simp
  have e2 : (remE xs != remE xs) = false := by simp
  have e3 : (seaE xs ad != seaE xs ad) = false := by simp
  have e4 : (adrR xs != adrR xs) = false := by simp
  have e5 : (adrE xs != adrE xs) = false := by simp
  have e6 : (corA xs ad != corA xs ad) = false := by simp
  have e7 : (corE xs ad != corE xs ad) = false := by simp
  go_wp2_with fail
  go_loopw [15] (fun kv wr => ∃ k : Nat, k ≤ 2 ∧ kv = .int .i64 k ∧ MtK w aI n xs aS nS ZS aC nC ZC wr) (fun kv _ => 2 - (intOf kv).toNat)
  case atStart => exact ⟨0, by omega, rfl, K.out⟩
  case round =>
    clear K
    obtain ⟨k, hk, rfl, hK⟩ := hrel
    have K := Lib.hid hK
    clear hK
    by_cases hlt : k < 2
    · have hk1 : (k : Int) < 2 := by omega
      go_wp2_with fail
      refine (Remainder_call aI n cI xs _ K.out.2.1).mono ?_; rintro e x1 ⟨rfl, hb⟩
      replace K := Lib.hid (K.out.keep hb)
      clear hb
      go_wp2_with fail
      refine (Seal_call aI n cI xs ad _ K.out.2.1).mono ?_; rintro e x2 ⟨vY, rfl, hO, hb⟩
      obtain ⟨aY, nY, cY, rfl, hUY, hOY, hnY⟩ := ownR_u8s hO HSL.out
      rw [HZ.out.1] at hUY hOY
      have K2 := Lib.hid (And.intro (And.intro hUY hOY) hb)
      clear hb hO hUY hOY
      go_wp2_with fail
      refine (Address_call aI n cI xs _ (K.out.keep K2.out.2).2.1 hcI).mono ?_; rintro e x3 ⟨rfl, hb⟩
      replace K2 := Lib.hid (And.intro (And.intro (K2.out.1.1.below hb) (ownsRow_below K2.out.1.2 hb (Nat.le_refl _))) (K2.out.2.trans (hb.mono K2.out.2.size)))
      clear hb
      go_wp2_with fail
      refine (Correct_call aI n cI xs ad _ (K.out.keep K2.out.2).2.1 hcI).mono ?_; rintro e x4 ⟨vW, rfl, hO, hb⟩
      obtain ⟨aW, nW, cW, rfl, hUW, hOW, hnW⟩ := ownR_u8s hO HCL.out
      rw [HZ.out.2] at hUW hOW
      have K3 := Lib.hid (show (U8s x4 aW nW ZC ∧ x4.ownsRow x3.heap.size 5 1 (.slice aW nW cW) nW (flatU ZC) ∧ (Value.ownBlock (.slice aY nY cY) = none ∨ Value.ownBlock (.slice aW nW cW) ≠ Value.ownBlock (.slice aY nY cY))) from ⟨hUW, hOW, own_apart K2.out.1.2 hOW (Nat.le_refl _)⟩)
      have hx1 := K2.out.2.size
      replace K2 := Lib.hid (And.intro (And.intro (K2.out.1.1.below hb) (ownsRow_below K2.out.1.2 hb (Nat.le_refl _))) (K2.out.2.trans (hb.mono K2.out.2.size)))
      have hx2 := hb.size
      clear hb hO hUW hOW
      go_wp2_with fail
      refine (equalBits_call aY aS nY nS cY cS ZS ZS _ K2.out.1.1 (K.out.keep K2.out.2).2.2.1).mono ?_; rintro e x5 ⟨rfl, hb⟩
      rw [decide_eq_true (rfl : ZS = ZS)]
      replace K3 := Lib.hid (show U8s x5 aW nW ZC ∧ x5.ownsRow x3.heap.size 5 1 (.slice aW nW cW) nW (flatU ZC) ∧ _ from ⟨K3.out.1.below hb, ownsRow_below K3.out.2.1 hb (Nat.le_refl _), K3.out.2.2⟩)
      replace K2 := Lib.hid (And.intro (And.intro (K2.out.1.1.below hb) (ownsRow_below K2.out.1.2 hb (Nat.le_refl _))) (K2.out.2.trans (hb.mono K2.out.2.size)))
      have hx3 := hb.size
      clear hb
      go_wp2_with fail
      refine (equalBits_call aW aC nW nC cW cC ZC ZC _ K3.out.1 (K.out.keep K2.out.2).2.2.2).mono ?_; rintro e x6 ⟨rfl, hb⟩
      rw [decide_eq_true (rfl : ZC = ZC)]
      replace K3 := Lib.hid (show U8s x6 aW nW ZC ∧ x6.ownsRow x3.heap.size 5 1 (.slice aW nW cW) nW (flatU ZC) ∧ _ from ⟨K3.out.1.below hb, ownsRow_below K3.out.2.1 hb (Nat.le_refl _), K3.out.2.2⟩)
      replace K2 := Lib.hid (And.intro (And.intro (K2.out.1.1.below hb) (ownsRow_below K2.out.1.2 hb (Nat.le_refl _))) (K2.out.2.trans (hb.mono K2.out.2.size)))
      have hx4 := hb.size
      clear hb
      go_wp2_with fail
      refine (equalBits_call aI a n n cI c xs xs _ (K.out.keep K2.out.2).2.1 (HL.out.below (K.out.keep K2.out.2).1)).mono ?_; rintro e x7 ⟨rfl, hb⟩
      rw [decide_eq_true (rfl : xs = xs)]
      replace K3 := Lib.hid (show U8s x7 aW nW ZC ∧ x7.ownsRow x3.heap.size 5 1 (.slice aW nW cW) nW (flatU ZC) ∧ _ from ⟨K3.out.1.below hb, ownsRow_below K3.out.2.1 hb (Nat.le_refl _), K3.out.2.2⟩)
      replace K2 := Lib.hid (And.intro (And.intro (K2.out.1.1.below hb) (ownsRow_below K2.out.1.2 hb (Nat.le_refl _))) (K2.out.2.trans (hb.mono K2.out.2.size)))
      have hx5 := hb.size
      clear hb
      go_wp2_with fail
      refine (over_call x1.heap.size _ nY _ _ K2.out.1.2 K2.out.2.size (by omega)).mono ?_; rintro e x8 ⟨rfl, hb, hg⟩
      have hW8 := Lib.hid (own_keep K3.out.2.1 hg K3.out.2.2)
      have hB8 := Lib.hid (K2.out.2.trans hb)
      have hx6 := hg.size
      clear hb hg
      go_wp2_with fail
      refine (over_call x3.heap.size _ nW _ _ hW8.out (by omega) (by omega)).mono ?_; rintro e x9 ⟨rfl, hb, hg⟩
      have hB9 := Lib.hid (hB8.out.trans (hb.mono hx1))
      clear hb hg
      go_wp2_with fail
      go_roundw
      case rel => exact ⟨k + 1, by omega, by go_num, K.out.keep hB9.out⟩
      case measure => simp [intOf]; omega
    · have hk2 : (k : Int) = 2 := by omega
      rw [hk2]
      clear hk2 hlt hk
      go_wp2_with fail
      refine (awake_call _).mono ?_; rintro e x1 ⟨rfl, hb⟩
      have HB := Lib.hid (K.out.1.trans (hb.mono K.out.1.size))
      clear hb
      go_wp2_with fail
      go_ret
      exact bPost_of rfl HB.out
set_option maxRecDepth 100000 in
theorem matches_long (a : Option Addr) (n c : Nat) (ad : Int) (w : World) (hn : n ≤ 9223372036854775807) (h : 200 < n) :
    Calls Try.prog 6 #[.slice a n c, .int .i64 ad] w (BPost true w) := by
  have hlong : decide ((200 : Int) < (n : Int)) = true := decide_eq_true (by omega)
  have hn1 : (n : Int) ≤ 9223372036854775807 := by omega
  clear h hn
  go_enter Try.func6, Try.ntmps6
  go_wp2_with fail
  refine (awake_call _).mono ?_; rintro e w1 ⟨rfl, hb1⟩
  have HB1 := Lib.hid hb1
  clear hb1
  go_wp2_with fail
  go_ret
  exact bPost_of rfl HB1.out
theorem matches_call (a : Option Addr) (n c : Nat) (xs : List Nat) (ad : Int) (w : World) (h : U8s w a n xs) (hc : n ≤ c) (hcz : a = none → c = 0) :
    Calls Try.prog 6 #[.slice a n c, .int .i64 ad] w (BPost true w) := by
  by_cases hn : n ≤ 200
  · exact matches_go a n c xs ad w h hc hcz hn
  · exact matches_long a n c ad w h.bound (by omega)
end Go.Proofs.Ytpfohhmhadjdpaa
