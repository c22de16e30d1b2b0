/-
  Layer 19 (assign): the law Costs.
-/
import Derived.Test.YtbehpkggmomgeaaAsgM
import Derived.Test.YtbehpkggmomgeaaAsgJ
import Derived.Test.YtbehpkggmomgeaaAsgP
import Derived.Test.YtbehpkggmomgeaaAsgQ
import Derived.Test.YtbehpkggmomgeaaPairLib
namespace Go.Proofs.Ytbehpkggmomgeaa
open Go.RowKit AsgRows AsgMath MyHeap MyOwn

theorem prs_rd {w : World} {a : Option Addr} {n : Nat} {l : List (Int × Int)} (h : Go.MyPair.Rd w a n l) (hm : n ≤ 1000000) : Prs w a n l := ⟨h.len, hm, h.cells⟩
theorem mtx_own {W : World} {base n : Nat} {v : Value} {vs : List Value} {L : List (List Int)} (h : OwnM W base v vs L) (hl : L.length = n) (hn : n ≤ 20) (hr : ∀ i, i < n → (rowL L i).length ≤ 20) : ∃ a c, v = .slice a n c ∧ Mtx W a n L := by
  subst hl
  exact h.mtx (by omega) (fun i hi => by have := hr i hi; omega)
/-- Two lists, as Long takes them. -/
theorem lens_two {W : World} {b n1 c1 n2 c2 : Nat} {a1 a2 : Option Addr} (h : W.heap[b]? = some (.cells #[.slice a1 n1 c1, .slice a2 n2 c2] 27 (0, 0))) : Lens W (some ⟨b, 0, none⟩) 2 (fun i => if i = 0 then n1 else n2) := by
  refine ⟨by decide, Or.inr ⟨b, 0, rfl, fun i hi => ?_⟩⟩
  have : i = 0 ∨ i = 1 := by omega
  rcases this with rfl | rfl
  · exact ⟨a1, c1, cell_of_block h rfl⟩
  · exact ⟨a2, c2, cell_of_block h rfl⟩

set_option maxRecDepth 100000 in
set_option maxHeartbeats 8000000 in
theorem costs_call (a a1 a2 : Option Addr) (n c n1 c1 n2 c2 : Nat) (L : List (List Int)) (ps qs : List (Int × Int)) (w : World) (hM : Mtx w a n L) (hP : Go.MyPair.Rd w a1 n1 ps) (hQ : Go.MyPair.Rd w a2 n2 qs) (hn1 : a1 = none → n1 = 0 ∧ c1 = 0) (hn2 : a2 = none → n2 = 0 ∧ c2 = 0) :
    Calls Try.prog 6 #[.slice a n c, .slice a1 n1 c1, .slice a2 n2 c2] w (BPost true w) := by
  have HM := Lib.hid hM
  have HP0 := Lib.hid (And.intro hP hQ)
  have HN := Lib.hid (And.intro hn1 hn2)
  have B0 := Lib.hid (below_alloc w (.cells #[.slice a1 n1 c1, .slice a2 n2 c2] 27 (0, 0)))
  clear hM hP hQ hn1 hn2
  go_enter Try.func6, Try.ntmps6
  go_wp2_with fail
  refine (long_call a _ n c 2 2 L (fun i => if i = 0 then n1 else n2) _ (HM.out.below B0.out) (lens_two (block_new _ _ rfl))).mono ?_
  rintro e w1 ⟨r, rfl, rfl, hr⟩
  cases r with
  | true =>
    go_wp2_with fail
    refine (awake_call _).mono ?_; rintro e w1 ⟨rfl, hb⟩
    go_wp2_with fail
    go_ret
    exact bPost_of rfl (B0.out.trans (hb.mono B0.out.size))
  | false =>
    obtain ⟨r1, r2, r3⟩ := hr rfl
    have r4 : n1 ≤ 20 := r3 0 (by decide)
    have r5 : n2 ≤ 20 := r3 1 (by decide)
    have HR := Lib.hid r2
    have HP := Lib.hid (prs_rd HP0.out.1 (by omega))
    have HQ := Lib.hid (prs_rd HP0.out.2 (by omega))
    clear hr r2 r3
    generalize w.alloc (.cells #[.slice a1 n1 c1, .slice a2 n2 c2] 27) = w0 at *
    go_wp2_with fail
    refine (copyRows_call a n c L _ (HM.out.below B0.out) (by omega) (fun i hi => by have := HR.out i hi; omega)).mono ?_
    rintro e w1 ⟨v, vs, rfl, hO, hb⟩
    obtain ⟨ao, co, rfl, hMo⟩ := mtx_own hO HM.out.len r1 HR.out
    have K := Lib.hid (And.intro (B0.out.trans (hb.mono B0.out.size)) hMo)
    clear hO hb hMo
    go_wp2_with fail
    refine (copyPairs_call a1 n1 c1 ps _ (HP.out.below K.out.1) HN.out.1 (by omega)).mono ?_
    rintro e w2 ⟨v, rfl, hO, hb⟩
    obtain ⟨ax, cx, rfl, hX⟩ := prsOwn hO (by rw [HP.out.len]; omega)
    rw [HP.out.len] at hX ⊢
    have K2 := Lib.hid (And.intro (K.out.1.trans (hb.mono K.out.1.size)) (And.intro (K.out.2.below hb) hX))
    clear hO hb hX K
    go_wp2_with fail
    refine (copyPairs_call a2 n2 c2 qs _ (HQ.out.below K2.out.1) HN.out.2 (by omega)).mono ?_
    rintro e w3 ⟨v, rfl, hO, hb⟩
    obtain ⟨ay, cy, rfl, hY⟩ := prsOwn hO (by rw [HQ.out.len]; omega)
    rw [HQ.out.len] at hY ⊢
    have K := Lib.hid (And.intro (K2.out.1.trans (hb.mono K2.out.1.size)) (And.intro (K2.out.2.1.below hb) (And.intro (K2.out.2.2.below hb) hY)))
    clear hO hb hY K2
    go_wp2_with fail
    refine (pCost_call ao ax n co n1 cx L ps _ K.out.2.1 K.out.2.2.1).mono ?_
    rintro e w4 ⟨rfl, hb⟩
    replace K := Lib.hid (And.intro (K.out.1.trans (hb.mono K.out.1.size)) (And.intro (K.out.2.1.below hb) (And.intro (K.out.2.2.1.below hb) (K.out.2.2.2.below hb))))
    clear hb
    go_wp2_with fail
    refine (rCost_call a a1 n c n1 c1 L ps _ (HM.out.below K.out.1) (HP.out.below K.out.1)).mono ?_
    rintro e w5 ⟨rfl, hb⟩
    replace K := Lib.hid (And.intro (K.out.1.trans (hb.mono K.out.1.size)) (And.intro (K.out.2.1.below hb) (And.intro (K.out.2.2.1.below hb) (K.out.2.2.2.below hb))))
    clear hb
    go_wp2_with fail
    refine (pBetter_call ao ax ay n co n1 cx n2 cy L ps qs _ K.out.2.1 K.out.2.2.1 K.out.2.2.2).mono ?_
    rintro e w6 ⟨rfl, hb⟩
    replace K := Lib.hid (And.intro (K.out.1.trans (hb.mono K.out.1.size)) (And.intro (K.out.2.1.below hb) (And.intro (K.out.2.2.1.below hb) (K.out.2.2.2.below hb))))
    clear hb
    go_wp2_with fail
    refine (rBetter_call a a1 a2 n c n1 c1 n2 c2 L ps qs _ (HM.out.below K.out.1) (HP.out.below K.out.1) (HQ.out.below K.out.1)).mono ?_
    rintro e w7 ⟨rfl, hb⟩
    replace K := Lib.hid (And.intro (K.out.1.trans (hb.mono K.out.1.size)) (And.intro (K.out.2.1.below hb) (And.intro (K.out.2.2.1.below hb) (K.out.2.2.2.below hb))))
    clear hb
    generalize coS L ps = S1 at *
    generalize coE L ps = E1 at *
    generalize btE L ps qs = E2 at *
    generalize btB L ps qs = R2 at *
    have h1 : (S1 == S1) = true := by simp
    have h2 : (E1 == E1) = true := by simp
    have h3 : (E2 == E2) = true := by simp
    have h4 : (R2 == R2) = true := by simp
    go_wp2_with fail
    refine (equalRows_call ao a n n co c L L _ K.out.2.1 (HM.out.below K.out.1)).mono ?_
    rintro e w8 ⟨rfl, hb⟩
    rw [decide_eq_true (rfl : L = L)]
    replace K := Lib.hid (And.intro (K.out.1.trans (hb.mono K.out.1.size)) (And.intro (K.out.2.1.below hb) (And.intro (K.out.2.2.1.below hb) (K.out.2.2.2.below hb))))
    clear hb
    go_wp2_with fail
    refine (equalPairs_call ax a1 n1 n1 cx c1 ps ps _ K.out.2.2.1 (HP.out.below K.out.1)).mono ?_
    rintro e w9 ⟨rfl, hb⟩
    rw [decide_eq_true (rfl : ps = ps)]
    replace K := Lib.hid (And.intro (K.out.1.trans (hb.mono K.out.1.size)) (And.intro (K.out.2.1.below hb) (And.intro (K.out.2.2.1.below hb) (K.out.2.2.2.below hb))))
    clear hb
    go_wp2_with fail
    refine (equalPairs_call ay a2 n2 n2 cy c2 qs qs _ K.out.2.2.2 (HQ.out.below K.out.1)).mono ?_
    rintro e w10 ⟨rfl, hb⟩
    rw [decide_eq_true (rfl : qs = qs)]
    replace K := Lib.hid (And.intro (K.out.1.trans (hb.mono K.out.1.size)) (And.intro (K.out.2.1.below hb) (And.intro (K.out.2.2.1.below hb) (K.out.2.2.2.below hb))))
    clear hb
    go_wp2_with fail
    refine (awake_call _).mono ?_; rintro e w11 ⟨rfl, hb⟩
    replace K := Lib.hid (And.intro (K.out.1.trans (hb.mono K.out.1.size)) (And.intro (K.out.2.1.below hb) (And.intro (K.out.2.2.1.below hb) (K.out.2.2.2.below hb))))
    clear hb
    go_wp2_with fail
    go_ret
    exact bPost_of rfl K.out.1
end Go.Proofs.Ytbehpkggmomgeaa
