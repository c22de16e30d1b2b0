/-
  Layer 19 (assign): the law Matches.
-/
import Derived.Test.YtbehpkggmomgeaaAsgVc
import Derived.Test.YtbehpkggmomgeaaAsgR
namespace Go.Proofs.Ytbehpkggmomgeaa
open Go.RowKit AsgRows AsgMath MyHeap MyOwn

def OvK (g n : Nat) (w W : World) : Prop := Only g w W ∧ ∃ cs T, W.heap[g]? = some (.cells cs T (0, 0)) ∧ n * 2 ≤ cs.size
set_option maxRecDepth 100000 in
set_option maxHeartbeats 4000000 in
theorem overPairs_some (g n c : Nat) (w : World) (cs : Array Value) (T : TypeId) (h : w.heap[g]? = some (.cells cs T (0, 0))) (hn : n * 2 ≤ cs.size) (hm : n ≤ 1000000) :
    Calls Try.prog 17 #[.slice (some ⟨g, 0, none⟩) n c] w fun e w' => e = .returned (.tuple #[]) ∧ Only g w w' := by
  have K := Lib.hid (show OvK g n w w from ⟨Only.refl _ _, cs, T, h, hn⟩)
  clear h hn
  go_enter Try.func17, Try.ntmps17
  go_wp2_with fail
  go_loopw [2] (fun kv wr => ∃ k : Nat, k ≤ n ∧ kv = .int .i64 k ∧ OvK g n w wr) (fun kv _ => n - (intOf kv).toNat)
  case atStart => exact ⟨0, Nat.zero_le _, rfl, K.out⟩
  case round =>
    clear K
    obtain ⟨k, hk, rfl, hK⟩ := hrel
    have HK := Lib.hid hK
    by_cases hlt : k < n
    · obtain ⟨hO, ds, T', hd, hds⟩ := hK
      have hk0 : (0 : Int) ≤ (k : Int) := by omega
      have hk1 : (k : Int) < (n : Int) := by omega
      obtain ⟨u0, hu0⟩ : ∃ u0, ds[k * 2]? = some u0 := ⟨_, Array.getElem?_eq_getElem (by omega)⟩
      obtain ⟨u1, hu1⟩ : ∃ u1, ds[k * 2 + 1]? = some u1 := ⟨_, Array.getElem?_eq_getElem (by omega)⟩
      have x0 : wr.cell? ⟨g, k * 2, none⟩ = some u0 := cell_of_block hd hu0
      have f0 : wr.frozen? ⟨g, k * 2, none⟩ = false := free_of_block hd
      have x1 : wr.cell? ⟨g, k * 2 + 1, none⟩ = some u1 := cell_of_block hd hu1
      have f1 : wr.frozen? ⟨g, k * 2 + 1, none⟩ = false := free_of_block hd
      have ql := World.block_lt_of_cell? wr _ x0
      have HD := Lib.hid (And.intro hO (And.intro hd hds))
      clear hO hd hds hu0 hu1
      go_wp2_with fail
      go_roundw
      case rel => exact ⟨k + 1, by omega, by go_num, (HD.out.1.setCell (k * 2) _).setCell (k * 2 + 1) _, _, _, block_setCell (block_setCell HD.out.2.1), by simpa using HD.out.2.2⟩
      case measure => simp [intOf]; omega
    · obtain rfl : k = n := by omega
      clear hK
      go_wp2_with fail
      go_end0
      exact ⟨rfl, HK.out.1⟩
theorem overPairs_nil (w : World) : Calls Try.prog 17 #[.slice none 0 0] w fun e w' => e = .returned (.tuple #[]) ∧ w = w' := by
  go_enter Try.func17, Try.ntmps17
  go_wp2
  refine wp_loop_rounds 1 ?_
  rw [rounds_succ]
  go_wp2
  go_end0
  exact ⟨rfl, rfl⟩
theorem over_call (base : Nat) (v : Value) (n : Nat) (xs : List Value) (w : World) (h : w.ownsRow base 42 2 v n xs) (hb : base ≤ w.heap.size) (hm : n ≤ 1000000) : Calls Try.prog 17 #[v] w fun e w' => e = .returned (.tuple #[]) ∧ Below base w w' := by
  rcases h.2 with ⟨rfl, rfl⟩ | ⟨g, cap, cur, rfl, hg, hh, hc, hcm, hcs, ht⟩
  · refine (overPairs_nil _).mono ?_; rintro e w1 ⟨rfl, rfl⟩
    exact ⟨rfl, Below.refl _ _⟩
  · refine (overPairs_some g n cap _ cur _ hh (by omega) hm).mono ?_; rintro e w1 ⟨rfl, hO⟩
    exact ⟨rfl, hO.below hg hb⟩
theorem lensNone {w : World} : Lens w none 0 (fun _ => 0) := ⟨by decide, Or.inl rfl⟩

set_option maxRecDepth 100000 in
set_option maxHeartbeats 8000000 in
theorem matches_call (a : Option Addr) (n c : Nat) (L : List (List Int)) (w : World) (hM : Mtx w a n L) :
    Calls Try.prog 3 #[.slice a n c] w (BPost true w) := by
  have HM := Lib.hid hM
  clear hM
  go_enter Try.func3, Try.ntmps3
  go_wp2_with fail
  refine (long_call a _ n c 0 0 L (fun _ => 0) _ HM.out lensNone).mono ?_
  rintro e w1 ⟨r, rfl, rfl, hr⟩
  cases r with
  | true =>
    go_wp2_with fail
    refine (awake_call _).mono ?_; rintro e w1 ⟨rfl, hb⟩
    go_wp2_with fail
    go_ret
    exact bPost_of rfl hb
  | false =>
    obtain ⟨r1, r2, -⟩ := hr rfl
    have HR := Lib.hid r2
    have HL := Lib.hid HM.out.len
    clear hr r2
    rcases Nat.eq_zero_or_pos n with h0 | h0
    · subst h0
      have H9 := Lib.hid (show chM L = 0 → wid L ≤ 9 from fun _ => by have h := List.length_eq_zero_iff.1 HL.out; rw [h]; decide)
      go_wp2_with fail
      refine (copyRows_call _ _ c L _ HM.out (by omega) (fun i hi => by have := HR.out i hi; omega)).mono ?_
      rintro e w1 ⟨v, vs, rfl, hO, hb⟩
      obtain ⟨ao, co, rfl, hMo⟩ := mtx_own hO HL.out r1 HR.out
      have K0 := Lib.hid (And.intro hb hMo)
      clear hO hb hMo
      go_wp2_with fail
      refine (best_call ao _ co L _ K0.out.2).mono ?_
      rintro e w2 ⟨v, rfl, hOa, hb⟩
      obtain ⟨al, cl, rfl, hP⟩ := prsOwn hOa (by have := bsL_len (L := L); omega)
      have hln := bsL_len (L := L)
      obtain ⟨nl, hnl⟩ : ∃ x, (bsL L).length = x := ⟨_, rfl⟩
      have HNL := Lib.hid hnl
      rw [hnl] at hP hOa hln ⊢
      have K := Lib.hid (And.intro hb (And.intro hOa hP))
      clear hOa hb hP hnl
      go_wp2_with fail
      refine (rBest_call _ _ c L _ (HM.out.below (K0.out.1.trans (K.out.1.mono K0.out.1.size))) H9.out).mono ?_
      rintro e w3 ⟨v, rfl, hOb, hb⟩
      obtain ⟨bl, cb, rfl, hQ⟩ := prsOwn hOb (by have := bsL_len (L := L); omega)
      rw [HNL.out] at hQ ⊢
      replace K := Lib.hid (And.intro (K.out.1.trans (hb.mono K.out.1.size)) (And.intro (ownsRow_below K.out.2.1 hb (Nat.le_refl _)) (And.intro (K.out.2.2.below hb) hQ)))
      clear hOb hb hQ
      go_wp2_with fail
      refine (pCheck_call ao _ co L _ (K0.out.2.below K.out.1)).mono ?_; rintro e w4 ⟨rfl, hb⟩
      replace K := Lib.hid (And.intro (K.out.1.trans (hb.mono K.out.1.size)) (And.intro (ownsRow_below K.out.2.1 hb (Nat.le_refl _)) (And.intro (K.out.2.2.1.below hb) (K.out.2.2.2.below hb))))
      clear hb
      go_wp2_with fail
      refine (rCheck_call _ _ c L _ (HM.out.below (K0.out.1.trans (K.out.1.mono K0.out.1.size)))).mono ?_; rintro e w5 ⟨rfl, hb⟩
      replace K := Lib.hid (And.intro (K.out.1.trans (hb.mono K.out.1.size)) (And.intro (ownsRow_below K.out.2.1 hb (Nat.le_refl _)) (And.intro (K.out.2.2.1.below hb) (K.out.2.2.2.below hb))))
      clear hb
      obtain ⟨E, hE⟩ : ∃ E, chM L = E := ⟨_, rfl⟩
      rw [hE]
      have hEE : (E != E) = false := by simp
      clear hE
      go_wp2_with fail
      refine (equalPairs_call al bl nl nl cl cb (bsL L) (bsL L) _ K.out.2.2.1 K.out.2.2.2).mono ?_
      rintro e w6 ⟨rfl, hb⟩
      rw [decide_eq_true (rfl : bsL L = bsL L)]
      replace K := Lib.hid (And.intro (K.out.1.trans (hb.mono K.out.1.size)) (ownsRow_below K.out.2.1 hb (Nat.le_refl _)))
      clear hb
      go_wp2_with fail
      refine (over_call _ _ nl _ _ K.out.2 K.out.1.size (by omega)).mono ?_
      rintro e w7 ⟨rfl, hb⟩
      replace K := Lib.hid (K.out.1.trans hb)
      clear hb
      go_wp2_with fail
      refine (equalRows_call ao _ _ _ co c L L _ (K0.out.2.below K.out) (HM.out.below (K0.out.1.trans (K.out.mono K0.out.1.size)))).mono ?_
      rintro e w8 ⟨rfl, hb⟩
      rw [decide_eq_true (rfl : L = L)]
      replace K := Lib.hid (K0.out.1.trans ((K.out.trans (hb.mono K.out.size)).mono K0.out.1.size))
      clear hb
      go_wp2_with fail
      refine (awake_call _).mono ?_; rintro e w9 ⟨rfl, hb⟩
      go_wp2_with fail
      go_ret
      exact bPost_of rfl (K.out.trans (hb.mono K.out.size))
    · obtain ⟨b, off, r0, c0, -, -, rfl, x0, -⟩ := mtx_two HM.out (i := 0) h0
      have q0 := World.block_lt_of_cell? w _ x0
      have hn0 : (0 : Int) < (n : Int) := by omega
      obtain ⟨m, hm⟩ : ∃ m, wid L = m := ⟨_, rfl⟩
      have HW := Lib.hid hm
      rw [hm] at x0
      clear hm
      by_cases h9 : 9 < m
      · have hd9 : (9 : Int) < (m : Int) := by omega
        by_cases h16 : m ≤ 16
        · have hd16 : (m : Int) ≤ 16 := by omega
          go_wp2_with fail
          refine (awake_call _).mono ?_; rintro e w1 ⟨rfl, hb⟩
          go_wp2_with fail
          go_ret
          exact bPost_of rfl hb
        · have hd16 : ¬ (m : Int) ≤ 16 := by omega
          have H9 := Lib.hid (show chM L = 0 → wid L ≤ 9 from fun h => by have h1 := (chM_ok h).m16 (by rw [HL.out]; exact h0); rw [HW.out] at h1; omega)
          go_wp2_with fail
          refine (copyRows_call _ _ c L _ HM.out (by omega) (fun i hi => by have := HR.out i hi; omega)).mono ?_
          rintro e w1 ⟨v, vs, rfl, hO, hb⟩
          obtain ⟨ao, co, rfl, hMo⟩ := mtx_own hO HL.out r1 HR.out
          have K0 := Lib.hid (And.intro hb hMo)
          clear hO hb hMo
          go_wp2_with fail
          refine (best_call ao _ co L _ K0.out.2).mono ?_
          rintro e w2 ⟨v, rfl, hOa, hb⟩
          obtain ⟨al, cl, rfl, hP⟩ := prsOwn hOa (by have := bsL_len (L := L); omega)
          have hln := bsL_len (L := L)
          obtain ⟨nl, hnl⟩ : ∃ x, (bsL L).length = x := ⟨_, rfl⟩
          have HNL := Lib.hid hnl
          rw [hnl] at hP hOa hln ⊢
          have K := Lib.hid (And.intro hb (And.intro hOa hP))
          clear hOa hb hP hnl
          go_wp2_with fail
          refine (rBest_call _ _ c L _ (HM.out.below (K0.out.1.trans (K.out.1.mono K0.out.1.size))) H9.out).mono ?_
          rintro e w3 ⟨v, rfl, hOb, hb⟩
          obtain ⟨bl, cb, rfl, hQ⟩ := prsOwn hOb (by have := bsL_len (L := L); omega)
          rw [HNL.out] at hQ ⊢
          replace K := Lib.hid (And.intro (K.out.1.trans (hb.mono K.out.1.size)) (And.intro (ownsRow_below K.out.2.1 hb (Nat.le_refl _)) (And.intro (K.out.2.2.below hb) hQ)))
          clear hOb hb hQ
          go_wp2_with fail
          refine (pCheck_call ao _ co L _ (K0.out.2.below K.out.1)).mono ?_; rintro e w4 ⟨rfl, hb⟩
          replace K := Lib.hid (And.intro (K.out.1.trans (hb.mono K.out.1.size)) (And.intro (ownsRow_below K.out.2.1 hb (Nat.le_refl _)) (And.intro (K.out.2.2.1.below hb) (K.out.2.2.2.below hb))))
          clear hb
          go_wp2_with fail
          refine (rCheck_call _ _ c L _ (HM.out.below (K0.out.1.trans (K.out.1.mono K0.out.1.size)))).mono ?_; rintro e w5 ⟨rfl, hb⟩
          replace K := Lib.hid (And.intro (K.out.1.trans (hb.mono K.out.1.size)) (And.intro (ownsRow_below K.out.2.1 hb (Nat.le_refl _)) (And.intro (K.out.2.2.1.below hb) (K.out.2.2.2.below hb))))
          clear hb
          obtain ⟨E, hE⟩ : ∃ E, chM L = E := ⟨_, rfl⟩
          rw [hE]
          have hEE : (E != E) = false := by simp
          clear hE
          go_wp2_with fail
          refine (equalPairs_call al bl nl nl cl cb (bsL L) (bsL L) _ K.out.2.2.1 K.out.2.2.2).mono ?_
          rintro e w6 ⟨rfl, hb⟩
          rw [decide_eq_true (rfl : bsL L = bsL L)]
          replace K := Lib.hid (And.intro (K.out.1.trans (hb.mono K.out.1.size)) (ownsRow_below K.out.2.1 hb (Nat.le_refl _)))
          clear hb
          go_wp2_with fail
          refine (over_call _ _ nl _ _ K.out.2 K.out.1.size (by omega)).mono ?_
          rintro e w7 ⟨rfl, hb⟩
          replace K := Lib.hid (K.out.1.trans hb)
          clear hb
          go_wp2_with fail
          refine (equalRows_call ao _ _ _ co c L L _ (K0.out.2.below K.out) (HM.out.below (K0.out.1.trans (K.out.mono K0.out.1.size)))).mono ?_
          rintro e w8 ⟨rfl, hb⟩
          rw [decide_eq_true (rfl : L = L)]
          replace K := Lib.hid (K0.out.1.trans ((K.out.trans (hb.mono K.out.size)).mono K0.out.1.size))
          clear hb
          go_wp2_with fail
          refine (awake_call _).mono ?_; rintro e w9 ⟨rfl, hb⟩
          go_wp2_with fail
          go_ret
          exact bPost_of rfl (K.out.trans (hb.mono K.out.size))
      · have hd9 : ¬ (9 : Int) < (m : Int) := by omega
        have H9 := Lib.hid (show chM L = 0 → wid L ≤ 9 from fun h => by rw [HW.out]; omega)
        go_wp2_with fail
        refine (copyRows_call _ _ c L _ HM.out (by omega) (fun i hi => by have := HR.out i hi; omega)).mono ?_
        rintro e w1 ⟨v, vs, rfl, hO, hb⟩
        obtain ⟨ao, co, rfl, hMo⟩ := mtx_own hO HL.out r1 HR.out
        have K0 := Lib.hid (And.intro hb hMo)
        clear hO hb hMo
        go_wp2_with fail
        refine (best_call ao _ co L _ K0.out.2).mono ?_
        rintro e w2 ⟨v, rfl, hOa, hb⟩
        obtain ⟨al, cl, rfl, hP⟩ := prsOwn hOa (by have := bsL_len (L := L); omega)
        have hln := bsL_len (L := L)
        obtain ⟨nl, hnl⟩ : ∃ x, (bsL L).length = x := ⟨_, rfl⟩
        have HNL := Lib.hid hnl
        rw [hnl] at hP hOa hln ⊢
        have K := Lib.hid (And.intro hb (And.intro hOa hP))
        clear hOa hb hP hnl
        go_wp2_with fail
        refine (rBest_call _ _ c L _ (HM.out.below (K0.out.1.trans (K.out.1.mono K0.out.1.size))) H9.out).mono ?_
        rintro e w3 ⟨v, rfl, hOb, hb⟩
        obtain ⟨bl, cb, rfl, hQ⟩ := prsOwn hOb (by have := bsL_len (L := L); omega)
        rw [HNL.out] at hQ ⊢
        replace K := Lib.hid (And.intro (K.out.1.trans (hb.mono K.out.1.size)) (And.intro (ownsRow_below K.out.2.1 hb (Nat.le_refl _)) (And.intro (K.out.2.2.below hb) hQ)))
        clear hOb hb hQ
        go_wp2_with fail
        refine (pCheck_call ao _ co L _ (K0.out.2.below K.out.1)).mono ?_; rintro e w4 ⟨rfl, hb⟩
        replace K := Lib.hid (And.intro (K.out.1.trans (hb.mono K.out.1.size)) (And.intro (ownsRow_below K.out.2.1 hb (Nat.le_refl _)) (And.intro (K.out.2.2.1.below hb) (K.out.2.2.2.below hb))))
        clear hb
        go_wp2_with fail
        refine (rCheck_call _ _ c L _ (HM.out.below (K0.out.1.trans (K.out.1.mono K0.out.1.size)))).mono ?_; rintro e w5 ⟨rfl, hb⟩
        replace K := Lib.hid (And.intro (K.out.1.trans (hb.mono K.out.1.size)) (And.intro (ownsRow_below K.out.2.1 hb (Nat.le_refl _)) (And.intro (K.out.2.2.1.below hb) (K.out.2.2.2.below hb))))
        clear hb
        obtain ⟨E, hE⟩ : ∃ E, chM L = E := ⟨_, rfl⟩
        rw [hE]
        have hEE : (E != E) = false := by simp
        clear hE
        go_wp2_with fail
        refine (equalPairs_call al bl nl nl cl cb (bsL L) (bsL L) _ K.out.2.2.1 K.out.2.2.2).mono ?_
        rintro e w6 ⟨rfl, hb⟩
        rw [decide_eq_true (rfl : bsL L = bsL L)]
        replace K := Lib.hid (And.intro (K.out.1.trans (hb.mono K.out.1.size)) (ownsRow_below K.out.2.1 hb (Nat.le_refl _)))
        clear hb
        go_wp2_with fail
        refine (over_call _ _ nl _ _ K.out.2 K.out.1.size (by omega)).mono ?_
        rintro e w7 ⟨rfl, hb⟩
        replace K := Lib.hid (K.out.1.trans hb)
        clear hb
        go_wp2_with fail
        refine (equalRows_call ao _ _ _ co c L L _ (K0.out.2.below K.out) (HM.out.below (K0.out.1.trans (K.out.mono K0.out.1.size)))).mono ?_
        rintro e w8 ⟨rfl, hb⟩
        rw [decide_eq_true (rfl : L = L)]
        replace K := Lib.hid (K0.out.1.trans ((K.out.trans (hb.mono K.out.size)).mono K0.out.1.size))
        clear hb
        go_wp2_with fail
        refine (awake_call _).mono ?_; rintro e w9 ⟨rfl, hb⟩
        go_wp2_with fail
        go_ret
        exact bPost_of rfl (K.out.trans (hb.mono K.out.size))
end Go.Proofs.Ytbehpkggmomgeaa
