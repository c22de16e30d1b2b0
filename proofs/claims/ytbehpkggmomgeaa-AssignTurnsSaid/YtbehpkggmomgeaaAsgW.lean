/-
  Layer 19 (assign): the law Best.
-/
import Derived.Test.YtbehpkggmomgeaaAsgV
import Derived.Test.YtbehpkggmomgeaaAsgM
import Derived.Test.YtbehpkggmomgeaaAsgQ
namespace Go.Proofs.Ytbehpkggmomgeaa
open Go.RowKit AsgRows AsgMath MyHeap MyOwn MyCopy

theorem lens_none {w : World} : Lens w none 0 (fun _ => 0) := ⟨by decide, Or.inl rfl⟩
theorem infoBool : (Try.prog.info? 4).map (fun i => (i.zero, i.size, i.bytes)) = some (some (.bool false), 1, 1) := by kernel_rfl
theorem hmkB (n : Nat) (hn : n ≤ 1000) (W : World) : (Instr.makeSlice 49 (.int .i64 (n : Int)) (.int .i64 (n : Int))).run Try.prog W = .ok (.slice (some ⟨W.heap.size, 0, none⟩) n n) (W.alloc (.cells (madeCells #[.bool false] n) 4)) := by
  obtain ⟨i0, hi, hiz, his, hib⟩ := info_parts' infoBool
  have h := run_make W 49 4 i0 _ Try.underlying49 hi hiz .i64 .i64 (n : Int) (n : Int) (by omega) (by omega) (by rw [hib]; omega) (by omega)
  rw [Int.toNat_natCast, his, Nat.mul_one] at h
  exact h
theorem usd_made {W : World} {b m : Nat} (h : W.heap[b]? = some (.cells (madeCells #[.bool false] m) 4 (0, 0))) : Usd W b m (fun _ => false) := by
  have hl : (madeCells #[.bool false] m).toList = List.replicate m (.bool false) := toList_madeCells_one _ _
  refine ⟨_, h, by rw [← Array.length_toList, hl, List.length_replicate], fun k hk => ?_⟩
  rw [← Array.getElem?_toList, hl, List.getElem?_replicate, if_pos hk]
/-- The best assignment has no error. -/
theorem best_ok {L : List (List Int)} (h0 : chM L = 0) : AsgRows.coE L (bsL L) = 0 ∧ bsL L = toPm (bestM L) := by
  have e : bsL L = toPm (bestM L) := if_pos h0
  obtain ⟨T', h⟩ := Pv.best (L := L) rfl rfl L.length [] (fun _ => false) (Nat.le_refl _) (by rw [Nat.sub_self]; exact Pv.nil)
  rw [List.nil_append] at h
  exact ⟨by rw [e]; exact h.coE h0, e⟩

set_option maxRecDepth 100000 in
set_option maxHeartbeats 8000000 in
theorem bestlaw_call (a : Option Addr) (n c : Nat) (L : List (List Int)) (w : World) (hM : Mtx w a n L) :
    Calls Try.prog 7 #[.slice a n c] w (BPost true w) := by
  have HM0 := Lib.hid hM
  clear hM
  go_enter Try.func7, Try.ntmps7
  go_wp2_with fail
  refine (long_call a _ n c 0 0 L (fun _ => 0) _ HM0.out lens_none).mono ?_
  rintro e w1 ⟨r, rfl, rfl, hr⟩
  cases r with
  | true =>
    go_wp2_with fail
    refine (awake_call _).mono ?_; rintro e w1 ⟨rfl, hb⟩
    go_wp2_with fail
    go_ret
    exact bPost_of rfl hb
  | false =>
    go_wp2_with fail
    refine (awake_call _).mono ?_; rintro e w1 ⟨rfl, hb⟩
    have K := Lib.hid hb
    clear hb hr
    go_wp2_with fail
    refine (best_call a n c L _ (HM0.out.below K.out)).mono ?_
    rintro e w2 ⟨v, rfl, hO, hb⟩
    obtain ⟨al, cl, rfl, hP⟩ := prsOwn hO (by have := bsL_len (L := L); omega)
    obtain ⟨nl, hnl⟩ : ∃ x, (bsL L).length = x := ⟨_, rfl⟩
    have HNL := Lib.hid hnl
    rw [hnl] at hP ⊢
    replace K := Lib.hid (And.intro (K.out.trans (hb.mono K.out.size)) hP)
    clear hO hb hP hnl
    by_cases hE : chM L = 0
    · have HE := Lib.hid hE
      have HM := Lib.hid (Ma.of HM0.out hE)
      have m16 := HM.out.m16
      have n16 : n ≤ 16 := by have := HM.out.ok.n16; rw [HM.out.M.len] at this; exact this
      have HB := Lib.hid (best_ok hE)
      rw [hE]
      clear hE
      go_wp2_with fail
      refine (pCost_call a al n c nl cl L (bsL L) _ (HM0.out.below K.out.1) K.out.2).mono ?_
      rintro e w3 ⟨rfl, hb⟩
      rw [HB.out.1]
      replace K := Lib.hid (And.intro (K.out.1.trans (hb.mono K.out.1.size)) (K.out.2.below hb))
      generalize AsgRows.coS L (bsL L) = S at *
      clear hb
      by_cases hn0 : n = 0
      · subst hn0
        go_wp2_with fail
        go_ret
        exact bPost_of rfl K.out.1
      · have hn1 : (0 : Int) < (n : Int) := by omega
        have hne : ((n : Int) == 0) = false := by rw [beq_eq_false_iff_ne]; omega
        by_cases hn5 : 5 < n
        · have hg : (5 : Int) < (n : Int) := by omega
          go_wp2_with fail
          go_ret
          exact bPost_of rfl K.out.1
        · have hg : ¬ (5 : Int) < (n : Int) := by omega
          obtain ⟨b, off, r0, c0, -, -, rfl, x0, -⟩ := mtx_two (HM0.out.below K.out.1) (i := 0) (by omega)
          have q0 := World.block_lt_of_cell? w3 _ x0
          obtain ⟨m, hm⟩ : ∃ m, wid L = m := ⟨_, rfl⟩
          rw [hm] at HM m16 x0
          have HW := Lib.hid hm
          clear hm hn0
          by_cases hm5 : 5 < m
          · have hg2 : (5 : Int) < (m : Int) := by omega
            go_wp2_with fail
            go_ret
            exact bPost_of rfl K.out.1
          · have hg2 : ¬ (5 : Int) < (m : Int) := by omega
            have mk := hmkB m (by omega)
            have HU := Lib.hid (usd_made (block_new w3 (.cells (madeCells #[.bool false] m) 4 (0, 0)) rfl))
            have K2 := Lib.hid (And.intro (K.out.1.alloc K.out.1.size (.cells (madeCells #[.bool false] m) 4)) K.out.2)
            have hub : w.heap.size ≤ w3.heap.size := K.out.1.size
            have hlt : w3.heap.size < (w3.alloc (.cells (madeCells #[.bool false] m) 4)).heap.size := HU.out.lt
            clear K
            go_wp2_with fail
            have hPl : Pl (w3.alloc (.cells (madeCells #[.bool false] m) 4)) w3.heap.size none 0 0 [] := ⟨⟨rfl, by decide, Or.inl rfl⟩, fun _ => ⟨rfl, rfl⟩, fun _ _ _ e => by cases e⟩
            have hc := tried_call (some ⟨b, off, none⟩) n c m L w HM.out HE.out n 0 (Nat.zero_add n) [] (fun _ => false) none 0 0 w3.heap.size m _ K2.out.1 hub hPl Pv.nil (Nat.le_refl _) HU.out
            refine hc.mono ?_; clear hc hPl
            rintro e w4 ⟨at1, kt, ct, rfl, hP, hO, -⟩
            rw [List.nil_append] at hP
            have hbm : bestL (AsgRows.ent L) n m n (fun _ => false) = bestM L := by unfold bestM; rw [HM0.out.len, HW.out]
            rw [hbm] at hP
            have hB4 : Below w3.heap.size (w3.alloc (.cells (madeCells #[.bool false] m) 4)) w4 := hO.below (Nat.le_refl _) (by omega)
            have hB3 : Below w3.heap.size w3 w4 := (below_alloc w3 _).trans hB4
            have hPl4 := K2.out.2.below hB3
            have hP2 := hP.P
            rw [show toPm (bestM L) = bsL L from HB.out.2.symm] at hP2
            have K4 := Lib.hid (And.intro (K2.out.1.trans (hO.below (Nat.le_trans hub (Nat.le_refl _)) K2.out.1.size)) (And.intro hPl4 hP2))
            clear hP hO hB4 hB3 hPl4 hP2 hbm
            go_wp2_with fail
            refine (equalPairs_call al at1 nl kt cl ct (bsL L) (bsL L) _ K4.out.2.1 K4.out.2.2).mono ?_
            rintro e w5 ⟨rfl, hb⟩
            rw [decide_eq_true (rfl : bsL L = bsL L)]
            go_wp2_with fail
            go_ret
            exact bPost_of rfl (K4.out.1.trans (hb.mono K4.out.1.size))
    · have hne : (chM L != 0) = true := by rw [bne_iff_ne]; exact hE
      have hz : nl = 0 := by rw [← HNL.out]; unfold bsL; rw [if_neg hE]; rfl
      obtain ⟨E, hE2⟩ : ∃ E, chM L = E := ⟨_, rfl⟩
      rw [hE2] at hne ⊢
      subst hz
      clear hE hE2
      go_wp2_with fail
      go_ret
      exact bPost_of rfl K.out.1
end Go.Proofs.Ytbehpkggmomgeaa
