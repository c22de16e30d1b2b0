/-
  Layer 36 (plane): the law PlaneReach where Reach and Path have no error. Printed by genPlaneT.py.
-/
import Derived.Test.YthaokofhepngbaaPlaneS
import Derived.Test.YthaokofhepngbaaPlaneMathE
namespace Go.Proofs.Ythaokofhepngbaa
open Go.RowKit PlaneMath MyHeap MyOwn

theorem pthL_ok {z v pull : Int} {l : List (Int × Int)} {n : Nat} (h : pthE z v pull l = 0) (hn : l.length = n) : pthL z v pull l = psts pull l z v (n + 1) := by
  subst hn
  unfold pthL
  rw [if_pos h]
theorem prs_last {w : World} {a : Option Addr} {n : Nat} {pull : Int} {l : List (Int × Int)} {z v : Int} (h : Prs w a (psts pull l z v (n + 1)).length (psts pull l z v (n + 1))) : ∃ b off, a = some ⟨b, off, none⟩ ∧ w.cell? ⟨b, off + n * 2, none⟩ = some (.int .i64 (pst pull l n z v).1) := by
  obtain ⟨b, off, e, h0, _⟩ := prs_at h (k := n) (by rw [psts_length]; omega)
  rw [psts_get pull l z v (Nat.lt_succ_self n)] at h0
  exact ⟨b, off, e, h0⟩

set_option maxRecDepth 100000 in
set_option maxHeartbeats 16000000 in
theorem ReachLaw_good (a : Option Addr) (n c : Nat) (l : List (Int × Int)) (z v pull : Int) (w : World) (hl : Prs w a n l) (hr : rchE z v pull n = 0) (hp : pthE z v pull l = 0) :
    Calls Try.prog 5 #[.agg #[.int .i64 z, .int .i64 v], .slice a n c, .int .i64 pull] w fun e w' => e = .returned (.bool true) ∧ Below w.heap.size w w' := by
  obtain ⟨hst, hp0, hp1, hn, hbt⟩ := pth_ok hp
  have hlen := hl.len
  rw [hlen] at hn hbt
  have hd : decide (300 < (n : Int)) = false := decide_eq_false (by omega)
  have hC : itL (-100) (-100) pull n z v = false ∧ itL 100 100 pull n z v = false ∧ rchD z v pull n = itZ (-100) (-100) pull n z v ∧ rchU z v pull n = itZ 100 100 pull n z v := by
    rcases rchE_cases (z := z) (v := v) (pull := pull) (n := n) with h | h
    · exact h.2.2
    · exact absurd hr h.1
  obtain ⟨bt1, bt2, _, _⟩ := between hp0 hst n hbt hC.1 hC.2.1
  have hLO := pthL_ok hp hlen
  have hpd : pthE z v pull (List.replicate n (-100, -100)) = 0 := by rw [← hlen]; exact pthE_rep hp (by decide)
  have hpu : pthE z v pull (List.replicate n (100, 100)) = 0 := by rw [← hlen]; exact pthE_rep hp (by decide)
  have hLD := pthL_ok hpd (List.length_replicate (n := n))
  have hLU := pthL_ok hpu (List.length_replicate (n := n))
  have hpsd := pst_rep (pull := pull) (lo := -100) (hi := -100) (z := z) (v := v) n (Nat.le_refl n)
  have hpsu := pst_rep (pull := pull) (lo := 100) (hi := 100) (z := z) (v := v) n (Nat.le_refl n)
  have HL := Lib.hid hl
  have HM := Lib.hid (And.intro hLO (And.intro hLD hLU))
  have HP := Lib.hid (And.intro hp (And.intro hpd hpu))
  have HS := Lib.hid (And.intro hpsd hpsu)
  have HR := Lib.hid (And.intro hr hC.2.2)
  clear hl hlen hr hp hC hpd hpu hLO hLD hLU hpsd hpsu hst hbt
  obtain ⟨i0, hi, hiz, his, hib⟩ := info_parts infoPair
  have hmk := fun W : World => run_make W 32 38 i0 _ Try.underlying32 hi hiz .i64 .i64 (n : Int) (n : Int) (by omega) (by omega) (by rw [hib]; omega) (by omega)
  have hn1 : ((n : Int)).toNat = n := by omega
  rw [hn1, his] at hmk
  clear hi hiz his hib hn1
  go_enter Try.func5, Try.ntmps5
  go_wp2_with fail
  refine (long_nil _ _ _ _).mono ?_; rintro e w1 ⟨rfl, rfl⟩
  go_wp2_with fail
  refine (awake_call _).mono ?_; rintro e w2 ⟨rfl, hb2⟩
  have k3 := keepO hb2 (block_new w (.cells #[.int .i64 z, .int .i64 v] 23) rfl)
  have hB2 : Below w.heap.size w w2 := ((Below.refl _ w).alloc (Nat.le_refl _) _).trans (hb2.mono (by simp))
  have hw2 := hB2.size
  have H2 := Lib.hid (And.intro k3 hB2)
  obtain ⟨p0, p1, _, _⟩ := two_old k3
  clear hb2 hB2 k3
  go_wp2_with fail
  refine (Reach_call _ _ _ _ _).mono ?_; rintro e w3 ⟨rfl, hb3⟩
  rw [HR.out.1, HR.out.2.1, HR.out.2.2]
  have k3 := keepO hb3 H2.out.1
  have hB3 := H2.out.2.trans (hb3.mono hw2)
  have hw3 := hB3.size
  have H3 := Lib.hid (And.intro k3 hB3)
  clear p0 p1
  obtain ⟨p0, p1, _, _⟩ := two_old k3
  clear hb3 hB3 k3 H2
  go_wp2_with fail
  refine (Path_call _ _ _ l _ _ _ _ (HL.out.below H3.out.2)).mono ?_; intro e w4 hpost
  obtain ⟨a4, c4, rfl, hPr4, _, hb4⟩ := pthPost_at hpost HM.out.1 HP.out.1 (by rw [psts_length]; omega)
  have hB4 := H3.out.2.trans (hb4.mono hw3)
  have k3 := keepO hb4 H3.out.1
  have hw4 := hB4.size
  have hz3 := lt_of_block k3
  have H4 := Lib.hid (And.intro k3 (And.intro hPr4 hB4))
  rw [psts_length]
  clear hpost hb4 p0 p1 hB4 k3 hPr4 H3
  go_wp2_with fail
  go_region
  all_goals go_wp2_with fail
  · go_loopw [14] (fun kv wr => ∃ k : Nat, k ≤ n ∧ kv = .int .i64 k ∧ Fill wr (w4.heap.size) n k (-100) ∧ Fill wr (w4.heap.size + 1) n k 100 ∧ Below w4.heap.size w4 wr) (fun kv _ => n - (intOf kv).toNat)
    case atStart => exact ⟨0, by omega, rfl, ⟨_, block_alloc (block_new _ _ rfl), by simp [madeCells], fun i hi => by omega⟩, ⟨_, block_new _ _ (by simp), by simp [madeCells], fun i hi => by omega⟩, (((Below.refl _ w4).alloc (Nat.le_refl _) _).alloc (by simp) _).drew⟩
    case round =>
      obtain ⟨k, hk, rfl, hfd, hfu, hBr⟩ := hrel
      by_cases hlt : k < n
      · obtain ⟨⟨x0, c0⟩, f0⟩ := hfd.at (j := k * 2) (by omega)
        obtain ⟨⟨x1, c1⟩, f1⟩ := hfd.at (j := k * 2 + 1) (by omega)
        obtain ⟨⟨y0, d0⟩, g0⟩ := hfu.at (j := k * 2) (by omega)
        obtain ⟨⟨y1, d1⟩, g1⟩ := hfu.at (j := k * 2 + 1) (by omega)
        have hsz := hBr.size
        have HF := Lib.hid (And.intro hfd (And.intro hfu hBr))
        clear hfd hfu hBr
        go_wp2_with fail
        go_roundw
        case rel => exact ⟨k + 1, by omega, by go_num, ((HF.out.1.store hlt).other (by omega) _ _).other (by omega) _ _, ((HF.out.2.1.other (by omega) _ _).other (by omega) _ _).store hlt, (((HF.out.2.2.setCell (p := ⟨(w4.heap.size), k * 2, none⟩) (by simp <;> omega) _).setCell (p := ⟨(w4.heap.size), k * 2 + 1, none⟩) (by simp <;> omega) _).setCell (p := ⟨(w4.heap.size + 1), k * 2, none⟩) (by simp <;> omega) _).setCell (p := ⟨(w4.heap.size + 1), k * 2 + 1, none⟩) (by simp <;> omega) _⟩
        case measure => simp [intOf]; omega
      · obtain rfl : k = n := by omega
        have HF := Lib.hid (And.intro (hfd.prs (by omega)) (And.intro (hfu.prs (by omega)) hBr))
        have hBr' := H4.out.2.2.trans (hBr.mono hw4)
        have hwr := hBr'.size
        have k3 := keepO hBr H4.out.1
        have H5 := Lib.hid (And.intro k3 (And.intro (H4.out.2.1.below hBr) hBr'))
        obtain ⟨p0, p1, _, _⟩ := two_old k3
        clear hfd hfu hBr hBr' k3
        go_wp2_with fail
        refine (Path_call _ _ _ _ _ _ _ _ HF.out.1).mono ?_; intro e w6 hpost
        obtain ⟨a6, c6, rfl, hPr6, _, hb6⟩ := pthPost_at hpost HM.out.2.1 HP.out.2.1 (by rw [psts_length]; omega)
        have k3 := keepO hb6 H5.out.1
        have hB6 := H5.out.2.2.trans (hb6.mono hwr)
        have hw6 := hB6.size
        have H6 := Lib.hid (And.intro k3 (And.intro (H5.out.2.1.below hb6) (And.intro hPr6 (And.intro (HF.out.2.1.below hb6) hB6))))
        clear p0 p1
        obtain ⟨p0, p1, _, _⟩ := two_old k3
        rw [psts_length]
        clear hpost hb6 hB6 k3 hPr6 H5
        go_wp2_with fail
        refine (Path_call _ _ _ _ _ _ _ _ H6.out.2.2.2.1).mono ?_; intro e w7 hpost
        obtain ⟨a7, c7, rfl, hPr7, _, hb7⟩ := pthPost_at hpost HM.out.2.2 HP.out.2.2 (by rw [psts_length]; omega)
        have H7 := Lib.hid (H6.out.2.2.2.2.trans (hb7.mono hw6))
        obtain ⟨b4, o4, rfl, q4⟩ := prs_last (H6.out.2.1.below hb7)
        obtain ⟨b6, o6, rfl, q6⟩ := prs_last (H6.out.2.2.1.below hb7)
        obtain ⟨b7, o7, rfl, q7⟩ := prs_last hPr7
        rw [HS.out.1] at q6
        rw [HS.out.2] at q7
        rw [psts_length]
        clear hpost hb7 hPr7 p0 p1
        have hk0 : (0 : Int) ≤ (k : Int) := by omega
        have hk1 : (k : Int) < (k : Int) + 1 := by omega
        go_wp2
        go_ret
        exact ⟨rfl, H7.out⟩
  · go_loopw [14] (fun kv wr => ∃ k : Nat, k ≤ n ∧ kv = .int .i64 k ∧ Fill wr (w4.heap.size + 1) n k (-100) ∧ Fill wr (w4.heap.size) n k 100 ∧ Below w4.heap.size w4 wr) (fun kv _ => n - (intOf kv).toNat)
    case atStart => exact ⟨0, by omega, rfl, ⟨_, block_new _ _ (by simp), by simp [madeCells], fun i hi => by omega⟩, ⟨_, block_alloc (block_new _ _ rfl), by simp [madeCells], fun i hi => by omega⟩, (((Below.refl _ w4).alloc (Nat.le_refl _) _).alloc (by simp) _).drew⟩
    case round =>
      obtain ⟨k, hk, rfl, hfd, hfu, hBr⟩ := hrel
      by_cases hlt : k < n
      · obtain ⟨⟨x0, c0⟩, f0⟩ := hfd.at (j := k * 2) (by omega)
        obtain ⟨⟨x1, c1⟩, f1⟩ := hfd.at (j := k * 2 + 1) (by omega)
        obtain ⟨⟨y0, d0⟩, g0⟩ := hfu.at (j := k * 2) (by omega)
        obtain ⟨⟨y1, d1⟩, g1⟩ := hfu.at (j := k * 2 + 1) (by omega)
        have hsz := hBr.size
        have HF := Lib.hid (And.intro hfd (And.intro hfu hBr))
        clear hfd hfu hBr
        go_wp2_with fail
        go_roundw
        case rel => exact ⟨k + 1, by omega, by go_num, ((HF.out.1.store hlt).other (by omega) _ _).other (by omega) _ _, ((HF.out.2.1.other (by omega) _ _).other (by omega) _ _).store hlt, (((HF.out.2.2.setCell (p := ⟨(w4.heap.size + 1), k * 2, none⟩) (by simp <;> omega) _).setCell (p := ⟨(w4.heap.size + 1), k * 2 + 1, none⟩) (by simp <;> omega) _).setCell (p := ⟨(w4.heap.size), k * 2, none⟩) (by simp <;> omega) _).setCell (p := ⟨(w4.heap.size), k * 2 + 1, none⟩) (by simp <;> omega) _⟩
        case measure => simp [intOf]; omega
      · obtain rfl : k = n := by omega
        have HF := Lib.hid (And.intro (hfd.prs (by omega)) (And.intro (hfu.prs (by omega)) hBr))
        have hBr' := H4.out.2.2.trans (hBr.mono hw4)
        have hwr := hBr'.size
        have k3 := keepO hBr H4.out.1
        have H5 := Lib.hid (And.intro k3 (And.intro (H4.out.2.1.below hBr) hBr'))
        obtain ⟨p0, p1, _, _⟩ := two_old k3
        clear hfd hfu hBr hBr' k3
        go_wp2_with fail
        refine (Path_call _ _ _ _ _ _ _ _ HF.out.1).mono ?_; intro e w6 hpost
        obtain ⟨a6, c6, rfl, hPr6, _, hb6⟩ := pthPost_at hpost HM.out.2.1 HP.out.2.1 (by rw [psts_length]; omega)
        have k3 := keepO hb6 H5.out.1
        have hB6 := H5.out.2.2.trans (hb6.mono hwr)
        have hw6 := hB6.size
        have H6 := Lib.hid (And.intro k3 (And.intro (H5.out.2.1.below hb6) (And.intro hPr6 (And.intro (HF.out.2.1.below hb6) hB6))))
        clear p0 p1
        obtain ⟨p0, p1, _, _⟩ := two_old k3
        rw [psts_length]
        clear hpost hb6 hB6 k3 hPr6 H5
        go_wp2_with fail
        refine (Path_call _ _ _ _ _ _ _ _ H6.out.2.2.2.1).mono ?_; intro e w7 hpost
        obtain ⟨a7, c7, rfl, hPr7, _, hb7⟩ := pthPost_at hpost HM.out.2.2 HP.out.2.2 (by rw [psts_length]; omega)
        have H7 := Lib.hid (H6.out.2.2.2.2.trans (hb7.mono hw6))
        obtain ⟨b4, o4, rfl, q4⟩ := prs_last (H6.out.2.1.below hb7)
        obtain ⟨b6, o6, rfl, q6⟩ := prs_last (H6.out.2.2.1.below hb7)
        obtain ⟨b7, o7, rfl, q7⟩ := prs_last hPr7
        rw [HS.out.1] at q6
        rw [HS.out.2] at q7
        rw [psts_length]
        clear hpost hb7 hPr7 p0 p1
        have hk0 : (0 : Int) ≤ (k : Int) := by omega
        have hk1 : (k : Int) < (k : Int) + 1 := by omega
        go_wp2
        go_ret
        exact ⟨rfl, H7.out⟩
end Go.Proofs.Ythaokofhepngbaa
