/-
  Layer 36 (plane): the law PlaneExamples, walked. Printed by genPlaneY.py.
-/
import Derived.Test.YthaokofhepngbaaPlaneX
import Derived.Deep.RegionWith
namespace Go.Proofs.Ythaokofhepngbaa
open Go.RowKit PlaneMath MyHeap MyOwn MyCopy

theorem madeZero_get (i n : Nat) (hi : i < n) : (madeCells #[.int .i64 0, .int .i64 0] n)[i]? = some (.int .i64 0) := by
  rcases (show i % 2 = 0 ∨ i % 2 = 1 by omega) with e | e <;> simp [madeCells, hi, e]
theorem prs_zero {w : World} {b n m : Nat} {T : TypeId} (h : w.heap[b]? = some (.cells (madeCells #[.int .i64 0, .int .i64 0] m) T (0, 0))) (hm : m = n * 2) (hn : n ≤ 1000000) : Prs w (some ⟨b, 0, none⟩) n (List.replicate n (0, 0)) := by
  subst hm
  refine ⟨by simp, hn, Or.inr ⟨b, 0, rfl, fun i hi => ?_⟩⟩
  rw [List.getElem?_replicate, if_pos hi]
  exact ⟨cell_of_block h (by rw [Nat.zero_add]; exact madeZero_get _ _ (by omega)), cell_of_block h (by rw [Nat.zero_add]; exact madeZero_get _ _ (by omega))⟩
/-- A list of zeros, by name. -/
def zl (n : Nat) : List (Int × Int) := List.replicate n (0, 0)
def bads : List (Int × Int) := [(-1001, 0), (50001, 0), (0, 101), (0, -101)]
theorem bads_bad : ∀ k, k < 4 → stB (gp bads k).1 (gp bads k).2 = false := by decide
theorem mt_bad1 {p : Int × Int} (h : stB p.1 p.2 = false) : mtS [p] [(0, 0)] = 0 ∧ mtT [p] [(0, 0)] = 0 ∧ mtE [p] [(0, 0)] = 1 := mt_err (mtE_bad (k := 0) (by simp) rfl (by simp) (Or.inl h)) (by decide)
theorem mt_bad2 {p : Int × Int} (h : stB p.1 p.2 = false) : mtS [(0, 0)] [p] = 0 ∧ mtT [(0, 0)] [p] = 0 ∧ mtE [(0, 0)] [p] = 1 := mt_err (mtE_bad (k := 0) (by simp) rfl (by simp) (Or.inr h)) (by decide)
theorem fly_bad {z v lo hi pull : Int} (h : stB z v = false) : flyZ z v lo hi pull = 0 ∧ flyV z v lo hi pull = 0 ∧ flyE z v lo hi pull = 1 := fly_no (by unfold flyB; rw [h]; rfl)
theorem rch_bad {z v pull n : Int} (h : stB z v = false) : rchD z v pull n = 0 ∧ rchU z v pull n = 0 ∧ rchE z v pull n = 1 := rch_no (by unfold rchB; rw [h]; rfl)
theorem pthL_bad {z v pull : Int} {l : List (Int × Int)} {E : Int} (h : pthE z v pull l = E) (hE : E ≠ 0) : pthL z v pull l = [] := by unfold pthL; rw [if_neg (by rw [h]; exact hE)]
def trs : List (Int × Int × Int) := [(9, 8, 1), (-101, 0, 1), (0, 101, 1), (101, 101, 1), (0, 0, -1), (0, 0, 33)]
def tr (k : Nat) : Int × Int × Int := trs[k]?.getD (0, 0, 0)
theorem trs_bad : ∀ k, k < 6 → flyB 0 0 (tr k).1 (tr k).2.1 (tr k).2.2 = false := by decide
def trCells : Array Value := #[.int .i64 9, .int .i64 8, .int .i64 1, .int .i64 (-101), .int .i64 0, .int .i64 1, .int .i64 0, .int .i64 101, .int .i64 1, .int .i64 101, .int .i64 101, .int .i64 1, .int .i64 0, .int .i64 0, .int .i64 (-1), .int .i64 0, .int .i64 0, .int .i64 33]
theorem trCells_get (k : Nat) (hk : k < 6) : trCells[k * 3]? = some (.int .i64 (tr k).1) ∧ trCells[k * 3 + 1]? = some (.int .i64 (tr k).2.1) ∧ trCells[k * 3 + 2]? = some (.int .i64 (tr k).2.2) := by
  rcases (show k = 0 ∨ k = 1 ∨ k = 2 ∨ k = 3 ∨ k = 4 ∨ k = 5 by omega) with rfl | rfl | rfl | rfl | rfl | rfl <;> exact ⟨rfl, rfl, rfl⟩
theorem ex_pth1 : pthE 0 0 33 (zl 257) = 1 ∧ pthL 0 0 33 (zl 257) = [] := by decide +kernel
theorem ex_pth2 : pthE 0 0 0 (zl 257) = 4 ∧ pthL 0 0 0 (zl 257) = [] := by decide +kernel
theorem ex_pth3 : pthE 0 0 0 [(0, 0), (1, 0)] = 1 ∧ pthL 0 0 0 [(0, 0), (1, 0)] = [] := by decide +kernel
theorem ex_pth4 : pthE 0 0 0 (zl 256) = 0 := by decide +kernel
theorem ex_pth4l : (pthL 0 0 0 (zl 256)).length = 257 := by unfold pthL; rw [if_pos ex_pth4, psts_length, show (zl 256).length = 256 from List.length_replicate]
theorem ex_pth5 : pthE 7 0 5 [] = 0 ∧ pthL 7 0 5 [] = [(7, 0)] := by decide +kernel
theorem ex_rch1 : rchD 0 0 1 257 = 0 ∧ rchU 0 0 1 257 = 0 ∧ rchE 0 0 1 257 = 1 := by decide +kernel
theorem ex_rch2 : rchD 49999 0 1 3 = 0 ∧ rchU 49999 0 1 3 = 0 ∧ rchE 49999 0 1 3 = 7 := by decide +kernel
theorem ex_rch3 : rchD 49999 0 1 2 = 49998 ∧ rchU 49999 0 1 2 = 50000 ∧ rchE 49999 0 1 2 = 0 := by decide +kernel
theorem ex_mt1 : mtS [] [(0, 0)] = 0 ∧ mtT [] [(0, 0)] = 0 ∧ mtE [] [(0, 0)] = 3 := by decide +kernel
theorem ex_mt2 : mtS [(0, 0)] [] = 0 ∧ mtT [(0, 0)] [] = 0 ∧ mtE [(0, 0)] [] = 16 := by decide +kernel
theorem ex_fly1 : flyZ 50000 1 1 1 0 = 50000 ∧ flyV 50000 1 1 1 0 = 0 ∧ flyE 50000 1 1 1 0 = 0 := by decide +kernel
theorem ex_fly2 : flyZ 49900 100 (-100) (-100) 0 = 50000 ∧ flyV 49900 100 (-100) (-100) 0 = 100 ∧ flyE 49900 100 (-100) (-100) 0 = 0 := by decide +kernel
theorem prs_nil (w : World) : Prs w none 0 [] := ⟨rfl, by decide, Or.inl rfl⟩
theorem hmk2 (n : Nat) (hn : n ≤ 1000) (W : World) : (Instr.makeSlice 32 (.int .i64 (n : Int)) (.int .i64 (n : Int))).run Try.prog W = .ok (.slice (some ⟨W.heap.size, 0, none⟩) n n) (W.alloc (.cells (madeCells #[.int .i64 0, .int .i64 0] (n * 2)) 38)) := by
  obtain ⟨i0, hi, hiz, his, hib⟩ := info_parts infoPair
  have h := run_make W 32 38 i0 _ Try.underlying32 hi hiz .i64 .i64 (n : Int) (n : Int) (by omega) (by omega) (by rw [hib]; omega) (by omega)
  rw [Int.toNat_natCast, his] at h
  exact h

theorem prs_zl (n : Nat) (hn : n ≤ 1000) (W : World) : Prs (W.alloc (.cells (madeCells #[.int .i64 0, .int .i64 0] (n * 2)) 38)) (some ⟨W.heap.size, 0, none⟩) n (zl n) := prs_zero (block_new _ _ rfl) rfl (by omega)
theorem prs_zl257d (W : World) (b : Nat) (hb : b = W.heap.size) : Prs (W.alloc (.cells (madeCells #[.int .i64 0, .int .i64 0] 514) 38)).drew (some ⟨b, 0, none⟩) 257 (zl 257) := by subst hb; exact (prs_zl 257 (by decide) W).below (Below.refl _ _).drew
theorem prs_zl257 (W : World) (b : Nat) (hb : b = W.heap.size) : Prs (W.alloc (.cells (madeCells #[.int .i64 0, .int .i64 0] 514) 38)) (some ⟨b, 0, none⟩) 257 (zl 257) := by subst hb; exact prs_zl 257 (by decide) W
theorem prs_zl256 (W : World) (b : Nat) (hb : b = W.heap.size) : Prs (W.alloc (.cells (madeCells #[.int .i64 0, .int .i64 0] 512) 38)) (some ⟨b, 0, none⟩) 256 (zl 256) := by subst hb; exact prs_zl 256 (by decide) W
/-- What Path leaves where it has an error. -/
theorem pthPost_err {z v pull : Int} {l : List (Int × Int)} {E : Int} {w w' : World} {e : Ending} (h : PthPost z v pull l w e w') (hE : pthE z v pull l = E) (h0 : E ≠ 0) : ∃ a c, e = .returned (.tuple #[.slice a 0 c, .int .i64 E]) ∧ Below w.heap.size w w' := by
  obtain ⟨a, c, e1, _, _, hb⟩ := pthPost_at h (pthL_bad hE h0) hE (by decide)
  exact ⟨a, c, e1, hb⟩
/-- In a round: the state in its block, the list, and nothing of w written. -/
def ExK (w : World) (b bp : Nat) (z v : Int) (w' : World) : Prop := w'.heap[bp]? = some (.cells #[.int .i64 z, .int .i64 v] 23 (0, 0)) ∧ Prs w' (some ⟨b, 0, none⟩) 4 bads ∧ Below w.heap.size w w'
theorem ExK.keep {w : World} {b bp : Nat} {z v : Int} {w' w'' : World} (h : ExK w b bp z v w') (hb : Below w'.heap.size w' w'') : ExK w b bp z v w'' := ⟨keepO hb h.1, h.2.1.below hb, h.2.2.trans (hb.mono h.2.2.size)⟩
theorem ExK.alloc {w : World} {b bp : Nat} {z v : Int} {w' : World} (h : ExK w b bp z v w') (o : Obj) : ExK w b bp z v (w'.alloc o) := h.keep ((Below.refl _ _).alloc (Nat.le_refl _) _)

theorem ExK.drew {w : World} {b bp : Nat} {z v : Int} {w' : World} (h : ExK w b bp z v w') : ExK w b bp z v w'.drew := h.keep (Below.refl _ _).drew

theorem ExK.cells {w : World} {b bp : Nat} {z v : Int} {w' : World} (h : ExK w b bp z v w') : w'.cell? ⟨bp, 0, none⟩ = some (.int .i64 z) ∧ w'.cell? ⟨bp, 1, none⟩ = some (.int .i64 v) := ⟨(two_old h.1).1, (two_old h.1).2.1⟩

/-- In the second loop: the triples in their block, and nothing of w written. -/
def ExT (w : World) (b : Nat) (w' : World) : Prop := w'.heap[b]? = some (.cells trCells 45 (0, 0)) ∧ Below w.heap.size w w'
theorem ExT.keep {w : World} {b : Nat} {w' w'' : World} (h : ExT w b w') (hb : Below w'.heap.size w' w'') : ExT w b w'' := ⟨keepO hb h.1, h.2.trans (hb.mono h.2.size)⟩
theorem ExT.alloc {w : World} {b : Nat} {w' : World} (h : ExT w b w') (o : Obj) : ExT w b (w'.alloc o) := h.keep ((Below.refl _ _).alloc (Nat.le_refl _) _)

set_option maxRecDepth 100000 in
set_option maxHeartbeats 16000000 in
theorem ExamplesLaw_call (w : World) : Calls Try.prog 7 #[] w fun e w' => e = .returned (.bool true) ∧ Below w.heap.size w w' := by
  have mk1 := fun W : World => hmk2 257 (by decide) W
  have mk2 := fun W : World => hmk2 256 (by decide) W
  simp only [Nat.reduceMul, Int.cast_ofNat_Int] at mk1 mk2
  go_enter Try.func7, Try.ntmps7
  go_wp2_with fail
  refine (awake_call _).mono ?_; rintro e w1 ⟨rfl, hb1⟩
  have H1 := Lib.hid hb1
  have hw1 := hb1.size
  clear hb1
  go_wp2_with fail
  have hbk : (w1.alloc (.cells #[.int .i64 (-1001), .int .i64 0, .int .i64 50001, .int .i64 0, .int .i64 0, .int .i64 101, .int .i64 0, .int .i64 (-101)] 23)).heap[w1.heap.size]? = some (.cells #[.int .i64 (-1001), .int .i64 0, .int .i64 50001, .int .i64 0, .int .i64 0, .int .i64 101, .int .i64 0, .int .i64 (-101)] 23 (0, 0)) := block_new _ _ rfl
  have HP0 := Lib.hid (prs_block (ps := bads) (n := 4) hbk rfl rfl (by decide))
  have HB0 := Lib.hid (H1.out.alloc hw1 (.cells #[.int .i64 (-1001), .int .i64 0, .int .i64 50001, .int .i64 0, .int .i64 0, .int .i64 101, .int .i64 0, .int .i64 (-101)] 23))
  clear hbk
  go_loopw [57] (fun kv wr => ∃ k : Nat, k ≤ 4 ∧ kv = .int .i64 k ∧ Prs wr (some ⟨w1.heap.size, 0, none⟩) 4 bads ∧ Below w.heap.size w wr) (fun kv _ => 4 - (intOf kv).toNat)
  case atStart => exact ⟨0, by omega, rfl, HP0.out, HB0.out⟩
  case round =>
    obtain ⟨k, hk, rfl, hP, hB⟩ := hrel
    clear HP0 HB0 H1
    have HP := Lib.hid hP
    have hwr := hB.size
    have HB := Lib.hid hB
    clear hP hB
    by_cases hlt : k < 4
    · obtain ⟨b', off', e', x0, x1⟩ := prs_gp HP.out hlt
      cases e'
      rw [Nat.zero_add] at x0 x1
      have hst := bads_bad k hlt
      generalize gp bads k = p at x0 x1 hst
      obtain ⟨z, v⟩ := p
      dsimp only at x0 x1 hst
      have HS := Lib.hid hst
      clear hst
      have hk4 : (k : Int) < 4 := by omega
      go_wp2_with fail
      refine (Fly_call _ _ _ _ _ _).mono ?_; rintro e w2 ⟨rfl, hb2⟩
      rw [(fly_bad HS.out).1, (fly_bad HS.out).2.1, (fly_bad HS.out).2.2]
      have H2 : Hid (ExK w w1.heap.size wr.heap.size z v (w2.alloc (.cells #[.int .i64 0, .int .i64 0] 23))) := Lib.hid (ExK.alloc (ExK.keep ⟨block_new wr _ rfl, HP.out.below ((Below.refl _ _).alloc (Nat.le_refl _) _), HB.out.alloc hwr _⟩ hb2) _)
      clear hb2 x0 x1
      obtain ⟨p0, p1, _, _⟩ := two_old H2.out.1
      go_wp2_with fail
      have H3 := H2.out.drew
      clear p0 p1
      go_region_held3 (fun w' => w'.cell? ⟨wr.heap.size, 0, none⟩ = some (.int .i64 z) ∧ w'.cell? ⟨wr.heap.size, 1, none⟩ = some (.int .i64 v)) (first | exact H3.cells | exact (H3.alloc _).cells) ((go_at_call 17; refine (Path_call _ _ _ (zl 257) _ _ _ _ (prs_zl257d _ _ (by simp))).mono ?_; intro e w3 hpost; obtain ⟨a3, c3, rfl, hb3⟩ := pthPost_err hpost (pth_st HS.out) (by decide); clear hpost; replace H3 := ExK.keep (ExK.alloc H2.out _).drew hb3; clear hb3))
      have H4 := Lib.hid H3
      clear H3
      obtain ⟨p0, p1⟩ := H4.out.cells
      go_wp2_with fail
      refine (Reach_call _ _ _ _ _).mono ?_; rintro e w4 ⟨rfl, hb4⟩
      rw [(rch_bad HS.out).1, (rch_bad HS.out).2.1, (rch_bad HS.out).2.2]
      have H5 := Lib.hid (H4.out.keep hb4)
      clear p0 p1 hb4
      obtain ⟨p0, p1⟩ := H5.out.cells
      go_wp2_with fail
      refine (Meet_call _ _ 1 1 1 1 [(z, v)] [(0, 0)] _ (prs_block (block_alloc (block_new _ _ rfl)) rfl rfl (by decide)) (prs_block (block_new _ _ (by simp)) rfl rfl (by decide))).mono ?_; rintro e w5 ⟨rfl, hb5⟩
      rw [(mt_bad1 (p := (z, v)) HS.out).1, (mt_bad1 (p := (z, v)) HS.out).2.1, (mt_bad1 (p := (z, v)) HS.out).2.2]
      have H6 := Lib.hid (ExK.keep ((H5.out.alloc _).alloc _) hb5)
      clear p0 p1 hb5
      obtain ⟨p0, p1⟩ := H6.out.cells
      have hlt5 := lt_of_block H6.out.1
      go_wp2_with fail
      refine (Meet_call _ _ 1 1 1 1 [(0, 0)] [(z, v)] _ (prs_block (block_alloc (block_new _ _ rfl)) rfl rfl (by decide)) (prs_block (block_new _ _ (by simp)) rfl rfl (by decide))).mono ?_; rintro e w6 ⟨rfl, hb6⟩
      rw [(mt_bad2 (p := (z, v)) HS.out).1, (mt_bad2 (p := (z, v)) HS.out).2.1, (mt_bad2 (p := (z, v)) HS.out).2.2]
      have H7 := Lib.hid (ExK.keep ((H6.out.alloc _).alloc _) hb6)
      clear p0 p1 hb6
      go_wp2_with fail
      go_roundw
      case rel => exact ⟨k + 1, by omega, by go_num, H7.out.2.1, H7.out.2.2⟩
      case measure => simp [intOf]; omega
    · obtain rfl : k = 4 := by omega
      go_wp2_with fail
      have hB1 : ExT w wr.heap.size (wr.alloc (.cells trCells 45)) := ⟨block_new _ _ rfl, HB.out.alloc hwr _⟩
      have HT0 := Lib.hid hB1
      clear hB1
      generalize hbt : wr.heap.size = bt at *
      have HBT := Lib.hid hbt
      clear hbt
      go_loopw [123] (fun kv wq => ∃ j : Nat, j ≤ 6 ∧ kv = .int .i64 j ∧ ExT w bt wq) (fun kv _ => 6 - (intOf kv).toNat)
      case atStart => exact ⟨0, by omega, rfl, HT0.out⟩
      case round =>
        obtain ⟨j, hj, rfl, hT⟩ := hrel
        clear HT0
        have HT := Lib.hid hT
        have hwq := hT.2.size
        clear hT
        by_cases hlj : j < 6
        · obtain ⟨g0, g1, g2⟩ := trCells_get j hlj
          have x0 := cell_of_block HT.out.1 g0
          have x1 := cell_of_block HT.out.1 g1
          have x2 := cell_of_block HT.out.1 g2
          have hbad := trs_bad j hlj
          clear g0 g1 g2
          generalize tr j = t at x0 x1 x2 hbad
          obtain ⟨t0, t1, t2⟩ := t
          dsimp only at x0 x1 x2 hbad
          have HBad := Lib.hid hbad
          clear hbad
          have hj6 : (j : Int) < 6 := by omega
          go_wp2_with fail
          refine (Fly_call _ _ _ _ _ _).mono ?_; rintro e wf ⟨rfl, hbf⟩
          rw [(fly_no HBad.out).1, (fly_no HBad.out).2.1, (fly_no HBad.out).2.2]
          have H8 := Lib.hid (ExT.alloc (ExT.keep (HT.out.alloc _) hbf) (.cells #[.int .i64 0, .int .i64 0] 23))
          clear hbf x0 x1 x2
          go_wp2_with fail
          go_roundw
          case rel =>
            (repeat apply Exists.intro)
            exact ⟨⟨j + 1, by omega, by go_num, H8.out⟩, rfl⟩
          case measure => simp [intOf]; omega
        · obtain rfl : j = 6 := by omega
          have hB := HT.out.2
          have HW := Lib.hid hB
          clear HT hB HBT HP HB hwr
          go_wp2_with fail
          refine (Path_call _ _ _ (zl 257) _ _ _ _ (prs_zl257 _ _ rfl)).mono ?_; intro e y1 hpost; obtain ⟨a1, c1, rfl, hb1⟩ := pthPost_err hpost ex_pth1.1 (by decide); clear hpost
          have HW1 := Lib.hid ((HW.out.alloc hwq _).trans (hb1.mono (Nat.le_trans hwq (by simp))))
          have hz1 := HW1.out.size
          clear hb1
          go_wp2_with fail
          refine (Path_call _ _ _ (zl 257) _ _ _ _ (prs_zl257 _ _ rfl)).mono ?_; intro e y2 hpost; obtain ⟨a2, c2, rfl, hb2⟩ := pthPost_err hpost ex_pth2.1 (by decide); clear hpost
          have HW2 := Lib.hid ((HW1.out.alloc hz1 _).trans (hb2.mono (Nat.le_trans hz1 (by simp))))
          have hz2 := HW2.out.size
          clear hb2
          go_wp2_with fail
          refine (Path_call _ 2 2 [(0, 0), (1, 0)] _ _ _ _ (prs_block (block_new _ _ rfl) rfl rfl (by decide))).mono ?_; intro e y3 hpost; obtain ⟨a3, c3, rfl, hb3⟩ := pthPost_err hpost ex_pth3.1 (by decide); clear hpost
          have HW3 := Lib.hid ((HW2.out.alloc hz2 _).trans (hb3.mono (Nat.le_trans hz2 (by simp))))
          have hz3 := HW3.out.size
          clear hb3
          go_wp2_with fail
          refine (Path_call _ _ _ (zl 256) _ _ _ _ (prs_zl256 _ _ rfl)).mono ?_; intro e y4 hpost; obtain ⟨a4, c4, rfl, _, _, hb4⟩ := pthPost_at hpost rfl ex_pth4 (by rw [ex_pth4l]; decide); clear hpost
          rw [ex_pth4l]
          have HW4 := Lib.hid ((HW3.out.alloc hz3 _).trans (hb4.mono (Nat.le_trans hz3 (by simp))))
          have hz4 := HW4.out.size
          clear hb4
          go_wp2_with fail
          refine (Path_call _ _ _ [] _ _ _ _ (prs_nil _)).mono ?_; intro e y5 hpost; obtain ⟨a5, c5, rfl, hP5, _, hb5⟩ := pthPost_at hpost ex_pth5.2 ex_pth5.1 (by decide); clear hpost
          have hlen5 : ([(7, 0)] : List (Int × Int)).length = 1 := rfl
          rw [hlen5] at hP5 ⊢
          clear hlen5
          have HP5 := Lib.hid hP5
          clear hP5
          have HW5 := Lib.hid (HW4.out.trans (hb5.mono (hz4)))
          have hz5 := HW5.out.size
          clear hb5
          go_wp2_with fail
          refine (Reach_call _ _ _ _ _).mono ?_; rintro e y6 ⟨rfl, hb6⟩; rw [ex_rch1.1, ex_rch1.2.1, ex_rch1.2.2]
          have HP6 := Lib.hid (HP5.out.below hb6); clear HP5
          have HW6 := Lib.hid (HW5.out.trans (hb6.mono (hz5)))
          have hz6 := HW6.out.size
          clear hb6
          go_wp2_with fail
          refine (Reach_call _ _ _ _ _).mono ?_; rintro e y7 ⟨rfl, hb7⟩; rw [ex_rch2.1, ex_rch2.2.1, ex_rch2.2.2]
          have HP7 := Lib.hid (HP6.out.below hb7); clear HP6
          have HW7 := Lib.hid (HW6.out.trans (hb7.mono (hz6)))
          have hz7 := HW7.out.size
          clear hb7
          go_wp2_with fail
          refine (Reach_call _ _ _ _ _).mono ?_; rintro e y8 ⟨rfl, hb8⟩; rw [ex_rch3.1, ex_rch3.2.1, ex_rch3.2.2]
          have HP8 := Lib.hid (HP7.out.below hb8); clear HP7
          have HW8 := Lib.hid (HW7.out.trans (hb8.mono (hz7)))
          have hz8 := HW8.out.size
          clear hb8
          go_wp2_with fail
          refine (Meet_call _ _ 0 1 _ 1 [] [(0, 0)] _ (prs_nil _) (prs_block (block_new _ _ rfl) rfl rfl (by decide))).mono ?_; rintro e y9 ⟨rfl, hb9⟩; rw [ex_mt1.1, ex_mt1.2.1, ex_mt1.2.2]
          have HP9 := Lib.hid ((HP8.out.below ((Below.refl _ _).alloc (Nat.le_refl _) _)).below hb9); clear HP8
          have HW9 := Lib.hid ((HW8.out.alloc hz8 _).trans (hb9.mono (Nat.le_trans hz8 (by simp))))
          have hz9 := HW9.out.size
          clear hb9
          go_wp2_with fail
          refine (Meet_call _ _ 1 0 1 _ [(0, 0)] [] _ (prs_block (block_new _ _ rfl) rfl rfl (by decide)) (prs_nil _)).mono ?_; rintro e y10 ⟨rfl, hb10⟩; rw [ex_mt2.1, ex_mt2.2.1, ex_mt2.2.2]
          have HP10 := Lib.hid ((HP9.out.below ((Below.refl _ _).alloc (Nat.le_refl _) _)).below hb10); clear HP9
          have HW10 := Lib.hid ((HW9.out.alloc hz9 _).trans (hb10.mono (Nat.le_trans hz9 (by simp))))
          have hz10 := HW10.out.size
          clear hb10
          go_wp2_with fail
          refine (equalPlanes_call _ _ 1 1 _ 1 [(7, 0)] [(7, 0)] _ (HP10.out.below ((Below.refl _ _).alloc (Nat.le_refl _) _)) (prs_block (block_new _ _ rfl) rfl rfl (by decide))).mono ?_; rintro e y11 ⟨rfl, hb11⟩; rw [decide_eq_true (rfl : ([(7, 0)] : List (Int × Int)) = [(7, 0)])]
          have HW11 := Lib.hid ((HW10.out.alloc hz10 _).trans (hb11.mono (Nat.le_trans hz10 (by simp))))
          have hz11 := HW11.out.size
          clear hb11
          go_wp2_with fail
          refine (flies_yes _ _ _ _ _ _ _ _ ex_fly1.1 ex_fly1.2.1 ex_fly1.2.2).mono ?_; rintro e y12 ⟨rfl, hb12⟩
          have HW12 := Lib.hid (HW11.out.trans (hb12.mono (hz11)))
          have hz12 := HW12.out.size
          clear hb12
          go_wp2_with fail
          refine (flies_yes _ _ _ _ _ _ _ _ ex_fly2.1 ex_fly2.2.1 ex_fly2.2.2).mono ?_; rintro e y13 ⟨rfl, hb13⟩
          have HW13 := Lib.hid (HW12.out.trans (hb13.mono (hz12)))
          have hz13 := HW13.out.size
          clear hb13
          go_wp2_with fail
          go_ret
          exact ⟨rfl, HW13.out⟩
end Go.Proofs.Ythaokofhepngbaa
