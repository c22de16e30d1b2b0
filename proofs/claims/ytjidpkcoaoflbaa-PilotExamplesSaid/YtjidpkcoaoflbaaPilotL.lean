/-
  Layer 37 (pilot): the reference's Run, walked. Printed by genPilotL.py.
-/
import Derived.Test.YtjidpkcoaoflbaaPilotK
import Derived.Test.YtjidpkcoaoflbaaStoreState
import Derived.Deep.RegionWith
import Derived.Deep.DeepCutAuto
import Derived.Deep.DrawnRows
namespace Go.Proofs.Ytjidpkcoaoflbaa
open Go.RowKit PilotMath MyHeap MyOwn PlaneMath
attribute [local go_sem ↓] storeRunR Go.wp_at_zero Go.wp_at_succ
attribute [local go_sem] blk8_mk ptr8_mk cls8_mk agg8_mk

theorem advs_cells {w : World} {b off n : Nat} {l : List Adv} (h : Advs w (some ⟨b, off, none⟩) n l) {k : Nat} (hk : k < n) : w.cell? ⟨b, off + k * 3, none⟩ = some (.int .u8 (ga l k).s) ∧ w.cell? ⟨b, off + k * 3 + 1, none⟩ = some (.int .i64 (ga l k).r) ∧ w.cell? ⟨b, off + k * 3 + 2, none⟩ = some (.bool (ga l k).k) := by
  obtain ⟨b', off', e, h0, h1, h2⟩ := advs_at h hk
  cases e
  exact ⟨h0, h1, h2⟩
/-- What the reference's Command leaves where there is no error. -/
theorem rcmdPost_good {d n : Nat} {pl ms : Int} {x y : St} {a : Adv} {w : World} {e : Ending} {w' : World} (h : RCmdPost d pl ms x a w e w') (hE : cmdE d pl ms x a = 0) (hy : nx ms x a = y) (hn : y.q.length = n) :
    ∃ aq c, e = .returned (.tuple #[.agg #[.slice aq n c, .int .u8 y.due.s, .int .i64 y.due.r, .bool y.due.k, .int .u8 y.fl.s, .int .i64 y.fl.r, .bool y.fl.k, .int .i64 y.c], .int .i64 0]) ∧ Advs w' aq n y.q ∧ (aq = none → n = 0 ∧ c = 0) ∧ (n = 0 ∨ ∃ g off, aq = some ⟨g, off, none⟩ ∧ w.heap.size ≤ g) ∧ Below w.heap.size w w' := by
  subst hy hn
  have e' : cmdS d pl ms x a = nx ms x a := if_pos hE
  unfold RCmdPost at h
  rw [e', hE] at h
  obtain ⟨aq, c, rfl, h1, h2, h3, h4⟩ := h
  exact ⟨aq, c, rfl, h1, h2, h3, h4⟩

set_option maxRecDepth 100000 in
set_option maxHeartbeats 16000000 in
theorem refRun_call (d pl ms z v : Int) (a : Option Addr) (n c : Nat) (l : List Adv) (w : World) (hl : Advs w a n l) (hs : Pos l) :
    Calls Try.prog 11 #[.agg #[.int .i64 d, .int .i64 pl, .int .i64 ms], .agg #[.int .i64 z, .int .i64 v], .slice a n c] w (RunPost d pl ms z v l w) := by
  have hlen := hl.len
  have hm := hl.bound
  have HL := Lib.hid hl
  have HLen := Lib.hid hlen
  have HPos := Lib.hid hs
  clear hl hlen hs
  by_cases hp : plE d pl ms = 0
  · obtain ⟨d0, d16, p1, p32, m0, m1⟩ := plE_ok hp
    obtain ⟨d, rfl⟩ : ∃ k : Nat, d = (k : Int) := ⟨d.toNat, by omega⟩
    have HP := Lib.hid hp
    clear hp
    go_enter Try.func11, Try.ntmps11
    go_wp2_with fail
    refine (rNew _ _ _ _).mono ?_
    rintro e w1 ⟨aq, cq, q, rfl, hq0, _, hQN, hb1⟩
    obtain rfl := hq0 HP.out
    have hdt : ((d : Int)).toNat = d := by omega
    rw [hdt] at hQN ⊢
    rw [HP.out]
    have hrl : (List.replicate d adv0).length = d := List.length_replicate
    rw [hrl]
    have hB1 : Below w.heap.size w w1 := (((Below.refl _ w).alloc (Nat.le_refl _) _).alloc (by simp) _).trans (hb1.mono (by simp; omega))
    have hz1 := hb1.size
    simp only [World.size_alloc] at hz1
    have hK0 : RnK w 48 w.heap.size (w.heap.size + 1) w1.heap.size d pl ms aq cq (st0 d) z v (w1.alloc (.cells (stC (.slice aq d cq) (st0 d)) 48)) := by
      refine ⟨block_alloc (keepO hb1 (block_alloc (block_new _ _ rfl))), block_alloc (keepO hb1 (block_new _ _ (by simp))), block_new _ _ rfl, ?_, ?_, hB1.alloc hB1.size _⟩
      · have h := hQN.1
        rw [hrl] at h
        exact h.below ((Below.refl _ _).alloc (Nat.le_refl _) _)
      · rcases hQN.2.1 with h0 | ⟨g, _, _, e, hg, hh, _⟩
        · exact Or.inl (by rw [hrl] at h0; exact h0)
        · refine Or.inr ⟨g, 0, e, ?_, ?_⟩
          · have := lt_of_block hh; omega
          · simp at hg; omega
    have hdc : aq = none → d = 0 ∧ cq = 0 := by have := hQN.2.2.2; rw [hrl] at this; exact this
    have hX1 := keepO hb1 (block_new (w.alloc (.cells #[.int .i64 (d : Int), .int .i64 pl, .int .i64 ms] 23)) (.cells #[.int .i64 z, .int .i64 v] 25) (n := w.heap.size + 1) (by simp))
    obtain ⟨x0, x1, _, _⟩ := two_old hX1
    have HK0 := Lib.hid hK0
    clear hX1 hK0 hQN hb1 hB1 hdt hrl
    unfold stV
    have e0 : (st0 d).c = 0 := rfl
    by_cases hst : stE z v = 0
    · have HST := Lib.hid hst
      by_cases hn : n ≤ 256
      · have hdl : decide ((256 : Int) < (n : Int)) = false := decide_eq_false (by omega)
        have HNN := Lib.hid (rnE_first (l := l) HP.out hst (by rw [HLen.out]; exact hn))
        clear hst
        have hzx : w.heap.size + 1 < w1.heap.size := by omega
        go_wp2_with fail
        refine (refCheck_call _ _ _).mono ?_; rintro e w2 ⟨rfl, hb2⟩
        rw [HST.out]
        have HK2 := Lib.hid (HK0.out.keep hb2)
        have hzS := lt_of_block HK2.out.2.2.1
        clear hb2 HK0 x0 x1
        generalize hbS : w1.heap.size = bS at *
        clear hbS
        go_wp2_with fail
        go_loopw [6, 7, 11] (fun s6 s7 kv wr => s6 = .slice none 0 0 ∧ s7 = .int .i64 0 ∧ ∃ k : Nat, k ≤ n ∧ kv = .int .i64 k ∧ OkTo l k ∧ RnK w 48 w.heap.size (w.heap.size + 1) bS d pl ms aq cq (st0 d) z v wr) (fun _ _ kv _ => n - (intOf kv).toNat)
        case atStart => exact ⟨rfl, rfl, 0, by omega, rfl, fun i hi => by omega, HK2.out⟩
        case round =>
          obtain ⟨rfl, rfl, k, hk, rfl, hO, hK⟩ := hrel
          clear HK2
          have HK := Lib.hid hK
          have HO := Lib.hid hO
          by_cases hlt : k < n
          · obtain ⟨b, off, rfl, y0, y1, y2⟩ := advs_at (HL.out.below hK.2.2.2.2.2) hlt
            clear hK hO
            have hk0 : (0 : Int) ≤ (k : Int) := by omega
            have hk1 : (k : Int) < (n : Int) := by omega
            go_wp2_with fail
            refine (refBounds_call (ga l k) _ (pos_ga HPos.out k)).mono ?_; rintro e w4 ⟨rfl, hb4⟩
            have H4 := Lib.hid (HK.out.keep hb4)
            clear hb4 y0 y1 y2
            by_cases hE : bndE (ga l k) = 0
            · have HE := Lib.hid hE
              rw [hE]
              clear hE
              go_wp2_with fail
              go_roundw
              case rel => exact ⟨rfl, rfl, k + 1, by omega, by go_num, okTo_succ HO.out HE.out, H4.out⟩
              case measure => simp [intOf]; omega
            · have HE := Lib.hid hE
              have hEb : (bndE (ga l k) != 0) = true := by simp [hE]
              clear hE
              go_wp2_with fail
              go_ret2
              have hf := firstE_at (by rw [HLen.out]; exact hlt) HO.out HE.out
              exact runPost_err (by rw [HNN.out, hf]) HE.out H4.out.2.2.2.2.2
          · obtain rfl : k = n := by omega
            have hF : firstE l = 0 := firstE_ok (by rw [HLen.out]; exact hO)
            have HF := Lib.hid hF
            obtain ⟨x0, x1, _, _⟩ := two_old hK.2.1
            have hzr := hK.2.2.2.2.2.size
            have hX := lt_of_block hK.2.1
            clear hK hF hO
            go_wp2_with fail
            have HR := Lib.hid (show rnE d pl ms z v l = 0 by rw [HNN.out, HF.out])
            have HOk := Lib.hid (show OkTo l l.length by rw [HLen.out]; exact HO.out)
            have HBd := Lib.hid (rnB_bd (ms := ms) (d := d) (fun i _ => pos_ga HPos.out i) HOk.out)
            have HX := Lib.hid (show RnK w 48 w.heap.size (w.heap.size + 1) bS d pl ms aq cq (st0 d) z v (wr.alloc (.cells #[.int .i64 z, .int .i64 v] 25)) from HK.out.alloc _)
            have HO2 := Lib.hid (show (wr.alloc (.cells #[.int .i64 z, .int .i64 v] 25)).ownsRow wr.heap.size 25 2 (.slice (some ⟨wr.heap.size, 0, none⟩) 1 1) (0 + 1) (flat2 (psts pl (rnB ms d l) z v (0 + 1))) from ownedBlock (block_new _ _ rfl) (Nat.le_refl _))
            have hSr := lt_of_block HK.out.2.2.1
            have hPr := lt_of_block HK.out.1
            generalize hbase : wr.heap.size = base at *
            have HBase := Lib.hid hbase
            obtain ⟨ip, hpi, hpz, hps, hpb⟩ := info_parts infoPlane2
            have HPI := Lib.hid (And.intro hpi (And.intro hpz (And.intro hps hpb)))
            clear hbase hpi hpz hps hpb x0 x1 HO
            go_loopw [15, 16] (fun s kv wi => ∃ j : Nat, j ≤ k ∧ kv = .int .i64 j ∧ ∃ aj cj, (aj = none → d = 0 ∧ cj = 0) ∧ RnK w 48 w.heap.size (w.heap.size + 1) bS d pl ms aj cj (stK ms d l j) (pst pl (rnB ms d l) j z v).1 (pst pl (rnB ms d l) j z v).2 wi ∧ wi.ownsRow base 25 2 s (j + 1) (flat2 (psts pl (rnB ms d l) z v (j + 1))) ∧ base ≤ wi.heap.size) (fun _ kv _ => k - (intOf kv).toNat)
            case atStart => exact ⟨0, by omega, rfl, aq, cq, hdc, HX.out, HO2.out, by rw [← HBase.out]; simp⟩
            case round =>
              obtain ⟨j, hj, rfl, aj, cj, hnj, hK, hO, hbz⟩ := hrel
              clear HX HO2 HK
              have HK := Lib.hid hK
              have HO := Lib.hid hO
              by_cases hlj : j < k
              · obtain ⟨b, off, rfl, t0, t1, t2⟩ := advs_at (HL.out.below hK.2.2.2.2.2) hlj
                obtain ⟨p0, p1, p2⟩ := three_old hK.1
                obtain ⟨q0, q1, q2, q3, q4, q5, q6, q7⟩ := eight_cells hK.2.2.1
                have hgd := Lib.hid (stK_good (ms := ms) (d := d) (l := l) (fun i _ => pos_ga HPos.out i) HOk.out j (by rw [HLen.out]; omega))
                have hgd1 := Lib.hid (stK_good (ms := ms) (d := d) (l := l) (fun i _ => pos_ga HPos.out i) HOk.out (j + 1) (by rw [HLen.out]; omega))
                have hgj := Lib.hid (HOk.out j (by rw [HLen.out]; exact hlj))
                have hl1 : w.heap.size < wr.heap.size := by omega
                have hl2 : bS < wr.heap.size := by omega
                have hl3 : w.heap.size < wr.heap.size + 1 := by omega
                have hl4 : bS < wr.heap.size + 1 := by omega
                clear hK hO
                have hyl := Lib.hid (stK_len ms d l j)
                have hyl1 := Lib.hid (stK_len ms d l (j + 1))
                have hnx := Lib.hid (show nx ms (stK ms d l j) (ga l j) = stK ms d l (j + 1) from rfl)
                have hps := Lib.hid (show (pst pl (rnB ms d l) (j + 1) z v) = (nxtZ (pst pl (rnB ms d l) j z v).1 (pst pl (rnB ms d l) j z v).2, nxtV (pst pl (rnB ms d l) j z v).1 (pst pl (rnB ms d l) j z v).2 (bndL (stK ms d l (j + 1)).fl) (bndH (stK ms d l (j + 1)).fl) pl) by rw [pst_succ, rnB_get (by rw [HLen.out]; exact hlj)]; rfl)
                have hstj := Lib.hid (pst_st (pull := pl) (l := rnB ms d l) (by omega) (stE_of HST.out) j (HBd.out j (by rw [HLen.out]; omega)))
                have hpsts := Lib.hid (psts_succ pl (rnB ms d l) z v (j + 1))
                generalize hy : stK ms d l j = y at *
                generalize hy1 : stK ms d l (j + 1) = y1 at *
                generalize hx : pst pl (rnB ms d l) j z v = px at *
                generalize hx1 : pst pl (rnB ms d l) (j + 1) z v = px1 at *
                have HY := Lib.hid (And.intro hy (And.intro hy1 (And.intro hx hx1)))
                clear hy hy1 hx hx1
                have hk0 : (0 : Int) ≤ (j : Int) := by omega
                have hk1 : (j : Int) < (k : Int) := by omega
                have hcmd := Lib.hid (good_cmd (pl := pl) (ms := ms) (a := ga l j) hgd.out (hgj.out) HP.out (by rw [hyl.out]))
                have Kd := Lib.hid (HK.out.keep (Below.refl _ _).drew)
                have hl5 := hl2
                go_upto_region 19 with fail
                go_cut [16] (fun s16 w5 => s16 = .int .i64 (j : Int) ∧ ∃ a4 c4, (a4 = none → d = 0 ∧ c4 = 0) ∧ (d = 0 ∨ ∃ g off, a4 = some ⟨g, off, none⟩ ∧ wr.heap.size ≤ g) ∧ RnK w 48 w.heap.size (w.heap.size + 1) bS d pl ms a4 c4 y1 px.1 px.2 w5 ∧ w5.ownsRow base 25 2 u15 (j + 1) (flat2 (psts pl (rnB ms d l) z v (j + 1))) ∧ wr.heap.size ≤ w5.heap.size)
                case first =>
                  go_region_with (go_at_call 19; refine (rCommand_call d d pl ms aj cj y (ga l j) _ Kd.out.2.2.2.1 hnj (fun a ha => (hgd.out.q a ha).2) hgd.out.due.2 hgd.out.fl.2 (pos_ga HPos.out j)).mono ?_; intro e w4 hpost; obtain ⟨a4, c4, rfl, hA4, hn4, hf4, hb4⟩ := rcmdPost_good hpost hcmd.out hnx.out hyl1.out; have Ke := Lib.hid (Kd.out.keep hb4); have hz4 := hb4.size; have hRow : RowAt w4 bS := rowAt_of Ke.out.2.2.1; have H4 := Lib.hid (And.intro hA4 (And.intro hn4 (And.intro hf4 hb4))); clear hpost hA4 hn4 hf4 hb4)
                  all_goals
                    go_wp2_with fail
                    go_meet
                    have hap := H4.out.2.2.1
                    refine ⟨rfl, a4, c4, H4.out.2.1, hap.imp id fun ⟨g, o, e, hg⟩ => ⟨g, o, e, hg⟩, ?_, ?_, Nat.le_trans hz4 (only_setRow _ _ _).size⟩
                    · exact Ke.out.storeS (setRow_heap w4 bS _ (stC (.slice a4 d c4) y1) _ _ Ke.out.2.2.1) (only_setRow _ _ _) H4.out.1 (hap.imp id fun ⟨g, o, e, hg⟩ => ⟨g, o, e, by have hg' : wr.heap.size ≤ g := hg; omega, by have hg' : wr.heap.size ≤ g := hg; omega⟩) (by omega) (by omega) (by omega)
                    · have hO1 : wr.drew.ownsRow base 25 2 u15 (j + 1) (flat2 (psts pl (rnB ms d l) z v (j + 1))) := ownsRow_below HO.out (Below.refl _ _).drew (Nat.le_refl _)
                      have hO2 := ownsRow_below hO1 H4.out.2.2.2 (Nat.le_refl _)
                      exact ownsRow_only hO2 (only_setRow _ _ _) (ownBlock_ge hO2 hSr)
                case rest =>
                  obtain ⟨rfl, a4, c4, hn4, hap4, hK5, hO5, hz5⟩ := hcut
                  have H5 := Lib.hid (And.intro hn4 (And.intro hap4 (And.intro hK5 hO5)))
                  obtain ⟨p0, p1, p2⟩ := three_old hK5.1
                  obtain ⟨x0, x1, _, _⟩ := two_old hK5.2.1
                  obtain ⟨q0, q1, q2, q3, q4, q5, q6, q7⟩ := eight_cells hK5.2.2.1
                  clear hn4 hap4 hK5 hO5
                  have hcmd2 := Lib.hid (good_cmd (pl := pl) (ms := ms) (a := adv0) hgd1.out bndE_zero HP.out (by rw [hyl1.out]))
                  go_wp2_with fail
                  refine (rFly_call d d pl ms a4 c4 y1 px.1 px.2 _ H5.out.2.2.1.2.2.2.1 H5.out.1 (fun a ha => (hgd1.out.q a ha).2) hgd1.out.due.2 hgd1.out.fl.2).mono ?_; rintro e w6 ⟨rfl, hb6⟩
                  have hfb : flyB px.1 px.2 (bndL y1.fl) (bndH y1.fl) pl = true := by
                    have hbb := bnd_ok hgd1.out.fl.1
                    unfold flyB
                    rw [hstj.out, hbb]
                    simp; omega
                  have hp1 : pfZ d pl ms y1 px.1 px.2 = px1.1 := by
                    unfold pfZ
                    rw [if_neg (by rw [hcmd2.out]; simp), (fly_yes hfb).1, hps.out]
                  have hp2 : pfV d pl ms y1 px.1 px.2 = px1.2 := by
                    unfold pfV
                    rw [if_neg (by rw [hcmd2.out]; simp), (fly_yes hfb).2.1, hps.out]
                  rw [hp1, hp2]
                  have hK6 := H5.out.2.2.1.keep hb6
                  have hO6 := ownsRow_below H5.out.2.2.2 hb6 (Nat.le_refl _)
                  have hz6 := hb6.size
                  have H7 := Lib.hid (And.intro hK6 hO6)
                  clear hp1 hp2 hfb hK6 hO6 hb6 p0 p1 p2 x0 x1 q0 q1 q2 q3 q4 q5 q6 q7
                  go_wp2_with (first
                    | (at_builtin; refine wpList_append_own _ rfl _ _ 28 rfl base 25 ip _ 2 16 Try.underlying28 HPI.out.1 HPI.out.2.1 HPI.out.2.2.1 HPI.out.2.2.2 rfl (by decide) _ (j + 1) _ rfl (HO8.out.alloc _) ⟨w8.heap.size, 0, none⟩ 1 1 [.int .i64 px1.1, .int .i64 px1.2] rfl rfl ?c1 ?c2 ?c3 ?c4 ?c5 ?_; rotate_right; intro v9 w9 hown9 hg9 _)
                    | (refine wpList_store_new rfl 25 (.tmp 4) (.tmp 74) rfl (w.heap.size + 1) #[.int .i64 px1.1, .int .i64 px1.2] rfl rfl 25 _ H7.out.1.2.1 (by kernel_rfl) rfl (by simp [Value.oneCell']) ?_; intro w8 H8; obtain ⟨x0, x1, _, _⟩ := two_old H8.out.1; have hz8 := H8.out.2.size; have HO8 := Lib.hid (ownsRow_only H7.out.2 H8.out.2 (ownBlock_ge H7.out.2 (by omega)))))
                  case c1 => exact cellsTwo rfl
                  case c2 => intro u hu; simp at hu; rcases hu with rfl | rfl <;> rfl
                  case c3 => unfold maxLen; omega
                  case c4 => omega
                  case c5 => simp; omega
                  have hK8 := (H7.out.1.storeX H8.out.1 H8.out.2 (by omega) (by omega) (by omega)).alloc (.cells #[.int .i64 px1.1, .int .i64 px1.2] 25)
                  have hg9' := grownBelow (B := base) (HO8.out.alloc _) hg9 (Nat.le_refl _) (by simp; omega)
                  have hob : ∀ b, u15.ownBlock = some b → b < wr.heap.size := fun b hb => (HO.out.lt b hb).2
                  have H9 := Lib.hid (And.intro hK8 (And.intro hg9 (And.intro hg9' (And.intro hown9 hob))))
                  clear hK8 hg9 hg9' hown9 hob
                  go_roundw
                  case rel =>
                    refine ⟨j + 1, by omega, by go_num, a4, c4, H5.out.1, ?_, ?_, Nat.le_trans (by simp; omega) H9.out.2.2.1.size⟩
                    · rw [HY.out.2.1, HY.out.2.2.2]
                      refine H9.out.1.grow H9.out.2.1 (ownBlock_ge HO.out hPr) (ownBlock_ge HO.out hX) (ownBlock_ge HO.out hSr) ?_ (H9.out.2.2.1.mono (by omega))
                      rcases H5.out.2.1 with h0 | ⟨g, off', e, hg⟩
                      · exact Or.inl h0
                      · exact Or.inr ⟨g, off', e, fun e' => by have := H9.out.2.2.2.2 g e'; omega⟩
                    · rw [hpsts.out, flat2_snoc]; exact H9.out.2.2.2.1
                  case measure => simp [intOf]; omega
              · obtain rfl : j = k := by omega
                go_wp2
                go_ret2
                have hO' := HO.out
                exact runPost_ok HR.out HLen.out (by rw [show ((d : Int)).toNat = d by omega]; exact hO') (by omega) HK.out.2.2.2.2.2
      · have HE := Lib.hid (rnE_long (l := l) HP.out hst (by rw [HLen.out]; omega))
        have hdl : decide ((256 : Int) < (n : Int)) = true := decide_eq_true (by omega)
        have hzx : w.heap.size + 1 < w1.heap.size := by omega
        clear hst
        go_wp2_with fail
        refine (refCheck_call _ _ _).mono ?_; rintro e w2 ⟨rfl, hb2⟩
        rw [HST.out]
        have HB2 := Lib.hid (HK0.out.keep hb2).2.2.2.2.2
        clear hb2 x0 x1
        go_wp2
        go_ret2
        exact runPost_err HE.out (by decide) HB2.out
    · have HE := Lib.hid (rnE_st (l := l) HP.out hst)
      have HST := Lib.hid hst
      have hne : (stE z v != 0) = true := by simp [hst]
      have hzx : w.heap.size + 1 < w1.heap.size := by omega
      clear hst
      go_wp2_with fail
      refine (refCheck_call _ _ _).mono ?_; rintro e w2 ⟨rfl, hb2⟩
      have HB2 := Lib.hid (HK0.out.keep hb2).2.2.2.2.2
      clear hb2 x0 x1
      go_wp2
      go_ret2
      exact runPost_err HE.out HST.out HB2.out
  · have HE := Lib.hid (rnE_pl (z := z) (v := v) (l := l) hp)
    have HP := Lib.hid hp
    have hne : (plE d pl ms != 0) = true := by simp [hp]
    clear hp
    go_enter Try.func11, Try.ntmps11
    go_wp2_with fail
    refine (rNew _ _ _ _).mono ?_
    rintro e w1 ⟨aq, cq, q, rfl, _, _, _, hb1⟩
    have hB1 : Below w.heap.size w w1 := (((Below.refl _ w).alloc (Nat.le_refl _) _).alloc (by simp) _).trans (hb1.mono (by simp; omega))
    have HB1 := Lib.hid (hB1.alloc hB1.size (.cells (stC (.slice aq q.length cq) ⟨q, adv0, adv0, 0⟩) 48))
    clear hb1 hB1
    unfold stV
    go_wp2
    go_ret2
    exact runPost_err HE.out HP.out HB1.out
end Go.Proofs.Ytjidpkcoaoflbaa
