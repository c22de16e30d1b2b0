/-
  Layer 36 (plane): the reference's Path.
-/
import Derived.Test.YthaokofhepngbaaPlaneJ
import Derived.Test.YthaokofhepngbaaQuietLib
import Derived.Deep.QuietTactic
import Derived.BigQuiet
import Derived.Deep.RegionWith
namespace Go.Proofs.Ythaokofhepngbaa
open Go.RowKit PlaneMath MyHeap MyOwn

/-- Between two rounds of the reference's loop. -/
def RPathRel (base pb : Nat) (l : List (Int × Int)) (z v pull : Int) (k : Nat) (s : Value) (w0 wr : World) : Prop :=
  BdTo l k ∧ wr.heap[pb]? = some (.cells #[.int .i64 (pst pull l k z v).1, .int .i64 (pst pull l k z v).2] 23 (0, 0)) ∧ wr.ownsRow base 23 2 s (k + 1) (flat2 (psts pull l z v (k + 1))) ∧ Below w0.heap.size w0 wr

set_option maxRecDepth 100000 in
set_option maxHeartbeats 8000000 in
theorem rPath_loop (a : Option Addr) (n c : Nat) (l : List (Int × Int)) (z v pull : Int) (w : World) (hl : Prs w a n l) (hs : stB z v = true) (hp0 : 0 ≤ pull) (hp1 : pull ≤ 32) (hn : n ≤ 256) :
    Calls Try.prog 18 #[.agg #[.int .i64 z, .int .i64 v], .slice a n c, .int .i64 pull] w (LpPost z v pull l n w) := by
  have hE : stE z v = 0 := stE_yes hs
  have hnl := hl.len
  have HS := Lib.hid hs
  have HL := Lib.hid hl
  have HN := Lib.hid hnl
  clear hs hl hnl
  obtain ⟨i0, hi, hiz, his, hib⟩ := info_parts infoPlane
  have HI := Lib.hid (And.intro hi (And.intro hiz (And.intro his hib)))
  clear hi hiz his hib
  go_enter Try.func18, Try.ntmps18
  go_wp2_with fail
  refine (refCheck_call _ _ _).mono ?_; rintro e w1 ⟨rfl, hb1⟩
  have kp : w1.heap[w.heap.size]? = some (.cells #[.int .i64 z, .int .i64 v] 23 (0, 0)) := keepO hb1 (block_new _ _ rfl)
  have hB : Below w.heap.size w w1 := ((Below.refl _ w).alloc (Nat.le_refl _) _).trans (hb1.mono (by simp))
  have hz1 := lt_of_block kp
  clear hb1
  obtain ⟨p0, p1, _, _⟩ := two_old kp
  have hrel0 : RPathRel (w.heap.size + 1) w.heap.size l z v pull 0 (.slice (some ⟨w1.heap.size, 0, none⟩) 1 1) w (w1.alloc (.cells #[.int .i64 z, .int .i64 v] 23)) := by
    refine ⟨fun i hi => by omega, block_alloc kp, ⟨rfl, Or.inr ⟨w1.heap.size, 1, _, rfl, by omega, block_new _ _ rfl, by omega, by decide, rfl, rfl⟩⟩, hB.alloc hB.size _⟩
  have HR0 := Lib.hid hrel0
  clear hrel0 kp hB
  go_wp2_with fail
  go_loopw [9, 10] (fun s kv wr => ∃ k : Nat, k ≤ n ∧ kv = .int .i64 k ∧ RPathRel (w.heap.size + 1) w.heap.size l z v pull k s w wr) (fun _ kv _ => n - (intOf kv).toNat)
  case atStart => exact ⟨0, by omega, rfl, HR0.out⟩
  case round =>
    clear p0 p1
    obtain ⟨k, hk, rfl, hbt, hF, hown, hB⟩ := hrel
    clear HR0
    have hst := pst_st hp0 HS.out k hbt
    by_cases hlt : k < n
    · obtain ⟨b, off, rfl, x0, x1⟩ := prs_at HL.out hlt
      have hbl : b ≠ w.heap.size := Nat.ne_of_lt (World.block_lt_of_cell? w _ x0)
      replace x0 := keep1 hB x0
      replace x1 := keep1 hB x1
      have HB := Lib.hid (And.intro hbt (And.intro hF (And.intro hown (And.intro hB hst))))
      clear hbt hF hown hst
      have hfw := HB.out.2.2.2.1.size
      have hk0 : (0 : Int) ≤ (k : Int) := by omega
      have hk1 : (k : Int) < (n : Int) := by omega
      cases hbd : bdB (l[k]?.getD (0, 0)).1 (l[k]?.getD (0, 0)).2 with
      | true =>
        have hbe : bdE (l[k]?.getD (0, 0)).1 (l[k]?.getD (0, 0)).2 = 0 := by unfold bdE; rw [hbd]; rfl
        have HD := Lib.hid hbd
        clear hbd
        go_wp2_with fail
        go_quiet ((go_at_call 30; exact MyQuiet.left (wrong_call _ _ _)))
        go_wp2_with fail
        have hbq : Below wr.heap.size wr (wr.drewN nq) := below_drewN (Below.refl _ _) _
        have hF4 := keepO hbq HB.out.2.1
        have y0 := keep1 hbq x0
        have y1 := keep1 hbq x1
        have hown4 := ownsRow_below HB.out.2.2.1 hbq (Nat.le_refl _)
        have hB4 := HB.out.2.2.2.1.trans (hbq.mono hfw)
        clear hbq x0 x1
        generalize wr.drewN nq = wq at *
        obtain ⟨p0, p1, _, _⟩ := two_old hF4
        have hw4 := hB4.size
        have H4 := Lib.hid (And.intro hF4 (And.intro hown4 hB4))
        clear hF4 hown4 hB4
        go_region_with (go_at_call 31; refine (next_call _ _ _ _ pull _ HB.out.2.2.2.2 HD.out hp0 hp1).mono ?_; rintro e w5 ⟨rfl, hb5⟩; have hF5 := keepO hb5 H4.out.1; obtain ⟨q0, q1, g0, g1⟩ := two_old hF5)
        all_goals
          have hb5 : Below wq.heap.size wq w5 := (Below.refl _ wq).drew.trans hb5
          have hO : Only w.heap.size w5 ((w5.setCell ⟨w.heap.size, 0, none⟩ (.int .i64 (nxtZ (pst pull l k z v).1 (pst pull l k z v).2))).setCell ⟨w.heap.size, 1, none⟩ (.int .i64 (nxtV (pst pull l k z v).1 (pst pull l k z v).2 (l[k]?.getD (0, 0)).1 (l[k]?.getD (0, 0)).2 pull))) := Only.setCell (Only.setCell (Only.refl _ _) 0 _) 1 _
          have hF6 := block_setCell (i := 1) (v := .int .i64 (nxtV (pst pull l k z v).1 (pst pull l k z v).2 (l[k]?.getD (0, 0)).1 (l[k]?.getD (0, 0)).2 pull)) (block_setCell (i := 0) (v := .int .i64 (nxtZ (pst pull l k z v).1 (pst pull l k z v).2)) hF5)
          have hB5 : Below w.heap.size w w5 := H4.out.2.2.trans (hb5.mono hw4)
          have hw5 := hB5.size
          have hown5 := ownsRow_below H4.out.2.1 hb5 (Nat.le_refl _)
          have hown6 := (HO5' hown5 hO).alloc (.cells #[.int .i64 (nxtZ (pst pull l k z v).1 (pst pull l k z v).2), .int .i64 (nxtV (pst pull l k z v).1 (pst pull l k z v).2 (l[k]?.getD (0, 0)).1 (l[k]?.getD (0, 0)).2 pull)] 23)
          have hB6 := hB5.trans (hO.below (Nat.le_refl _) hw5)
          have hz6 := hO.size
          have H6 := Lib.hid (And.intro hown6 (And.intro hF6 hB6))
          have HZ6 := Lib.hid hz6
          have HB5 := Lib.hid hb5
          clear hO hF5 hF6 hB5 hown5 hown6 hB6 hz6 hb5 p0 p1 y0 y1
          go_wp2_with (at_builtin; refine wpList_append_own _ rfl _ _ 33 rfl (w.heap.size + 1) 23 i0 _ 2 16 Try.underlying33 HI.out.1 HI.out.2.1 HI.out.2.2.1 HI.out.2.2.2 rfl (by decide) _ (k + 1) _ rfl H6.out.1 ⟨w5.heap.size, 0, none⟩ 1 1 [.int .i64 (nxtZ (pst pull l k z v).1 (pst pull l k z v).2), .int .i64 (nxtV (pst pull l k z v).1 (pst pull l k z v).2 (l[k]?.getD (0, 0)).1 (l[k]?.getD (0, 0)).2 pull)] rfl rfl ?c1 ?c2 ?c3 ?c4 ?c5 ?_; rotate_right; intro v7 w7 hown7 hgrow _)
          case c1 => exact cells_two (by simp [World.setCell])
          case c2 => intro u hu; simp at hu; rcases hu with rfl | rfl <;> rfl
          case c3 => unfold maxLen; omega
          case c4 => omega
          case c5 => have := HZ6.out; simp [World.setCell] at *; omega
          have hz6 := HZ6.out
          have hg' := grown_below (B := w.heap.size) H6.out.1 hgrow (by omega) (by simp at *; omega)
          go_roundw
          case rel => exact ⟨k + 1, by omega, by go_num, bdTo_succ HB.out.1 HD.out, (hgrow.block w.heap.size (lt_of_block (block_alloc H6.out.2.1)) (ownBlock_ge H6.out.1 (by omega)).symm).trans (block_alloc H6.out.2.1), by rw [psts_succ, flat2_snoc]; exact hown7, (H6.out.2.2.alloc H6.out.2.2.size _).trans hg'⟩
          case measure => simp [intOf]; omega
      | false =>
        have hbe : bdE (l[k]?.getD (0, 0)).1 (l[k]?.getD (0, 0)).2 = 1 := by unfold bdE; rw [hbd]; rfl
        have HD := Lib.hid hbd
        clear hbd
        go_wp2_with fail
        go_quiet ((go_at_call 30; exact MyQuiet.left (wrong_call _ _ _)))
        go_wp2_with fail
        go_ret2
        rw [hbe]
        exact lpPost_no HN.out hlt HD.out (below_drewN HB.out.2.2.2.1 _)
    · obtain rfl : k = n := by omega
      have HB := Lib.hid (And.intro hbt (And.intro hF (And.intro hown (And.intro hB hst))))
      clear hbt hF hown hst
      go_wp2
      go_ret2
      exact lpPost_yes (fb := w.heap.size) HN.out HB.out.1 HB.out.2.2.1 (Nat.le_refl _) HB.out.2.2.2.1
end Go.Proofs.Ythaokofhepngbaa
