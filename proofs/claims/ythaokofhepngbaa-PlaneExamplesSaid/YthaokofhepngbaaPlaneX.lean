/-
  Layer 36 (plane): the law PlanePaths where no list is too long.
-/
import Derived.Test.YthaokofhepngbaaPlaneW
namespace Go.Proofs.Ythaokofhepngbaa
open Go.RowKit PlaneMath MyHeap MyOwn MyCopy

set_option maxRecDepth 100000 in
set_option maxHeartbeats 8000000 in
theorem PathsLaw_good (a a3 a4 : Option Addr) (n c n3 c3 n4 c4 : Nat) (l ps qs : List (Int × Int)) (z v pull : Int) (w : World) (hl : Prs w a n l) (hx : Prs w a3 n3 ps) (hy : Prs w a4 n4 qs) (hn : n ≤ 300) (hn3 : n3 ≤ 300) (hn4 : n4 ≤ 300) (ha : a = none → n = 0 ∧ c = 0) (ha3 : a3 = none → n3 = 0 ∧ c3 = 0) (ha4 : a4 = none → n4 = 0 ∧ c4 = 0) :
    Calls Try.prog 4 #[.agg #[.int .i64 z, .int .i64 v], .slice a n c, .int .i64 pull, .slice a3 n3 c3, .slice a4 n4 c4] w (PathsPost w) := by
  have hd : (decide (300 < (n3 : Int)) || decide (300 < (n4 : Int)) || decide (300 < (n : Int))) = false := by simp; omega
  have hlen := hl.len
  have hlen3 := hx.len
  have hlen4 := hy.len
  have HA := Lib.hid (And.intro ha (And.intro ha3 ha4))
  have HLen3 := Lib.hid (And.intro hlen3 hlen4)
  clear ha ha3 ha4 hlen3 hlen4
  have HL := Lib.hid (And.intro hl (And.intro hx hy))
  have HD := Lib.hid hd
  clear hl hx hy hd
  obtain ⟨i0, hi, hiz, his, hib⟩ := info_parts infoPair
  have HI := Lib.hid (And.intro hi (And.intro hiz (And.intro his hib)))
  have HLen := Lib.hid hlen
  clear hi hiz his hib hlen
  go_enter Try.func4, Try.ntmps4
  go_wp2_with fail
  refine (long_two _ _ _ _ _ _ _ _ _ _ _ (by omega) (by omega) (cell_of_block (block_new _ _ (by simp)) rfl) (cell_of_block (block_new _ _ (by simp)) rfl)).mono ?_; rintro e w1 ⟨rfl, rfl⟩
  rw [HD.out]
  have hb0 : Below w.heap.size w ((w.alloc (.cells #[.int .i64 z, .int .i64 v] 23)).alloc (.cells #[.slice a3 n3 c3, .slice a4 n4 c4] 33)) := ((Below.refl _ w).alloc (Nat.le_refl _) _).alloc (by simp) _
  have HB0 := Lib.hid hb0
  clear hb0
  have hO0 : ((w.alloc (.cells #[.int .i64 z, .int .i64 v] 23)).alloc (.cells #[.slice a3 n3 c3, .slice a4 n4 c4] 33)).ownsRow (w.heap.size + 2) 38 2 (.slice none 0 0) 0 [] := ⟨rfl, Or.inl ⟨rfl, rfl⟩⟩
  have HO0 := Lib.hid hO0
  clear hO0
  go_wp2_with (at_builtin; refine wpList_append_src rfl _ _ 32 rfl (w.heap.size + 2) 38 i0 _ 2 16 Try.underlying32 HI.out.1 HI.out.2.1 HI.out.2.2.1 HI.out.2.2.2 rfl (by decide) _ 0 [] rfl ?c0 a n c (flat2 l) rfl HA.out.1 ?c6 ?c1 ?c2 ?c3 ?c4 ?c5 ?_; rotate_right; intro v2 w2 hown2 hgrow; have k5 : w2.heap[w.heap.size]? = some (.cells #[.int .i64 z, .int .i64 v] 23 (0, 0)) := (hgrow.block w.heap.size (by simp; omega) (ownBlock_ge HO0.out (by omega)).symm).trans (block_alloc (block_new _ _ rfl)); obtain ⟨p0, p1, _, _⟩ := two_old k5)
  case c0 => exact ⟨rfl, Or.inl ⟨rfl, rfl⟩⟩
  case c6 => rw [flat2_length, HLen.out]
  case c1 => exact prs_src (HL.out.1.below HB0.out)
  case c2 => exact flat2_one l
  case c3 => unfold maxLen; omega
  case c4 => omega
  case c5 => simp
  have hB2 : Below w.heap.size w w2 := HB0.out.trans (grown_below HO0.out hgrow (by omega) (by simp; omega))
  have hown2' : w2.ownsRow (w.heap.size + 2) 38 2 v2 l.length (flat2 l) := by rw [HLen.out]; simpa using hown2
  obtain ⟨a2, c2, rfl, hP2⟩ := prs_own hown2' (by rw [HLen.out]; omega)
  rw [HLen.out] at hP2 hown2'
  have hw2 := hB2.size
  have H2 := Lib.hid (And.intro k5 (And.intro hP2 (And.intro hown2' hB2)))
  rw [HLen.out]
  clear hown2 hown2' hP2 hB2 k5 hgrow
  refine (Path_call _ _ _ l _ _ _ _ H2.out.2.1).mono ?_; intro e w3 hpost
  have hlb : (pthL z v pull l).length ≤ 1000000 := by
    unfold pthL
    split
    · rw [psts_length, HLen.out]; omega
    · simp
  obtain ⟨a5, c5, rfl, hP3, ho3, hb3⟩ := pthPost_at hpost rfl rfl hlb
  have hB3 := H2.out.2.2.2.trans (hb3.mono hw2)
  have H3b := Lib.hid hb3
  have k5 := keepO hb3 H2.out.1
  have hw3 := hB3.size
  have H3 := Lib.hid (And.intro k5 (And.intro (H2.out.2.1.below hb3) (And.intro hP3 (And.intro ho3 hB3))))
  clear p0 p1
  obtain ⟨p0, p1, _, _⟩ := two_old k5
  clear hpost hb3 hB3 k5 hP3 ho3
  go_wp2_with fail
  refine (refPath_call _ _ _ l _ _ _ _ (HL.out.1.below H3.out.2.2.2.2)).mono ?_; intro e w4 hpost
  obtain ⟨a6, c6, rfl, hP4, _, hb4⟩ := pthPost_at hpost rfl rfl hlb
  have hB4 := H3.out.2.2.2.2.trans (hb4.mono hw3)
  have H4b := Lib.hid (H3b.out.trans (hb4.mono H3b.out.size))
  have hw24 := H4b.out.size
  have hw4 := hB4.size
  have H4 := Lib.hid (And.intro (H3.out.2.1.below hb4) (And.intro (H3.out.2.2.1.below hb4) (And.intro hP4 (And.intro (ownsRow_below H3.out.2.2.2.1 hb4 (Nat.le_refl _)) hB4))))
  clear hpost hb4 hB4 hP4 p0 p1
  have hee : (pthE z v pull l != pthE z v pull l) = false := by simp
  go_wp2_with fail
  refine (equalPlanes_call _ _ _ _ _ _ _ _ _ H4.out.2.1 H4.out.2.2.1).mono ?_; rintro e w5 ⟨rfl, hb5⟩
  rw [decide_eq_true rfl]
  go_wp2_with fail
  have hB5 := H4.out.2.2.2.2.trans (hb5.mono hw4)
  have hB25 : Below w2.heap.size w2 w5 := H4b.out.trans (hb5.mono hw24)
  have hR5 : Row2 w5 w2.heap.size a5 (pthL z v pull l).length := row2_own (ownsRow_below H4.out.2.2.2.1 hb5 (Nat.le_refl _))
  have hw5 := hB5.size
  have H5 := Lib.hid (And.intro hB25 (And.intro hR5 hB5))
  clear hb5 hB5 hR5 hB25
  generalize (pthL z v pull l).length = L at *
  go_loopw [16] (fun kv wr => ∃ k : Nat, k ≤ L ∧ kv = .int .i64 k ∧ Row2 wr w2.heap.size a5 L ∧ Below w2.heap.size w5 wr) (fun kv _ => L - (intOf kv).toNat)
  case atStart => exact ⟨0, by omega, rfl, H5.out.2.1, Below.refl _ _⟩
  case round =>
    obtain ⟨k, hk, rfl, hR, hBr⟩ := hrel
    by_cases hlt : k < L
    · obtain ⟨g, rfl, hg, hgs, ⟨u0, g0⟩, ⟨u1, g1⟩, f0, f1, hnew⟩ := row2_at hR hlt
      have HN := Lib.hid (And.intro hnew hBr)
      clear hR hnew hBr
      have hk0 : (0 : Int) ≤ (k : Int) := by omega
      have hk1 : (k : Int) < (L : Int) := by omega
      go_wp2_with fail
      go_roundw
      case rel => exact ⟨k + 1, by omega, by go_num, HN.out.1 _ _, (HN.out.2.setCell (p := ⟨g, k * 2, none⟩) hg _).setCell (p := ⟨g, k * 2 + 1, none⟩) hg _⟩
      case measure => simp [intOf]; omega
    · obtain rfl : k = L := by omega
      have hBw : Below w.heap.size w wr := H5.out.2.2.trans (hBr.mono hw2)
      have hP6 := H2.out.2.1.below (H5.out.1.trans hBr)
      have hL6 := HL.out.1.below hBw
      have hX6 := HL.out.2.1.below hBw
      have hY6 := HL.out.2.2.below hBw
      have hwr := hBw.size
      have H6 := Lib.hid (And.intro hP6 (And.intro hL6 (And.intro hX6 (And.intro hY6 hBw))))
      have aneq := arr_neq
      have agd := arr_guard
      clear hBr hR hBw hP6 hL6 hX6 hY6
      go_wp2_with fail
      go_loopw [17] (fun kv wq => ∃ j : Nat, j ≤ n ∧ kv = .int .i64 j ∧ ∃ d, wq = wr.drewN d) (fun kv _ => n - (intOf kv).toNat)
      case atStart => exact ⟨0, by omega, rfl, 0, rfl⟩
      case round =>
        obtain ⟨j, hj, rfl, d, rfl⟩ := hrel
        by_cases hlj : j < n
        · obtain ⟨b1, off1, rfl, x0, x1⟩ := prs_at H6.out.1 hlj
          obtain ⟨b2, off2, rfl, y0, y1⟩ := prs_at H6.out.2.1 hlj
          have ht : prB ((l[j]?.getD (0, 0)).1, (l[j]?.getD (0, 0)).2) ((l[j]?.getD (0, 0)).1, (l[j]?.getD (0, 0)).2) = true := prB_true.2 rfl
          have hk0 : (0 : Int) ≤ (j : Int) := by omega
          have hk1 : (j : Int) < (n : Int) := by omega
          go_wp2
          go_quiet (fail)
          go_wp2
          go_roundw
          case rel => exact ⟨j + 1, by omega, by go_num, _, rfl⟩
          case measure => simp [intOf]; omega
        · obtain rfl : j = n := by omega
          have hBd : Below w.heap.size w (wr.drewN d) := below_drewN H6.out.2.2.2.2 d
          have hX7 := H6.out.2.2.1.below (below_drewN (Below.refl _ wr) d)
          have hY7 := H6.out.2.2.2.1.below (below_drewN (Below.refl _ wr) d)
          have H7 := Lib.hid (And.intro hX7 (And.intro hY7 hBd))
          have hO7 : (wr.drewN d).ownsRow wr.heap.size 23 2 (.slice none 0 0) 0 [] := ⟨rfl, Or.inl ⟨rfl, rfl⟩⟩
          have HO7 := Lib.hid hO7
          clear hO7 hX7 hY7 hBd aneq agd
          obtain ⟨ip, hpi, hpz, hps, hpb⟩ := info_parts infoPlane
          have HPI := Lib.hid (And.intro hpi (And.intro hpz (And.intro hps hpb)))
          clear hpi hpz hps hpb
          go_wp2_with (first | (at_builtin; refine wpList_append_src rfl _ (.tmp 85) 33 rfl wr.heap.size 23 ip _ 2 16 Try.underlying33 HPI.out.1 HPI.out.2.1 HPI.out.2.2.1 HPI.out.2.2.2 rfl (by decide) _ 0 [] rfl HO7.out _ _ _ (flat2 ps) rfl HA.out.2.1 (by rw [flat2_length, HLen3.out.1]) (prs_src H7.out.1) (flat2_one ps) (by unfold maxLen; omega) (by omega) (by first | exact Nat.le_refl _ | simp) ?_; intro v7 w7 hown7 hg7; have hb7 : Below wr.heap.size wr w7 := (below_drewN (Below.refl _ wr) d).trans (grown_below HO7.out hg7 (Nat.le_refl _) (by simp)); have hw7 := hb7.size; have hown7' : w7.ownsRow wr.heap.size 23 2 v7 ps.length (flat2 ps) := (by rw [HLen3.out.1]; simpa using hown7); obtain ⟨a7, c7, rfl, hP7⟩ := prs_own hown7' (by rw [HLen3.out.1]; omega); rw [HLen3.out.1] at hP7; have hO8 : w7.ownsRow w7.heap.size 23 2 (.slice none 0 0) 0 [] := ⟨rfl, Or.inl ⟨rfl, rfl⟩⟩; have H8 := Lib.hid (And.intro hO8 (And.intro hP7 (And.intro (H6.out.2.2.1.below hb7) (And.intro (H6.out.2.2.2.1.below hb7) (H6.out.2.2.2.2.trans (hb7.mono hwr)))))); rw [HLen3.out.1]; clear hown7 hown7' hg7 hO8 hP7 hb7) | (at_builtin; refine wpList_append_src rfl _ (.tmp 87) 33 rfl w7.heap.size 23 ip _ 2 16 Try.underlying33 HPI.out.1 HPI.out.2.1 HPI.out.2.2.1 HPI.out.2.2.2 rfl (by decide) _ 0 [] rfl H8.out.1 _ _ _ (flat2 qs) rfl HA.out.2.2 (by rw [flat2_length, HLen3.out.2]) (prs_src H8.out.2.2.2.1) (flat2_one qs) (by unfold maxLen; omega) (by omega) (by first | exact Nat.le_refl _ | simp) ?_; intro v8 w8 hown8 hg8; have hb8 : Below w7.heap.size w7 w8 := grown_below H8.out.1 hg8 (Nat.le_refl _) (Nat.le_refl _); have hw8 := hb8.size; have hown8' : w8.ownsRow w7.heap.size 23 2 v8 qs.length (flat2 qs) := (by rw [HLen3.out.2]; simpa using hown8); obtain ⟨a8, c8, rfl, hP8⟩ := prs_own hown8' (by rw [HLen3.out.2]; omega); rw [HLen3.out.2] at hP8; have hB8 := H8.out.2.2.2.2.trans (hb8.mono (Nat.le_trans hwr hw7)); have hwB8 := hB8.size; have H9 := Lib.hid (And.intro (H8.out.2.1.below hb8) (And.intro hP8 (And.intro (H8.out.2.2.1.below hb8) (And.intro (H8.out.2.2.2.1.below hb8) hB8)))); rw [HLen3.out.2]; clear hown8 hown8' hg8 hP8 hb8 hB8))
          refine (Meet_call _ _ _ _ _ _ ps qs _ H9.out.1 H9.out.2.1).mono ?_
          rintro e w9 ⟨rfl, hb9⟩
          have hB9 := H9.out.2.2.2.2.trans (hb9.mono hwB8)
          have hwB9 := hB9.size
          have H10 := Lib.hid (And.intro (H9.out.1.below hb9) (And.intro (H9.out.2.1.below hb9) (And.intro (H9.out.2.2.1.below hb9) (And.intro (H9.out.2.2.2.1.below hb9) hB9))))
          clear hb9 hB9
          go_wp2_with fail
          refine (refMeet_call _ _ _ _ _ _ ps qs _ H10.out.2.2.1 H10.out.2.2.2.1).mono ?_
          rintro e w10 ⟨rfl, hb10⟩
          have hB10 := H10.out.2.2.2.2.trans (hb10.mono hwB9)
          have hwB10 := hB10.size
          have H11 := Lib.hid (And.intro (H10.out.1.below hb10) (And.intro (H10.out.2.1.below hb10) (And.intro (H10.out.2.2.1.below hb10) (And.intro (H10.out.2.2.2.1.below hb10) hB10))))
          clear hb10 hB10
          go_wp2_with fail
          refine (Meet_call _ _ _ _ _ _ qs ps _ H11.out.2.1 H11.out.1).mono ?_
          intro e w11 hm11
          have hS1 : (mtS ps qs == mtS ps qs) = true := by simp
          have hS2 : (mtT ps qs == mtT ps qs) = true := by simp
          have hS3 : (mtE ps qs == mtE ps qs) = true := by simp
          by_cases hq : n3 = n4
          · have hlq : qs.length = ps.length := by rw [HLen3.out.1, HLen3.out.2, hq]
            obtain ⟨rfl, hb11⟩ := hm11
            rw [mtS_symm hlq, mtT_symm hlq, mtE_symm hlq]
            have hB11 := H11.out.2.2.2.2.trans (hb11.mono hwB10)
            have hwB11 := hB11.size
            have H12 := Lib.hid (And.intro (H11.out.1.below hb11) (And.intro (H11.out.2.1.below hb11) (And.intro (H11.out.2.2.1.below hb11) (And.intro (H11.out.2.2.2.1.below hb11) hB11))))
            clear hb11 hB11 hlq
            have hq' : ((n3 : Int) == (n4 : Int)) = true := by simp [hq]
            have hN1 : (mtS ps qs != mtS ps qs) = false := by simp
            have hN2 : (mtT ps qs != mtT ps qs) = false := by simp
            have hN3 : (mtE ps qs != mtE ps qs) = false := by simp
            have HQ := Lib.hid hq
            clear hq
            go_wp2_with fail
            refine (equalPlanes_call _ _ _ _ _ _ _ _ _ H12.out.1 H12.out.2.2.1).mono ?_; rintro e w12 ⟨rfl, hb12⟩
            rw [decide_eq_true (rfl : ps = ps)]
            have hB12 := H12.out.2.2.2.2.trans (hb12.mono hwB11)
            have hwB12 := hB12.size
            have H13 := Lib.hid (And.intro (H12.out.2.1.below hb12) (And.intro (H12.out.2.2.2.1.below hb12) hB12))
            clear hb12 hB12
            go_wp2_with fail
            refine (equalPlanes_call _ _ _ _ _ _ _ _ _ H13.out.1 H13.out.2.1).mono ?_; rintro e w13 ⟨rfl, hb13⟩
            rw [decide_eq_true (rfl : qs = qs)]
            have hB13 := H13.out.2.2.trans (hb13.mono hwB12)
            have hwB13 := hB13.size
            have H14 := Lib.hid hB13
            clear hb13 hB13
            go_wp2_with fail
            refine (awake_call _).mono ?_; rintro e w14 ⟨rfl, hb14⟩
            have H15 := Lib.hid (H14.out.trans (hb14.mono hwB13))
            go_wp2
            go_ret
            exact ⟨rfl, H15.out⟩
          · obtain ⟨rfl, hb11⟩ := hm11
            have hB11 := H11.out.2.2.2.2.trans (hb11.mono hwB10)
            have hwB11 := hB11.size
            have H12 := Lib.hid (And.intro (H11.out.1.below hb11) (And.intro (H11.out.2.1.below hb11) (And.intro (H11.out.2.2.1.below hb11) (And.intro (H11.out.2.2.2.1.below hb11) hB11))))
            clear hb11 hB11
            have hq' : ((n3 : Int) == (n4 : Int)) = false := by simp; omega
            have HQ := Lib.hid hq
            clear hq
            go_wp2_with fail
            refine (equalPlanes_call _ _ _ _ _ _ _ _ _ H12.out.1 H12.out.2.2.1).mono ?_; rintro e w12 ⟨rfl, hb12⟩
            rw [decide_eq_true (rfl : ps = ps)]
            have hB12 := H12.out.2.2.2.2.trans (hb12.mono hwB11)
            have hwB12 := hB12.size
            have H13 := Lib.hid (And.intro (H12.out.2.1.below hb12) (And.intro (H12.out.2.2.2.1.below hb12) hB12))
            clear hb12 hB12
            go_wp2_with fail
            refine (equalPlanes_call _ _ _ _ _ _ _ _ _ H13.out.1 H13.out.2.1).mono ?_; rintro e w13 ⟨rfl, hb13⟩
            rw [decide_eq_true (rfl : qs = qs)]
            have hB13 := H13.out.2.2.trans (hb13.mono hwB12)
            have hwB13 := hB13.size
            have H14 := Lib.hid hB13
            clear hb13 hB13
            go_wp2_with fail
            refine (awake_call _).mono ?_; rintro e w14 ⟨rfl, hb14⟩
            have H15 := Lib.hid (H14.out.trans (hb14.mono hwB13))
            go_wp2
            go_ret
            exact ⟨rfl, H15.out⟩

theorem PathsLaw_call (a a3 a4 : Option Addr) (n c n3 c3 n4 c4 : Nat) (l ps qs : List (Int × Int)) (z v pull : Int) (w : World) (hl : MyPair.Rd w a n l) (hx : MyPair.Rd w a3 n3 ps) (hy : MyPair.Rd w a4 n4 qs) (ha : a = none → n = 0 ∧ c = 0) (ha3 : a3 = none → n3 = 0 ∧ c3 = 0) (ha4 : a4 = none → n4 = 0 ∧ c4 = 0) :
    Calls Try.prog 4 #[.agg #[.int .i64 z, .int .i64 v], .slice a n c, .int .i64 pull, .slice a3 n3 c3, .slice a4 n4 c4] w fun e w' => e = .returned (.bool true) ∧ Below w.heap.size w w' := by
  cases hd : (decide (300 < (n3 : Int)) || decide (300 < (n4 : Int)) || decide (300 < (n : Int))) with
  | true => exact PathsLaw_long a a3 a4 n c n3 c3 n4 c4 z v pull w (by have := hx.bound; unfold maxLen at this; omega) (by have := hy.bound; unfold maxLen at this; omega) hd
  | false =>
    simp at hd
    exact PathsLaw_good a a3 a4 n c n3 c3 n4 c4 l ps qs z v pull w (prs_rd hl (by omega)) (prs_rd hx (by omega)) (prs_rd hy (by omega)) (by omega) (by omega) (by omega) ha ha3 ha4
end Go.Proofs.Ythaokofhepngbaa
