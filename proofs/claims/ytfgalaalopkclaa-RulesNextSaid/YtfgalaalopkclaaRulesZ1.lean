/-
  Layer 38 (rules): the reference's Next, sense 1. Printed by genRulesZ.py.
-/
import Derived.Test.YtfgalaalopkclaaRulesZ
namespace Go.Proofs.Ytfgalaalopkclaa
open Go.RowKit PlaneMath PilotMath RulesMath MyHeap MyOwn MyCopy

set_option maxRecDepth 100000 in
set_option maxHeartbeats 8000000 in
theorem rNext_turn1 (a : Option Addr) (n c : Nat) (s : RulesMath.Set) (z v z' v' t fl k : Int) (st : NSt) (w : World) (h : Ints w a n s.rs) (hs : 0 ≤ st.a.s) (hE : whlE s z v z' v' t k = 0) (hB : bndE st.a = 0) (hA0 : ¬ st.age < 0) (hA : ¬ 1000 < st.age) (hC : chE s z v z' v' t fl k = 0) (hg : st.a.s = 1) (hw : alwB z fl k 1 = true) (hT : turnB s z v z' v' t fl k st 1 = true) :
    Calls Try.prog 27 #[setV a n c s, nstV st, .agg #[.int .i64 z, .int .i64 v], .agg #[.int .i64 z', .int .i64 v'], .int .i64 t, .int .i64 fl, .int .u8 k] w (NxPost s z v z' v' t fl k st w) := by
  have HL := Lib.hid h
  have HS := Lib.hid hs
  have HE := Lib.hid hE
  have HBn := Lib.hid hB
  have HO := Lib.hid (scOk_of (whlE_zero hE).1 ⟨(whlE_zero hE).2.1, (whlE_zero hE).2.2.1⟩)
  have HC := Lib.hid hC
  have HG := Lib.hid hg
  have HNZ := Lib.hid (show st.a.s ≠ 0 from by rw [hg]; decide)
  have HA0 := Lib.hid (show ¬ (st.age < 0 ∨ 1000 < st.age) from by omega)
  have age0 : 0 ≤ st.age := by omega
  have age1 : st.age ≤ 1000 := by omega
  have HW := Lib.hid hw
  have HT := Lib.hid hT
  have HQ := Lib.hid ((turn_cases (s := s) (z := z) (v := v) (z' := z') (v' := v') (t := t) (fl := fl) (k := k) (st := st) 1).resolve_right (fun h => by rw [hT] at h; cases h.1))
  clear hE hs hB hC hA0 hA hg hw hT
  clear h
  unfold setV nstV
  go_enter Try.func27, Try.ntmps27
  go_upto_region 1 with fail
  have K0 : RwK w (setC a n c s) (nstC st) z v z' v' (((((w.alloc (.cells #[.slice a n c, .int .i64 s.alim, .int .i64 s.d, .int .i64 s.pl] 34)).alloc (.cells #[.int .u8 st.a.s, .int .i64 st.a.r, .bool st.a.k, .int .i64 st.age, .bool st.rv] 60)).alloc (.cells #[.int .i64 z, .int .i64 v] 26)).alloc (.cells #[.int .i64 z', .int .i64 v'] 26)).alloc (.cells #[.int .u8 0, .int .i64 0, .bool false, .int .i64 0, .bool false] 60)) :=
    ⟨block_alloc (block_alloc (block_alloc (block_alloc (block_new _ _ rfl)))), block_alloc (block_alloc (block_alloc (block_new _ _ (by simp)))), block_alloc (block_alloc (block_new _ _ (by simp))), block_alloc (block_new _ _ (by simp)), block_new _ _ (by simp), ((((below_alloc _ _).alloc (by simp) _).alloc (by simp; omega) _).alloc (by simp; omega) _).alloc (by simp; omega) _⟩
  generalize (((((w.alloc (.cells #[.slice a n c, .int .i64 s.alim, .int .i64 s.d, .int .i64 s.pl] 34)).alloc (.cells #[.int .u8 st.a.s, .int .i64 st.a.r, .bool st.a.k, .int .i64 st.age, .bool st.rv] 60)).alloc (.cells #[.int .i64 z, .int .i64 v] 26)).alloc (.cells #[.int .i64 z', .int .i64 v'] 26)).alloc (.cells #[.int .u8 0, .int .i64 0, .bool false, .int .i64 0, .bool false] 60)) = wq at *
  have K := Lib.hid K0
  clear K0
  obtain ⟨u0, u1, u2, u3⟩ := four_cells K.out.1
  obtain ⟨s0, s1, s2, s3, s4⟩ := five_cells K.out.2.1
  obtain ⟨p0, p1⟩ := two_cells K.out.2.2.1
  obtain ⟨p2, p3⟩ := two_cells K.out.2.2.2.1
  obtain ⟨hl0, hl1, hl2, hl3, hl4⟩ := K.out.lts
  go_wp2_with fail
  refine (rwrong_call a n c s z v z' v' t k _ (HL.out.below K.out.2.2.2.2.2)).mono ?_; rintro e w5 ⟨rfl, hb5⟩
  replace K := Lib.hid (K.out.keep hb5)
  clear hb5
  clear u0 u1 u2 u3 s0 s1 s2 s3 s4 p0 p1 p2 p3 hl0 hl1 hl2 hl3 hl4
  obtain ⟨u0, u1, u2, u3⟩ := four_cells K.out.1
  obtain ⟨s0, s1, s2, s3, s4⟩ := five_cells K.out.2.1
  obtain ⟨p0, p1⟩ := two_cells K.out.2.2.1
  obtain ⟨p2, p3⟩ := two_cells K.out.2.2.2.1
  obtain ⟨hl0, hl1, hl2, hl3, hl4⟩ := K.out.lts
  rw [HE.out]
  go_wp2_with fail
  refine (refBounds_call st.a _ HS.out).mono ?_; rintro e w5 ⟨rfl, hb5⟩
  replace K := Lib.hid (K.out.keep hb5)
  clear hb5
  clear u0 u1 u2 u3 s0 s1 s2 s3 s4 p0 p1 p2 p3 hl0 hl1 hl2 hl3 hl4
  obtain ⟨u0, u1, u2, u3⟩ := four_cells K.out.1
  obtain ⟨s0, s1, s2, s3, s4⟩ := five_cells K.out.2.1
  obtain ⟨p0, p1⟩ := two_cells K.out.2.2.1
  obtain ⟨p2, p3⟩ := two_cells K.out.2.2.2.1
  obtain ⟨hl0, hl1, hl2, hl3, hl4⟩ := K.out.lts
  rw [HBn.out]
  go_wp2_with fail
  refine (rChoose_call a n c s z v z' v' t fl k _ (HL.out.below K.out.2.2.2.2.2)).mono ?_; rintro e w3 ⟨rfl, hb3⟩
  replace K := Lib.hid (K.out.keep hb3)
  clear hb3
  clear u0 u1 u2 u3 s0 s1 s2 s3 s4 p0 p1 p2 p3 hl0 hl1 hl2 hl3 hl4
  rw [HC.out]
  generalize hY : chR s z v z' v' t fl k = Y at *
  obtain ⟨u0, u1, u2, u3⟩ := four_cells K.out.1
  obtain ⟨s0, s1, s2, s3, s4⟩ := five_cells K.out.2.1
  obtain ⟨p0, p1⟩ := two_cells K.out.2.2.1
  obtain ⟨p2, p3⟩ := two_cells K.out.2.2.2.1
  obtain ⟨hl0, hl1, hl2, hl3, hl4⟩ := K.out.lts
  go_upto_region 13 with fail
  have L : RwL w (setC a n c s) (nstC st) z v z' v' w3.heap.size Y (w3.heap.size + 1) st.a ((w3.alloc (.cells #[.int .u8 Y.s, .int .i64 Y.r, .bool Y.k] 30)).alloc (.cells #[.int .u8 st.a.s, .int .i64 st.a.r, .bool st.a.k] 30)) :=
    ⟨(K.out.keep (below_alloc _ _)).keep (below_alloc _ _), block_alloc (block_new _ _ rfl), block_new _ _ (by simp)⟩
  have HY := Lib.hid hY
  clear hY K
  clear u0 u1 u2 u3 s0 s1 s2 s3 s4 p0 p1 p2 p3 hl0 hl1 hl2 hl3 hl4
  generalize hbN : w3.heap.size + 1 = bN at *
  generalize hbF : w3.heap.size = bF at *
  generalize ((w3.alloc (.cells #[.int .u8 Y.s, .int .i64 Y.r, .bool Y.k] 30)).alloc (.cells #[.int .u8 st.a.s, .int .i64 st.a.r, .bool st.a.k] 30)) = w4 at *
  clear hbN hbF
  have K := Lib.hid L
  clear L
  obtain ⟨u0, u1, u2, u3⟩ := four_cells K.out.1.1
  obtain ⟨s0, s1, s2, s3, s4⟩ := five_cells K.out.1.2.1
  obtain ⟨p0, p1⟩ := two_cells K.out.1.2.2.1
  obtain ⟨p2, p3⟩ := two_cells K.out.1.2.2.2.1
  obtain ⟨hl0, hl1, hl2, hl3, hl4⟩ := K.out.1.lts
  obtain ⟨f0, f1, f2⟩ := three_old' K.out.2.1
  obtain ⟨n0, n1, n2⟩ := three_old' K.out.2.2
  have hlF := lt_of_block K.out.2.1
  have hlN := lt_of_block K.out.2.2
  rw [show st.a.s = 1 from HG.out] at n0
  go_wp2_with fail
  refine (rallowed_call z v fl k 1 _ (by decide)).mono ?_; rintro e w5 ⟨rfl, hb5⟩
  replace K := Lib.hid (K.out.keep hb5)
  clear hb5
  rw [HW.out]
  clear u0 u1 u2 u3 s0 s1 s2 s3 s4 p0 p1 p2 p3 hl0 hl1 hl2 hl3 hl4 hlF hlN f0 f1 f2 n0 n1 n2
  obtain ⟨u0, u1, u2, u3⟩ := four_cells K.out.1.1
  obtain ⟨s0, s1, s2, s3, s4⟩ := five_cells K.out.1.2.1
  obtain ⟨p0, p1⟩ := two_cells K.out.1.2.2.1
  obtain ⟨p2, p3⟩ := two_cells K.out.1.2.2.2.1
  obtain ⟨hl0, hl1, hl2, hl3, hl4⟩ := K.out.1.lts
  obtain ⟨f0, f1, f2⟩ := three_old' K.out.2.1
  obtain ⟨n0, n1, n2⟩ := three_old' K.out.2.2
  have hlF := lt_of_block K.out.2.1
  have hlN := lt_of_block K.out.2.2
  rw [show st.a.s = 1 from HG.out] at n0
  go_wp2_with fail
  refine (rbest_call a n c s z v z' v' t 1 _ (HL.out.below K.out.1.2.2.2.2.2) HO.out (by decide)).mono ?_; rintro e w5 ⟨rfl, hb5⟩
  replace K := Lib.hid (K.out.keep hb5)
  clear hb5
  clear u0 u1 u2 u3 s0 s1 s2 s3 s4 p0 p1 p2 p3 hl0 hl1 hl2 hl3 hl4 hlF hlN f0 f1 f2 n0 n1 n2
  obtain ⟨u0, u1, u2, u3⟩ := four_cells K.out.1.1
  obtain ⟨s0, s1, s2, s3, s4⟩ := five_cells K.out.1.2.1
  obtain ⟨p0, p1⟩ := two_cells K.out.1.2.2.1
  obtain ⟨p2, p3⟩ := two_cells K.out.1.2.2.2.1
  obtain ⟨hl0, hl1, hl2, hl3, hl4⟩ := K.out.1.lts
  obtain ⟨f0, f1, f2⟩ := three_old' K.out.2.1
  obtain ⟨n0, n1, n2⟩ := three_old' K.out.2.2
  have hlF := lt_of_block K.out.2.1
  have hlN := lt_of_block K.out.2.2
  rw [show st.a.s = 1 from HG.out] at n0
  have hbS := HO.out.bestBd (g := 1) (by decide)
  go_upto_region 19 with fail
  go_cut [129] (fun s129 wx => s129 = .bool (turnB s z v z' v' t fl k st 1) ∧ RwL w (setC a n c s) (nstC st) z v z' v' bF Y bN st.a wx)
  case first =>
    replace K := K.out.keep ((Below.refl _ _).drew)
    have hsum : IntKind.i64.wrap (bestV s z v z' v' 1 t + s.alim) = bestV s z v z' v' 1 t + s.alim := IntWalk.i64_in _ (by omega)
    clear hbS
    obtain ⟨_, v1, v2, v3, v4⟩ := HQ.out
    have HV := Lib.hid v1
    have HV2 := Lib.hid v2
    have HQ3 := Lib.hid (And.intro v3 v4)
    clear v1 v2
    have gv3 : decide (bestV s z v z' v' 1 t < s.alim) = true := v3
    have gv4 : decide (bestV s z v z' v' 1 t + s.alim ≤ bestV s z v z' v' 2 t) = true := v4
    clear v3 v4
    refine wp_region_held_drew (S := (fun w' => w'.cell? ⟨w.heap.size + 1, 4, none⟩ = some (.bool false) ∧ (w'.cell? ⟨w.heap.size, 0, none⟩ = some (.slice a n c) ∧ w'.cell? ⟨w.heap.size, 1, none⟩ = some (.int .i64 s.alim) ∧ w'.cell? ⟨w.heap.size, 2, none⟩ = some (.int .i64 s.d) ∧ w'.cell? ⟨w.heap.size, 3, none⟩ = some (.int .i64 s.pl)) ∧ (w'.cell? ⟨w.heap.size + 1 + 1, 0, none⟩ = some (.int .i64 z) ∧ w'.cell? ⟨w.heap.size + 1 + 1, 1, none⟩ = some (.int .i64 v)) ∧ (w'.cell? ⟨w.heap.size + 1 + 1 + 1, 0, none⟩ = some (.int .i64 z') ∧ w'.cell? ⟨w.heap.size + 1 + 1 + 1, 1, none⟩ = some (.int .i64 v')))) (by kernel_rfl) (by (try dsimp only); (exact ⟨by rw [← HV.out]; exact (five_cells K.1.2.1).2.2.2.2, four_cells K.1.1, two_cells K.1.2.2.1, two_cells K.1.2.2.2.1⟩)) (fun hHeld => ?_)
    refine MyHeld.take 0 (v := ?_) .z (by kernel_rfl) (by kernel_rfl) (by kernel_rfl) (fun _ _ _ h => h) (by rfl) (by assumption) ?_ ?_
    rotate_left
    · intro w hSw; (try dsimp only at hSw); go_simp; (try with_reducible rfl)
    try simp only [Act.put, List.setIfInBounds_toArray, List.set_cons_zero, List.set_cons_succ]
    refine MyHeld.take 1 (v := ?_) (.s .z) (by kernel_rfl) (by kernel_rfl) (by kernel_rfl) (fun _ _ _ h => h) (by rfl) (by assumption) ?_ ?_
    rotate_left
    · intro w hSw; (try dsimp only at hSw); go_simp; (try with_reducible rfl)
    try simp only [Act.put, List.setIfInBounds_toArray, List.set_cons_zero, List.set_cons_succ]
    refine MyHeld.take 2 (v := ?_) (.s (.s .z)) (by kernel_rfl) (by kernel_rfl) (by kernel_rfl) (fun _ _ _ h => h) (by rfl) (by assumption) ?_ ?_
    rotate_left
    · intro w hSw; (try dsimp only at hSw); go_simp; (try with_reducible rfl)
    try simp only [Act.put, List.setIfInBounds_toArray, List.set_cons_zero, List.set_cons_succ]
    refine MyHeld.take 3 (v := ?_) (.s (.s (.s .z))) (by kernel_rfl) (by kernel_rfl) (by kernel_rfl) (fun _ _ _ h => h) (by rfl) (by assumption) ?_ ?_
    rotate_left
    · intro w hSw; (try dsimp only at hSw); go_simp; (try with_reducible rfl)
    try simp only [Act.put, List.setIfInBounds_toArray, List.set_cons_zero, List.set_cons_succ]
    refine MyHeld.take 4 (v := ?_) (.s (.s (.s (.s .z)))) (by kernel_rfl) (by kernel_rfl) (by kernel_rfl) (fun _ _ _ h => h) (by rfl) (by assumption) ?_ ?_
    rotate_left
    · intro w hSw; (try dsimp only at hSw); go_simp; (try with_reducible rfl)
    try simp only [Act.put, List.setIfInBounds_toArray, List.set_cons_zero, List.set_cons_succ]
    refine MyHeld.take 5 (v := ?_) (.s (.s (.s (.s (.s .z))))) (by kernel_rfl) (by kernel_rfl) (by kernel_rfl) (fun _ _ _ h => h) (by rfl) (by assumption) ?_ ?_
    rotate_left
    · intro w hSw; (try dsimp only at hSw); go_simp; (try with_reducible rfl)
    try simp only [Act.put, List.setIfInBounds_toArray, List.set_cons_zero, List.set_cons_succ]
    refine MyHeld.take 6 (v := ?_) (.s (.s (.s (.s (.s (.s .z)))))) (by kernel_rfl) (by kernel_rfl) (by kernel_rfl) (fun _ _ _ h => h) (by rfl) (by assumption) ?_ ?_
    rotate_left
    · intro w hSw; (try dsimp only at hSw); go_simp; (try with_reducible rfl)
    try simp only [Act.put, List.setIfInBounds_toArray, List.set_cons_zero, List.set_cons_succ]
    refine MyHeld.take 7 (v := ?_) (.s (.s (.s (.s (.s (.s (.s .z))))))) (by kernel_rfl) (by kernel_rfl) (by kernel_rfl) (fun _ _ _ h => h) (by rfl) (by assumption) ?_ ?_
    rotate_left
    · intro w hSw; (try dsimp only at hSw); go_simp; (try with_reducible rfl)
    try simp only [Act.put, List.setIfInBounds_toArray, List.set_cons_zero, List.set_cons_succ]
    refine wpAnyH_ready (rs := [8]) (by kernel_rfl) (by simp) ?_
    refine (MyHeld.next 8 (.s (.s (.s (.s (.s (.s (.s (.s .z)))))))) (fun Kq hKq => ?_) AllReadyH.nil)
    go_simp
    (go_at_call 40; refine (rallowed_call z v fl k 2 _ (by decide)).mono ?_; rintro e w3 ⟨rfl, hb3⟩; rw [show alwB z fl k 2 = true from HV2.out]; replace K := K.keep hb3; clear hb3)
    go_wp2_with fail
    refine hKq.out _ _ (by (try dsimp only); (exact ⟨by rw [← HV.out]; exact (five_cells K.1.2.1).2.2.2.2, four_cells K.1.1, two_cells K.1.2.2.1, two_cells K.1.2.2.2.1⟩)) (fun hHeld' => ?_)
    clear hKq Kq hHeld; have hHeld := hHeld'; clear hHeld'
    try simp only [Act.put, List.setIfInBounds_toArray, List.set_cons_zero, List.set_cons_succ]
    refine MyHeld.take 9 (v := ?_) (.s (.s (.s (.s (.s (.s (.s (.s (.s .z))))))))) (by kernel_rfl) (by kernel_rfl) (by kernel_rfl) (fun _ _ _ h => h) (by rfl) (by assumption) ?_ ?_
    rotate_left
    · intro w hSw; (try dsimp only at hSw); go_simp; (try with_reducible rfl)
    try simp only [Act.put, List.setIfInBounds_toArray, List.set_cons_zero, List.set_cons_succ]
    refine MyHeld.take 10 (v := ?_) (.s (.s (.s (.s (.s (.s (.s (.s (.s (.s .z)))))))))) (by kernel_rfl) (by kernel_rfl) (by kernel_rfl) (fun _ _ _ h => h) (by rfl) (by assumption) ?_ ?_
    rotate_left
    · intro w hSw; (try dsimp only at hSw); go_simp; (try with_reducible rfl)
    try simp only [Act.put, List.setIfInBounds_toArray, List.set_cons_zero, List.set_cons_succ]
    refine MyHeld.take 11 (v := ?_) (.s (.s (.s (.s (.s (.s (.s (.s (.s (.s (.s .z))))))))))) (by kernel_rfl) (by kernel_rfl) (by kernel_rfl) (fun _ _ _ h => h) (by rfl) (by assumption) ?_ ?_
    rotate_left
    · intro w hSw; (try dsimp only at hSw); go_simp; (try with_reducible rfl)
    try simp only [Act.put, List.setIfInBounds_toArray, List.set_cons_zero, List.set_cons_succ]
    refine MyHeld.take 12 (v := ?_) (.s (.s (.s (.s (.s (.s (.s (.s (.s (.s (.s (.s .z)))))))))))) (by kernel_rfl) (by kernel_rfl) (by kernel_rfl) (fun _ _ _ h => h) (by rfl) (by assumption) ?_ ?_
    rotate_left
    · intro w hSw; (try dsimp only at hSw); go_simp; (try with_reducible rfl)
    try simp only [Act.put, List.setIfInBounds_toArray, List.set_cons_zero, List.set_cons_succ]
    refine MyHeld.take 13 (v := ?_) (.s (.s (.s (.s (.s (.s (.s (.s (.s (.s (.s (.s (.s .z))))))))))))) (by kernel_rfl) (by kernel_rfl) (by kernel_rfl) (fun _ _ _ h => h) (by rfl) (by assumption) ?_ ?_
    rotate_left
    · intro w hSw; (try dsimp only at hSw); go_simp; (try with_reducible rfl)
    try simp only [Act.put, List.setIfInBounds_toArray, List.set_cons_zero, List.set_cons_succ]
    refine MyHeld.take 14 (v := ?_) (.s (.s (.s (.s (.s (.s (.s (.s (.s (.s (.s (.s (.s (.s .z)))))))))))))) (by kernel_rfl) (by kernel_rfl) (by kernel_rfl) (fun _ _ _ h => h) (by rfl) (by assumption) ?_ ?_
    rotate_left
    · intro w hSw; (try dsimp only at hSw); go_simp; (try with_reducible rfl)
    try simp only [Act.put, List.setIfInBounds_toArray, List.set_cons_zero, List.set_cons_succ]
    refine MyHeld.take 15 (v := ?_) (.s (.s (.s (.s (.s (.s (.s (.s (.s (.s (.s (.s (.s (.s (.s .z))))))))))))))) (by kernel_rfl) (by kernel_rfl) (by kernel_rfl) (fun _ _ _ h => h) (by rfl) (by assumption) ?_ ?_
    rotate_left
    · intro w hSw; (try dsimp only at hSw); go_simp; (try with_reducible rfl)
    try simp only [Act.put, List.setIfInBounds_toArray, List.set_cons_zero, List.set_cons_succ]
    refine MyHeld.take 16 (v := ?_) (.s (.s (.s (.s (.s (.s (.s (.s (.s (.s (.s (.s (.s (.s (.s (.s .z)))))))))))))))) (by kernel_rfl) (by kernel_rfl) (by kernel_rfl) (fun _ _ _ h => h) (by rfl) (by assumption) ?_ ?_
    rotate_left
    · intro w hSw; (try dsimp only at hSw); go_simp; (try with_reducible rfl)
    try simp only [Act.put, List.setIfInBounds_toArray, List.set_cons_zero, List.set_cons_succ]
    refine MyHeld.take 17 (v := ?_) (.s (.s (.s (.s (.s (.s (.s (.s (.s (.s (.s (.s (.s (.s (.s (.s (.s .z))))))))))))))))) (by kernel_rfl) (by kernel_rfl) (by kernel_rfl) (fun _ _ _ h => h) (by rfl) (by assumption) ?_ ?_
    rotate_left
    · intro w hSw; (try dsimp only at hSw); go_simp; (try with_reducible rfl)
    try simp only [Act.put, List.setIfInBounds_toArray, List.set_cons_zero, List.set_cons_succ]
    refine MyHeld.take 18 (v := ?_) (.s (.s (.s (.s (.s (.s (.s (.s (.s (.s (.s (.s (.s (.s (.s (.s (.s (.s .z)))))))))))))))))) (by kernel_rfl) (by kernel_rfl) (by kernel_rfl) (fun _ _ _ h => h) (by rfl) (by assumption) ?_ ?_
    rotate_left
    · intro w hSw; (try dsimp only at hSw); go_simp; (try with_reducible rfl)
    try simp only [Act.put, List.setIfInBounds_toArray, List.set_cons_zero, List.set_cons_succ]
    refine MyHeld.take 19 (v := ?_) (.s (.s (.s (.s (.s (.s (.s (.s (.s (.s (.s (.s (.s (.s (.s (.s (.s (.s (.s .z))))))))))))))))))) (by kernel_rfl) (by kernel_rfl) (by kernel_rfl) (fun _ _ _ h => h) (by rfl) (by assumption) ?_ ?_
    rotate_left
    · intro w hSw; (try dsimp only at hSw); go_simp; (try with_reducible rfl)
    try simp only [Act.put, List.setIfInBounds_toArray, List.set_cons_zero, List.set_cons_succ]
    refine MyHeld.take 20 (v := ?_) (.s (.s (.s (.s (.s (.s (.s (.s (.s (.s (.s (.s (.s (.s (.s (.s (.s (.s (.s (.s .z)))))))))))))))))))) (by kernel_rfl) (by kernel_rfl) (by kernel_rfl) (fun _ _ _ h => h) (by rfl) (by assumption) ?_ ?_
    rotate_left
    · intro w hSw; (try dsimp only at hSw); go_simp; (try with_reducible rfl)
    try simp only [Act.put, List.setIfInBounds_toArray, List.set_cons_zero, List.set_cons_succ]
    refine MyHeld.take 21 (v := ?_) (.s (.s (.s (.s (.s (.s (.s (.s (.s (.s (.s (.s (.s (.s (.s (.s (.s (.s (.s (.s (.s .z))))))))))))))))))))) (by kernel_rfl) (by kernel_rfl) (by kernel_rfl) (fun _ _ _ h => h) (by rfl) (by assumption) ?_ ?_
    rotate_left
    · intro w hSw; (try dsimp only at hSw); go_simp; (try with_reducible rfl)
    try simp only [Act.put, List.setIfInBounds_toArray, List.set_cons_zero, List.set_cons_succ]
    refine MyHeld.take 23 (v := ?_) (.s (.s (.s (.s (.s (.s (.s (.s (.s (.s (.s (.s (.s (.s (.s (.s (.s (.s (.s (.s (.s (.s (.s .z))))))))))))))))))))))) (by kernel_rfl) (by kernel_rfl) (by kernel_rfl) (fun _ _ _ h => h) (by rfl) (by assumption) ?_ ?_
    rotate_left
    · intro w hSw; (try dsimp only at hSw); go_simp; (try with_reducible rfl)
    try simp only [Act.put, List.setIfInBounds_toArray, List.set_cons_zero, List.set_cons_succ]
    refine MyHeld.take 24 (v := ?_) (.s (.s (.s (.s (.s (.s (.s (.s (.s (.s (.s (.s (.s (.s (.s (.s (.s (.s (.s (.s (.s (.s (.s (.s .z)))))))))))))))))))))))) (by kernel_rfl) (by kernel_rfl) (by kernel_rfl) (fun _ _ _ h => h) (by rfl) (by assumption) ?_ ?_
    rotate_left
    · intro w hSw; (try dsimp only at hSw); go_simp; (try with_reducible rfl)
    try simp only [Act.put, List.setIfInBounds_toArray, List.set_cons_zero, List.set_cons_succ]
    refine MyHeld.take 25 (v := ?_) (.s (.s (.s (.s (.s (.s (.s (.s (.s (.s (.s (.s (.s (.s (.s (.s (.s (.s (.s (.s (.s (.s (.s (.s (.s .z))))))))))))))))))))))))) (by kernel_rfl) (by kernel_rfl) (by kernel_rfl) (fun _ _ _ h => h) (by rfl) (by assumption) ?_ ?_
    rotate_left
    · intro w hSw; (try dsimp only at hSw); go_simp; (try with_reducible rfl)
    try simp only [Act.put, List.setIfInBounds_toArray, List.set_cons_zero, List.set_cons_succ]
    refine MyHeld.take 26 (v := ?_) (.s (.s (.s (.s (.s (.s (.s (.s (.s (.s (.s (.s (.s (.s (.s (.s (.s (.s (.s (.s (.s (.s (.s (.s (.s (.s .z)))))))))))))))))))))))))) (by kernel_rfl) (by kernel_rfl) (by kernel_rfl) (fun _ _ _ h => h) (by rfl) (by assumption) ?_ ?_
    rotate_left
    · intro w hSw; (try dsimp only at hSw); go_simp; (try with_reducible rfl)
    try simp only [Act.put, List.setIfInBounds_toArray, List.set_cons_zero, List.set_cons_succ]
    refine wpAnyH_ready (rs := [22]) (by kernel_rfl) (by simp) ?_
    refine (MyHeld.next 22 (.s (.s (.s (.s (.s (.s (.s (.s (.s (.s (.s (.s (.s (.s (.s (.s (.s (.s (.s (.s (.s (.s .z)))))))))))))))))))))) (fun Kq hKq => ?_) AllReadyH.nil)
    go_simp
    (go_at_call 41; refine (rbest_call a n c s z v z' v' t 2 _ (HL.out.below K.1.2.2.2.2.2) HO.out (by decide)).mono ?_; rintro e w3 ⟨rfl, hb3⟩; replace K := K.keep hb3; clear hb3)
    go_wp2_with fail
    refine hKq.out _ _ (by (try dsimp only); (exact ⟨by rw [← HV.out]; exact (five_cells K.1.2.1).2.2.2.2, four_cells K.1.1, two_cells K.1.2.2.1, two_cells K.1.2.2.2.1⟩)) (fun hHeld' => ?_)
    clear hKq Kq hHeld; have hHeld := hHeld'; clear hHeld'
    try simp only [Act.put, List.setIfInBounds_toArray, List.set_cons_zero, List.set_cons_succ]
    refine MyHeld.take 27 (v := ?_) (.s (.s (.s (.s (.s (.s (.s (.s (.s (.s (.s (.s (.s (.s (.s (.s (.s (.s (.s (.s (.s (.s (.s (.s (.s (.s (.s .z))))))))))))))))))))))))))) (by kernel_rfl) (by kernel_rfl) (by kernel_rfl) (fun _ _ _ h => h) (by rfl) (by assumption) ?_ ?_
    rotate_left
    · intro w hSw; (try dsimp only at hSw); go_simp; (try with_reducible rfl)
    try simp only [Act.put, List.setIfInBounds_toArray, List.set_cons_zero, List.set_cons_succ]
    refine MyHeld.take 28 (v := ?_) (.s (.s (.s (.s (.s (.s (.s (.s (.s (.s (.s (.s (.s (.s (.s (.s (.s (.s (.s (.s (.s (.s (.s (.s (.s (.s (.s (.s .z)))))))))))))))))))))))))))) (by kernel_rfl) (by kernel_rfl) (by kernel_rfl) (fun _ _ _ h => h) (by rfl) (by assumption) ?_ ?_
    rotate_left
    · intro w hSw; (try dsimp only at hSw); go_simp; (try with_reducible rfl)
    try simp only [Act.put, List.setIfInBounds_toArray, List.set_cons_zero, List.set_cons_succ]
    refine wpAnyH_done (by kernel_rfl) ?_ _
    all_goals go_wp2_with fail
    all_goals go_meet
    all_goals exact ⟨by rw [HT.out], K⟩
  case rest =>
    clear hbS u0 u1 u2 u3 s0 s1 s2 s3 s4 p0 p1 p2 p3 hl0 hl1 hl2 hl3 hl4 hlF hlN f0 f1 f2 n0 n1 n2
    clear K
    obtain ⟨rfl, hL⟩ := hcut
    have K := Lib.hid hL
    clear hL
    rw [HT.out]
    obtain ⟨u0, u1, u2, u3⟩ := four_cells K.out.1.1
    obtain ⟨s0, s1, s2, s3, s4⟩ := five_cells K.out.1.2.1
    obtain ⟨p0, p1⟩ := two_cells K.out.1.2.2.1
    obtain ⟨p2, p3⟩ := two_cells K.out.1.2.2.2.1
    obtain ⟨hl0, hl1, hl2, hl3, hl4⟩ := K.out.1.lts
    obtain ⟨f0, f1, f2⟩ := three_old' K.out.2.1
    obtain ⟨n0, n1, n2⟩ := three_old' K.out.2.2
    have hlF := lt_of_block K.out.2.1
    have hlN := lt_of_block K.out.2.2
    rw [show st.a.s = 1 from HG.out] at n0
    go_wp2_with fail
    refine (renough_call a n c s z v z' v' t 2 _ (HL.out.below K.out.1.2.2.2.2.2) HO.out (by decide)).mono ?_; rintro e w5 ⟨rfl, hb5⟩
    replace K := Lib.hid (K.out.keep hb5)
    clear hb5
    clear u0 u1 u2 u3 s0 s1 s2 s3 s4 p0 p1 p2 p3 hl0 hl1 hl2 hl3 hl4 hlF hlN f0 f1 f2 n0 n1 n2
    obtain ⟨u0, u1, u2, u3⟩ := four_cells K.out.1.1
    obtain ⟨s0, s1, s2, s3, s4⟩ := five_cells K.out.1.2.1
    obtain ⟨p0, p1⟩ := two_cells K.out.1.2.2.1
    obtain ⟨p2, p3⟩ := two_cells K.out.1.2.2.2.1
    obtain ⟨hl0, hl1, hl2, hl3, hl4⟩ := K.out.1.lts
    obtain ⟨f0, f1, f2⟩ := three_old' K.out.2.1
    obtain ⟨n0, n1, n2⟩ := three_old' K.out.2.2
    have hlF := lt_of_block K.out.2.1
    have hlN := lt_of_block K.out.2.2
    rw [show st.a.s = 1 from HG.out] at n0
    generalize hQ : bodyPost Try.prog Try.f27 (NxPost s z v z' v' t fl k st w) = QQ at *
    have HQQ := Lib.hid hQ
    clear hQ
    go_wp2_with ((with_reducible refine wpList_id ?_); refine wpList_store_new rfl 60 (.tmp 14) (.tmp 136) rfl (w.heap.size + 1 + 1 + 1 + 1) #[.int .u8 (enA s z v z' v' 2 t).s, .int .i64 (enA s z v z' v' 2 t).r, .bool (enA s z v z' v' 2 t).k, .int .i64 0, .bool true] rfl rfl 60 _ K.out.1.2.2.2.2.1 (by kernel_rfl) rfl (by simp [Value.oneCell']) ?_; intro w9 H9)
    rw [← HQQ.out]
    refine bodyPost_ret (v := .tuple #[nstV ⟨enA s z v z' v' 2 t, 0, true⟩, .int .i64 0]) ?_ rfl (nxPost_of ⟨(nx_ok HE.out HBn.out HA0.out HC.out).1, (nx_ok HE.out HBn.out HA0.out HC.out).2.trans (by rw [nxA_turn HNZ.out (by rw [HG.out]; exact HT.out), HG.out]; rfl)⟩ (K.out.1.done H9.out.2))
    obtain ⟨r0, r1, r2, r3, r4⟩ := five_cells H9.out.1
    simp [results, Try.f27, go_sem, r0, r1, r2, r3, r4, nstV]

set_option maxRecDepth 100000 in
set_option maxHeartbeats 8000000 in
theorem rNext_same1 (a : Option Addr) (n c : Nat) (s : RulesMath.Set) (z v z' v' t fl k : Int) (st : NSt) (w : World) (h : Ints w a n s.rs) (hs : 0 ≤ st.a.s) (hE : whlE s z v z' v' t k = 0) (hB : bndE st.a = 0) (hA0 : ¬ st.age < 0) (hA : ¬ 1000 < st.age) (hC : chE s z v z' v' t fl k = 0) (hg : st.a.s = 1) (hw : alwB z fl k 1 = true) (hT : turnB s z v z' v' t fl k st 1 = false) (hH : holdB st (enA s z v z' v' 1 t) = false) :
    Calls Try.prog 27 #[setV a n c s, nstV st, .agg #[.int .i64 z, .int .i64 v], .agg #[.int .i64 z', .int .i64 v'], .int .i64 t, .int .i64 fl, .int .u8 k] w (NxPost s z v z' v' t fl k st w) := by
  have HL := Lib.hid h
  have HS := Lib.hid hs
  have HE := Lib.hid hE
  have HBn := Lib.hid hB
  have HO := Lib.hid (scOk_of (whlE_zero hE).1 ⟨(whlE_zero hE).2.1, (whlE_zero hE).2.2.1⟩)
  have HC := Lib.hid hC
  have HG := Lib.hid hg
  have HNZ := Lib.hid (show st.a.s ≠ 0 from by rw [hg]; decide)
  have HA0 := Lib.hid (show ¬ (st.age < 0 ∨ 1000 < st.age) from by omega)
  have age0 : 0 ≤ st.age := by omega
  have age1 : st.age ≤ 1000 := by omega
  have HW := Lib.hid hw
  have HT := Lib.hid hT
  have HH := Lib.hid ((hold_cases2 (st := st) (enA s z v z' v' 1 t)).resolve_right (fun h => by rw [hH] at h; cases h.1))
  have HQ := Lib.hid (((turn_cases (s := s) (z := z) (v := v) (z' := z') (v' := v') (t := t) (fl := fl) (k := k) (st := st) 1).resolve_left (fun h => by rw [hT] at h; cases h.1)).2)
  clear hE hs hB hC hA0 hA hg hw hT hH
  clear h
  unfold setV nstV
  go_enter Try.func27, Try.ntmps27
  go_upto_region 1 with fail
  have K0 : RwK w (setC a n c s) (nstC st) z v z' v' (((((w.alloc (.cells #[.slice a n c, .int .i64 s.alim, .int .i64 s.d, .int .i64 s.pl] 34)).alloc (.cells #[.int .u8 st.a.s, .int .i64 st.a.r, .bool st.a.k, .int .i64 st.age, .bool st.rv] 60)).alloc (.cells #[.int .i64 z, .int .i64 v] 26)).alloc (.cells #[.int .i64 z', .int .i64 v'] 26)).alloc (.cells #[.int .u8 0, .int .i64 0, .bool false, .int .i64 0, .bool false] 60)) :=
    ⟨block_alloc (block_alloc (block_alloc (block_alloc (block_new _ _ rfl)))), block_alloc (block_alloc (block_alloc (block_new _ _ (by simp)))), block_alloc (block_alloc (block_new _ _ (by simp))), block_alloc (block_new _ _ (by simp)), block_new _ _ (by simp), ((((below_alloc _ _).alloc (by simp) _).alloc (by simp; omega) _).alloc (by simp; omega) _).alloc (by simp; omega) _⟩
  generalize (((((w.alloc (.cells #[.slice a n c, .int .i64 s.alim, .int .i64 s.d, .int .i64 s.pl] 34)).alloc (.cells #[.int .u8 st.a.s, .int .i64 st.a.r, .bool st.a.k, .int .i64 st.age, .bool st.rv] 60)).alloc (.cells #[.int .i64 z, .int .i64 v] 26)).alloc (.cells #[.int .i64 z', .int .i64 v'] 26)).alloc (.cells #[.int .u8 0, .int .i64 0, .bool false, .int .i64 0, .bool false] 60)) = wq at *
  have K := Lib.hid K0
  clear K0
  obtain ⟨u0, u1, u2, u3⟩ := four_cells K.out.1
  obtain ⟨s0, s1, s2, s3, s4⟩ := five_cells K.out.2.1
  obtain ⟨p0, p1⟩ := two_cells K.out.2.2.1
  obtain ⟨p2, p3⟩ := two_cells K.out.2.2.2.1
  obtain ⟨hl0, hl1, hl2, hl3, hl4⟩ := K.out.lts
  go_wp2_with fail
  refine (rwrong_call a n c s z v z' v' t k _ (HL.out.below K.out.2.2.2.2.2)).mono ?_; rintro e w5 ⟨rfl, hb5⟩
  replace K := Lib.hid (K.out.keep hb5)
  clear hb5
  clear u0 u1 u2 u3 s0 s1 s2 s3 s4 p0 p1 p2 p3 hl0 hl1 hl2 hl3 hl4
  obtain ⟨u0, u1, u2, u3⟩ := four_cells K.out.1
  obtain ⟨s0, s1, s2, s3, s4⟩ := five_cells K.out.2.1
  obtain ⟨p0, p1⟩ := two_cells K.out.2.2.1
  obtain ⟨p2, p3⟩ := two_cells K.out.2.2.2.1
  obtain ⟨hl0, hl1, hl2, hl3, hl4⟩ := K.out.lts
  rw [HE.out]
  go_wp2_with fail
  refine (refBounds_call st.a _ HS.out).mono ?_; rintro e w5 ⟨rfl, hb5⟩
  replace K := Lib.hid (K.out.keep hb5)
  clear hb5
  clear u0 u1 u2 u3 s0 s1 s2 s3 s4 p0 p1 p2 p3 hl0 hl1 hl2 hl3 hl4
  obtain ⟨u0, u1, u2, u3⟩ := four_cells K.out.1
  obtain ⟨s0, s1, s2, s3, s4⟩ := five_cells K.out.2.1
  obtain ⟨p0, p1⟩ := two_cells K.out.2.2.1
  obtain ⟨p2, p3⟩ := two_cells K.out.2.2.2.1
  obtain ⟨hl0, hl1, hl2, hl3, hl4⟩ := K.out.lts
  rw [HBn.out]
  go_wp2_with fail
  refine (rChoose_call a n c s z v z' v' t fl k _ (HL.out.below K.out.2.2.2.2.2)).mono ?_; rintro e w3 ⟨rfl, hb3⟩
  replace K := Lib.hid (K.out.keep hb3)
  clear hb3
  clear u0 u1 u2 u3 s0 s1 s2 s3 s4 p0 p1 p2 p3 hl0 hl1 hl2 hl3 hl4
  rw [HC.out]
  generalize hY : chR s z v z' v' t fl k = Y at *
  obtain ⟨u0, u1, u2, u3⟩ := four_cells K.out.1
  obtain ⟨s0, s1, s2, s3, s4⟩ := five_cells K.out.2.1
  obtain ⟨p0, p1⟩ := two_cells K.out.2.2.1
  obtain ⟨p2, p3⟩ := two_cells K.out.2.2.2.1
  obtain ⟨hl0, hl1, hl2, hl3, hl4⟩ := K.out.lts
  go_upto_region 13 with fail
  have L : RwL w (setC a n c s) (nstC st) z v z' v' w3.heap.size Y (w3.heap.size + 1) st.a ((w3.alloc (.cells #[.int .u8 Y.s, .int .i64 Y.r, .bool Y.k] 30)).alloc (.cells #[.int .u8 st.a.s, .int .i64 st.a.r, .bool st.a.k] 30)) :=
    ⟨(K.out.keep (below_alloc _ _)).keep (below_alloc _ _), block_alloc (block_new _ _ rfl), block_new _ _ (by simp)⟩
  have HY := Lib.hid hY
  clear hY K
  clear u0 u1 u2 u3 s0 s1 s2 s3 s4 p0 p1 p2 p3 hl0 hl1 hl2 hl3 hl4
  generalize hbN : w3.heap.size + 1 = bN at *
  generalize hbF : w3.heap.size = bF at *
  generalize ((w3.alloc (.cells #[.int .u8 Y.s, .int .i64 Y.r, .bool Y.k] 30)).alloc (.cells #[.int .u8 st.a.s, .int .i64 st.a.r, .bool st.a.k] 30)) = w4 at *
  clear hbN hbF
  have K := Lib.hid L
  clear L
  obtain ⟨u0, u1, u2, u3⟩ := four_cells K.out.1.1
  obtain ⟨s0, s1, s2, s3, s4⟩ := five_cells K.out.1.2.1
  obtain ⟨p0, p1⟩ := two_cells K.out.1.2.2.1
  obtain ⟨p2, p3⟩ := two_cells K.out.1.2.2.2.1
  obtain ⟨hl0, hl1, hl2, hl3, hl4⟩ := K.out.1.lts
  obtain ⟨f0, f1, f2⟩ := three_old' K.out.2.1
  obtain ⟨n0, n1, n2⟩ := three_old' K.out.2.2
  have hlF := lt_of_block K.out.2.1
  have hlN := lt_of_block K.out.2.2
  rw [show st.a.s = 1 from HG.out] at n0
  go_wp2_with fail
  refine (rallowed_call z v fl k 1 _ (by decide)).mono ?_; rintro e w5 ⟨rfl, hb5⟩
  replace K := Lib.hid (K.out.keep hb5)
  clear hb5
  rw [HW.out]
  clear u0 u1 u2 u3 s0 s1 s2 s3 s4 p0 p1 p2 p3 hl0 hl1 hl2 hl3 hl4 hlF hlN f0 f1 f2 n0 n1 n2
  obtain ⟨u0, u1, u2, u3⟩ := four_cells K.out.1.1
  obtain ⟨s0, s1, s2, s3, s4⟩ := five_cells K.out.1.2.1
  obtain ⟨p0, p1⟩ := two_cells K.out.1.2.2.1
  obtain ⟨p2, p3⟩ := two_cells K.out.1.2.2.2.1
  obtain ⟨hl0, hl1, hl2, hl3, hl4⟩ := K.out.1.lts
  obtain ⟨f0, f1, f2⟩ := three_old' K.out.2.1
  obtain ⟨n0, n1, n2⟩ := three_old' K.out.2.2
  have hlF := lt_of_block K.out.2.1
  have hlN := lt_of_block K.out.2.2
  rw [show st.a.s = 1 from HG.out] at n0
  go_wp2_with fail
  refine (rbest_call a n c s z v z' v' t 1 _ (HL.out.below K.out.1.2.2.2.2.2) HO.out (by decide)).mono ?_; rintro e w5 ⟨rfl, hb5⟩
  replace K := Lib.hid (K.out.keep hb5)
  clear hb5
  clear u0 u1 u2 u3 s0 s1 s2 s3 s4 p0 p1 p2 p3 hl0 hl1 hl2 hl3 hl4 hlF hlN f0 f1 f2 n0 n1 n2
  obtain ⟨u0, u1, u2, u3⟩ := four_cells K.out.1.1
  obtain ⟨s0, s1, s2, s3, s4⟩ := five_cells K.out.1.2.1
  obtain ⟨p0, p1⟩ := two_cells K.out.1.2.2.1
  obtain ⟨p2, p3⟩ := two_cells K.out.1.2.2.2.1
  obtain ⟨hl0, hl1, hl2, hl3, hl4⟩ := K.out.1.lts
  obtain ⟨f0, f1, f2⟩ := three_old' K.out.2.1
  obtain ⟨n0, n1, n2⟩ := three_old' K.out.2.2
  have hlF := lt_of_block K.out.2.1
  have hlN := lt_of_block K.out.2.2
  rw [show st.a.s = 1 from HG.out] at n0
  have hbS := HO.out.bestBd (g := 1) (by decide)
  go_upto_region 19 with fail
  go_cut [129] (fun s129 wx => s129 = .bool (turnB s z v z' v' t fl k st 1) ∧ RwL w (setC a n c s) (nstC st) z v z' v' bF Y bN st.a wx)
  case first =>
    replace K := K.out.keep ((Below.refl _ _).drew)
    have hsum : IntKind.i64.wrap (bestV s z v z' v' 1 t + s.alim) = bestV s z v z' v' 1 t + s.alim := IntWalk.i64_in _ (by omega)
    clear hbS
    rcases HQ.out with v1 | ⟨v1, v2 | ⟨v2, v3 | ⟨v3, v4⟩⟩⟩
    · have HV := Lib.hid v1
      clear v1
      refine wp_region_held_drew (S := (fun w' => w'.cell? ⟨w.heap.size + 1, 4, none⟩ = some (.bool true) ∧ (w'.cell? ⟨w.heap.size, 0, none⟩ = some (.slice a n c) ∧ w'.cell? ⟨w.heap.size, 1, none⟩ = some (.int .i64 s.alim) ∧ w'.cell? ⟨w.heap.size, 2, none⟩ = some (.int .i64 s.d) ∧ w'.cell? ⟨w.heap.size, 3, none⟩ = some (.int .i64 s.pl)) ∧ (w'.cell? ⟨w.heap.size + 1 + 1, 0, none⟩ = some (.int .i64 z) ∧ w'.cell? ⟨w.heap.size + 1 + 1, 1, none⟩ = some (.int .i64 v)) ∧ (w'.cell? ⟨w.heap.size + 1 + 1 + 1, 0, none⟩ = some (.int .i64 z') ∧ w'.cell? ⟨w.heap.size + 1 + 1 + 1, 1, none⟩ = some (.int .i64 v')))) (by kernel_rfl) (by (try dsimp only); (exact ⟨by rw [← HV.out]; exact (five_cells K.1.2.1).2.2.2.2, four_cells K.1.1, two_cells K.1.2.2.1, two_cells K.1.2.2.2.1⟩)) (fun hHeld => ?_)
      refine MyHeld.take 0 (v := ?_) .z (by kernel_rfl) (by kernel_rfl) (by kernel_rfl) (fun _ _ _ h => h) (by rfl) (by assumption) ?_ ?_
      rotate_left
      · intro w hSw; (try dsimp only at hSw); go_simp; (try with_reducible rfl)
      try simp only [Act.put, List.setIfInBounds_toArray, List.set_cons_zero, List.set_cons_succ]
      refine MyHeld.take 1 (v := ?_) (.s .z) (by kernel_rfl) (by kernel_rfl) (by kernel_rfl) (fun _ _ _ h => h) (by rfl) (by assumption) ?_ ?_
      rotate_left
      · intro w hSw; (try dsimp only at hSw); go_simp; (try with_reducible rfl)
      try simp only [Act.put, List.setIfInBounds_toArray, List.set_cons_zero, List.set_cons_succ]
      refine MyHeld.take 2 (v := ?_) (.s (.s .z)) (by kernel_rfl) (by kernel_rfl) (by kernel_rfl) (fun _ _ _ h => h) (by rfl) (by assumption) ?_ ?_
      rotate_left
      · intro w hSw; (try dsimp only at hSw); go_simp; (try with_reducible rfl)
      try simp only [Act.put, List.setIfInBounds_toArray, List.set_cons_zero, List.set_cons_succ]
      refine MyHeld.take 3 (v := ?_) (.s (.s (.s .z))) (by kernel_rfl) (by kernel_rfl) (by kernel_rfl) (fun _ _ _ h => h) (by rfl) (by assumption) ?_ ?_
      rotate_left
      · intro w hSw; (try dsimp only at hSw); go_simp; (try with_reducible rfl)
      try simp only [Act.put, List.setIfInBounds_toArray, List.set_cons_zero, List.set_cons_succ]
      refine MyHeld.skip 4 (.s (.s (.s (.s .z)))) (by kernel_rfl) (by kernel_rfl) (by kernel_rfl) (fun _ _ _ h => h) (by rfl) (by assumption) ?_
      try simp only [Act.put, List.setIfInBounds_toArray, List.set_cons_zero, List.set_cons_succ]
      refine MyHeld.skip 5 (.s (.s (.s (.s (.s .z))))) (by kernel_rfl) (by kernel_rfl) (by kernel_rfl) (fun _ _ _ h => h) (by rfl) (by assumption) ?_
      try simp only [Act.put, List.setIfInBounds_toArray, List.set_cons_zero, List.set_cons_succ]
      refine MyHeld.skip 6 (.s (.s (.s (.s (.s (.s .z)))))) (by kernel_rfl) (by kernel_rfl) (by kernel_rfl) (fun _ _ _ h => h) (by rfl) (by assumption) ?_
      try simp only [Act.put, List.setIfInBounds_toArray, List.set_cons_zero, List.set_cons_succ]
      refine MyHeld.skip 7 (.s (.s (.s (.s (.s (.s (.s .z))))))) (by kernel_rfl) (by kernel_rfl) (by kernel_rfl) (fun _ _ _ h => h) (by rfl) (by assumption) ?_
      try simp only [Act.put, List.setIfInBounds_toArray, List.set_cons_zero, List.set_cons_succ]
      refine MyHeld.skip 8 (.s (.s (.s (.s (.s (.s (.s (.s .z)))))))) (by kernel_rfl) (by kernel_rfl) (by kernel_rfl) (fun _ _ _ h => h) (by rfl) (by assumption) ?_
      try simp only [Act.put, List.setIfInBounds_toArray, List.set_cons_zero, List.set_cons_succ]
      refine MyHeld.take 9 (v := ?_) (.s (.s (.s (.s (.s (.s (.s (.s (.s .z))))))))) (by kernel_rfl) (by kernel_rfl) (by kernel_rfl) (fun _ _ _ h => h) (by rfl) (by assumption) ?_ ?_
      rotate_left
      · intro w hSw; (try dsimp only at hSw); go_simp; (try with_reducible rfl)
      try simp only [Act.put, List.setIfInBounds_toArray, List.set_cons_zero, List.set_cons_succ]
      refine MyHeld.take 10 (v := ?_) (.s (.s (.s (.s (.s (.s (.s (.s (.s (.s .z)))))))))) (by kernel_rfl) (by kernel_rfl) (by kernel_rfl) (fun _ _ _ h => h) (by rfl) (by assumption) ?_ ?_
      rotate_left
      · intro w hSw; (try dsimp only at hSw); go_simp; (try with_reducible rfl)
      try simp only [Act.put, List.setIfInBounds_toArray, List.set_cons_zero, List.set_cons_succ]
      refine MyHeld.skip 11 (.s (.s (.s (.s (.s (.s (.s (.s (.s (.s (.s .z))))))))))) (by kernel_rfl) (by kernel_rfl) (by kernel_rfl) (fun _ _ _ h => h) (by rfl) (by assumption) ?_
      try simp only [Act.put, List.setIfInBounds_toArray, List.set_cons_zero, List.set_cons_succ]
      refine MyHeld.skip 12 (.s (.s (.s (.s (.s (.s (.s (.s (.s (.s (.s (.s .z)))))))))))) (by kernel_rfl) (by kernel_rfl) (by kernel_rfl) (fun _ _ _ h => h) (by rfl) (by assumption) ?_
      try simp only [Act.put, List.setIfInBounds_toArray, List.set_cons_zero, List.set_cons_succ]
      refine MyHeld.skip 13 (.s (.s (.s (.s (.s (.s (.s (.s (.s (.s (.s (.s (.s .z))))))))))))) (by kernel_rfl) (by kernel_rfl) (by kernel_rfl) (fun _ _ _ h => h) (by rfl) (by assumption) ?_
      try simp only [Act.put, List.setIfInBounds_toArray, List.set_cons_zero, List.set_cons_succ]
      refine MyHeld.skip 14 (.s (.s (.s (.s (.s (.s (.s (.s (.s (.s (.s (.s (.s (.s .z)))))))))))))) (by kernel_rfl) (by kernel_rfl) (by kernel_rfl) (fun _ _ _ h => h) (by rfl) (by assumption) ?_
      try simp only [Act.put, List.setIfInBounds_toArray, List.set_cons_zero, List.set_cons_succ]
      refine MyHeld.take 15 (v := ?_) (.s (.s (.s (.s (.s (.s (.s (.s (.s (.s (.s (.s (.s (.s (.s .z))))))))))))))) (by kernel_rfl) (by kernel_rfl) (by kernel_rfl) (fun _ _ _ h => h) (by rfl) (by assumption) ?_ ?_
      rotate_left
      · intro w hSw; (try dsimp only at hSw); go_simp; (try with_reducible rfl)
      try simp only [Act.put, List.setIfInBounds_toArray, List.set_cons_zero, List.set_cons_succ]
      refine MyHeld.take 16 (v := ?_) (.s (.s (.s (.s (.s (.s (.s (.s (.s (.s (.s (.s (.s (.s (.s (.s .z)))))))))))))))) (by kernel_rfl) (by kernel_rfl) (by kernel_rfl) (fun _ _ _ h => h) (by rfl) (by assumption) ?_ ?_
      rotate_left
      · intro w hSw; (try dsimp only at hSw); go_simp; (try with_reducible rfl)
      try simp only [Act.put, List.setIfInBounds_toArray, List.set_cons_zero, List.set_cons_succ]
      refine MyHeld.skip 17 (.s (.s (.s (.s (.s (.s (.s (.s (.s (.s (.s (.s (.s (.s (.s (.s (.s .z))))))))))))))))) (by kernel_rfl) (by kernel_rfl) (by kernel_rfl) (fun _ _ _ h => h) (by rfl) (by assumption) ?_
      try simp only [Act.put, List.setIfInBounds_toArray, List.set_cons_zero, List.set_cons_succ]
      refine MyHeld.skip 18 (.s (.s (.s (.s (.s (.s (.s (.s (.s (.s (.s (.s (.s (.s (.s (.s (.s (.s .z)))))))))))))))))) (by kernel_rfl) (by kernel_rfl) (by kernel_rfl) (fun _ _ _ h => h) (by rfl) (by assumption) ?_
      try simp only [Act.put, List.setIfInBounds_toArray, List.set_cons_zero, List.set_cons_succ]
      refine MyHeld.skip 19 (.s (.s (.s (.s (.s (.s (.s (.s (.s (.s (.s (.s (.s (.s (.s (.s (.s (.s (.s .z))))))))))))))))))) (by kernel_rfl) (by kernel_rfl) (by kernel_rfl) (fun _ _ _ h => h) (by rfl) (by assumption) ?_
      try simp only [Act.put, List.setIfInBounds_toArray, List.set_cons_zero, List.set_cons_succ]
      refine MyHeld.skip 20 (.s (.s (.s (.s (.s (.s (.s (.s (.s (.s (.s (.s (.s (.s (.s (.s (.s (.s (.s (.s .z)))))))))))))))))))) (by kernel_rfl) (by kernel_rfl) (by kernel_rfl) (fun _ _ _ h => h) (by rfl) (by assumption) ?_
      try simp only [Act.put, List.setIfInBounds_toArray, List.set_cons_zero, List.set_cons_succ]
      refine MyHeld.skip 21 (.s (.s (.s (.s (.s (.s (.s (.s (.s (.s (.s (.s (.s (.s (.s (.s (.s (.s (.s (.s (.s .z))))))))))))))))))))) (by kernel_rfl) (by kernel_rfl) (by kernel_rfl) (fun _ _ _ h => h) (by rfl) (by assumption) ?_
      try simp only [Act.put, List.setIfInBounds_toArray, List.set_cons_zero, List.set_cons_succ]
      refine MyHeld.skip 22 (.s (.s (.s (.s (.s (.s (.s (.s (.s (.s (.s (.s (.s (.s (.s (.s (.s (.s (.s (.s (.s (.s .z)))))))))))))))))))))) (by kernel_rfl) (by kernel_rfl) (by kernel_rfl) (fun _ _ _ h => h) (by rfl) (by assumption) ?_
      try simp only [Act.put, List.setIfInBounds_toArray, List.set_cons_zero, List.set_cons_succ]
      refine MyHeld.skip 23 (.s (.s (.s (.s (.s (.s (.s (.s (.s (.s (.s (.s (.s (.s (.s (.s (.s (.s (.s (.s (.s (.s (.s .z))))))))))))))))))))))) (by kernel_rfl) (by kernel_rfl) (by kernel_rfl) (fun _ _ _ h => h) (by rfl) (by assumption) ?_
      try simp only [Act.put, List.setIfInBounds_toArray, List.set_cons_zero, List.set_cons_succ]
      refine MyHeld.skip 24 (.s (.s (.s (.s (.s (.s (.s (.s (.s (.s (.s (.s (.s (.s (.s (.s (.s (.s (.s (.s (.s (.s (.s (.s .z)))))))))))))))))))))))) (by kernel_rfl) (by kernel_rfl) (by kernel_rfl) (fun _ _ _ h => h) (by rfl) (by assumption) ?_
      try simp only [Act.put, List.setIfInBounds_toArray, List.set_cons_zero, List.set_cons_succ]
      refine MyHeld.skip 25 (.s (.s (.s (.s (.s (.s (.s (.s (.s (.s (.s (.s (.s (.s (.s (.s (.s (.s (.s (.s (.s (.s (.s (.s (.s .z))))))))))))))))))))))))) (by kernel_rfl) (by kernel_rfl) (by kernel_rfl) (fun _ _ _ h => h) (by rfl) (by assumption) ?_
      try simp only [Act.put, List.setIfInBounds_toArray, List.set_cons_zero, List.set_cons_succ]
      refine MyHeld.skip 26 (.s (.s (.s (.s (.s (.s (.s (.s (.s (.s (.s (.s (.s (.s (.s (.s (.s (.s (.s (.s (.s (.s (.s (.s (.s (.s .z)))))))))))))))))))))))))) (by kernel_rfl) (by kernel_rfl) (by kernel_rfl) (fun _ _ _ h => h) (by rfl) (by assumption) ?_
      try simp only [Act.put, List.setIfInBounds_toArray, List.set_cons_zero, List.set_cons_succ]
      refine MyHeld.skip 27 (.s (.s (.s (.s (.s (.s (.s (.s (.s (.s (.s (.s (.s (.s (.s (.s (.s (.s (.s (.s (.s (.s (.s (.s (.s (.s (.s .z))))))))))))))))))))))))))) (by kernel_rfl) (by kernel_rfl) (by kernel_rfl) (fun _ _ _ h => h) (by rfl) (by assumption) ?_
      try simp only [Act.put, List.setIfInBounds_toArray, List.set_cons_zero, List.set_cons_succ]
      refine MyHeld.take 28 (v := ?_) (.s (.s (.s (.s (.s (.s (.s (.s (.s (.s (.s (.s (.s (.s (.s (.s (.s (.s (.s (.s (.s (.s (.s (.s (.s (.s (.s (.s .z)))))))))))))))))))))))))))) (by kernel_rfl) (by kernel_rfl) (by kernel_rfl) (fun _ _ _ h => h) (by rfl) (by assumption) ?_ ?_
      rotate_left
      · intro w hSw; (try dsimp only at hSw); go_simp; (try with_reducible rfl)
      try simp only [Act.put, List.setIfInBounds_toArray, List.set_cons_zero, List.set_cons_succ]
      refine wpAnyH_done (by kernel_rfl) ?_ _
      all_goals go_wp2_with fail
      all_goals go_meet
      all_goals exact ⟨by rw [HT.out], K⟩
    · have HV := Lib.hid v1
      have HV2 := Lib.hid v2
      clear v1 v2
      refine wp_region_held_drew (S := (fun w' => w'.cell? ⟨w.heap.size + 1, 4, none⟩ = some (.bool false) ∧ (w'.cell? ⟨w.heap.size, 0, none⟩ = some (.slice a n c) ∧ w'.cell? ⟨w.heap.size, 1, none⟩ = some (.int .i64 s.alim) ∧ w'.cell? ⟨w.heap.size, 2, none⟩ = some (.int .i64 s.d) ∧ w'.cell? ⟨w.heap.size, 3, none⟩ = some (.int .i64 s.pl)) ∧ (w'.cell? ⟨w.heap.size + 1 + 1, 0, none⟩ = some (.int .i64 z) ∧ w'.cell? ⟨w.heap.size + 1 + 1, 1, none⟩ = some (.int .i64 v)) ∧ (w'.cell? ⟨w.heap.size + 1 + 1 + 1, 0, none⟩ = some (.int .i64 z') ∧ w'.cell? ⟨w.heap.size + 1 + 1 + 1, 1, none⟩ = some (.int .i64 v')))) (by kernel_rfl) (by (try dsimp only); (exact ⟨by rw [← HV.out]; exact (five_cells K.1.2.1).2.2.2.2, four_cells K.1.1, two_cells K.1.2.2.1, two_cells K.1.2.2.2.1⟩)) (fun hHeld => ?_)
      refine MyHeld.take 0 (v := ?_) .z (by kernel_rfl) (by kernel_rfl) (by kernel_rfl) (fun _ _ _ h => h) (by rfl) (by assumption) ?_ ?_
      rotate_left
      · intro w hSw; (try dsimp only at hSw); go_simp; (try with_reducible rfl)
      try simp only [Act.put, List.setIfInBounds_toArray, List.set_cons_zero, List.set_cons_succ]
      refine MyHeld.take 1 (v := ?_) (.s .z) (by kernel_rfl) (by kernel_rfl) (by kernel_rfl) (fun _ _ _ h => h) (by rfl) (by assumption) ?_ ?_
      rotate_left
      · intro w hSw; (try dsimp only at hSw); go_simp; (try with_reducible rfl)
      try simp only [Act.put, List.setIfInBounds_toArray, List.set_cons_zero, List.set_cons_succ]
      refine MyHeld.take 2 (v := ?_) (.s (.s .z)) (by kernel_rfl) (by kernel_rfl) (by kernel_rfl) (fun _ _ _ h => h) (by rfl) (by assumption) ?_ ?_
      rotate_left
      · intro w hSw; (try dsimp only at hSw); go_simp; (try with_reducible rfl)
      try simp only [Act.put, List.setIfInBounds_toArray, List.set_cons_zero, List.set_cons_succ]
      refine MyHeld.take 3 (v := ?_) (.s (.s (.s .z))) (by kernel_rfl) (by kernel_rfl) (by kernel_rfl) (fun _ _ _ h => h) (by rfl) (by assumption) ?_ ?_
      rotate_left
      · intro w hSw; (try dsimp only at hSw); go_simp; (try with_reducible rfl)
      try simp only [Act.put, List.setIfInBounds_toArray, List.set_cons_zero, List.set_cons_succ]
      refine MyHeld.take 4 (v := ?_) (.s (.s (.s (.s .z)))) (by kernel_rfl) (by kernel_rfl) (by kernel_rfl) (fun _ _ _ h => h) (by rfl) (by assumption) ?_ ?_
      rotate_left
      · intro w hSw; (try dsimp only at hSw); go_simp; (try with_reducible rfl)
      try simp only [Act.put, List.setIfInBounds_toArray, List.set_cons_zero, List.set_cons_succ]
      refine MyHeld.take 5 (v := ?_) (.s (.s (.s (.s (.s .z))))) (by kernel_rfl) (by kernel_rfl) (by kernel_rfl) (fun _ _ _ h => h) (by rfl) (by assumption) ?_ ?_
      rotate_left
      · intro w hSw; (try dsimp only at hSw); go_simp; (try with_reducible rfl)
      try simp only [Act.put, List.setIfInBounds_toArray, List.set_cons_zero, List.set_cons_succ]
      refine MyHeld.take 6 (v := ?_) (.s (.s (.s (.s (.s (.s .z)))))) (by kernel_rfl) (by kernel_rfl) (by kernel_rfl) (fun _ _ _ h => h) (by rfl) (by assumption) ?_ ?_
      rotate_left
      · intro w hSw; (try dsimp only at hSw); go_simp; (try with_reducible rfl)
      try simp only [Act.put, List.setIfInBounds_toArray, List.set_cons_zero, List.set_cons_succ]
      refine MyHeld.take 7 (v := ?_) (.s (.s (.s (.s (.s (.s (.s .z))))))) (by kernel_rfl) (by kernel_rfl) (by kernel_rfl) (fun _ _ _ h => h) (by rfl) (by assumption) ?_ ?_
      rotate_left
      · intro w hSw; (try dsimp only at hSw); go_simp; (try with_reducible rfl)
      try simp only [Act.put, List.setIfInBounds_toArray, List.set_cons_zero, List.set_cons_succ]
      refine wpAnyH_ready (rs := [8]) (by kernel_rfl) (by simp) ?_
      refine (MyHeld.next 8 (.s (.s (.s (.s (.s (.s (.s (.s .z)))))))) (fun Kq hKq => ?_) AllReadyH.nil)
      go_simp
      (go_at_call 40; refine (rallowed_call z v fl k 2 _ (by decide)).mono ?_; rintro e w3 ⟨rfl, hb3⟩; rw [show alwB z fl k 2 = false from HV2.out]; replace K := K.keep hb3; clear hb3)
      go_wp2_with fail
      refine hKq.out _ _ (by (try dsimp only); (exact ⟨by rw [← HV.out]; exact (five_cells K.1.2.1).2.2.2.2, four_cells K.1.1, two_cells K.1.2.2.1, two_cells K.1.2.2.2.1⟩)) (fun hHeld' => ?_)
      clear hKq Kq hHeld; have hHeld := hHeld'; clear hHeld'
      try simp only [Act.put, List.setIfInBounds_toArray, List.set_cons_zero, List.set_cons_succ]
      refine MyHeld.take 9 (v := ?_) (.s (.s (.s (.s (.s (.s (.s (.s (.s .z))))))))) (by kernel_rfl) (by kernel_rfl) (by kernel_rfl) (fun _ _ _ h => h) (by rfl) (by assumption) ?_ ?_
      rotate_left
      · intro w hSw; (try dsimp only at hSw); go_simp; (try with_reducible rfl)
      try simp only [Act.put, List.setIfInBounds_toArray, List.set_cons_zero, List.set_cons_succ]
      refine MyHeld.take 10 (v := ?_) (.s (.s (.s (.s (.s (.s (.s (.s (.s (.s .z)))))))))) (by kernel_rfl) (by kernel_rfl) (by kernel_rfl) (fun _ _ _ h => h) (by rfl) (by assumption) ?_ ?_
      rotate_left
      · intro w hSw; (try dsimp only at hSw); go_simp; (try with_reducible rfl)
      try simp only [Act.put, List.setIfInBounds_toArray, List.set_cons_zero, List.set_cons_succ]
      refine MyHeld.skip 11 (.s (.s (.s (.s (.s (.s (.s (.s (.s (.s (.s .z))))))))))) (by kernel_rfl) (by kernel_rfl) (by kernel_rfl) (fun _ _ _ h => h) (by rfl) (by assumption) ?_
      try simp only [Act.put, List.setIfInBounds_toArray, List.set_cons_zero, List.set_cons_succ]
      refine MyHeld.skip 12 (.s (.s (.s (.s (.s (.s (.s (.s (.s (.s (.s (.s .z)))))))))))) (by kernel_rfl) (by kernel_rfl) (by kernel_rfl) (fun _ _ _ h => h) (by rfl) (by assumption) ?_
      try simp only [Act.put, List.setIfInBounds_toArray, List.set_cons_zero, List.set_cons_succ]
      refine MyHeld.skip 13 (.s (.s (.s (.s (.s (.s (.s (.s (.s (.s (.s (.s (.s .z))))))))))))) (by kernel_rfl) (by kernel_rfl) (by kernel_rfl) (fun _ _ _ h => h) (by rfl) (by assumption) ?_
      try simp only [Act.put, List.setIfInBounds_toArray, List.set_cons_zero, List.set_cons_succ]
      refine MyHeld.skip 14 (.s (.s (.s (.s (.s (.s (.s (.s (.s (.s (.s (.s (.s (.s .z)))))))))))))) (by kernel_rfl) (by kernel_rfl) (by kernel_rfl) (fun _ _ _ h => h) (by rfl) (by assumption) ?_
      try simp only [Act.put, List.setIfInBounds_toArray, List.set_cons_zero, List.set_cons_succ]
      refine MyHeld.take 15 (v := ?_) (.s (.s (.s (.s (.s (.s (.s (.s (.s (.s (.s (.s (.s (.s (.s .z))))))))))))))) (by kernel_rfl) (by kernel_rfl) (by kernel_rfl) (fun _ _ _ h => h) (by rfl) (by assumption) ?_ ?_
      rotate_left
      · intro w hSw; (try dsimp only at hSw); go_simp; (try with_reducible rfl)
      try simp only [Act.put, List.setIfInBounds_toArray, List.set_cons_zero, List.set_cons_succ]
      refine MyHeld.take 16 (v := ?_) (.s (.s (.s (.s (.s (.s (.s (.s (.s (.s (.s (.s (.s (.s (.s (.s .z)))))))))))))))) (by kernel_rfl) (by kernel_rfl) (by kernel_rfl) (fun _ _ _ h => h) (by rfl) (by assumption) ?_ ?_
      rotate_left
      · intro w hSw; (try dsimp only at hSw); go_simp; (try with_reducible rfl)
      try simp only [Act.put, List.setIfInBounds_toArray, List.set_cons_zero, List.set_cons_succ]
      refine MyHeld.skip 17 (.s (.s (.s (.s (.s (.s (.s (.s (.s (.s (.s (.s (.s (.s (.s (.s (.s .z))))))))))))))))) (by kernel_rfl) (by kernel_rfl) (by kernel_rfl) (fun _ _ _ h => h) (by rfl) (by assumption) ?_
      try simp only [Act.put, List.setIfInBounds_toArray, List.set_cons_zero, List.set_cons_succ]
      refine MyHeld.skip 18 (.s (.s (.s (.s (.s (.s (.s (.s (.s (.s (.s (.s (.s (.s (.s (.s (.s (.s .z)))))))))))))))))) (by kernel_rfl) (by kernel_rfl) (by kernel_rfl) (fun _ _ _ h => h) (by rfl) (by assumption) ?_
      try simp only [Act.put, List.setIfInBounds_toArray, List.set_cons_zero, List.set_cons_succ]
      refine MyHeld.skip 19 (.s (.s (.s (.s (.s (.s (.s (.s (.s (.s (.s (.s (.s (.s (.s (.s (.s (.s (.s .z))))))))))))))))))) (by kernel_rfl) (by kernel_rfl) (by kernel_rfl) (fun _ _ _ h => h) (by rfl) (by assumption) ?_
      try simp only [Act.put, List.setIfInBounds_toArray, List.set_cons_zero, List.set_cons_succ]
      refine MyHeld.skip 20 (.s (.s (.s (.s (.s (.s (.s (.s (.s (.s (.s (.s (.s (.s (.s (.s (.s (.s (.s (.s .z)))))))))))))))))))) (by kernel_rfl) (by kernel_rfl) (by kernel_rfl) (fun _ _ _ h => h) (by rfl) (by assumption) ?_
      try simp only [Act.put, List.setIfInBounds_toArray, List.set_cons_zero, List.set_cons_succ]
      refine MyHeld.skip 21 (.s (.s (.s (.s (.s (.s (.s (.s (.s (.s (.s (.s (.s (.s (.s (.s (.s (.s (.s (.s (.s .z))))))))))))))))))))) (by kernel_rfl) (by kernel_rfl) (by kernel_rfl) (fun _ _ _ h => h) (by rfl) (by assumption) ?_
      try simp only [Act.put, List.setIfInBounds_toArray, List.set_cons_zero, List.set_cons_succ]
      refine MyHeld.skip 22 (.s (.s (.s (.s (.s (.s (.s (.s (.s (.s (.s (.s (.s (.s (.s (.s (.s (.s (.s (.s (.s (.s .z)))))))))))))))))))))) (by kernel_rfl) (by kernel_rfl) (by kernel_rfl) (fun _ _ _ h => h) (by rfl) (by assumption) ?_
      try simp only [Act.put, List.setIfInBounds_toArray, List.set_cons_zero, List.set_cons_succ]
      refine MyHeld.skip 23 (.s (.s (.s (.s (.s (.s (.s (.s (.s (.s (.s (.s (.s (.s (.s (.s (.s (.s (.s (.s (.s (.s (.s .z))))))))))))))))))))))) (by kernel_rfl) (by kernel_rfl) (by kernel_rfl) (fun _ _ _ h => h) (by rfl) (by assumption) ?_
      try simp only [Act.put, List.setIfInBounds_toArray, List.set_cons_zero, List.set_cons_succ]
      refine MyHeld.skip 24 (.s (.s (.s (.s (.s (.s (.s (.s (.s (.s (.s (.s (.s (.s (.s (.s (.s (.s (.s (.s (.s (.s (.s (.s .z)))))))))))))))))))))))) (by kernel_rfl) (by kernel_rfl) (by kernel_rfl) (fun _ _ _ h => h) (by rfl) (by assumption) ?_
      try simp only [Act.put, List.setIfInBounds_toArray, List.set_cons_zero, List.set_cons_succ]
      refine MyHeld.skip 25 (.s (.s (.s (.s (.s (.s (.s (.s (.s (.s (.s (.s (.s (.s (.s (.s (.s (.s (.s (.s (.s (.s (.s (.s (.s .z))))))))))))))))))))))))) (by kernel_rfl) (by kernel_rfl) (by kernel_rfl) (fun _ _ _ h => h) (by rfl) (by assumption) ?_
      try simp only [Act.put, List.setIfInBounds_toArray, List.set_cons_zero, List.set_cons_succ]
      refine MyHeld.skip 26 (.s (.s (.s (.s (.s (.s (.s (.s (.s (.s (.s (.s (.s (.s (.s (.s (.s (.s (.s (.s (.s (.s (.s (.s (.s (.s .z)))))))))))))))))))))))))) (by kernel_rfl) (by kernel_rfl) (by kernel_rfl) (fun _ _ _ h => h) (by rfl) (by assumption) ?_
      try simp only [Act.put, List.setIfInBounds_toArray, List.set_cons_zero, List.set_cons_succ]
      refine MyHeld.skip 27 (.s (.s (.s (.s (.s (.s (.s (.s (.s (.s (.s (.s (.s (.s (.s (.s (.s (.s (.s (.s (.s (.s (.s (.s (.s (.s (.s .z))))))))))))))))))))))))))) (by kernel_rfl) (by kernel_rfl) (by kernel_rfl) (fun _ _ _ h => h) (by rfl) (by assumption) ?_
      try simp only [Act.put, List.setIfInBounds_toArray, List.set_cons_zero, List.set_cons_succ]
      refine MyHeld.take 28 (v := ?_) (.s (.s (.s (.s (.s (.s (.s (.s (.s (.s (.s (.s (.s (.s (.s (.s (.s (.s (.s (.s (.s (.s (.s (.s (.s (.s (.s (.s .z)))))))))))))))))))))))))))) (by kernel_rfl) (by kernel_rfl) (by kernel_rfl) (fun _ _ _ h => h) (by rfl) (by assumption) ?_ ?_
      rotate_left
      · intro w hSw; (try dsimp only at hSw); go_simp; (try with_reducible rfl)
      try simp only [Act.put, List.setIfInBounds_toArray, List.set_cons_zero, List.set_cons_succ]
      refine wpAnyH_done (by kernel_rfl) ?_ _
      all_goals go_wp2_with fail
      all_goals go_meet
      all_goals exact ⟨by rw [HT.out], K⟩
    · have HV := Lib.hid v1
      have HV2 := Lib.hid v2
      clear v1 v2
      have gv3 : decide (bestV s z v z' v' 1 t < s.alim) = false := v3
      clear v3
      refine wp_region_held_drew (S := (fun w' => w'.cell? ⟨w.heap.size + 1, 4, none⟩ = some (.bool false) ∧ (w'.cell? ⟨w.heap.size, 0, none⟩ = some (.slice a n c) ∧ w'.cell? ⟨w.heap.size, 1, none⟩ = some (.int .i64 s.alim) ∧ w'.cell? ⟨w.heap.size, 2, none⟩ = some (.int .i64 s.d) ∧ w'.cell? ⟨w.heap.size, 3, none⟩ = some (.int .i64 s.pl)) ∧ (w'.cell? ⟨w.heap.size + 1 + 1, 0, none⟩ = some (.int .i64 z) ∧ w'.cell? ⟨w.heap.size + 1 + 1, 1, none⟩ = some (.int .i64 v)) ∧ (w'.cell? ⟨w.heap.size + 1 + 1 + 1, 0, none⟩ = some (.int .i64 z') ∧ w'.cell? ⟨w.heap.size + 1 + 1 + 1, 1, none⟩ = some (.int .i64 v')))) (by kernel_rfl) (by (try dsimp only); (exact ⟨by rw [← HV.out]; exact (five_cells K.1.2.1).2.2.2.2, four_cells K.1.1, two_cells K.1.2.2.1, two_cells K.1.2.2.2.1⟩)) (fun hHeld => ?_)
      refine MyHeld.take 0 (v := ?_) .z (by kernel_rfl) (by kernel_rfl) (by kernel_rfl) (fun _ _ _ h => h) (by rfl) (by assumption) ?_ ?_
      rotate_left
      · intro w hSw; (try dsimp only at hSw); go_simp; (try with_reducible rfl)
      try simp only [Act.put, List.setIfInBounds_toArray, List.set_cons_zero, List.set_cons_succ]
      refine MyHeld.take 1 (v := ?_) (.s .z) (by kernel_rfl) (by kernel_rfl) (by kernel_rfl) (fun _ _ _ h => h) (by rfl) (by assumption) ?_ ?_
      rotate_left
      · intro w hSw; (try dsimp only at hSw); go_simp; (try with_reducible rfl)
      try simp only [Act.put, List.setIfInBounds_toArray, List.set_cons_zero, List.set_cons_succ]
      refine MyHeld.take 2 (v := ?_) (.s (.s .z)) (by kernel_rfl) (by kernel_rfl) (by kernel_rfl) (fun _ _ _ h => h) (by rfl) (by assumption) ?_ ?_
      rotate_left
      · intro w hSw; (try dsimp only at hSw); go_simp; (try with_reducible rfl)
      try simp only [Act.put, List.setIfInBounds_toArray, List.set_cons_zero, List.set_cons_succ]
      refine MyHeld.take 3 (v := ?_) (.s (.s (.s .z))) (by kernel_rfl) (by kernel_rfl) (by kernel_rfl) (fun _ _ _ h => h) (by rfl) (by assumption) ?_ ?_
      rotate_left
      · intro w hSw; (try dsimp only at hSw); go_simp; (try with_reducible rfl)
      try simp only [Act.put, List.setIfInBounds_toArray, List.set_cons_zero, List.set_cons_succ]
      refine MyHeld.take 4 (v := ?_) (.s (.s (.s (.s .z)))) (by kernel_rfl) (by kernel_rfl) (by kernel_rfl) (fun _ _ _ h => h) (by rfl) (by assumption) ?_ ?_
      rotate_left
      · intro w hSw; (try dsimp only at hSw); go_simp; (try with_reducible rfl)
      try simp only [Act.put, List.setIfInBounds_toArray, List.set_cons_zero, List.set_cons_succ]
      refine MyHeld.take 5 (v := ?_) (.s (.s (.s (.s (.s .z))))) (by kernel_rfl) (by kernel_rfl) (by kernel_rfl) (fun _ _ _ h => h) (by rfl) (by assumption) ?_ ?_
      rotate_left
      · intro w hSw; (try dsimp only at hSw); go_simp; (try with_reducible rfl)
      try simp only [Act.put, List.setIfInBounds_toArray, List.set_cons_zero, List.set_cons_succ]
      refine MyHeld.take 6 (v := ?_) (.s (.s (.s (.s (.s (.s .z)))))) (by kernel_rfl) (by kernel_rfl) (by kernel_rfl) (fun _ _ _ h => h) (by rfl) (by assumption) ?_ ?_
      rotate_left
      · intro w hSw; (try dsimp only at hSw); go_simp; (try with_reducible rfl)
      try simp only [Act.put, List.setIfInBounds_toArray, List.set_cons_zero, List.set_cons_succ]
      refine MyHeld.take 7 (v := ?_) (.s (.s (.s (.s (.s (.s (.s .z))))))) (by kernel_rfl) (by kernel_rfl) (by kernel_rfl) (fun _ _ _ h => h) (by rfl) (by assumption) ?_ ?_
      rotate_left
      · intro w hSw; (try dsimp only at hSw); go_simp; (try with_reducible rfl)
      try simp only [Act.put, List.setIfInBounds_toArray, List.set_cons_zero, List.set_cons_succ]
      refine wpAnyH_ready (rs := [8]) (by kernel_rfl) (by simp) ?_
      refine (MyHeld.next 8 (.s (.s (.s (.s (.s (.s (.s (.s .z)))))))) (fun Kq hKq => ?_) AllReadyH.nil)
      go_simp
      (go_at_call 40; refine (rallowed_call z v fl k 2 _ (by decide)).mono ?_; rintro e w3 ⟨rfl, hb3⟩; rw [show alwB z fl k 2 = true from HV2.out]; replace K := K.keep hb3; clear hb3)
      go_wp2_with fail
      refine hKq.out _ _ (by (try dsimp only); (exact ⟨by rw [← HV.out]; exact (five_cells K.1.2.1).2.2.2.2, four_cells K.1.1, two_cells K.1.2.2.1, two_cells K.1.2.2.2.1⟩)) (fun hHeld' => ?_)
      clear hKq Kq hHeld; have hHeld := hHeld'; clear hHeld'
      try simp only [Act.put, List.setIfInBounds_toArray, List.set_cons_zero, List.set_cons_succ]
      refine MyHeld.take 9 (v := ?_) (.s (.s (.s (.s (.s (.s (.s (.s (.s .z))))))))) (by kernel_rfl) (by kernel_rfl) (by kernel_rfl) (fun _ _ _ h => h) (by rfl) (by assumption) ?_ ?_
      rotate_left
      · intro w hSw; (try dsimp only at hSw); go_simp; (try with_reducible rfl)
      try simp only [Act.put, List.setIfInBounds_toArray, List.set_cons_zero, List.set_cons_succ]
      refine MyHeld.take 10 (v := ?_) (.s (.s (.s (.s (.s (.s (.s (.s (.s (.s .z)))))))))) (by kernel_rfl) (by kernel_rfl) (by kernel_rfl) (fun _ _ _ h => h) (by rfl) (by assumption) ?_ ?_
      rotate_left
      · intro w hSw; (try dsimp only at hSw); go_simp; (try with_reducible rfl)
      try simp only [Act.put, List.setIfInBounds_toArray, List.set_cons_zero, List.set_cons_succ]
      refine MyHeld.take 11 (v := ?_) (.s (.s (.s (.s (.s (.s (.s (.s (.s (.s (.s .z))))))))))) (by kernel_rfl) (by kernel_rfl) (by kernel_rfl) (fun _ _ _ h => h) (by rfl) (by assumption) ?_ ?_
      rotate_left
      · intro w hSw; (try dsimp only at hSw); go_simp; (try with_reducible rfl)
      try simp only [Act.put, List.setIfInBounds_toArray, List.set_cons_zero, List.set_cons_succ]
      refine MyHeld.take 12 (v := ?_) (.s (.s (.s (.s (.s (.s (.s (.s (.s (.s (.s (.s .z)))))))))))) (by kernel_rfl) (by kernel_rfl) (by kernel_rfl) (fun _ _ _ h => h) (by rfl) (by assumption) ?_ ?_
      rotate_left
      · intro w hSw; (try dsimp only at hSw); go_simp; (try with_reducible rfl)
      try simp only [Act.put, List.setIfInBounds_toArray, List.set_cons_zero, List.set_cons_succ]
      refine MyHeld.take 13 (v := ?_) (.s (.s (.s (.s (.s (.s (.s (.s (.s (.s (.s (.s (.s .z))))))))))))) (by kernel_rfl) (by kernel_rfl) (by kernel_rfl) (fun _ _ _ h => h) (by rfl) (by assumption) ?_ ?_
      rotate_left
      · intro w hSw; (try dsimp only at hSw); go_simp; (try with_reducible rfl)
      try simp only [Act.put, List.setIfInBounds_toArray, List.set_cons_zero, List.set_cons_succ]
      refine MyHeld.take 14 (v := ?_) (.s (.s (.s (.s (.s (.s (.s (.s (.s (.s (.s (.s (.s (.s .z)))))))))))))) (by kernel_rfl) (by kernel_rfl) (by kernel_rfl) (fun _ _ _ h => h) (by rfl) (by assumption) ?_ ?_
      rotate_left
      · intro w hSw; (try dsimp only at hSw); go_simp; (try with_reducible rfl)
      try simp only [Act.put, List.setIfInBounds_toArray, List.set_cons_zero, List.set_cons_succ]
      refine MyHeld.take 15 (v := ?_) (.s (.s (.s (.s (.s (.s (.s (.s (.s (.s (.s (.s (.s (.s (.s .z))))))))))))))) (by kernel_rfl) (by kernel_rfl) (by kernel_rfl) (fun _ _ _ h => h) (by rfl) (by assumption) ?_ ?_
      rotate_left
      · intro w hSw; (try dsimp only at hSw); go_simp; (try with_reducible rfl)
      try simp only [Act.put, List.setIfInBounds_toArray, List.set_cons_zero, List.set_cons_succ]
      refine MyHeld.take 16 (v := ?_) (.s (.s (.s (.s (.s (.s (.s (.s (.s (.s (.s (.s (.s (.s (.s (.s .z)))))))))))))))) (by kernel_rfl) (by kernel_rfl) (by kernel_rfl) (fun _ _ _ h => h) (by rfl) (by assumption) ?_ ?_
      rotate_left
      · intro w hSw; (try dsimp only at hSw); go_simp; (try with_reducible rfl)
      try simp only [Act.put, List.setIfInBounds_toArray, List.set_cons_zero, List.set_cons_succ]
      refine MyHeld.skip 17 (.s (.s (.s (.s (.s (.s (.s (.s (.s (.s (.s (.s (.s (.s (.s (.s (.s .z))))))))))))))))) (by kernel_rfl) (by kernel_rfl) (by kernel_rfl) (fun _ _ _ h => h) (by rfl) (by assumption) ?_
      try simp only [Act.put, List.setIfInBounds_toArray, List.set_cons_zero, List.set_cons_succ]
      refine MyHeld.skip 18 (.s (.s (.s (.s (.s (.s (.s (.s (.s (.s (.s (.s (.s (.s (.s (.s (.s (.s .z)))))))))))))))))) (by kernel_rfl) (by kernel_rfl) (by kernel_rfl) (fun _ _ _ h => h) (by rfl) (by assumption) ?_
      try simp only [Act.put, List.setIfInBounds_toArray, List.set_cons_zero, List.set_cons_succ]
      refine MyHeld.skip 19 (.s (.s (.s (.s (.s (.s (.s (.s (.s (.s (.s (.s (.s (.s (.s (.s (.s (.s (.s .z))))))))))))))))))) (by kernel_rfl) (by kernel_rfl) (by kernel_rfl) (fun _ _ _ h => h) (by rfl) (by assumption) ?_
      try simp only [Act.put, List.setIfInBounds_toArray, List.set_cons_zero, List.set_cons_succ]
      refine MyHeld.skip 20 (.s (.s (.s (.s (.s (.s (.s (.s (.s (.s (.s (.s (.s (.s (.s (.s (.s (.s (.s (.s .z)))))))))))))))))))) (by kernel_rfl) (by kernel_rfl) (by kernel_rfl) (fun _ _ _ h => h) (by rfl) (by assumption) ?_
      try simp only [Act.put, List.setIfInBounds_toArray, List.set_cons_zero, List.set_cons_succ]
      refine MyHeld.skip 21 (.s (.s (.s (.s (.s (.s (.s (.s (.s (.s (.s (.s (.s (.s (.s (.s (.s (.s (.s (.s (.s .z))))))))))))))))))))) (by kernel_rfl) (by kernel_rfl) (by kernel_rfl) (fun _ _ _ h => h) (by rfl) (by assumption) ?_
      try simp only [Act.put, List.setIfInBounds_toArray, List.set_cons_zero, List.set_cons_succ]
      refine MyHeld.skip 22 (.s (.s (.s (.s (.s (.s (.s (.s (.s (.s (.s (.s (.s (.s (.s (.s (.s (.s (.s (.s (.s (.s .z)))))))))))))))))))))) (by kernel_rfl) (by kernel_rfl) (by kernel_rfl) (fun _ _ _ h => h) (by rfl) (by assumption) ?_
      try simp only [Act.put, List.setIfInBounds_toArray, List.set_cons_zero, List.set_cons_succ]
      refine MyHeld.skip 23 (.s (.s (.s (.s (.s (.s (.s (.s (.s (.s (.s (.s (.s (.s (.s (.s (.s (.s (.s (.s (.s (.s (.s .z))))))))))))))))))))))) (by kernel_rfl) (by kernel_rfl) (by kernel_rfl) (fun _ _ _ h => h) (by rfl) (by assumption) ?_
      try simp only [Act.put, List.setIfInBounds_toArray, List.set_cons_zero, List.set_cons_succ]
      refine MyHeld.skip 24 (.s (.s (.s (.s (.s (.s (.s (.s (.s (.s (.s (.s (.s (.s (.s (.s (.s (.s (.s (.s (.s (.s (.s (.s .z)))))))))))))))))))))))) (by kernel_rfl) (by kernel_rfl) (by kernel_rfl) (fun _ _ _ h => h) (by rfl) (by assumption) ?_
      try simp only [Act.put, List.setIfInBounds_toArray, List.set_cons_zero, List.set_cons_succ]
      refine MyHeld.skip 25 (.s (.s (.s (.s (.s (.s (.s (.s (.s (.s (.s (.s (.s (.s (.s (.s (.s (.s (.s (.s (.s (.s (.s (.s (.s .z))))))))))))))))))))))))) (by kernel_rfl) (by kernel_rfl) (by kernel_rfl) (fun _ _ _ h => h) (by rfl) (by assumption) ?_
      try simp only [Act.put, List.setIfInBounds_toArray, List.set_cons_zero, List.set_cons_succ]
      refine MyHeld.skip 26 (.s (.s (.s (.s (.s (.s (.s (.s (.s (.s (.s (.s (.s (.s (.s (.s (.s (.s (.s (.s (.s (.s (.s (.s (.s (.s .z)))))))))))))))))))))))))) (by kernel_rfl) (by kernel_rfl) (by kernel_rfl) (fun _ _ _ h => h) (by rfl) (by assumption) ?_
      try simp only [Act.put, List.setIfInBounds_toArray, List.set_cons_zero, List.set_cons_succ]
      refine MyHeld.skip 27 (.s (.s (.s (.s (.s (.s (.s (.s (.s (.s (.s (.s (.s (.s (.s (.s (.s (.s (.s (.s (.s (.s (.s (.s (.s (.s (.s .z))))))))))))))))))))))))))) (by kernel_rfl) (by kernel_rfl) (by kernel_rfl) (fun _ _ _ h => h) (by rfl) (by assumption) ?_
      try simp only [Act.put, List.setIfInBounds_toArray, List.set_cons_zero, List.set_cons_succ]
      refine MyHeld.take 28 (v := ?_) (.s (.s (.s (.s (.s (.s (.s (.s (.s (.s (.s (.s (.s (.s (.s (.s (.s (.s (.s (.s (.s (.s (.s (.s (.s (.s (.s (.s .z)))))))))))))))))))))))))))) (by kernel_rfl) (by kernel_rfl) (by kernel_rfl) (fun _ _ _ h => h) (by rfl) (by assumption) ?_ ?_
      rotate_left
      · intro w hSw; (try dsimp only at hSw); go_simp; (try with_reducible rfl)
      try simp only [Act.put, List.setIfInBounds_toArray, List.set_cons_zero, List.set_cons_succ]
      refine wpAnyH_done (by kernel_rfl) ?_ _
      all_goals go_wp2_with fail
      all_goals go_meet
      all_goals exact ⟨by rw [HT.out], K⟩
    · have HV := Lib.hid v1
      have HV2 := Lib.hid v2
      clear v1 v2
      have gv3 : decide (bestV s z v z' v' 1 t < s.alim) = true := v3
      have gv4 : decide (bestV s z v z' v' 1 t + s.alim ≤ bestV s z v z' v' 2 t) = false := v4
      clear v3 v4
      refine wp_region_held_drew (S := (fun w' => w'.cell? ⟨w.heap.size + 1, 4, none⟩ = some (.bool false) ∧ (w'.cell? ⟨w.heap.size, 0, none⟩ = some (.slice a n c) ∧ w'.cell? ⟨w.heap.size, 1, none⟩ = some (.int .i64 s.alim) ∧ w'.cell? ⟨w.heap.size, 2, none⟩ = some (.int .i64 s.d) ∧ w'.cell? ⟨w.heap.size, 3, none⟩ = some (.int .i64 s.pl)) ∧ (w'.cell? ⟨w.heap.size + 1 + 1, 0, none⟩ = some (.int .i64 z) ∧ w'.cell? ⟨w.heap.size + 1 + 1, 1, none⟩ = some (.int .i64 v)) ∧ (w'.cell? ⟨w.heap.size + 1 + 1 + 1, 0, none⟩ = some (.int .i64 z') ∧ w'.cell? ⟨w.heap.size + 1 + 1 + 1, 1, none⟩ = some (.int .i64 v')))) (by kernel_rfl) (by (try dsimp only); (exact ⟨by rw [← HV.out]; exact (five_cells K.1.2.1).2.2.2.2, four_cells K.1.1, two_cells K.1.2.2.1, two_cells K.1.2.2.2.1⟩)) (fun hHeld => ?_)
      refine MyHeld.take 0 (v := ?_) .z (by kernel_rfl) (by kernel_rfl) (by kernel_rfl) (fun _ _ _ h => h) (by rfl) (by assumption) ?_ ?_
      rotate_left
      · intro w hSw; (try dsimp only at hSw); go_simp; (try with_reducible rfl)
      try simp only [Act.put, List.setIfInBounds_toArray, List.set_cons_zero, List.set_cons_succ]
      refine MyHeld.take 1 (v := ?_) (.s .z) (by kernel_rfl) (by kernel_rfl) (by kernel_rfl) (fun _ _ _ h => h) (by rfl) (by assumption) ?_ ?_
      rotate_left
      · intro w hSw; (try dsimp only at hSw); go_simp; (try with_reducible rfl)
      try simp only [Act.put, List.setIfInBounds_toArray, List.set_cons_zero, List.set_cons_succ]
      refine MyHeld.take 2 (v := ?_) (.s (.s .z)) (by kernel_rfl) (by kernel_rfl) (by kernel_rfl) (fun _ _ _ h => h) (by rfl) (by assumption) ?_ ?_
      rotate_left
      · intro w hSw; (try dsimp only at hSw); go_simp; (try with_reducible rfl)
      try simp only [Act.put, List.setIfInBounds_toArray, List.set_cons_zero, List.set_cons_succ]
      refine MyHeld.take 3 (v := ?_) (.s (.s (.s .z))) (by kernel_rfl) (by kernel_rfl) (by kernel_rfl) (fun _ _ _ h => h) (by rfl) (by assumption) ?_ ?_
      rotate_left
      · intro w hSw; (try dsimp only at hSw); go_simp; (try with_reducible rfl)
      try simp only [Act.put, List.setIfInBounds_toArray, List.set_cons_zero, List.set_cons_succ]
      refine MyHeld.take 4 (v := ?_) (.s (.s (.s (.s .z)))) (by kernel_rfl) (by kernel_rfl) (by kernel_rfl) (fun _ _ _ h => h) (by rfl) (by assumption) ?_ ?_
      rotate_left
      · intro w hSw; (try dsimp only at hSw); go_simp; (try with_reducible rfl)
      try simp only [Act.put, List.setIfInBounds_toArray, List.set_cons_zero, List.set_cons_succ]
      refine MyHeld.take 5 (v := ?_) (.s (.s (.s (.s (.s .z))))) (by kernel_rfl) (by kernel_rfl) (by kernel_rfl) (fun _ _ _ h => h) (by rfl) (by assumption) ?_ ?_
      rotate_left
      · intro w hSw; (try dsimp only at hSw); go_simp; (try with_reducible rfl)
      try simp only [Act.put, List.setIfInBounds_toArray, List.set_cons_zero, List.set_cons_succ]
      refine MyHeld.take 6 (v := ?_) (.s (.s (.s (.s (.s (.s .z)))))) (by kernel_rfl) (by kernel_rfl) (by kernel_rfl) (fun _ _ _ h => h) (by rfl) (by assumption) ?_ ?_
      rotate_left
      · intro w hSw; (try dsimp only at hSw); go_simp; (try with_reducible rfl)
      try simp only [Act.put, List.setIfInBounds_toArray, List.set_cons_zero, List.set_cons_succ]
      refine MyHeld.take 7 (v := ?_) (.s (.s (.s (.s (.s (.s (.s .z))))))) (by kernel_rfl) (by kernel_rfl) (by kernel_rfl) (fun _ _ _ h => h) (by rfl) (by assumption) ?_ ?_
      rotate_left
      · intro w hSw; (try dsimp only at hSw); go_simp; (try with_reducible rfl)
      try simp only [Act.put, List.setIfInBounds_toArray, List.set_cons_zero, List.set_cons_succ]
      refine wpAnyH_ready (rs := [8]) (by kernel_rfl) (by simp) ?_
      refine (MyHeld.next 8 (.s (.s (.s (.s (.s (.s (.s (.s .z)))))))) (fun Kq hKq => ?_) AllReadyH.nil)
      go_simp
      (go_at_call 40; refine (rallowed_call z v fl k 2 _ (by decide)).mono ?_; rintro e w3 ⟨rfl, hb3⟩; rw [show alwB z fl k 2 = true from HV2.out]; replace K := K.keep hb3; clear hb3)
      go_wp2_with fail
      refine hKq.out _ _ (by (try dsimp only); (exact ⟨by rw [← HV.out]; exact (five_cells K.1.2.1).2.2.2.2, four_cells K.1.1, two_cells K.1.2.2.1, two_cells K.1.2.2.2.1⟩)) (fun hHeld' => ?_)
      clear hKq Kq hHeld; have hHeld := hHeld'; clear hHeld'
      try simp only [Act.put, List.setIfInBounds_toArray, List.set_cons_zero, List.set_cons_succ]
      refine MyHeld.take 9 (v := ?_) (.s (.s (.s (.s (.s (.s (.s (.s (.s .z))))))))) (by kernel_rfl) (by kernel_rfl) (by kernel_rfl) (fun _ _ _ h => h) (by rfl) (by assumption) ?_ ?_
      rotate_left
      · intro w hSw; (try dsimp only at hSw); go_simp; (try with_reducible rfl)
      try simp only [Act.put, List.setIfInBounds_toArray, List.set_cons_zero, List.set_cons_succ]
      refine MyHeld.take 10 (v := ?_) (.s (.s (.s (.s (.s (.s (.s (.s (.s (.s .z)))))))))) (by kernel_rfl) (by kernel_rfl) (by kernel_rfl) (fun _ _ _ h => h) (by rfl) (by assumption) ?_ ?_
      rotate_left
      · intro w hSw; (try dsimp only at hSw); go_simp; (try with_reducible rfl)
      try simp only [Act.put, List.setIfInBounds_toArray, List.set_cons_zero, List.set_cons_succ]
      refine MyHeld.take 11 (v := ?_) (.s (.s (.s (.s (.s (.s (.s (.s (.s (.s (.s .z))))))))))) (by kernel_rfl) (by kernel_rfl) (by kernel_rfl) (fun _ _ _ h => h) (by rfl) (by assumption) ?_ ?_
      rotate_left
      · intro w hSw; (try dsimp only at hSw); go_simp; (try with_reducible rfl)
      try simp only [Act.put, List.setIfInBounds_toArray, List.set_cons_zero, List.set_cons_succ]
      refine MyHeld.take 12 (v := ?_) (.s (.s (.s (.s (.s (.s (.s (.s (.s (.s (.s (.s .z)))))))))))) (by kernel_rfl) (by kernel_rfl) (by kernel_rfl) (fun _ _ _ h => h) (by rfl) (by assumption) ?_ ?_
      rotate_left
      · intro w hSw; (try dsimp only at hSw); go_simp; (try with_reducible rfl)
      try simp only [Act.put, List.setIfInBounds_toArray, List.set_cons_zero, List.set_cons_succ]
      refine MyHeld.take 13 (v := ?_) (.s (.s (.s (.s (.s (.s (.s (.s (.s (.s (.s (.s (.s .z))))))))))))) (by kernel_rfl) (by kernel_rfl) (by kernel_rfl) (fun _ _ _ h => h) (by rfl) (by assumption) ?_ ?_
      rotate_left
      · intro w hSw; (try dsimp only at hSw); go_simp; (try with_reducible rfl)
      try simp only [Act.put, List.setIfInBounds_toArray, List.set_cons_zero, List.set_cons_succ]
      refine MyHeld.take 14 (v := ?_) (.s (.s (.s (.s (.s (.s (.s (.s (.s (.s (.s (.s (.s (.s .z)))))))))))))) (by kernel_rfl) (by kernel_rfl) (by kernel_rfl) (fun _ _ _ h => h) (by rfl) (by assumption) ?_ ?_
      rotate_left
      · intro w hSw; (try dsimp only at hSw); go_simp; (try with_reducible rfl)
      try simp only [Act.put, List.setIfInBounds_toArray, List.set_cons_zero, List.set_cons_succ]
      refine MyHeld.take 15 (v := ?_) (.s (.s (.s (.s (.s (.s (.s (.s (.s (.s (.s (.s (.s (.s (.s .z))))))))))))))) (by kernel_rfl) (by kernel_rfl) (by kernel_rfl) (fun _ _ _ h => h) (by rfl) (by assumption) ?_ ?_
      rotate_left
      · intro w hSw; (try dsimp only at hSw); go_simp; (try with_reducible rfl)
      try simp only [Act.put, List.setIfInBounds_toArray, List.set_cons_zero, List.set_cons_succ]
      refine MyHeld.take 16 (v := ?_) (.s (.s (.s (.s (.s (.s (.s (.s (.s (.s (.s (.s (.s (.s (.s (.s .z)))))))))))))))) (by kernel_rfl) (by kernel_rfl) (by kernel_rfl) (fun _ _ _ h => h) (by rfl) (by assumption) ?_ ?_
      rotate_left
      · intro w hSw; (try dsimp only at hSw); go_simp; (try with_reducible rfl)
      try simp only [Act.put, List.setIfInBounds_toArray, List.set_cons_zero, List.set_cons_succ]
      refine MyHeld.take 17 (v := ?_) (.s (.s (.s (.s (.s (.s (.s (.s (.s (.s (.s (.s (.s (.s (.s (.s (.s .z))))))))))))))))) (by kernel_rfl) (by kernel_rfl) (by kernel_rfl) (fun _ _ _ h => h) (by rfl) (by assumption) ?_ ?_
      rotate_left
      · intro w hSw; (try dsimp only at hSw); go_simp; (try with_reducible rfl)
      try simp only [Act.put, List.setIfInBounds_toArray, List.set_cons_zero, List.set_cons_succ]
      refine MyHeld.take 18 (v := ?_) (.s (.s (.s (.s (.s (.s (.s (.s (.s (.s (.s (.s (.s (.s (.s (.s (.s (.s .z)))))))))))))))))) (by kernel_rfl) (by kernel_rfl) (by kernel_rfl) (fun _ _ _ h => h) (by rfl) (by assumption) ?_ ?_
      rotate_left
      · intro w hSw; (try dsimp only at hSw); go_simp; (try with_reducible rfl)
      try simp only [Act.put, List.setIfInBounds_toArray, List.set_cons_zero, List.set_cons_succ]
      refine MyHeld.take 19 (v := ?_) (.s (.s (.s (.s (.s (.s (.s (.s (.s (.s (.s (.s (.s (.s (.s (.s (.s (.s (.s .z))))))))))))))))))) (by kernel_rfl) (by kernel_rfl) (by kernel_rfl) (fun _ _ _ h => h) (by rfl) (by assumption) ?_ ?_
      rotate_left
      · intro w hSw; (try dsimp only at hSw); go_simp; (try with_reducible rfl)
      try simp only [Act.put, List.setIfInBounds_toArray, List.set_cons_zero, List.set_cons_succ]
      refine MyHeld.take 20 (v := ?_) (.s (.s (.s (.s (.s (.s (.s (.s (.s (.s (.s (.s (.s (.s (.s (.s (.s (.s (.s (.s .z)))))))))))))))))))) (by kernel_rfl) (by kernel_rfl) (by kernel_rfl) (fun _ _ _ h => h) (by rfl) (by assumption) ?_ ?_
      rotate_left
      · intro w hSw; (try dsimp only at hSw); go_simp; (try with_reducible rfl)
      try simp only [Act.put, List.setIfInBounds_toArray, List.set_cons_zero, List.set_cons_succ]
      refine MyHeld.take 21 (v := ?_) (.s (.s (.s (.s (.s (.s (.s (.s (.s (.s (.s (.s (.s (.s (.s (.s (.s (.s (.s (.s (.s .z))))))))))))))))))))) (by kernel_rfl) (by kernel_rfl) (by kernel_rfl) (fun _ _ _ h => h) (by rfl) (by assumption) ?_ ?_
      rotate_left
      · intro w hSw; (try dsimp only at hSw); go_simp; (try with_reducible rfl)
      try simp only [Act.put, List.setIfInBounds_toArray, List.set_cons_zero, List.set_cons_succ]
      refine MyHeld.take 23 (v := ?_) (.s (.s (.s (.s (.s (.s (.s (.s (.s (.s (.s (.s (.s (.s (.s (.s (.s (.s (.s (.s (.s (.s (.s .z))))))))))))))))))))))) (by kernel_rfl) (by kernel_rfl) (by kernel_rfl) (fun _ _ _ h => h) (by rfl) (by assumption) ?_ ?_
      rotate_left
      · intro w hSw; (try dsimp only at hSw); go_simp; (try with_reducible rfl)
      try simp only [Act.put, List.setIfInBounds_toArray, List.set_cons_zero, List.set_cons_succ]
      refine MyHeld.take 24 (v := ?_) (.s (.s (.s (.s (.s (.s (.s (.s (.s (.s (.s (.s (.s (.s (.s (.s (.s (.s (.s (.s (.s (.s (.s (.s .z)))))))))))))))))))))))) (by kernel_rfl) (by kernel_rfl) (by kernel_rfl) (fun _ _ _ h => h) (by rfl) (by assumption) ?_ ?_
      rotate_left
      · intro w hSw; (try dsimp only at hSw); go_simp; (try with_reducible rfl)
      try simp only [Act.put, List.setIfInBounds_toArray, List.set_cons_zero, List.set_cons_succ]
      refine MyHeld.take 25 (v := ?_) (.s (.s (.s (.s (.s (.s (.s (.s (.s (.s (.s (.s (.s (.s (.s (.s (.s (.s (.s (.s (.s (.s (.s (.s (.s .z))))))))))))))))))))))))) (by kernel_rfl) (by kernel_rfl) (by kernel_rfl) (fun _ _ _ h => h) (by rfl) (by assumption) ?_ ?_
      rotate_left
      · intro w hSw; (try dsimp only at hSw); go_simp; (try with_reducible rfl)
      try simp only [Act.put, List.setIfInBounds_toArray, List.set_cons_zero, List.set_cons_succ]
      refine MyHeld.take 26 (v := ?_) (.s (.s (.s (.s (.s (.s (.s (.s (.s (.s (.s (.s (.s (.s (.s (.s (.s (.s (.s (.s (.s (.s (.s (.s (.s (.s .z)))))))))))))))))))))))))) (by kernel_rfl) (by kernel_rfl) (by kernel_rfl) (fun _ _ _ h => h) (by rfl) (by assumption) ?_ ?_
      rotate_left
      · intro w hSw; (try dsimp only at hSw); go_simp; (try with_reducible rfl)
      try simp only [Act.put, List.setIfInBounds_toArray, List.set_cons_zero, List.set_cons_succ]
      refine wpAnyH_ready (rs := [22]) (by kernel_rfl) (by simp) ?_
      refine (MyHeld.next 22 (.s (.s (.s (.s (.s (.s (.s (.s (.s (.s (.s (.s (.s (.s (.s (.s (.s (.s (.s (.s (.s (.s .z)))))))))))))))))))))) (fun Kq hKq => ?_) AllReadyH.nil)
      go_simp
      (go_at_call 41; refine (rbest_call a n c s z v z' v' t 2 _ (HL.out.below K.1.2.2.2.2.2) HO.out (by decide)).mono ?_; rintro e w3 ⟨rfl, hb3⟩; replace K := K.keep hb3; clear hb3)
      go_wp2_with fail
      refine hKq.out _ _ (by (try dsimp only); (exact ⟨by rw [← HV.out]; exact (five_cells K.1.2.1).2.2.2.2, four_cells K.1.1, two_cells K.1.2.2.1, two_cells K.1.2.2.2.1⟩)) (fun hHeld' => ?_)
      clear hKq Kq hHeld; have hHeld := hHeld'; clear hHeld'
      try simp only [Act.put, List.setIfInBounds_toArray, List.set_cons_zero, List.set_cons_succ]
      refine MyHeld.take 27 (v := ?_) (.s (.s (.s (.s (.s (.s (.s (.s (.s (.s (.s (.s (.s (.s (.s (.s (.s (.s (.s (.s (.s (.s (.s (.s (.s (.s (.s .z))))))))))))))))))))))))))) (by kernel_rfl) (by kernel_rfl) (by kernel_rfl) (fun _ _ _ h => h) (by rfl) (by assumption) ?_ ?_
      rotate_left
      · intro w hSw; (try dsimp only at hSw); go_simp; (try with_reducible rfl)
      try simp only [Act.put, List.setIfInBounds_toArray, List.set_cons_zero, List.set_cons_succ]
      refine MyHeld.take 28 (v := ?_) (.s (.s (.s (.s (.s (.s (.s (.s (.s (.s (.s (.s (.s (.s (.s (.s (.s (.s (.s (.s (.s (.s (.s (.s (.s (.s (.s (.s .z)))))))))))))))))))))))))))) (by kernel_rfl) (by kernel_rfl) (by kernel_rfl) (fun _ _ _ h => h) (by rfl) (by assumption) ?_ ?_
      rotate_left
      · intro w hSw; (try dsimp only at hSw); go_simp; (try with_reducible rfl)
      try simp only [Act.put, List.setIfInBounds_toArray, List.set_cons_zero, List.set_cons_succ]
      refine wpAnyH_done (by kernel_rfl) ?_ _
      all_goals go_wp2_with fail
      all_goals go_meet
      all_goals exact ⟨by rw [HT.out], K⟩
  case rest =>
    clear hbS u0 u1 u2 u3 s0 s1 s2 s3 s4 p0 p1 p2 p3 hl0 hl1 hl2 hl3 hl4 hlF hlN f0 f1 f2 n0 n1 n2
    clear K
    obtain ⟨rfl, hL⟩ := hcut
    have K := Lib.hid hL
    clear hL
    rw [HT.out]
    obtain ⟨u0, u1, u2, u3⟩ := four_cells K.out.1.1
    obtain ⟨s0, s1, s2, s3, s4⟩ := five_cells K.out.1.2.1
    obtain ⟨p0, p1⟩ := two_cells K.out.1.2.2.1
    obtain ⟨p2, p3⟩ := two_cells K.out.1.2.2.2.1
    obtain ⟨hl0, hl1, hl2, hl3, hl4⟩ := K.out.1.lts
    obtain ⟨f0, f1, f2⟩ := three_old' K.out.2.1
    obtain ⟨n0, n1, n2⟩ := three_old' K.out.2.2
    have hlF := lt_of_block K.out.2.1
    have hlN := lt_of_block K.out.2.2
    rw [show st.a.s = 1 from HG.out] at n0
    go_wp2_with fail
    refine (renough_call a n c s z v z' v' t 1 _ (HL.out.below K.out.1.2.2.2.2.2) HO.out (by decide)).mono ?_; rintro e w5 ⟨rfl, hb5⟩
    replace K := Lib.hid (K.out.keep hb5)
    clear hb5
    clear u0 u1 u2 u3 s0 s1 s2 s3 s4 p0 p1 p2 p3 hl0 hl1 hl2 hl3 hl4 hlF hlN f0 f1 f2 n0 n1 n2
    obtain ⟨u0, u1, u2, u3⟩ := four_cells K.out.1.1
    obtain ⟨s0, s1, s2, s3, s4⟩ := five_cells K.out.1.2.1
    obtain ⟨p0, p1⟩ := two_cells K.out.1.2.2.1
    obtain ⟨p2, p3⟩ := two_cells K.out.1.2.2.2.1
    obtain ⟨hl0, hl1, hl2, hl3, hl4⟩ := K.out.1.lts
    obtain ⟨f0, f1, f2⟩ := three_old' K.out.2.1
    obtain ⟨n0, n1, n2⟩ := three_old' K.out.2.2
    have hlF := lt_of_block K.out.2.1
    have hlN := lt_of_block K.out.2.2
    rw [show st.a.s = 1 from HG.out] at n0
    obtain ⟨_, v1⟩ := HH.out
    have hage : IntKind.i64.wrap (st.age + 1) = st.age + 1 := IntWalk.i64_in _ (by omega)
    rcases v1 with v1 | ⟨v1, v2, v3⟩
    all_goals
      go_upto_region 23 with fail
      replace K := Lib.hid (K.out.keep (below_alloc w5 (.cells #[.int .u8 (enA s z v z' v' 1 t).s, .int .i64 (enA s z v z' v' 1 t).r, .bool (enA s z v z' v' 1 t).k] 30)))
      have hGB : (w5.alloc (.cells #[.int .u8 (enA s z v z' v' 1 t).s, .int .i64 (enA s z v z' v' 1 t).r, .bool (enA s z v z' v' 1 t).k] 30)).heap[w5.heap.size]? = some (.cells #[.int .u8 (enA s z v z' v' 1 t).s, .int .i64 (enA s z v z' v' 1 t).r, .bool (enA s z v z' v' 1 t).k] 30 (0, 0)) := block_new _ _ rfl
      generalize w5.heap.size = bE at *
      generalize w5.alloc (.cells #[.int .u8 (enA s z v z' v' 1 t).s, .int .i64 (enA s z v z' v' 1 t).r, .bool (enA s z v z' v' 1 t).k] 30) = w6 at *
      clear u0 u1 u2 u3 s0 s1 s2 s3 s4 p0 p1 p2 p3 hl0 hl1 hl2 hl3 hl4 hlF hlN f0 f1 f2 n0 n1 n2
      obtain ⟨u0, u1, u2, u3⟩ := four_cells K.out.1.1
      obtain ⟨s0, s1, s2, s3, s4⟩ := five_cells K.out.1.2.1
      obtain ⟨p0, p1⟩ := two_cells K.out.1.2.2.1
      obtain ⟨p2, p3⟩ := two_cells K.out.1.2.2.2.1
      obtain ⟨hl0, hl1, hl2, hl3, hl4⟩ := K.out.1.lts
      obtain ⟨f0, f1, f2⟩ := three_old' K.out.2.1
      obtain ⟨n0, n1, n2⟩ := three_old' K.out.2.2
      have hlF := lt_of_block K.out.2.1
      have hlN := lt_of_block K.out.2.2
      rw [show st.a.s = 1 from HG.out] at n0
      obtain ⟨g0, g1, g2⟩ := three_old' hGB
      generalize hQ : bodyPost Try.prog Try.f27 (NxPost s z v z' v' t fl k st w) = QQ at *
      have HQQ := Lib.hid hQ
      clear hQ
      go_wp2_with ((with_reducible refine wpList_id ?_); refine wpList_store_new rfl 60 (.tmp 14) (.tmp 165) rfl (w.heap.size + 1 + 1 + 1 + 1) #[.int .u8 (enA s z v z' v' 1 t).s, .int .i64 (enA s z v z' v' 1 t).r, .bool (enA s z v z' v' 1 t).k, .int .i64 0, .bool st.rv] rfl rfl 60 _ K.out.1.2.2.2.2.1 (by kernel_rfl) rfl (by simp [Value.oneCell']) ?_; intro w9 H9)
      rw [← HQQ.out]
      refine bodyPost_ret (v := .tuple #[nstV ⟨enA s z v z' v' 1 t, 0, st.rv⟩, .int .i64 0]) ?_ rfl (nxPost_of ⟨(nx_ok HE.out HBn.out HA0.out HC.out).1, (nx_ok HE.out HBn.out HA0.out HC.out).2.trans (by rw [nxA_same HNZ.out (by rw [HG.out]; exact HW.out) (by rw [HG.out]; exact HT.out) (by rw [HG.out]; exact HH.out.1), HG.out])⟩ (K.out.1.done H9.out.2))
      obtain ⟨r0, r1, r2, r3, r4⟩ := five_cells H9.out.1
      simp [results, Try.f27, go_sem, r0, r1, r2, r3, r4, nstV]

set_option maxRecDepth 100000 in
set_option maxHeartbeats 8000000 in
theorem rNext_hold1 (a : Option Addr) (n c : Nat) (s : RulesMath.Set) (z v z' v' t fl k : Int) (st : NSt) (w : World) (h : Ints w a n s.rs) (hs : 0 ≤ st.a.s) (hE : whlE s z v z' v' t k = 0) (hB : bndE st.a = 0) (hA0 : ¬ st.age < 0) (hA : ¬ 1000 < st.age) (hC : chE s z v z' v' t fl k = 0) (hg : st.a.s = 1) (hw : alwB z fl k 1 = true) (hT : turnB s z v z' v' t fl k st 1 = false) (hH : holdB st (enA s z v z' v' 1 t) = true) :
    Calls Try.prog 27 #[setV a n c s, nstV st, .agg #[.int .i64 z, .int .i64 v], .agg #[.int .i64 z', .int .i64 v'], .int .i64 t, .int .i64 fl, .int .u8 k] w (NxPost s z v z' v' t fl k st w) := by
  have HL := Lib.hid h
  have HS := Lib.hid hs
  have HE := Lib.hid hE
  have HBn := Lib.hid hB
  have HO := Lib.hid (scOk_of (whlE_zero hE).1 ⟨(whlE_zero hE).2.1, (whlE_zero hE).2.2.1⟩)
  have HC := Lib.hid hC
  have HG := Lib.hid hg
  have HNZ := Lib.hid (show st.a.s ≠ 0 from by rw [hg]; decide)
  have HA0 := Lib.hid (show ¬ (st.age < 0 ∨ 1000 < st.age) from by omega)
  have age0 : 0 ≤ st.age := by omega
  have age1 : st.age ≤ 1000 := by omega
  have HW := Lib.hid hw
  have HT := Lib.hid hT
  have HH := Lib.hid ((hold_cases2 (st := st) (enA s z v z' v' 1 t)).resolve_left (fun h => by rw [hH] at h; cases h.1))
  have HQ := Lib.hid (((turn_cases (s := s) (z := z) (v := v) (z' := z') (v' := v') (t := t) (fl := fl) (k := k) (st := st) 1).resolve_left (fun h => by rw [hT] at h; cases h.1)).2)
  clear hE hs hB hC hA0 hA hg hw hT hH
  clear h
  unfold setV nstV
  go_enter Try.func27, Try.ntmps27
  go_upto_region 1 with fail
  have K0 : RwK w (setC a n c s) (nstC st) z v z' v' (((((w.alloc (.cells #[.slice a n c, .int .i64 s.alim, .int .i64 s.d, .int .i64 s.pl] 34)).alloc (.cells #[.int .u8 st.a.s, .int .i64 st.a.r, .bool st.a.k, .int .i64 st.age, .bool st.rv] 60)).alloc (.cells #[.int .i64 z, .int .i64 v] 26)).alloc (.cells #[.int .i64 z', .int .i64 v'] 26)).alloc (.cells #[.int .u8 0, .int .i64 0, .bool false, .int .i64 0, .bool false] 60)) :=
    ⟨block_alloc (block_alloc (block_alloc (block_alloc (block_new _ _ rfl)))), block_alloc (block_alloc (block_alloc (block_new _ _ (by simp)))), block_alloc (block_alloc (block_new _ _ (by simp))), block_alloc (block_new _ _ (by simp)), block_new _ _ (by simp), ((((below_alloc _ _).alloc (by simp) _).alloc (by simp; omega) _).alloc (by simp; omega) _).alloc (by simp; omega) _⟩
  generalize (((((w.alloc (.cells #[.slice a n c, .int .i64 s.alim, .int .i64 s.d, .int .i64 s.pl] 34)).alloc (.cells #[.int .u8 st.a.s, .int .i64 st.a.r, .bool st.a.k, .int .i64 st.age, .bool st.rv] 60)).alloc (.cells #[.int .i64 z, .int .i64 v] 26)).alloc (.cells #[.int .i64 z', .int .i64 v'] 26)).alloc (.cells #[.int .u8 0, .int .i64 0, .bool false, .int .i64 0, .bool false] 60)) = wq at *
  have K := Lib.hid K0
  clear K0
  obtain ⟨u0, u1, u2, u3⟩ := four_cells K.out.1
  obtain ⟨s0, s1, s2, s3, s4⟩ := five_cells K.out.2.1
  obtain ⟨p0, p1⟩ := two_cells K.out.2.2.1
  obtain ⟨p2, p3⟩ := two_cells K.out.2.2.2.1
  obtain ⟨hl0, hl1, hl2, hl3, hl4⟩ := K.out.lts
  go_wp2_with fail
  refine (rwrong_call a n c s z v z' v' t k _ (HL.out.below K.out.2.2.2.2.2)).mono ?_; rintro e w5 ⟨rfl, hb5⟩
  replace K := Lib.hid (K.out.keep hb5)
  clear hb5
  clear u0 u1 u2 u3 s0 s1 s2 s3 s4 p0 p1 p2 p3 hl0 hl1 hl2 hl3 hl4
  obtain ⟨u0, u1, u2, u3⟩ := four_cells K.out.1
  obtain ⟨s0, s1, s2, s3, s4⟩ := five_cells K.out.2.1
  obtain ⟨p0, p1⟩ := two_cells K.out.2.2.1
  obtain ⟨p2, p3⟩ := two_cells K.out.2.2.2.1
  obtain ⟨hl0, hl1, hl2, hl3, hl4⟩ := K.out.lts
  rw [HE.out]
  go_wp2_with fail
  refine (refBounds_call st.a _ HS.out).mono ?_; rintro e w5 ⟨rfl, hb5⟩
  replace K := Lib.hid (K.out.keep hb5)
  clear hb5
  clear u0 u1 u2 u3 s0 s1 s2 s3 s4 p0 p1 p2 p3 hl0 hl1 hl2 hl3 hl4
  obtain ⟨u0, u1, u2, u3⟩ := four_cells K.out.1
  obtain ⟨s0, s1, s2, s3, s4⟩ := five_cells K.out.2.1
  obtain ⟨p0, p1⟩ := two_cells K.out.2.2.1
  obtain ⟨p2, p3⟩ := two_cells K.out.2.2.2.1
  obtain ⟨hl0, hl1, hl2, hl3, hl4⟩ := K.out.lts
  rw [HBn.out]
  go_wp2_with fail
  refine (rChoose_call a n c s z v z' v' t fl k _ (HL.out.below K.out.2.2.2.2.2)).mono ?_; rintro e w3 ⟨rfl, hb3⟩
  replace K := Lib.hid (K.out.keep hb3)
  clear hb3
  clear u0 u1 u2 u3 s0 s1 s2 s3 s4 p0 p1 p2 p3 hl0 hl1 hl2 hl3 hl4
  rw [HC.out]
  generalize hY : chR s z v z' v' t fl k = Y at *
  obtain ⟨u0, u1, u2, u3⟩ := four_cells K.out.1
  obtain ⟨s0, s1, s2, s3, s4⟩ := five_cells K.out.2.1
  obtain ⟨p0, p1⟩ := two_cells K.out.2.2.1
  obtain ⟨p2, p3⟩ := two_cells K.out.2.2.2.1
  obtain ⟨hl0, hl1, hl2, hl3, hl4⟩ := K.out.lts
  go_upto_region 13 with fail
  have L : RwL w (setC a n c s) (nstC st) z v z' v' w3.heap.size Y (w3.heap.size + 1) st.a ((w3.alloc (.cells #[.int .u8 Y.s, .int .i64 Y.r, .bool Y.k] 30)).alloc (.cells #[.int .u8 st.a.s, .int .i64 st.a.r, .bool st.a.k] 30)) :=
    ⟨(K.out.keep (below_alloc _ _)).keep (below_alloc _ _), block_alloc (block_new _ _ rfl), block_new _ _ (by simp)⟩
  have HY := Lib.hid hY
  clear hY K
  clear u0 u1 u2 u3 s0 s1 s2 s3 s4 p0 p1 p2 p3 hl0 hl1 hl2 hl3 hl4
  generalize hbN : w3.heap.size + 1 = bN at *
  generalize hbF : w3.heap.size = bF at *
  generalize ((w3.alloc (.cells #[.int .u8 Y.s, .int .i64 Y.r, .bool Y.k] 30)).alloc (.cells #[.int .u8 st.a.s, .int .i64 st.a.r, .bool st.a.k] 30)) = w4 at *
  clear hbN hbF
  have K := Lib.hid L
  clear L
  obtain ⟨u0, u1, u2, u3⟩ := four_cells K.out.1.1
  obtain ⟨s0, s1, s2, s3, s4⟩ := five_cells K.out.1.2.1
  obtain ⟨p0, p1⟩ := two_cells K.out.1.2.2.1
  obtain ⟨p2, p3⟩ := two_cells K.out.1.2.2.2.1
  obtain ⟨hl0, hl1, hl2, hl3, hl4⟩ := K.out.1.lts
  obtain ⟨f0, f1, f2⟩ := three_old' K.out.2.1
  obtain ⟨n0, n1, n2⟩ := three_old' K.out.2.2
  have hlF := lt_of_block K.out.2.1
  have hlN := lt_of_block K.out.2.2
  rw [show st.a.s = 1 from HG.out] at n0
  go_wp2_with fail
  refine (rallowed_call z v fl k 1 _ (by decide)).mono ?_; rintro e w5 ⟨rfl, hb5⟩
  replace K := Lib.hid (K.out.keep hb5)
  clear hb5
  rw [HW.out]
  clear u0 u1 u2 u3 s0 s1 s2 s3 s4 p0 p1 p2 p3 hl0 hl1 hl2 hl3 hl4 hlF hlN f0 f1 f2 n0 n1 n2
  obtain ⟨u0, u1, u2, u3⟩ := four_cells K.out.1.1
  obtain ⟨s0, s1, s2, s3, s4⟩ := five_cells K.out.1.2.1
  obtain ⟨p0, p1⟩ := two_cells K.out.1.2.2.1
  obtain ⟨p2, p3⟩ := two_cells K.out.1.2.2.2.1
  obtain ⟨hl0, hl1, hl2, hl3, hl4⟩ := K.out.1.lts
  obtain ⟨f0, f1, f2⟩ := three_old' K.out.2.1
  obtain ⟨n0, n1, n2⟩ := three_old' K.out.2.2
  have hlF := lt_of_block K.out.2.1
  have hlN := lt_of_block K.out.2.2
  rw [show st.a.s = 1 from HG.out] at n0
  go_wp2_with fail
  refine (rbest_call a n c s z v z' v' t 1 _ (HL.out.below K.out.1.2.2.2.2.2) HO.out (by decide)).mono ?_; rintro e w5 ⟨rfl, hb5⟩
  replace K := Lib.hid (K.out.keep hb5)
  clear hb5
  clear u0 u1 u2 u3 s0 s1 s2 s3 s4 p0 p1 p2 p3 hl0 hl1 hl2 hl3 hl4 hlF hlN f0 f1 f2 n0 n1 n2
  obtain ⟨u0, u1, u2, u3⟩ := four_cells K.out.1.1
  obtain ⟨s0, s1, s2, s3, s4⟩ := five_cells K.out.1.2.1
  obtain ⟨p0, p1⟩ := two_cells K.out.1.2.2.1
  obtain ⟨p2, p3⟩ := two_cells K.out.1.2.2.2.1
  obtain ⟨hl0, hl1, hl2, hl3, hl4⟩ := K.out.1.lts
  obtain ⟨f0, f1, f2⟩ := three_old' K.out.2.1
  obtain ⟨n0, n1, n2⟩ := three_old' K.out.2.2
  have hlF := lt_of_block K.out.2.1
  have hlN := lt_of_block K.out.2.2
  rw [show st.a.s = 1 from HG.out] at n0
  have hbS := HO.out.bestBd (g := 1) (by decide)
  go_upto_region 19 with fail
  go_cut [129] (fun s129 wx => s129 = .bool (turnB s z v z' v' t fl k st 1) ∧ RwL w (setC a n c s) (nstC st) z v z' v' bF Y bN st.a wx)
  case first =>
    replace K := K.out.keep ((Below.refl _ _).drew)
    have hsum : IntKind.i64.wrap (bestV s z v z' v' 1 t + s.alim) = bestV s z v z' v' 1 t + s.alim := IntWalk.i64_in _ (by omega)
    clear hbS
    rcases HQ.out with v1 | ⟨v1, v2 | ⟨v2, v3 | ⟨v3, v4⟩⟩⟩
    · have HV := Lib.hid v1
      clear v1
      refine wp_region_held_drew (S := (fun w' => w'.cell? ⟨w.heap.size + 1, 4, none⟩ = some (.bool true) ∧ (w'.cell? ⟨w.heap.size, 0, none⟩ = some (.slice a n c) ∧ w'.cell? ⟨w.heap.size, 1, none⟩ = some (.int .i64 s.alim) ∧ w'.cell? ⟨w.heap.size, 2, none⟩ = some (.int .i64 s.d) ∧ w'.cell? ⟨w.heap.size, 3, none⟩ = some (.int .i64 s.pl)) ∧ (w'.cell? ⟨w.heap.size + 1 + 1, 0, none⟩ = some (.int .i64 z) ∧ w'.cell? ⟨w.heap.size + 1 + 1, 1, none⟩ = some (.int .i64 v)) ∧ (w'.cell? ⟨w.heap.size + 1 + 1 + 1, 0, none⟩ = some (.int .i64 z') ∧ w'.cell? ⟨w.heap.size + 1 + 1 + 1, 1, none⟩ = some (.int .i64 v')))) (by kernel_rfl) (by (try dsimp only); (exact ⟨by rw [← HV.out]; exact (five_cells K.1.2.1).2.2.2.2, four_cells K.1.1, two_cells K.1.2.2.1, two_cells K.1.2.2.2.1⟩)) (fun hHeld => ?_)
      refine MyHeld.take 0 (v := ?_) .z (by kernel_rfl) (by kernel_rfl) (by kernel_rfl) (fun _ _ _ h => h) (by rfl) (by assumption) ?_ ?_
      rotate_left
      · intro w hSw; (try dsimp only at hSw); go_simp; (try with_reducible rfl)
      try simp only [Act.put, List.setIfInBounds_toArray, List.set_cons_zero, List.set_cons_succ]
      refine MyHeld.take 1 (v := ?_) (.s .z) (by kernel_rfl) (by kernel_rfl) (by kernel_rfl) (fun _ _ _ h => h) (by rfl) (by assumption) ?_ ?_
      rotate_left
      · intro w hSw; (try dsimp only at hSw); go_simp; (try with_reducible rfl)
      try simp only [Act.put, List.setIfInBounds_toArray, List.set_cons_zero, List.set_cons_succ]
      refine MyHeld.take 2 (v := ?_) (.s (.s .z)) (by kernel_rfl) (by kernel_rfl) (by kernel_rfl) (fun _ _ _ h => h) (by rfl) (by assumption) ?_ ?_
      rotate_left
      · intro w hSw; (try dsimp only at hSw); go_simp; (try with_reducible rfl)
      try simp only [Act.put, List.setIfInBounds_toArray, List.set_cons_zero, List.set_cons_succ]
      refine MyHeld.take 3 (v := ?_) (.s (.s (.s .z))) (by kernel_rfl) (by kernel_rfl) (by kernel_rfl) (fun _ _ _ h => h) (by rfl) (by assumption) ?_ ?_
      rotate_left
      · intro w hSw; (try dsimp only at hSw); go_simp; (try with_reducible rfl)
      try simp only [Act.put, List.setIfInBounds_toArray, List.set_cons_zero, List.set_cons_succ]
      refine MyHeld.skip 4 (.s (.s (.s (.s .z)))) (by kernel_rfl) (by kernel_rfl) (by kernel_rfl) (fun _ _ _ h => h) (by rfl) (by assumption) ?_
      try simp only [Act.put, List.setIfInBounds_toArray, List.set_cons_zero, List.set_cons_succ]
      refine MyHeld.skip 5 (.s (.s (.s (.s (.s .z))))) (by kernel_rfl) (by kernel_rfl) (by kernel_rfl) (fun _ _ _ h => h) (by rfl) (by assumption) ?_
      try simp only [Act.put, List.setIfInBounds_toArray, List.set_cons_zero, List.set_cons_succ]
      refine MyHeld.skip 6 (.s (.s (.s (.s (.s (.s .z)))))) (by kernel_rfl) (by kernel_rfl) (by kernel_rfl) (fun _ _ _ h => h) (by rfl) (by assumption) ?_
      try simp only [Act.put, List.setIfInBounds_toArray, List.set_cons_zero, List.set_cons_succ]
      refine MyHeld.skip 7 (.s (.s (.s (.s (.s (.s (.s .z))))))) (by kernel_rfl) (by kernel_rfl) (by kernel_rfl) (fun _ _ _ h => h) (by rfl) (by assumption) ?_
      try simp only [Act.put, List.setIfInBounds_toArray, List.set_cons_zero, List.set_cons_succ]
      refine MyHeld.skip 8 (.s (.s (.s (.s (.s (.s (.s (.s .z)))))))) (by kernel_rfl) (by kernel_rfl) (by kernel_rfl) (fun _ _ _ h => h) (by rfl) (by assumption) ?_
      try simp only [Act.put, List.setIfInBounds_toArray, List.set_cons_zero, List.set_cons_succ]
      refine MyHeld.take 9 (v := ?_) (.s (.s (.s (.s (.s (.s (.s (.s (.s .z))))))))) (by kernel_rfl) (by kernel_rfl) (by kernel_rfl) (fun _ _ _ h => h) (by rfl) (by assumption) ?_ ?_
      rotate_left
      · intro w hSw; (try dsimp only at hSw); go_simp; (try with_reducible rfl)
      try simp only [Act.put, List.setIfInBounds_toArray, List.set_cons_zero, List.set_cons_succ]
      refine MyHeld.take 10 (v := ?_) (.s (.s (.s (.s (.s (.s (.s (.s (.s (.s .z)))))))))) (by kernel_rfl) (by kernel_rfl) (by kernel_rfl) (fun _ _ _ h => h) (by rfl) (by assumption) ?_ ?_
      rotate_left
      · intro w hSw; (try dsimp only at hSw); go_simp; (try with_reducible rfl)
      try simp only [Act.put, List.setIfInBounds_toArray, List.set_cons_zero, List.set_cons_succ]
      refine MyHeld.skip 11 (.s (.s (.s (.s (.s (.s (.s (.s (.s (.s (.s .z))))))))))) (by kernel_rfl) (by kernel_rfl) (by kernel_rfl) (fun _ _ _ h => h) (by rfl) (by assumption) ?_
      try simp only [Act.put, List.setIfInBounds_toArray, List.set_cons_zero, List.set_cons_succ]
      refine MyHeld.skip 12 (.s (.s (.s (.s (.s (.s (.s (.s (.s (.s (.s (.s .z)))))))))))) (by kernel_rfl) (by kernel_rfl) (by kernel_rfl) (fun _ _ _ h => h) (by rfl) (by assumption) ?_
      try simp only [Act.put, List.setIfInBounds_toArray, List.set_cons_zero, List.set_cons_succ]
      refine MyHeld.skip 13 (.s (.s (.s (.s (.s (.s (.s (.s (.s (.s (.s (.s (.s .z))))))))))))) (by kernel_rfl) (by kernel_rfl) (by kernel_rfl) (fun _ _ _ h => h) (by rfl) (by assumption) ?_
      try simp only [Act.put, List.setIfInBounds_toArray, List.set_cons_zero, List.set_cons_succ]
      refine MyHeld.skip 14 (.s (.s (.s (.s (.s (.s (.s (.s (.s (.s (.s (.s (.s (.s .z)))))))))))))) (by kernel_rfl) (by kernel_rfl) (by kernel_rfl) (fun _ _ _ h => h) (by rfl) (by assumption) ?_
      try simp only [Act.put, List.setIfInBounds_toArray, List.set_cons_zero, List.set_cons_succ]
      refine MyHeld.take 15 (v := ?_) (.s (.s (.s (.s (.s (.s (.s (.s (.s (.s (.s (.s (.s (.s (.s .z))))))))))))))) (by kernel_rfl) (by kernel_rfl) (by kernel_rfl) (fun _ _ _ h => h) (by rfl) (by assumption) ?_ ?_
      rotate_left
      · intro w hSw; (try dsimp only at hSw); go_simp; (try with_reducible rfl)
      try simp only [Act.put, List.setIfInBounds_toArray, List.set_cons_zero, List.set_cons_succ]
      refine MyHeld.take 16 (v := ?_) (.s (.s (.s (.s (.s (.s (.s (.s (.s (.s (.s (.s (.s (.s (.s (.s .z)))))))))))))))) (by kernel_rfl) (by kernel_rfl) (by kernel_rfl) (fun _ _ _ h => h) (by rfl) (by assumption) ?_ ?_
      rotate_left
      · intro w hSw; (try dsimp only at hSw); go_simp; (try with_reducible rfl)
      try simp only [Act.put, List.setIfInBounds_toArray, List.set_cons_zero, List.set_cons_succ]
      refine MyHeld.skip 17 (.s (.s (.s (.s (.s (.s (.s (.s (.s (.s (.s (.s (.s (.s (.s (.s (.s .z))))))))))))))))) (by kernel_rfl) (by kernel_rfl) (by kernel_rfl) (fun _ _ _ h => h) (by rfl) (by assumption) ?_
      try simp only [Act.put, List.setIfInBounds_toArray, List.set_cons_zero, List.set_cons_succ]
      refine MyHeld.skip 18 (.s (.s (.s (.s (.s (.s (.s (.s (.s (.s (.s (.s (.s (.s (.s (.s (.s (.s .z)))))))))))))))))) (by kernel_rfl) (by kernel_rfl) (by kernel_rfl) (fun _ _ _ h => h) (by rfl) (by assumption) ?_
      try simp only [Act.put, List.setIfInBounds_toArray, List.set_cons_zero, List.set_cons_succ]
      refine MyHeld.skip 19 (.s (.s (.s (.s (.s (.s (.s (.s (.s (.s (.s (.s (.s (.s (.s (.s (.s (.s (.s .z))))))))))))))))))) (by kernel_rfl) (by kernel_rfl) (by kernel_rfl) (fun _ _ _ h => h) (by rfl) (by assumption) ?_
      try simp only [Act.put, List.setIfInBounds_toArray, List.set_cons_zero, List.set_cons_succ]
      refine MyHeld.skip 20 (.s (.s (.s (.s (.s (.s (.s (.s (.s (.s (.s (.s (.s (.s (.s (.s (.s (.s (.s (.s .z)))))))))))))))))))) (by kernel_rfl) (by kernel_rfl) (by kernel_rfl) (fun _ _ _ h => h) (by rfl) (by assumption) ?_
      try simp only [Act.put, List.setIfInBounds_toArray, List.set_cons_zero, List.set_cons_succ]
      refine MyHeld.skip 21 (.s (.s (.s (.s (.s (.s (.s (.s (.s (.s (.s (.s (.s (.s (.s (.s (.s (.s (.s (.s (.s .z))))))))))))))))))))) (by kernel_rfl) (by kernel_rfl) (by kernel_rfl) (fun _ _ _ h => h) (by rfl) (by assumption) ?_
      try simp only [Act.put, List.setIfInBounds_toArray, List.set_cons_zero, List.set_cons_succ]
      refine MyHeld.skip 22 (.s (.s (.s (.s (.s (.s (.s (.s (.s (.s (.s (.s (.s (.s (.s (.s (.s (.s (.s (.s (.s (.s .z)))))))))))))))))))))) (by kernel_rfl) (by kernel_rfl) (by kernel_rfl) (fun _ _ _ h => h) (by rfl) (by assumption) ?_
      try simp only [Act.put, List.setIfInBounds_toArray, List.set_cons_zero, List.set_cons_succ]
      refine MyHeld.skip 23 (.s (.s (.s (.s (.s (.s (.s (.s (.s (.s (.s (.s (.s (.s (.s (.s (.s (.s (.s (.s (.s (.s (.s .z))))))))))))))))))))))) (by kernel_rfl) (by kernel_rfl) (by kernel_rfl) (fun _ _ _ h => h) (by rfl) (by assumption) ?_
      try simp only [Act.put, List.setIfInBounds_toArray, List.set_cons_zero, List.set_cons_succ]
      refine MyHeld.skip 24 (.s (.s (.s (.s (.s (.s (.s (.s (.s (.s (.s (.s (.s (.s (.s (.s (.s (.s (.s (.s (.s (.s (.s (.s .z)))))))))))))))))))))))) (by kernel_rfl) (by kernel_rfl) (by kernel_rfl) (fun _ _ _ h => h) (by rfl) (by assumption) ?_
      try simp only [Act.put, List.setIfInBounds_toArray, List.set_cons_zero, List.set_cons_succ]
      refine MyHeld.skip 25 (.s (.s (.s (.s (.s (.s (.s (.s (.s (.s (.s (.s (.s (.s (.s (.s (.s (.s (.s (.s (.s (.s (.s (.s (.s .z))))))))))))))))))))))))) (by kernel_rfl) (by kernel_rfl) (by kernel_rfl) (fun _ _ _ h => h) (by rfl) (by assumption) ?_
      try simp only [Act.put, List.setIfInBounds_toArray, List.set_cons_zero, List.set_cons_succ]
      refine MyHeld.skip 26 (.s (.s (.s (.s (.s (.s (.s (.s (.s (.s (.s (.s (.s (.s (.s (.s (.s (.s (.s (.s (.s (.s (.s (.s (.s (.s .z)))))))))))))))))))))))))) (by kernel_rfl) (by kernel_rfl) (by kernel_rfl) (fun _ _ _ h => h) (by rfl) (by assumption) ?_
      try simp only [Act.put, List.setIfInBounds_toArray, List.set_cons_zero, List.set_cons_succ]
      refine MyHeld.skip 27 (.s (.s (.s (.s (.s (.s (.s (.s (.s (.s (.s (.s (.s (.s (.s (.s (.s (.s (.s (.s (.s (.s (.s (.s (.s (.s (.s .z))))))))))))))))))))))))))) (by kernel_rfl) (by kernel_rfl) (by kernel_rfl) (fun _ _ _ h => h) (by rfl) (by assumption) ?_
      try simp only [Act.put, List.setIfInBounds_toArray, List.set_cons_zero, List.set_cons_succ]
      refine MyHeld.take 28 (v := ?_) (.s (.s (.s (.s (.s (.s (.s (.s (.s (.s (.s (.s (.s (.s (.s (.s (.s (.s (.s (.s (.s (.s (.s (.s (.s (.s (.s (.s .z)))))))))))))))))))))))))))) (by kernel_rfl) (by kernel_rfl) (by kernel_rfl) (fun _ _ _ h => h) (by rfl) (by assumption) ?_ ?_
      rotate_left
      · intro w hSw; (try dsimp only at hSw); go_simp; (try with_reducible rfl)
      try simp only [Act.put, List.setIfInBounds_toArray, List.set_cons_zero, List.set_cons_succ]
      refine wpAnyH_done (by kernel_rfl) ?_ _
      all_goals go_wp2_with fail
      all_goals go_meet
      all_goals exact ⟨by rw [HT.out], K⟩
    · have HV := Lib.hid v1
      have HV2 := Lib.hid v2
      clear v1 v2
      refine wp_region_held_drew (S := (fun w' => w'.cell? ⟨w.heap.size + 1, 4, none⟩ = some (.bool false) ∧ (w'.cell? ⟨w.heap.size, 0, none⟩ = some (.slice a n c) ∧ w'.cell? ⟨w.heap.size, 1, none⟩ = some (.int .i64 s.alim) ∧ w'.cell? ⟨w.heap.size, 2, none⟩ = some (.int .i64 s.d) ∧ w'.cell? ⟨w.heap.size, 3, none⟩ = some (.int .i64 s.pl)) ∧ (w'.cell? ⟨w.heap.size + 1 + 1, 0, none⟩ = some (.int .i64 z) ∧ w'.cell? ⟨w.heap.size + 1 + 1, 1, none⟩ = some (.int .i64 v)) ∧ (w'.cell? ⟨w.heap.size + 1 + 1 + 1, 0, none⟩ = some (.int .i64 z') ∧ w'.cell? ⟨w.heap.size + 1 + 1 + 1, 1, none⟩ = some (.int .i64 v')))) (by kernel_rfl) (by (try dsimp only); (exact ⟨by rw [← HV.out]; exact (five_cells K.1.2.1).2.2.2.2, four_cells K.1.1, two_cells K.1.2.2.1, two_cells K.1.2.2.2.1⟩)) (fun hHeld => ?_)
      refine MyHeld.take 0 (v := ?_) .z (by kernel_rfl) (by kernel_rfl) (by kernel_rfl) (fun _ _ _ h => h) (by rfl) (by assumption) ?_ ?_
      rotate_left
      · intro w hSw; (try dsimp only at hSw); go_simp; (try with_reducible rfl)
      try simp only [Act.put, List.setIfInBounds_toArray, List.set_cons_zero, List.set_cons_succ]
      refine MyHeld.take 1 (v := ?_) (.s .z) (by kernel_rfl) (by kernel_rfl) (by kernel_rfl) (fun _ _ _ h => h) (by rfl) (by assumption) ?_ ?_
      rotate_left
      · intro w hSw; (try dsimp only at hSw); go_simp; (try with_reducible rfl)
      try simp only [Act.put, List.setIfInBounds_toArray, List.set_cons_zero, List.set_cons_succ]
      refine MyHeld.take 2 (v := ?_) (.s (.s .z)) (by kernel_rfl) (by kernel_rfl) (by kernel_rfl) (fun _ _ _ h => h) (by rfl) (by assumption) ?_ ?_
      rotate_left
      · intro w hSw; (try dsimp only at hSw); go_simp; (try with_reducible rfl)
      try simp only [Act.put, List.setIfInBounds_toArray, List.set_cons_zero, List.set_cons_succ]
      refine MyHeld.take 3 (v := ?_) (.s (.s (.s .z))) (by kernel_rfl) (by kernel_rfl) (by kernel_rfl) (fun _ _ _ h => h) (by rfl) (by assumption) ?_ ?_
      rotate_left
      · intro w hSw; (try dsimp only at hSw); go_simp; (try with_reducible rfl)
      try simp only [Act.put, List.setIfInBounds_toArray, List.set_cons_zero, List.set_cons_succ]
      refine MyHeld.take 4 (v := ?_) (.s (.s (.s (.s .z)))) (by kernel_rfl) (by kernel_rfl) (by kernel_rfl) (fun _ _ _ h => h) (by rfl) (by assumption) ?_ ?_
      rotate_left
      · intro w hSw; (try dsimp only at hSw); go_simp; (try with_reducible rfl)
      try simp only [Act.put, List.setIfInBounds_toArray, List.set_cons_zero, List.set_cons_succ]
      refine MyHeld.take 5 (v := ?_) (.s (.s (.s (.s (.s .z))))) (by kernel_rfl) (by kernel_rfl) (by kernel_rfl) (fun _ _ _ h => h) (by rfl) (by assumption) ?_ ?_
      rotate_left
      · intro w hSw; (try dsimp only at hSw); go_simp; (try with_reducible rfl)
      try simp only [Act.put, List.setIfInBounds_toArray, List.set_cons_zero, List.set_cons_succ]
      refine MyHeld.take 6 (v := ?_) (.s (.s (.s (.s (.s (.s .z)))))) (by kernel_rfl) (by kernel_rfl) (by kernel_rfl) (fun _ _ _ h => h) (by rfl) (by assumption) ?_ ?_
      rotate_left
      · intro w hSw; (try dsimp only at hSw); go_simp; (try with_reducible rfl)
      try simp only [Act.put, List.setIfInBounds_toArray, List.set_cons_zero, List.set_cons_succ]
      refine MyHeld.take 7 (v := ?_) (.s (.s (.s (.s (.s (.s (.s .z))))))) (by kernel_rfl) (by kernel_rfl) (by kernel_rfl) (fun _ _ _ h => h) (by rfl) (by assumption) ?_ ?_
      rotate_left
      · intro w hSw; (try dsimp only at hSw); go_simp; (try with_reducible rfl)
      try simp only [Act.put, List.setIfInBounds_toArray, List.set_cons_zero, List.set_cons_succ]
      refine wpAnyH_ready (rs := [8]) (by kernel_rfl) (by simp) ?_
      refine (MyHeld.next 8 (.s (.s (.s (.s (.s (.s (.s (.s .z)))))))) (fun Kq hKq => ?_) AllReadyH.nil)
      go_simp
      (go_at_call 40; refine (rallowed_call z v fl k 2 _ (by decide)).mono ?_; rintro e w3 ⟨rfl, hb3⟩; rw [show alwB z fl k 2 = false from HV2.out]; replace K := K.keep hb3; clear hb3)
      go_wp2_with fail
      refine hKq.out _ _ (by (try dsimp only); (exact ⟨by rw [← HV.out]; exact (five_cells K.1.2.1).2.2.2.2, four_cells K.1.1, two_cells K.1.2.2.1, two_cells K.1.2.2.2.1⟩)) (fun hHeld' => ?_)
      clear hKq Kq hHeld; have hHeld := hHeld'; clear hHeld'
      try simp only [Act.put, List.setIfInBounds_toArray, List.set_cons_zero, List.set_cons_succ]
      refine MyHeld.take 9 (v := ?_) (.s (.s (.s (.s (.s (.s (.s (.s (.s .z))))))))) (by kernel_rfl) (by kernel_rfl) (by kernel_rfl) (fun _ _ _ h => h) (by rfl) (by assumption) ?_ ?_
      rotate_left
      · intro w hSw; (try dsimp only at hSw); go_simp; (try with_reducible rfl)
      try simp only [Act.put, List.setIfInBounds_toArray, List.set_cons_zero, List.set_cons_succ]
      refine MyHeld.take 10 (v := ?_) (.s (.s (.s (.s (.s (.s (.s (.s (.s (.s .z)))))))))) (by kernel_rfl) (by kernel_rfl) (by kernel_rfl) (fun _ _ _ h => h) (by rfl) (by assumption) ?_ ?_
      rotate_left
      · intro w hSw; (try dsimp only at hSw); go_simp; (try with_reducible rfl)
      try simp only [Act.put, List.setIfInBounds_toArray, List.set_cons_zero, List.set_cons_succ]
      refine MyHeld.skip 11 (.s (.s (.s (.s (.s (.s (.s (.s (.s (.s (.s .z))))))))))) (by kernel_rfl) (by kernel_rfl) (by kernel_rfl) (fun _ _ _ h => h) (by rfl) (by assumption) ?_
      try simp only [Act.put, List.setIfInBounds_toArray, List.set_cons_zero, List.set_cons_succ]
      refine MyHeld.skip 12 (.s (.s (.s (.s (.s (.s (.s (.s (.s (.s (.s (.s .z)))))))))))) (by kernel_rfl) (by kernel_rfl) (by kernel_rfl) (fun _ _ _ h => h) (by rfl) (by assumption) ?_
      try simp only [Act.put, List.setIfInBounds_toArray, List.set_cons_zero, List.set_cons_succ]
      refine MyHeld.skip 13 (.s (.s (.s (.s (.s (.s (.s (.s (.s (.s (.s (.s (.s .z))))))))))))) (by kernel_rfl) (by kernel_rfl) (by kernel_rfl) (fun _ _ _ h => h) (by rfl) (by assumption) ?_
      try simp only [Act.put, List.setIfInBounds_toArray, List.set_cons_zero, List.set_cons_succ]
      refine MyHeld.skip 14 (.s (.s (.s (.s (.s (.s (.s (.s (.s (.s (.s (.s (.s (.s .z)))))))))))))) (by kernel_rfl) (by kernel_rfl) (by kernel_rfl) (fun _ _ _ h => h) (by rfl) (by assumption) ?_
      try simp only [Act.put, List.setIfInBounds_toArray, List.set_cons_zero, List.set_cons_succ]
      refine MyHeld.take 15 (v := ?_) (.s (.s (.s (.s (.s (.s (.s (.s (.s (.s (.s (.s (.s (.s (.s .z))))))))))))))) (by kernel_rfl) (by kernel_rfl) (by kernel_rfl) (fun _ _ _ h => h) (by rfl) (by assumption) ?_ ?_
      rotate_left
      · intro w hSw; (try dsimp only at hSw); go_simp; (try with_reducible rfl)
      try simp only [Act.put, List.setIfInBounds_toArray, List.set_cons_zero, List.set_cons_succ]
      refine MyHeld.take 16 (v := ?_) (.s (.s (.s (.s (.s (.s (.s (.s (.s (.s (.s (.s (.s (.s (.s (.s .z)))))))))))))))) (by kernel_rfl) (by kernel_rfl) (by kernel_rfl) (fun _ _ _ h => h) (by rfl) (by assumption) ?_ ?_
      rotate_left
      · intro w hSw; (try dsimp only at hSw); go_simp; (try with_reducible rfl)
      try simp only [Act.put, List.setIfInBounds_toArray, List.set_cons_zero, List.set_cons_succ]
      refine MyHeld.skip 17 (.s (.s (.s (.s (.s (.s (.s (.s (.s (.s (.s (.s (.s (.s (.s (.s (.s .z))))))))))))))))) (by kernel_rfl) (by kernel_rfl) (by kernel_rfl) (fun _ _ _ h => h) (by rfl) (by assumption) ?_
      try simp only [Act.put, List.setIfInBounds_toArray, List.set_cons_zero, List.set_cons_succ]
      refine MyHeld.skip 18 (.s (.s (.s (.s (.s (.s (.s (.s (.s (.s (.s (.s (.s (.s (.s (.s (.s (.s .z)))))))))))))))))) (by kernel_rfl) (by kernel_rfl) (by kernel_rfl) (fun _ _ _ h => h) (by rfl) (by assumption) ?_
      try simp only [Act.put, List.setIfInBounds_toArray, List.set_cons_zero, List.set_cons_succ]
      refine MyHeld.skip 19 (.s (.s (.s (.s (.s (.s (.s (.s (.s (.s (.s (.s (.s (.s (.s (.s (.s (.s (.s .z))))))))))))))))))) (by kernel_rfl) (by kernel_rfl) (by kernel_rfl) (fun _ _ _ h => h) (by rfl) (by assumption) ?_
      try simp only [Act.put, List.setIfInBounds_toArray, List.set_cons_zero, List.set_cons_succ]
      refine MyHeld.skip 20 (.s (.s (.s (.s (.s (.s (.s (.s (.s (.s (.s (.s (.s (.s (.s (.s (.s (.s (.s (.s .z)))))))))))))))))))) (by kernel_rfl) (by kernel_rfl) (by kernel_rfl) (fun _ _ _ h => h) (by rfl) (by assumption) ?_
      try simp only [Act.put, List.setIfInBounds_toArray, List.set_cons_zero, List.set_cons_succ]
      refine MyHeld.skip 21 (.s (.s (.s (.s (.s (.s (.s (.s (.s (.s (.s (.s (.s (.s (.s (.s (.s (.s (.s (.s (.s .z))))))))))))))))))))) (by kernel_rfl) (by kernel_rfl) (by kernel_rfl) (fun _ _ _ h => h) (by rfl) (by assumption) ?_
      try simp only [Act.put, List.setIfInBounds_toArray, List.set_cons_zero, List.set_cons_succ]
      refine MyHeld.skip 22 (.s (.s (.s (.s (.s (.s (.s (.s (.s (.s (.s (.s (.s (.s (.s (.s (.s (.s (.s (.s (.s (.s .z)))))))))))))))))))))) (by kernel_rfl) (by kernel_rfl) (by kernel_rfl) (fun _ _ _ h => h) (by rfl) (by assumption) ?_
      try simp only [Act.put, List.setIfInBounds_toArray, List.set_cons_zero, List.set_cons_succ]
      refine MyHeld.skip 23 (.s (.s (.s (.s (.s (.s (.s (.s (.s (.s (.s (.s (.s (.s (.s (.s (.s (.s (.s (.s (.s (.s (.s .z))))))))))))))))))))))) (by kernel_rfl) (by kernel_rfl) (by kernel_rfl) (fun _ _ _ h => h) (by rfl) (by assumption) ?_
      try simp only [Act.put, List.setIfInBounds_toArray, List.set_cons_zero, List.set_cons_succ]
      refine MyHeld.skip 24 (.s (.s (.s (.s (.s (.s (.s (.s (.s (.s (.s (.s (.s (.s (.s (.s (.s (.s (.s (.s (.s (.s (.s (.s .z)))))))))))))))))))))))) (by kernel_rfl) (by kernel_rfl) (by kernel_rfl) (fun _ _ _ h => h) (by rfl) (by assumption) ?_
      try simp only [Act.put, List.setIfInBounds_toArray, List.set_cons_zero, List.set_cons_succ]
      refine MyHeld.skip 25 (.s (.s (.s (.s (.s (.s (.s (.s (.s (.s (.s (.s (.s (.s (.s (.s (.s (.s (.s (.s (.s (.s (.s (.s (.s .z))))))))))))))))))))))))) (by kernel_rfl) (by kernel_rfl) (by kernel_rfl) (fun _ _ _ h => h) (by rfl) (by assumption) ?_
      try simp only [Act.put, List.setIfInBounds_toArray, List.set_cons_zero, List.set_cons_succ]
      refine MyHeld.skip 26 (.s (.s (.s (.s (.s (.s (.s (.s (.s (.s (.s (.s (.s (.s (.s (.s (.s (.s (.s (.s (.s (.s (.s (.s (.s (.s .z)))))))))))))))))))))))))) (by kernel_rfl) (by kernel_rfl) (by kernel_rfl) (fun _ _ _ h => h) (by rfl) (by assumption) ?_
      try simp only [Act.put, List.setIfInBounds_toArray, List.set_cons_zero, List.set_cons_succ]
      refine MyHeld.skip 27 (.s (.s (.s (.s (.s (.s (.s (.s (.s (.s (.s (.s (.s (.s (.s (.s (.s (.s (.s (.s (.s (.s (.s (.s (.s (.s (.s .z))))))))))))))))))))))))))) (by kernel_rfl) (by kernel_rfl) (by kernel_rfl) (fun _ _ _ h => h) (by rfl) (by assumption) ?_
      try simp only [Act.put, List.setIfInBounds_toArray, List.set_cons_zero, List.set_cons_succ]
      refine MyHeld.take 28 (v := ?_) (.s (.s (.s (.s (.s (.s (.s (.s (.s (.s (.s (.s (.s (.s (.s (.s (.s (.s (.s (.s (.s (.s (.s (.s (.s (.s (.s (.s .z)))))))))))))))))))))))))))) (by kernel_rfl) (by kernel_rfl) (by kernel_rfl) (fun _ _ _ h => h) (by rfl) (by assumption) ?_ ?_
      rotate_left
      · intro w hSw; (try dsimp only at hSw); go_simp; (try with_reducible rfl)
      try simp only [Act.put, List.setIfInBounds_toArray, List.set_cons_zero, List.set_cons_succ]
      refine wpAnyH_done (by kernel_rfl) ?_ _
      all_goals go_wp2_with fail
      all_goals go_meet
      all_goals exact ⟨by rw [HT.out], K⟩
    · have HV := Lib.hid v1
      have HV2 := Lib.hid v2
      clear v1 v2
      have gv3 : decide (bestV s z v z' v' 1 t < s.alim) = false := v3
      clear v3
      refine wp_region_held_drew (S := (fun w' => w'.cell? ⟨w.heap.size + 1, 4, none⟩ = some (.bool false) ∧ (w'.cell? ⟨w.heap.size, 0, none⟩ = some (.slice a n c) ∧ w'.cell? ⟨w.heap.size, 1, none⟩ = some (.int .i64 s.alim) ∧ w'.cell? ⟨w.heap.size, 2, none⟩ = some (.int .i64 s.d) ∧ w'.cell? ⟨w.heap.size, 3, none⟩ = some (.int .i64 s.pl)) ∧ (w'.cell? ⟨w.heap.size + 1 + 1, 0, none⟩ = some (.int .i64 z) ∧ w'.cell? ⟨w.heap.size + 1 + 1, 1, none⟩ = some (.int .i64 v)) ∧ (w'.cell? ⟨w.heap.size + 1 + 1 + 1, 0, none⟩ = some (.int .i64 z') ∧ w'.cell? ⟨w.heap.size + 1 + 1 + 1, 1, none⟩ = some (.int .i64 v')))) (by kernel_rfl) (by (try dsimp only); (exact ⟨by rw [← HV.out]; exact (five_cells K.1.2.1).2.2.2.2, four_cells K.1.1, two_cells K.1.2.2.1, two_cells K.1.2.2.2.1⟩)) (fun hHeld => ?_)
      refine MyHeld.take 0 (v := ?_) .z (by kernel_rfl) (by kernel_rfl) (by kernel_rfl) (fun _ _ _ h => h) (by rfl) (by assumption) ?_ ?_
      rotate_left
      · intro w hSw; (try dsimp only at hSw); go_simp; (try with_reducible rfl)
      try simp only [Act.put, List.setIfInBounds_toArray, List.set_cons_zero, List.set_cons_succ]
      refine MyHeld.take 1 (v := ?_) (.s .z) (by kernel_rfl) (by kernel_rfl) (by kernel_rfl) (fun _ _ _ h => h) (by rfl) (by assumption) ?_ ?_
      rotate_left
      · intro w hSw; (try dsimp only at hSw); go_simp; (try with_reducible rfl)
      try simp only [Act.put, List.setIfInBounds_toArray, List.set_cons_zero, List.set_cons_succ]
      refine MyHeld.take 2 (v := ?_) (.s (.s .z)) (by kernel_rfl) (by kernel_rfl) (by kernel_rfl) (fun _ _ _ h => h) (by rfl) (by assumption) ?_ ?_
      rotate_left
      · intro w hSw; (try dsimp only at hSw); go_simp; (try with_reducible rfl)
      try simp only [Act.put, List.setIfInBounds_toArray, List.set_cons_zero, List.set_cons_succ]
      refine MyHeld.take 3 (v := ?_) (.s (.s (.s .z))) (by kernel_rfl) (by kernel_rfl) (by kernel_rfl) (fun _ _ _ h => h) (by rfl) (by assumption) ?_ ?_
      rotate_left
      · intro w hSw; (try dsimp only at hSw); go_simp; (try with_reducible rfl)
      try simp only [Act.put, List.setIfInBounds_toArray, List.set_cons_zero, List.set_cons_succ]
      refine MyHeld.take 4 (v := ?_) (.s (.s (.s (.s .z)))) (by kernel_rfl) (by kernel_rfl) (by kernel_rfl) (fun _ _ _ h => h) (by rfl) (by assumption) ?_ ?_
      rotate_left
      · intro w hSw; (try dsimp only at hSw); go_simp; (try with_reducible rfl)
      try simp only [Act.put, List.setIfInBounds_toArray, List.set_cons_zero, List.set_cons_succ]
      refine MyHeld.take 5 (v := ?_) (.s (.s (.s (.s (.s .z))))) (by kernel_rfl) (by kernel_rfl) (by kernel_rfl) (fun _ _ _ h => h) (by rfl) (by assumption) ?_ ?_
      rotate_left
      · intro w hSw; (try dsimp only at hSw); go_simp; (try with_reducible rfl)
      try simp only [Act.put, List.setIfInBounds_toArray, List.set_cons_zero, List.set_cons_succ]
      refine MyHeld.take 6 (v := ?_) (.s (.s (.s (.s (.s (.s .z)))))) (by kernel_rfl) (by kernel_rfl) (by kernel_rfl) (fun _ _ _ h => h) (by rfl) (by assumption) ?_ ?_
      rotate_left
      · intro w hSw; (try dsimp only at hSw); go_simp; (try with_reducible rfl)
      try simp only [Act.put, List.setIfInBounds_toArray, List.set_cons_zero, List.set_cons_succ]
      refine MyHeld.take 7 (v := ?_) (.s (.s (.s (.s (.s (.s (.s .z))))))) (by kernel_rfl) (by kernel_rfl) (by kernel_rfl) (fun _ _ _ h => h) (by rfl) (by assumption) ?_ ?_
      rotate_left
      · intro w hSw; (try dsimp only at hSw); go_simp; (try with_reducible rfl)
      try simp only [Act.put, List.setIfInBounds_toArray, List.set_cons_zero, List.set_cons_succ]
      refine wpAnyH_ready (rs := [8]) (by kernel_rfl) (by simp) ?_
      refine (MyHeld.next 8 (.s (.s (.s (.s (.s (.s (.s (.s .z)))))))) (fun Kq hKq => ?_) AllReadyH.nil)
      go_simp
      (go_at_call 40; refine (rallowed_call z v fl k 2 _ (by decide)).mono ?_; rintro e w3 ⟨rfl, hb3⟩; rw [show alwB z fl k 2 = true from HV2.out]; replace K := K.keep hb3; clear hb3)
      go_wp2_with fail
      refine hKq.out _ _ (by (try dsimp only); (exact ⟨by rw [← HV.out]; exact (five_cells K.1.2.1).2.2.2.2, four_cells K.1.1, two_cells K.1.2.2.1, two_cells K.1.2.2.2.1⟩)) (fun hHeld' => ?_)
      clear hKq Kq hHeld; have hHeld := hHeld'; clear hHeld'
      try simp only [Act.put, List.setIfInBounds_toArray, List.set_cons_zero, List.set_cons_succ]
      refine MyHeld.take 9 (v := ?_) (.s (.s (.s (.s (.s (.s (.s (.s (.s .z))))))))) (by kernel_rfl) (by kernel_rfl) (by kernel_rfl) (fun _ _ _ h => h) (by rfl) (by assumption) ?_ ?_
      rotate_left
      · intro w hSw; (try dsimp only at hSw); go_simp; (try with_reducible rfl)
      try simp only [Act.put, List.setIfInBounds_toArray, List.set_cons_zero, List.set_cons_succ]
      refine MyHeld.take 10 (v := ?_) (.s (.s (.s (.s (.s (.s (.s (.s (.s (.s .z)))))))))) (by kernel_rfl) (by kernel_rfl) (by kernel_rfl) (fun _ _ _ h => h) (by rfl) (by assumption) ?_ ?_
      rotate_left
      · intro w hSw; (try dsimp only at hSw); go_simp; (try with_reducible rfl)
      try simp only [Act.put, List.setIfInBounds_toArray, List.set_cons_zero, List.set_cons_succ]
      refine MyHeld.take 11 (v := ?_) (.s (.s (.s (.s (.s (.s (.s (.s (.s (.s (.s .z))))))))))) (by kernel_rfl) (by kernel_rfl) (by kernel_rfl) (fun _ _ _ h => h) (by rfl) (by assumption) ?_ ?_
      rotate_left
      · intro w hSw; (try dsimp only at hSw); go_simp; (try with_reducible rfl)
      try simp only [Act.put, List.setIfInBounds_toArray, List.set_cons_zero, List.set_cons_succ]
      refine MyHeld.take 12 (v := ?_) (.s (.s (.s (.s (.s (.s (.s (.s (.s (.s (.s (.s .z)))))))))))) (by kernel_rfl) (by kernel_rfl) (by kernel_rfl) (fun _ _ _ h => h) (by rfl) (by assumption) ?_ ?_
      rotate_left
      · intro w hSw; (try dsimp only at hSw); go_simp; (try with_reducible rfl)
      try simp only [Act.put, List.setIfInBounds_toArray, List.set_cons_zero, List.set_cons_succ]
      refine MyHeld.take 13 (v := ?_) (.s (.s (.s (.s (.s (.s (.s (.s (.s (.s (.s (.s (.s .z))))))))))))) (by kernel_rfl) (by kernel_rfl) (by kernel_rfl) (fun _ _ _ h => h) (by rfl) (by assumption) ?_ ?_
      rotate_left
      · intro w hSw; (try dsimp only at hSw); go_simp; (try with_reducible rfl)
      try simp only [Act.put, List.setIfInBounds_toArray, List.set_cons_zero, List.set_cons_succ]
      refine MyHeld.take 14 (v := ?_) (.s (.s (.s (.s (.s (.s (.s (.s (.s (.s (.s (.s (.s (.s .z)))))))))))))) (by kernel_rfl) (by kernel_rfl) (by kernel_rfl) (fun _ _ _ h => h) (by rfl) (by assumption) ?_ ?_
      rotate_left
      · intro w hSw; (try dsimp only at hSw); go_simp; (try with_reducible rfl)
      try simp only [Act.put, List.setIfInBounds_toArray, List.set_cons_zero, List.set_cons_succ]
      refine MyHeld.take 15 (v := ?_) (.s (.s (.s (.s (.s (.s (.s (.s (.s (.s (.s (.s (.s (.s (.s .z))))))))))))))) (by kernel_rfl) (by kernel_rfl) (by kernel_rfl) (fun _ _ _ h => h) (by rfl) (by assumption) ?_ ?_
      rotate_left
      · intro w hSw; (try dsimp only at hSw); go_simp; (try with_reducible rfl)
      try simp only [Act.put, List.setIfInBounds_toArray, List.set_cons_zero, List.set_cons_succ]
      refine MyHeld.take 16 (v := ?_) (.s (.s (.s (.s (.s (.s (.s (.s (.s (.s (.s (.s (.s (.s (.s (.s .z)))))))))))))))) (by kernel_rfl) (by kernel_rfl) (by kernel_rfl) (fun _ _ _ h => h) (by rfl) (by assumption) ?_ ?_
      rotate_left
      · intro w hSw; (try dsimp only at hSw); go_simp; (try with_reducible rfl)
      try simp only [Act.put, List.setIfInBounds_toArray, List.set_cons_zero, List.set_cons_succ]
      refine MyHeld.skip 17 (.s (.s (.s (.s (.s (.s (.s (.s (.s (.s (.s (.s (.s (.s (.s (.s (.s .z))))))))))))))))) (by kernel_rfl) (by kernel_rfl) (by kernel_rfl) (fun _ _ _ h => h) (by rfl) (by assumption) ?_
      try simp only [Act.put, List.setIfInBounds_toArray, List.set_cons_zero, List.set_cons_succ]
      refine MyHeld.skip 18 (.s (.s (.s (.s (.s (.s (.s (.s (.s (.s (.s (.s (.s (.s (.s (.s (.s (.s .z)))))))))))))))))) (by kernel_rfl) (by kernel_rfl) (by kernel_rfl) (fun _ _ _ h => h) (by rfl) (by assumption) ?_
      try simp only [Act.put, List.setIfInBounds_toArray, List.set_cons_zero, List.set_cons_succ]
      refine MyHeld.skip 19 (.s (.s (.s (.s (.s (.s (.s (.s (.s (.s (.s (.s (.s (.s (.s (.s (.s (.s (.s .z))))))))))))))))))) (by kernel_rfl) (by kernel_rfl) (by kernel_rfl) (fun _ _ _ h => h) (by rfl) (by assumption) ?_
      try simp only [Act.put, List.setIfInBounds_toArray, List.set_cons_zero, List.set_cons_succ]
      refine MyHeld.skip 20 (.s (.s (.s (.s (.s (.s (.s (.s (.s (.s (.s (.s (.s (.s (.s (.s (.s (.s (.s (.s .z)))))))))))))))))))) (by kernel_rfl) (by kernel_rfl) (by kernel_rfl) (fun _ _ _ h => h) (by rfl) (by assumption) ?_
      try simp only [Act.put, List.setIfInBounds_toArray, List.set_cons_zero, List.set_cons_succ]
      refine MyHeld.skip 21 (.s (.s (.s (.s (.s (.s (.s (.s (.s (.s (.s (.s (.s (.s (.s (.s (.s (.s (.s (.s (.s .z))))))))))))))))))))) (by kernel_rfl) (by kernel_rfl) (by kernel_rfl) (fun _ _ _ h => h) (by rfl) (by assumption) ?_
      try simp only [Act.put, List.setIfInBounds_toArray, List.set_cons_zero, List.set_cons_succ]
      refine MyHeld.skip 22 (.s (.s (.s (.s (.s (.s (.s (.s (.s (.s (.s (.s (.s (.s (.s (.s (.s (.s (.s (.s (.s (.s .z)))))))))))))))))))))) (by kernel_rfl) (by kernel_rfl) (by kernel_rfl) (fun _ _ _ h => h) (by rfl) (by assumption) ?_
      try simp only [Act.put, List.setIfInBounds_toArray, List.set_cons_zero, List.set_cons_succ]
      refine MyHeld.skip 23 (.s (.s (.s (.s (.s (.s (.s (.s (.s (.s (.s (.s (.s (.s (.s (.s (.s (.s (.s (.s (.s (.s (.s .z))))))))))))))))))))))) (by kernel_rfl) (by kernel_rfl) (by kernel_rfl) (fun _ _ _ h => h) (by rfl) (by assumption) ?_
      try simp only [Act.put, List.setIfInBounds_toArray, List.set_cons_zero, List.set_cons_succ]
      refine MyHeld.skip 24 (.s (.s (.s (.s (.s (.s (.s (.s (.s (.s (.s (.s (.s (.s (.s (.s (.s (.s (.s (.s (.s (.s (.s (.s .z)))))))))))))))))))))))) (by kernel_rfl) (by kernel_rfl) (by kernel_rfl) (fun _ _ _ h => h) (by rfl) (by assumption) ?_
      try simp only [Act.put, List.setIfInBounds_toArray, List.set_cons_zero, List.set_cons_succ]
      refine MyHeld.skip 25 (.s (.s (.s (.s (.s (.s (.s (.s (.s (.s (.s (.s (.s (.s (.s (.s (.s (.s (.s (.s (.s (.s (.s (.s (.s .z))))))))))))))))))))))))) (by kernel_rfl) (by kernel_rfl) (by kernel_rfl) (fun _ _ _ h => h) (by rfl) (by assumption) ?_
      try simp only [Act.put, List.setIfInBounds_toArray, List.set_cons_zero, List.set_cons_succ]
      refine MyHeld.skip 26 (.s (.s (.s (.s (.s (.s (.s (.s (.s (.s (.s (.s (.s (.s (.s (.s (.s (.s (.s (.s (.s (.s (.s (.s (.s (.s .z)))))))))))))))))))))))))) (by kernel_rfl) (by kernel_rfl) (by kernel_rfl) (fun _ _ _ h => h) (by rfl) (by assumption) ?_
      try simp only [Act.put, List.setIfInBounds_toArray, List.set_cons_zero, List.set_cons_succ]
      refine MyHeld.skip 27 (.s (.s (.s (.s (.s (.s (.s (.s (.s (.s (.s (.s (.s (.s (.s (.s (.s (.s (.s (.s (.s (.s (.s (.s (.s (.s (.s .z))))))))))))))))))))))))))) (by kernel_rfl) (by kernel_rfl) (by kernel_rfl) (fun _ _ _ h => h) (by rfl) (by assumption) ?_
      try simp only [Act.put, List.setIfInBounds_toArray, List.set_cons_zero, List.set_cons_succ]
      refine MyHeld.take 28 (v := ?_) (.s (.s (.s (.s (.s (.s (.s (.s (.s (.s (.s (.s (.s (.s (.s (.s (.s (.s (.s (.s (.s (.s (.s (.s (.s (.s (.s (.s .z)))))))))))))))))))))))))))) (by kernel_rfl) (by kernel_rfl) (by kernel_rfl) (fun _ _ _ h => h) (by rfl) (by assumption) ?_ ?_
      rotate_left
      · intro w hSw; (try dsimp only at hSw); go_simp; (try with_reducible rfl)
      try simp only [Act.put, List.setIfInBounds_toArray, List.set_cons_zero, List.set_cons_succ]
      refine wpAnyH_done (by kernel_rfl) ?_ _
      all_goals go_wp2_with fail
      all_goals go_meet
      all_goals exact ⟨by rw [HT.out], K⟩
    · have HV := Lib.hid v1
      have HV2 := Lib.hid v2
      clear v1 v2
      have gv3 : decide (bestV s z v z' v' 1 t < s.alim) = true := v3
      have gv4 : decide (bestV s z v z' v' 1 t + s.alim ≤ bestV s z v z' v' 2 t) = false := v4
      clear v3 v4
      refine wp_region_held_drew (S := (fun w' => w'.cell? ⟨w.heap.size + 1, 4, none⟩ = some (.bool false) ∧ (w'.cell? ⟨w.heap.size, 0, none⟩ = some (.slice a n c) ∧ w'.cell? ⟨w.heap.size, 1, none⟩ = some (.int .i64 s.alim) ∧ w'.cell? ⟨w.heap.size, 2, none⟩ = some (.int .i64 s.d) ∧ w'.cell? ⟨w.heap.size, 3, none⟩ = some (.int .i64 s.pl)) ∧ (w'.cell? ⟨w.heap.size + 1 + 1, 0, none⟩ = some (.int .i64 z) ∧ w'.cell? ⟨w.heap.size + 1 + 1, 1, none⟩ = some (.int .i64 v)) ∧ (w'.cell? ⟨w.heap.size + 1 + 1 + 1, 0, none⟩ = some (.int .i64 z') ∧ w'.cell? ⟨w.heap.size + 1 + 1 + 1, 1, none⟩ = some (.int .i64 v')))) (by kernel_rfl) (by (try dsimp only); (exact ⟨by rw [← HV.out]; exact (five_cells K.1.2.1).2.2.2.2, four_cells K.1.1, two_cells K.1.2.2.1, two_cells K.1.2.2.2.1⟩)) (fun hHeld => ?_)
      refine MyHeld.take 0 (v := ?_) .z (by kernel_rfl) (by kernel_rfl) (by kernel_rfl) (fun _ _ _ h => h) (by rfl) (by assumption) ?_ ?_
      rotate_left
      · intro w hSw; (try dsimp only at hSw); go_simp; (try with_reducible rfl)
      try simp only [Act.put, List.setIfInBounds_toArray, List.set_cons_zero, List.set_cons_succ]
      refine MyHeld.take 1 (v := ?_) (.s .z) (by kernel_rfl) (by kernel_rfl) (by kernel_rfl) (fun _ _ _ h => h) (by rfl) (by assumption) ?_ ?_
      rotate_left
      · intro w hSw; (try dsimp only at hSw); go_simp; (try with_reducible rfl)
      try simp only [Act.put, List.setIfInBounds_toArray, List.set_cons_zero, List.set_cons_succ]
      refine MyHeld.take 2 (v := ?_) (.s (.s .z)) (by kernel_rfl) (by kernel_rfl) (by kernel_rfl) (fun _ _ _ h => h) (by rfl) (by assumption) ?_ ?_
      rotate_left
      · intro w hSw; (try dsimp only at hSw); go_simp; (try with_reducible rfl)
      try simp only [Act.put, List.setIfInBounds_toArray, List.set_cons_zero, List.set_cons_succ]
      refine MyHeld.take 3 (v := ?_) (.s (.s (.s .z))) (by kernel_rfl) (by kernel_rfl) (by kernel_rfl) (fun _ _ _ h => h) (by rfl) (by assumption) ?_ ?_
      rotate_left
      · intro w hSw; (try dsimp only at hSw); go_simp; (try with_reducible rfl)
      try simp only [Act.put, List.setIfInBounds_toArray, List.set_cons_zero, List.set_cons_succ]
      refine MyHeld.take 4 (v := ?_) (.s (.s (.s (.s .z)))) (by kernel_rfl) (by kernel_rfl) (by kernel_rfl) (fun _ _ _ h => h) (by rfl) (by assumption) ?_ ?_
      rotate_left
      · intro w hSw; (try dsimp only at hSw); go_simp; (try with_reducible rfl)
      try simp only [Act.put, List.setIfInBounds_toArray, List.set_cons_zero, List.set_cons_succ]
      refine MyHeld.take 5 (v := ?_) (.s (.s (.s (.s (.s .z))))) (by kernel_rfl) (by kernel_rfl) (by kernel_rfl) (fun _ _ _ h => h) (by rfl) (by assumption) ?_ ?_
      rotate_left
      · intro w hSw; (try dsimp only at hSw); go_simp; (try with_reducible rfl)
      try simp only [Act.put, List.setIfInBounds_toArray, List.set_cons_zero, List.set_cons_succ]
      refine MyHeld.take 6 (v := ?_) (.s (.s (.s (.s (.s (.s .z)))))) (by kernel_rfl) (by kernel_rfl) (by kernel_rfl) (fun _ _ _ h => h) (by rfl) (by assumption) ?_ ?_
      rotate_left
      · intro w hSw; (try dsimp only at hSw); go_simp; (try with_reducible rfl)
      try simp only [Act.put, List.setIfInBounds_toArray, List.set_cons_zero, List.set_cons_succ]
      refine MyHeld.take 7 (v := ?_) (.s (.s (.s (.s (.s (.s (.s .z))))))) (by kernel_rfl) (by kernel_rfl) (by kernel_rfl) (fun _ _ _ h => h) (by rfl) (by assumption) ?_ ?_
      rotate_left
      · intro w hSw; (try dsimp only at hSw); go_simp; (try with_reducible rfl)
      try simp only [Act.put, List.setIfInBounds_toArray, List.set_cons_zero, List.set_cons_succ]
      refine wpAnyH_ready (rs := [8]) (by kernel_rfl) (by simp) ?_
      refine (MyHeld.next 8 (.s (.s (.s (.s (.s (.s (.s (.s .z)))))))) (fun Kq hKq => ?_) AllReadyH.nil)
      go_simp
      (go_at_call 40; refine (rallowed_call z v fl k 2 _ (by decide)).mono ?_; rintro e w3 ⟨rfl, hb3⟩; rw [show alwB z fl k 2 = true from HV2.out]; replace K := K.keep hb3; clear hb3)
      go_wp2_with fail
      refine hKq.out _ _ (by (try dsimp only); (exact ⟨by rw [← HV.out]; exact (five_cells K.1.2.1).2.2.2.2, four_cells K.1.1, two_cells K.1.2.2.1, two_cells K.1.2.2.2.1⟩)) (fun hHeld' => ?_)
      clear hKq Kq hHeld; have hHeld := hHeld'; clear hHeld'
      try simp only [Act.put, List.setIfInBounds_toArray, List.set_cons_zero, List.set_cons_succ]
      refine MyHeld.take 9 (v := ?_) (.s (.s (.s (.s (.s (.s (.s (.s (.s .z))))))))) (by kernel_rfl) (by kernel_rfl) (by kernel_rfl) (fun _ _ _ h => h) (by rfl) (by assumption) ?_ ?_
      rotate_left
      · intro w hSw; (try dsimp only at hSw); go_simp; (try with_reducible rfl)
      try simp only [Act.put, List.setIfInBounds_toArray, List.set_cons_zero, List.set_cons_succ]
      refine MyHeld.take 10 (v := ?_) (.s (.s (.s (.s (.s (.s (.s (.s (.s (.s .z)))))))))) (by kernel_rfl) (by kernel_rfl) (by kernel_rfl) (fun _ _ _ h => h) (by rfl) (by assumption) ?_ ?_
      rotate_left
      · intro w hSw; (try dsimp only at hSw); go_simp; (try with_reducible rfl)
      try simp only [Act.put, List.setIfInBounds_toArray, List.set_cons_zero, List.set_cons_succ]
      refine MyHeld.take 11 (v := ?_) (.s (.s (.s (.s (.s (.s (.s (.s (.s (.s (.s .z))))))))))) (by kernel_rfl) (by kernel_rfl) (by kernel_rfl) (fun _ _ _ h => h) (by rfl) (by assumption) ?_ ?_
      rotate_left
      · intro w hSw; (try dsimp only at hSw); go_simp; (try with_reducible rfl)
      try simp only [Act.put, List.setIfInBounds_toArray, List.set_cons_zero, List.set_cons_succ]
      refine MyHeld.take 12 (v := ?_) (.s (.s (.s (.s (.s (.s (.s (.s (.s (.s (.s (.s .z)))))))))))) (by kernel_rfl) (by kernel_rfl) (by kernel_rfl) (fun _ _ _ h => h) (by rfl) (by assumption) ?_ ?_
      rotate_left
      · intro w hSw; (try dsimp only at hSw); go_simp; (try with_reducible rfl)
      try simp only [Act.put, List.setIfInBounds_toArray, List.set_cons_zero, List.set_cons_succ]
      refine MyHeld.take 13 (v := ?_) (.s (.s (.s (.s (.s (.s (.s (.s (.s (.s (.s (.s (.s .z))))))))))))) (by kernel_rfl) (by kernel_rfl) (by kernel_rfl) (fun _ _ _ h => h) (by rfl) (by assumption) ?_ ?_
      rotate_left
      · intro w hSw; (try dsimp only at hSw); go_simp; (try with_reducible rfl)
      try simp only [Act.put, List.setIfInBounds_toArray, List.set_cons_zero, List.set_cons_succ]
      refine MyHeld.take 14 (v := ?_) (.s (.s (.s (.s (.s (.s (.s (.s (.s (.s (.s (.s (.s (.s .z)))))))))))))) (by kernel_rfl) (by kernel_rfl) (by kernel_rfl) (fun _ _ _ h => h) (by rfl) (by assumption) ?_ ?_
      rotate_left
      · intro w hSw; (try dsimp only at hSw); go_simp; (try with_reducible rfl)
      try simp only [Act.put, List.setIfInBounds_toArray, List.set_cons_zero, List.set_cons_succ]
      refine MyHeld.take 15 (v := ?_) (.s (.s (.s (.s (.s (.s (.s (.s (.s (.s (.s (.s (.s (.s (.s .z))))))))))))))) (by kernel_rfl) (by kernel_rfl) (by kernel_rfl) (fun _ _ _ h => h) (by rfl) (by assumption) ?_ ?_
      rotate_left
      · intro w hSw; (try dsimp only at hSw); go_simp; (try with_reducible rfl)
      try simp only [Act.put, List.setIfInBounds_toArray, List.set_cons_zero, List.set_cons_succ]
      refine MyHeld.take 16 (v := ?_) (.s (.s (.s (.s (.s (.s (.s (.s (.s (.s (.s (.s (.s (.s (.s (.s .z)))))))))))))))) (by kernel_rfl) (by kernel_rfl) (by kernel_rfl) (fun _ _ _ h => h) (by rfl) (by assumption) ?_ ?_
      rotate_left
      · intro w hSw; (try dsimp only at hSw); go_simp; (try with_reducible rfl)
      try simp only [Act.put, List.setIfInBounds_toArray, List.set_cons_zero, List.set_cons_succ]
      refine MyHeld.take 17 (v := ?_) (.s (.s (.s (.s (.s (.s (.s (.s (.s (.s (.s (.s (.s (.s (.s (.s (.s .z))))))))))))))))) (by kernel_rfl) (by kernel_rfl) (by kernel_rfl) (fun _ _ _ h => h) (by rfl) (by assumption) ?_ ?_
      rotate_left
      · intro w hSw; (try dsimp only at hSw); go_simp; (try with_reducible rfl)
      try simp only [Act.put, List.setIfInBounds_toArray, List.set_cons_zero, List.set_cons_succ]
      refine MyHeld.take 18 (v := ?_) (.s (.s (.s (.s (.s (.s (.s (.s (.s (.s (.s (.s (.s (.s (.s (.s (.s (.s .z)))))))))))))))))) (by kernel_rfl) (by kernel_rfl) (by kernel_rfl) (fun _ _ _ h => h) (by rfl) (by assumption) ?_ ?_
      rotate_left
      · intro w hSw; (try dsimp only at hSw); go_simp; (try with_reducible rfl)
      try simp only [Act.put, List.setIfInBounds_toArray, List.set_cons_zero, List.set_cons_succ]
      refine MyHeld.take 19 (v := ?_) (.s (.s (.s (.s (.s (.s (.s (.s (.s (.s (.s (.s (.s (.s (.s (.s (.s (.s (.s .z))))))))))))))))))) (by kernel_rfl) (by kernel_rfl) (by kernel_rfl) (fun _ _ _ h => h) (by rfl) (by assumption) ?_ ?_
      rotate_left
      · intro w hSw; (try dsimp only at hSw); go_simp; (try with_reducible rfl)
      try simp only [Act.put, List.setIfInBounds_toArray, List.set_cons_zero, List.set_cons_succ]
      refine MyHeld.take 20 (v := ?_) (.s (.s (.s (.s (.s (.s (.s (.s (.s (.s (.s (.s (.s (.s (.s (.s (.s (.s (.s (.s .z)))))))))))))))))))) (by kernel_rfl) (by kernel_rfl) (by kernel_rfl) (fun _ _ _ h => h) (by rfl) (by assumption) ?_ ?_
      rotate_left
      · intro w hSw; (try dsimp only at hSw); go_simp; (try with_reducible rfl)
      try simp only [Act.put, List.setIfInBounds_toArray, List.set_cons_zero, List.set_cons_succ]
      refine MyHeld.take 21 (v := ?_) (.s (.s (.s (.s (.s (.s (.s (.s (.s (.s (.s (.s (.s (.s (.s (.s (.s (.s (.s (.s (.s .z))))))))))))))))))))) (by kernel_rfl) (by kernel_rfl) (by kernel_rfl) (fun _ _ _ h => h) (by rfl) (by assumption) ?_ ?_
      rotate_left
      · intro w hSw; (try dsimp only at hSw); go_simp; (try with_reducible rfl)
      try simp only [Act.put, List.setIfInBounds_toArray, List.set_cons_zero, List.set_cons_succ]
      refine MyHeld.take 23 (v := ?_) (.s (.s (.s (.s (.s (.s (.s (.s (.s (.s (.s (.s (.s (.s (.s (.s (.s (.s (.s (.s (.s (.s (.s .z))))))))))))))))))))))) (by kernel_rfl) (by kernel_rfl) (by kernel_rfl) (fun _ _ _ h => h) (by rfl) (by assumption) ?_ ?_
      rotate_left
      · intro w hSw; (try dsimp only at hSw); go_simp; (try with_reducible rfl)
      try simp only [Act.put, List.setIfInBounds_toArray, List.set_cons_zero, List.set_cons_succ]
      refine MyHeld.take 24 (v := ?_) (.s (.s (.s (.s (.s (.s (.s (.s (.s (.s (.s (.s (.s (.s (.s (.s (.s (.s (.s (.s (.s (.s (.s (.s .z)))))))))))))))))))))))) (by kernel_rfl) (by kernel_rfl) (by kernel_rfl) (fun _ _ _ h => h) (by rfl) (by assumption) ?_ ?_
      rotate_left
      · intro w hSw; (try dsimp only at hSw); go_simp; (try with_reducible rfl)
      try simp only [Act.put, List.setIfInBounds_toArray, List.set_cons_zero, List.set_cons_succ]
      refine MyHeld.take 25 (v := ?_) (.s (.s (.s (.s (.s (.s (.s (.s (.s (.s (.s (.s (.s (.s (.s (.s (.s (.s (.s (.s (.s (.s (.s (.s (.s .z))))))))))))))))))))))))) (by kernel_rfl) (by kernel_rfl) (by kernel_rfl) (fun _ _ _ h => h) (by rfl) (by assumption) ?_ ?_
      rotate_left
      · intro w hSw; (try dsimp only at hSw); go_simp; (try with_reducible rfl)
      try simp only [Act.put, List.setIfInBounds_toArray, List.set_cons_zero, List.set_cons_succ]
      refine MyHeld.take 26 (v := ?_) (.s (.s (.s (.s (.s (.s (.s (.s (.s (.s (.s (.s (.s (.s (.s (.s (.s (.s (.s (.s (.s (.s (.s (.s (.s (.s .z)))))))))))))))))))))))))) (by kernel_rfl) (by kernel_rfl) (by kernel_rfl) (fun _ _ _ h => h) (by rfl) (by assumption) ?_ ?_
      rotate_left
      · intro w hSw; (try dsimp only at hSw); go_simp; (try with_reducible rfl)
      try simp only [Act.put, List.setIfInBounds_toArray, List.set_cons_zero, List.set_cons_succ]
      refine wpAnyH_ready (rs := [22]) (by kernel_rfl) (by simp) ?_
      refine (MyHeld.next 22 (.s (.s (.s (.s (.s (.s (.s (.s (.s (.s (.s (.s (.s (.s (.s (.s (.s (.s (.s (.s (.s (.s .z)))))))))))))))))))))) (fun Kq hKq => ?_) AllReadyH.nil)
      go_simp
      (go_at_call 41; refine (rbest_call a n c s z v z' v' t 2 _ (HL.out.below K.1.2.2.2.2.2) HO.out (by decide)).mono ?_; rintro e w3 ⟨rfl, hb3⟩; replace K := K.keep hb3; clear hb3)
      go_wp2_with fail
      refine hKq.out _ _ (by (try dsimp only); (exact ⟨by rw [← HV.out]; exact (five_cells K.1.2.1).2.2.2.2, four_cells K.1.1, two_cells K.1.2.2.1, two_cells K.1.2.2.2.1⟩)) (fun hHeld' => ?_)
      clear hKq Kq hHeld; have hHeld := hHeld'; clear hHeld'
      try simp only [Act.put, List.setIfInBounds_toArray, List.set_cons_zero, List.set_cons_succ]
      refine MyHeld.take 27 (v := ?_) (.s (.s (.s (.s (.s (.s (.s (.s (.s (.s (.s (.s (.s (.s (.s (.s (.s (.s (.s (.s (.s (.s (.s (.s (.s (.s (.s .z))))))))))))))))))))))))))) (by kernel_rfl) (by kernel_rfl) (by kernel_rfl) (fun _ _ _ h => h) (by rfl) (by assumption) ?_ ?_
      rotate_left
      · intro w hSw; (try dsimp only at hSw); go_simp; (try with_reducible rfl)
      try simp only [Act.put, List.setIfInBounds_toArray, List.set_cons_zero, List.set_cons_succ]
      refine MyHeld.take 28 (v := ?_) (.s (.s (.s (.s (.s (.s (.s (.s (.s (.s (.s (.s (.s (.s (.s (.s (.s (.s (.s (.s (.s (.s (.s (.s (.s (.s (.s (.s .z)))))))))))))))))))))))))))) (by kernel_rfl) (by kernel_rfl) (by kernel_rfl) (fun _ _ _ h => h) (by rfl) (by assumption) ?_ ?_
      rotate_left
      · intro w hSw; (try dsimp only at hSw); go_simp; (try with_reducible rfl)
      try simp only [Act.put, List.setIfInBounds_toArray, List.set_cons_zero, List.set_cons_succ]
      refine wpAnyH_done (by kernel_rfl) ?_ _
      all_goals go_wp2_with fail
      all_goals go_meet
      all_goals exact ⟨by rw [HT.out], K⟩
  case rest =>
    clear hbS u0 u1 u2 u3 s0 s1 s2 s3 s4 p0 p1 p2 p3 hl0 hl1 hl2 hl3 hl4 hlF hlN f0 f1 f2 n0 n1 n2
    clear K
    obtain ⟨rfl, hL⟩ := hcut
    have K := Lib.hid hL
    clear hL
    rw [HT.out]
    obtain ⟨u0, u1, u2, u3⟩ := four_cells K.out.1.1
    obtain ⟨s0, s1, s2, s3, s4⟩ := five_cells K.out.1.2.1
    obtain ⟨p0, p1⟩ := two_cells K.out.1.2.2.1
    obtain ⟨p2, p3⟩ := two_cells K.out.1.2.2.2.1
    obtain ⟨hl0, hl1, hl2, hl3, hl4⟩ := K.out.1.lts
    obtain ⟨f0, f1, f2⟩ := three_old' K.out.2.1
    obtain ⟨n0, n1, n2⟩ := three_old' K.out.2.2
    have hlF := lt_of_block K.out.2.1
    have hlN := lt_of_block K.out.2.2
    rw [show st.a.s = 1 from HG.out] at n0
    go_wp2_with fail
    refine (renough_call a n c s z v z' v' t 1 _ (HL.out.below K.out.1.2.2.2.2.2) HO.out (by decide)).mono ?_; rintro e w5 ⟨rfl, hb5⟩
    replace K := Lib.hid (K.out.keep hb5)
    clear hb5
    clear u0 u1 u2 u3 s0 s1 s2 s3 s4 p0 p1 p2 p3 hl0 hl1 hl2 hl3 hl4 hlF hlN f0 f1 f2 n0 n1 n2
    obtain ⟨u0, u1, u2, u3⟩ := four_cells K.out.1.1
    obtain ⟨s0, s1, s2, s3, s4⟩ := five_cells K.out.1.2.1
    obtain ⟨p0, p1⟩ := two_cells K.out.1.2.2.1
    obtain ⟨p2, p3⟩ := two_cells K.out.1.2.2.2.1
    obtain ⟨hl0, hl1, hl2, hl3, hl4⟩ := K.out.1.lts
    obtain ⟨f0, f1, f2⟩ := three_old' K.out.2.1
    obtain ⟨n0, n1, n2⟩ := three_old' K.out.2.2
    have hlF := lt_of_block K.out.2.1
    have hlN := lt_of_block K.out.2.2
    rw [show st.a.s = 1 from HG.out] at n0
    obtain ⟨hh, v1⟩ := HH.out
    have HH2 := Lib.hid hh
    clear hh
    have hage : IntKind.i64.wrap (st.age + 1) = st.age + 1 := IntWalk.i64_in _ (by omega)
    obtain ⟨v1, v2 | ⟨v2, v3⟩⟩ := v1
    all_goals
      go_upto_region 24 with fail
      replace K := Lib.hid (K.out.keep (below_alloc w5 (.cells #[.int .u8 (enA s z v z' v' 1 t).s, .int .i64 (enA s z v z' v' 1 t).r, .bool (enA s z v z' v' 1 t).k] 30)))
      generalize w5.alloc (.cells #[.int .u8 (enA s z v z' v' 1 t).s, .int .i64 (enA s z v z' v' 1 t).r, .bool (enA s z v z' v' 1 t).k] 30) = w6 at *
      clear u0 u1 u2 u3 s0 s1 s2 s3 s4 p0 p1 p2 p3 hl0 hl1 hl2 hl3 hl4 hlF hlN f0 f1 f2 n0 n1 n2
      obtain ⟨u0, u1, u2, u3⟩ := four_cells K.out.1.1
      obtain ⟨s0, s1, s2, s3, s4⟩ := five_cells K.out.1.2.1
      obtain ⟨p0, p1⟩ := two_cells K.out.1.2.2.1
      obtain ⟨p2, p3⟩ := two_cells K.out.1.2.2.2.1
      obtain ⟨hl0, hl1, hl2, hl3, hl4⟩ := K.out.1.lts
      obtain ⟨f0, f1, f2⟩ := three_old' K.out.2.1
      obtain ⟨n0, n1, n2⟩ := three_old' K.out.2.2
      have hlF := lt_of_block K.out.2.1
      have hlN := lt_of_block K.out.2.2
      rw [show st.a.s = 1 from HG.out] at n0
      (try clear v3)
      clear v1 v2
      by_cases hm : 1000 < st.age + 1
      · have HM := Lib.hid hm
        generalize hQ : bodyPost Try.prog Try.f27 (NxPost s z v z' v' t fl k st w) = QQ at *
        have HQQ := Lib.hid hQ
        clear hQ
        go_wp2_with ((with_reducible refine wpList_id ?_); refine wpList_store_new rfl 60 (.tmp 14) (.tmp 173) rfl (w.heap.size + 1 + 1 + 1 + 1) #[.int .u8 1, .int .i64 st.a.r, .bool st.a.k, .int .i64 (1000), .bool st.rv] rfl rfl 60 _ K.out.1.2.2.2.2.1 (by kernel_rfl) rfl (by simp [Value.oneCell']) ?_; intro w9 H9)
        clear hage
        rw [← HQQ.out]
        refine bodyPost_ret (v := .tuple #[nstV ⟨st.a, 1000, st.rv⟩, .int .i64 0]) ?_ rfl (nxPost_of ⟨(nx_ok HE.out HBn.out HA0.out HC.out).1, (nx_ok HE.out HBn.out HA0.out HC.out).2.trans ((nxA_hold HNZ.out (by rw [HG.out]; exact HW.out) (by rw [HG.out]; exact HT.out) (by rw [HG.out]; exact HH2.out)).trans (by rw [show min (st.age + 1) 1000 = 1000 from by have := HM.out; omega]))⟩ (K.out.1.done H9.out.2))
        obtain ⟨r0, r1, r2, r3, r4⟩ := five_cells H9.out.1
        simp [results, Try.f27, go_sem, r0, r1, r2, r3, r4, nstV, HG.out]
      · have HM := Lib.hid hm
        generalize hQ : bodyPost Try.prog Try.f27 (NxPost s z v z' v' t fl k st w) = QQ at *
        have HQQ := Lib.hid hQ
        clear hQ
        go_wp2_with ((with_reducible refine wpList_id ?_); refine wpList_store_new rfl 60 (.tmp 14) (.tmp 173) rfl (w.heap.size + 1 + 1 + 1 + 1) #[.int .u8 1, .int .i64 st.a.r, .bool st.a.k, .int .i64 (st.age + 1), .bool st.rv] rfl rfl 60 _ K.out.1.2.2.2.2.1 (by kernel_rfl) rfl (by simp [Value.oneCell']) ?_; intro w9 H9)
        clear hage
        rw [← HQQ.out]
        refine bodyPost_ret (v := .tuple #[nstV ⟨st.a, st.age + 1, st.rv⟩, .int .i64 0]) ?_ rfl (nxPost_of ⟨(nx_ok HE.out HBn.out HA0.out HC.out).1, (nx_ok HE.out HBn.out HA0.out HC.out).2.trans ((nxA_hold HNZ.out (by rw [HG.out]; exact HW.out) (by rw [HG.out]; exact HT.out) (by rw [HG.out]; exact HH2.out)).trans (by rw [show min (st.age + 1) 1000 = st.age + 1 from by have := HM.out; omega]))⟩ (K.out.1.done H9.out.2))
        obtain ⟨r0, r1, r2, r3, r4⟩ := five_cells H9.out.1
        simp [results, Try.f27, go_sem, r0, r1, r2, r3, r4, nstV, HG.out]
end Go.Proofs.Ytfgalaalopkclaa
