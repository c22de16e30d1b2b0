/-
  Layer 38 (rules): the program's Next, sense 2. Printed by genRulesY.py.
-/
import Derived.Test.YtfgalaalopkclaaRulesY
namespace Go.Proofs.Ytfgalaalopkclaa
open Go.RowKit PlaneMath PilotMath RulesMath MyHeap MyOwn MyCopy

set_option maxRecDepth 100000 in
set_option maxHeartbeats 8000000 in
theorem pNext_turn2 (a : Option Addr) (n c : Nat) (s : RulesMath.Set) (z v z' v' t fl k : Int) (st : NSt) (w : World) (h : Ints w a n s.rs) (hs : 0 ≤ st.a.s) (hE : whlE s z v z' v' t k = 0) (hB : bndE st.a = 0) (hA0 : ¬ st.age < 0) (hA : ¬ 1000 < st.age) (hC : chE s z v z' v' t fl k = 0) (hg : st.a.s = 2) (hw : alwB z fl k 2 = true) (hT : turnB s z v z' v' t fl k st 2 = true) :
    Calls Try.prog 26 #[setV a n c s, nstV st, .agg #[.int .i64 z, .int .i64 v], .agg #[.int .i64 z', .int .i64 v'], .int .i64 t, .int .i64 fl, .int .u8 k] w (NxPost s z v z' v' t fl k st w) := by
  have HL := Lib.hid h
  have HS := Lib.hid hs
  have HE := Lib.hid hE
  have HBn := Lib.hid hB
  have HO := Lib.hid (scOk_of (whlE_zero hE).1 ⟨(whlE_zero hE).2.1, (whlE_zero hE).2.2.1⟩)
  have HC := Lib.hid hC
  have HG := Lib.hid hg
  have HNZ := Lib.hid (show st.a.s ≠ 0 from by rw [hg]; decide)
  have HA0 := Lib.hid (show ¬ (st.age < 0 ∨ 1000 < st.age) from by omega)
  have age0 : 0 ≤ st.age := by omega
  have age1 : st.age ≤ 1000 := by omega
  have HW := Lib.hid hw
  have HT := Lib.hid hT
  have HQ := Lib.hid ((turn_cases (s := s) (z := z) (v := v) (z' := z') (v' := v') (t := t) (fl := fl) (k := k) (st := st) 2).resolve_right (fun h => by rw [hT] at h; cases h.1))
  clear hE hs hB hC hA0 hA hg hw hT
  clear h
  unfold setV nstV
  go_enter Try.func26, Try.ntmps26
  go_wp2_with fail
  go_step3
  go_upto_region 1 with fail
  have K0 : Nw0 w (setC a n c s) (nstC st) z v z' v' (((((w.alloc (.cells #[.slice a n c, .int .i64 s.alim, .int .i64 s.d, .int .i64 s.pl] 24)).alloc (.cells #[.int .u8 st.a.s, .int .i64 st.a.r, .bool st.a.k, .int .i64 st.age, .bool st.rv] 57)).alloc (.cells #[.int .i64 z, .int .i64 v] 26)).alloc (.cells #[.int .i64 z', .int .i64 v'] 26)).alloc (.cells #[.int .u8 0, .int .i64 0, .bool false, .int .i64 0, .bool false] 57)) :=
    ⟨block_alloc (block_alloc (block_alloc (block_alloc (block_new _ _ rfl)))), block_alloc (block_alloc (block_alloc (block_new _ _ (by simp)))), block_alloc (block_alloc (block_new _ _ (by simp))), block_alloc (block_new _ _ (by simp)), block_new _ _ (by simp), ((((below_alloc _ _).alloc (by simp) _).alloc (by simp; omega) _).alloc (by simp; omega) _).alloc (by simp; omega) _, by simp⟩
  generalize (((((w.alloc (.cells #[.slice a n c, .int .i64 s.alim, .int .i64 s.d, .int .i64 s.pl] 24)).alloc (.cells #[.int .u8 st.a.s, .int .i64 st.a.r, .bool st.a.k, .int .i64 st.age, .bool st.rv] 57)).alloc (.cells #[.int .i64 z, .int .i64 v] 26)).alloc (.cells #[.int .i64 z', .int .i64 v'] 26)).alloc (.cells #[.int .u8 0, .int .i64 0, .bool false, .int .i64 0, .bool false] 57)) = wq at *
  obtain ⟨s0, s1, s2, s3⟩ := four_cells K0.1
  obtain ⟨p0, p1, -, -⟩ := two_old K0.2.2.1
  obtain ⟨p2, p3, -, -⟩ := two_old K0.2.2.2.1
  have hsz := K0.2.2.2.2.2.2
  have KQ := Lib.hid K0
  clear K0
  go_wp2_with fail
  have K := Lib.hid (show NwK w (nstC st) (scnC a n c s z v z' v' t fl k) (wq.alloc (.cells (scnC a n c s z v z' v' t fl k) 76)) from KQ.out.scene)
  clear KQ s0 s1 s2 s3 p0 p1 p2 p3
  refine (whole_call a n c s z v z' v' t fl k _ (HL.out.below K.out.2.2.2)).mono ?_; rintro e w1 ⟨rfl, hb1⟩
  replace K := Lib.hid (K.out.keep hb1)
  clear hb1
  rw [HE.out]
  obtain ⟨s0, s1, s2, s3, s4⟩ := five_cells K.out.1
  obtain ⟨hl1, hl4, hl5⟩ := K.out.lts
  go_wp2_with fail
  have K2 := Lib.hid (And.intro (K.out.keep (below_alloc w1 (.cells #[.int .u8 st.a.s, .int .i64 st.a.r, .bool st.a.k] 30))) (And.intro hl5 (show (w1.alloc (.cells #[.int .u8 st.a.s, .int .i64 st.a.r, .bool st.a.k] 30)).heap[w1.heap.size]? = some (.cells #[.int .u8 st.a.s, .int .i64 st.a.r, .bool st.a.k] 30 (0, 0)) from block_new _ _ rfl)))
  refine (Bounds_call st.a _ HS.out).mono ?_; rintro e w2 ⟨rfl, hb2⟩
  have K3 := Lib.hid (And.intro (K2.out.1.keep hb2) (And.intro K2.out.2.1 (keepO hb2 K2.out.2.2)))
  clear hb2 K2 K s0 s1 s2 s3 s4 hl1 hl4 hl5
  have K := Lib.hid K3.out.1
  obtain ⟨s0, s1, s2, s3, s4⟩ := five_cells K.out.1
  obtain ⟨hl1, hl4, hl5⟩ := K.out.lts
  rw [HBn.out]
  obtain ⟨q0, q1, q2, q3, q4, q5, q6, q7, q8, q9, qa⟩ := eleven K.out.2.2.1
  go_wp2_with fail
  refine (pchoose_call a n c s z v z' v' t fl k _ (HL.out.below K.out.2.2.2) HO.out HE.out).mono ?_; rintro e w3 ⟨rfl, hb3⟩
  replace K := Lib.hid (K.out.keep hb3)
  have K4 := Lib.hid (And.intro K3.out.2.1 (keepO hb3 K3.out.2.2))
  clear hb3 K3 q0 q1 q2 q3 q4 q5 q6 q7 q8 q9 qa s0 s1 s2 s3 s4 hl1 hl4 hl5
  rw [HC.out]
  generalize hY : chR s z v z' v' t fl k = Y at *
  obtain ⟨s0, s1, s2, s3, s4⟩ := five_cells K.out.1
  obtain ⟨hl1, hl4, hl5⟩ := K.out.lts
  go_upto_region 15 with fail
  have L : NwL w (nstC st) (scnC a n c s z v z' v' t fl k) w1.heap.size st.a w3.heap.size Y (w3.heap.size + 1) #[.int .u8 0, .int .i64 0, .bool false, .int .i64 0, .bool st.rv] ((w3.alloc (.cells #[.int .u8 Y.s, .int .i64 Y.r, .bool Y.k] 30)).alloc (.cells #[.int .u8 0, .int .i64 0, .bool false, .int .i64 0, .bool st.rv] 57)) :=
    ⟨(K.out.keep (below_alloc _ _)).keep (below_alloc _ _), K4.out.1, by have := lt_of_block K4.out.2; omega, by omega, block_alloc (block_alloc K4.out.2), block_alloc (block_new _ _ rfl), block_new _ _ (by simp)⟩
  have HY := Lib.hid hY
  clear hY K K4 s0 s1 s2 s3 s4 hl1 hl4 hl5
  generalize hbN : w1.heap.size = bN at *
  generalize hbX : w3.heap.size + 1 = bX at *
  generalize hbF : w3.heap.size = bF at *
  generalize ((w3.alloc (.cells #[.int .u8 Y.s, .int .i64 Y.r, .bool Y.k] 30)).alloc (.cells #[.int .u8 0, .int .i64 0, .bool false, .int .i64 0, .bool st.rv] 57)) = w4 at *
  clear hbN hbX hbF
  obtain ⟨s0, s1, s2, s3, s4⟩ := five_cells L.1.1
  obtain ⟨n0, n1, n2⟩ := three_old' L.2.2.2.2.1
  obtain ⟨f0, f1, f2⟩ := three_old' L.2.2.2.2.2.1
  obtain ⟨d0, d1, d2, d3, d4⟩ := five_cells L.2.2.2.2.2.2
  obtain ⟨q0, q1, q2, q3, q4, q5, q6, q7, q8, q9, qa⟩ := eleven L.1.2.2.1
  obtain ⟨hl1, hl4, hl5⟩ := L.1.lts
  obtain ⟨hlN, hlF, hlX⟩ := L.lts
  rw [show st.a.s = 2 from HG.out] at n0
  have HLL := Lib.hid L
  clear L
  go_step3
  go_wp2_with fail
  refine wp_loop_rounds 1 ?_
  rw [rounds_succ]
  clear f0 f1 f2
  go_wp2_with fail
  refine (allowed_call a n c s z v z' v' t fl k 2 _).mono ?_; rintro e w5 ⟨rfl, hb5⟩
  replace HLL := Lib.hid (HLL.out.keep hb5)
  clear hb5
  rw [HW.out]
  clear s0 s1 s2 s3 s4 n0 n1 n2 d0 d1 d2 d3 d4 q0 q1 q2 q3 q4 q5 q6 q7 q8 q9 qa hl1 hl4 hl5 hlN hlF hlX
  obtain ⟨s0, s1, s2, s3, s4⟩ := five_cells HLL.out.1.1
  obtain ⟨n0, n1, n2⟩ := three_old' HLL.out.2.2.2.2.1
  obtain ⟨d0, d1, d2, d3, d4⟩ := five_cells HLL.out.2.2.2.2.2.2
  obtain ⟨q0, q1, q2, q3, q4, q5, q6, q7, q8, q9, qa⟩ := eleven HLL.out.1.2.2.1
  obtain ⟨hl1, hl4, hl5⟩ := HLL.out.1.lts
  obtain ⟨hlN, hlF, hlX⟩ := HLL.out.lts
  rw [show st.a.s = 2 from HG.out] at n0
  go_wp2_with fail
  refine (best_call a n c s z v z' v' t fl k 2 _ (HL.out.below HLL.out.1.2.2.2) HO.out (by decide)).mono ?_; rintro e w5 ⟨rfl, hb5⟩
  replace HLL := Lib.hid (HLL.out.keep hb5)
  clear hb5
  clear s0 s1 s2 s3 s4 n0 n1 n2 d0 d1 d2 d3 d4 q0 q1 q2 q3 q4 q5 q6 q7 q8 q9 qa hl1 hl4 hl5 hlN hlF hlX
  obtain ⟨s0, s1, s2, s3, s4⟩ := five_cells HLL.out.1.1
  obtain ⟨n0, n1, n2⟩ := three_old' HLL.out.2.2.2.2.1
  obtain ⟨d0, d1, d2, d3, d4⟩ := five_cells HLL.out.2.2.2.2.2.2
  obtain ⟨q0, q1, q2, q3, q4, q5, q6, q7, q8, q9, qa⟩ := eleven HLL.out.1.2.2.1
  obtain ⟨hl1, hl4, hl5⟩ := HLL.out.1.lts
  obtain ⟨hlN, hlF, hlX⟩ := HLL.out.lts
  rw [show st.a.s = 2 from HG.out] at n0
  have hbS := HO.out.bestBd (g := 2) (by decide)
  go_upto_region 21 with fail
  go_cut [121] (fun s121 wx => s121 = .bool (turnB s z v z' v' t fl k st 2) ∧ NwL w (nstC st) (scnC a n c s z v z' v' t fl k) bN st.a bF Y bX #[.int .u8 0, .int .i64 0, .bool false, .int .i64 0, .bool st.rv] wx)
  case first =>
    have K := HLL.out.keep ((Below.refl _ _).drew)
    clear HLL
    have hsum : IntKind.i64.wrap (bestV s z v z' v' 2 t + s.alim) = bestV s z v z' v' 2 t + s.alim := IntWalk.i64_in _ (by omega)
    clear hbS
    obtain ⟨_, v1, v2, v3, v4⟩ := HQ.out
    have HV := Lib.hid v1
    have HV2 := Lib.hid v2
    have HQ3 := Lib.hid (And.intro v3 v4)
    clear v1 v2
    have gv3 : decide (bestV s z v z' v' 2 t < s.alim) = true := v3
    have gv4 : decide (bestV s z v z' v' 2 t + s.alim ≤ bestV s z v z' v' 1 t) = true := v4
    clear v3 v4
    refine wp_region_held_drew (S := (fun w' => ((w'.cell? ⟨w.heap.size + 5, 0, none⟩ = some (.slice a n c) ∧ w'.cell? ⟨w.heap.size + 5, 1, none⟩ = some (.int .i64 s.alim) ∧ w'.cell? ⟨w.heap.size + 5, 2, none⟩ = some (.int .i64 s.d) ∧ w'.cell? ⟨w.heap.size + 5, 3, none⟩ = some (.int .i64 s.pl) ∧ w'.cell? ⟨w.heap.size + 5, 4, none⟩ = some (.int .i64 z) ∧ w'.cell? ⟨w.heap.size + 5, 5, none⟩ = some (.int .i64 v) ∧ w'.cell? ⟨w.heap.size + 5, 6, none⟩ = some (.int .i64 z') ∧ w'.cell? ⟨w.heap.size + 5, 7, none⟩ = some (.int .i64 v') ∧ w'.cell? ⟨w.heap.size + 5, 8, none⟩ = some (.int .i64 t) ∧ w'.cell? ⟨w.heap.size + 5, 9, none⟩ = some (.int .i64 fl) ∧ w'.cell? ⟨w.heap.size + 5, 10, none⟩ = some (.int .u8 k)) ∧ w'.cell? ⟨w.heap.size + 1, 4, none⟩ = some (.bool false)))) (by kernel_rfl) (by (try dsimp only); (exact ⟨eleven K.1.2.2.1, by rw [← HV.out]; exact (five_cells K.1.1).2.2.2.2⟩)) (fun hHeld => ?_)
    refine MyHeld.take 0 (v := ?_) .z (by kernel_rfl) (by kernel_rfl) (by kernel_rfl) (fun _ _ _ h => h) (by rfl) (by assumption) ?_ ?_
    rotate_left
    · intro w hSw; (try dsimp only at hSw); go_simp; (try with_reducible rfl)
    try simp only [Act.put, List.setIfInBounds_toArray, List.set_cons_zero, List.set_cons_succ]
    refine MyHeld.take 1 (v := ?_) (.s .z) (by kernel_rfl) (by kernel_rfl) (by kernel_rfl) (fun _ _ _ h => h) (by rfl) (by assumption) ?_ ?_
    rotate_left
    · intro w hSw; (try dsimp only at hSw); go_simp; (try with_reducible rfl)
    try simp only [Act.put, List.setIfInBounds_toArray, List.set_cons_zero, List.set_cons_succ]
    refine MyHeld.take 2 (v := ?_) (.s (.s .z)) (by kernel_rfl) (by kernel_rfl) (by kernel_rfl) (fun _ _ _ h => h) (by rfl) (by assumption) ?_ ?_
    rotate_left
    · intro w hSw; (try dsimp only at hSw); go_simp; (try with_reducible rfl)
    try simp only [Act.put, List.setIfInBounds_toArray, List.set_cons_zero, List.set_cons_succ]
    refine MyHeld.take 3 (v := ?_) (.s (.s (.s .z))) (by kernel_rfl) (by kernel_rfl) (by kernel_rfl) (fun _ _ _ h => h) (by rfl) (by assumption) ?_ ?_
    rotate_left
    · intro w hSw; (try dsimp only at hSw); go_simp; (try with_reducible rfl)
    try simp only [Act.put, List.setIfInBounds_toArray, List.set_cons_zero, List.set_cons_succ]
    refine MyHeld.take 4 (v := ?_) (.s (.s (.s (.s .z)))) (by kernel_rfl) (by kernel_rfl) (by kernel_rfl) (fun _ _ _ h => h) (by rfl) (by assumption) ?_ ?_
    rotate_left
    · intro w hSw; (try dsimp only at hSw); go_simp; (try with_reducible rfl)
    try simp only [Act.put, List.setIfInBounds_toArray, List.set_cons_zero, List.set_cons_succ]
    refine MyHeld.take 5 (v := ?_) (.s (.s (.s (.s (.s .z))))) (by kernel_rfl) (by kernel_rfl) (by kernel_rfl) (fun _ _ _ h => h) (by rfl) (by assumption) ?_ ?_
    rotate_left
    · intro w hSw; (try dsimp only at hSw); go_simp; (try with_reducible rfl)
    try simp only [Act.put, List.setIfInBounds_toArray, List.set_cons_zero, List.set_cons_succ]
    refine wpAnyH_ready (rs := [6]) (by kernel_rfl) (by simp) ?_
    refine (MyHeld.next 6 (.s (.s (.s (.s (.s (.s .z)))))) (fun Kq hKq => ?_) AllReadyH.nil)
    go_simp
    (go_at_call 47; refine (allowed_call a n c s z v z' v' t fl k 1 _).mono ?_; rintro e w3 ⟨rfl, hb3⟩; rw [show alwB z fl k 1 = true from HV2.out]; replace K := K.keep hb3; clear hb3)
    go_wp2_with fail
    refine hKq.out _ _ (by (try dsimp only); (exact ⟨eleven K.1.2.2.1, by rw [← HV.out]; exact (five_cells K.1.1).2.2.2.2⟩)) (fun hHeld' => ?_)
    clear hKq Kq hHeld; have hHeld := hHeld'; clear hHeld'
    try simp only [Act.put, List.setIfInBounds_toArray, List.set_cons_zero, List.set_cons_succ]
    refine MyHeld.take 7 (v := ?_) (.s (.s (.s (.s (.s (.s (.s .z))))))) (by kernel_rfl) (by kernel_rfl) (by kernel_rfl) (fun _ _ _ h => h) (by rfl) (by assumption) ?_ ?_
    rotate_left
    · intro w hSw; (try dsimp only at hSw); go_simp; (try with_reducible rfl)
    try simp only [Act.put, List.setIfInBounds_toArray, List.set_cons_zero, List.set_cons_succ]
    refine MyHeld.take 8 (v := ?_) (.s (.s (.s (.s (.s (.s (.s (.s .z)))))))) (by kernel_rfl) (by kernel_rfl) (by kernel_rfl) (fun _ _ _ h => h) (by rfl) (by assumption) ?_ ?_
    rotate_left
    · intro w hSw; (try dsimp only at hSw); go_simp; (try with_reducible rfl)
    try simp only [Act.put, List.setIfInBounds_toArray, List.set_cons_zero, List.set_cons_succ]
    refine MyHeld.take 9 (v := ?_) (.s (.s (.s (.s (.s (.s (.s (.s (.s .z))))))))) (by kernel_rfl) (by kernel_rfl) (by kernel_rfl) (fun _ _ _ h => h) (by rfl) (by assumption) ?_ ?_
    rotate_left
    · intro w hSw; (try dsimp only at hSw); go_simp; (try with_reducible rfl)
    try simp only [Act.put, List.setIfInBounds_toArray, List.set_cons_zero, List.set_cons_succ]
    refine MyHeld.take 10 (v := ?_) (.s (.s (.s (.s (.s (.s (.s (.s (.s (.s .z)))))))))) (by kernel_rfl) (by kernel_rfl) (by kernel_rfl) (fun _ _ _ h => h) (by rfl) (by assumption) ?_ ?_
    rotate_left
    · intro w hSw; (try dsimp only at hSw); go_simp; (try with_reducible rfl)
    try simp only [Act.put, List.setIfInBounds_toArray, List.set_cons_zero, List.set_cons_succ]
    refine MyHeld.take 11 (v := ?_) (.s (.s (.s (.s (.s (.s (.s (.s (.s (.s (.s .z))))))))))) (by kernel_rfl) (by kernel_rfl) (by kernel_rfl) (fun _ _ _ h => h) (by rfl) (by assumption) ?_ ?_
    rotate_left
    · intro w hSw; (try dsimp only at hSw); go_simp; (try with_reducible rfl)
    try simp only [Act.put, List.setIfInBounds_toArray, List.set_cons_zero, List.set_cons_succ]
    refine MyHeld.take 12 (v := ?_) (.s (.s (.s (.s (.s (.s (.s (.s (.s (.s (.s (.s .z)))))))))))) (by kernel_rfl) (by kernel_rfl) (by kernel_rfl) (fun _ _ _ h => h) (by rfl) (by assumption) ?_ ?_
    rotate_left
    · intro w hSw; (try dsimp only at hSw); go_simp; (try with_reducible rfl)
    try simp only [Act.put, List.setIfInBounds_toArray, List.set_cons_zero, List.set_cons_succ]
    refine MyHeld.take 13 (v := ?_) (.s (.s (.s (.s (.s (.s (.s (.s (.s (.s (.s (.s (.s .z))))))))))))) (by kernel_rfl) (by kernel_rfl) (by kernel_rfl) (fun _ _ _ h => h) (by rfl) (by assumption) ?_ ?_
    rotate_left
    · intro w hSw; (try dsimp only at hSw); go_simp; (try with_reducible rfl)
    try simp only [Act.put, List.setIfInBounds_toArray, List.set_cons_zero, List.set_cons_succ]
    refine MyHeld.take 14 (v := ?_) (.s (.s (.s (.s (.s (.s (.s (.s (.s (.s (.s (.s (.s (.s .z)))))))))))))) (by kernel_rfl) (by kernel_rfl) (by kernel_rfl) (fun _ _ _ h => h) (by rfl) (by assumption) ?_ ?_
    rotate_left
    · intro w hSw; (try dsimp only at hSw); go_simp; (try with_reducible rfl)
    try simp only [Act.put, List.setIfInBounds_toArray, List.set_cons_zero, List.set_cons_succ]
    refine MyHeld.take 15 (v := ?_) (.s (.s (.s (.s (.s (.s (.s (.s (.s (.s (.s (.s (.s (.s (.s .z))))))))))))))) (by kernel_rfl) (by kernel_rfl) (by kernel_rfl) (fun _ _ _ h => h) (by rfl) (by assumption) ?_ ?_
    rotate_left
    · intro w hSw; (try dsimp only at hSw); go_simp; (try with_reducible rfl)
    try simp only [Act.put, List.setIfInBounds_toArray, List.set_cons_zero, List.set_cons_succ]
    refine MyHeld.take 16 (v := ?_) (.s (.s (.s (.s (.s (.s (.s (.s (.s (.s (.s (.s (.s (.s (.s (.s .z)))))))))))))))) (by kernel_rfl) (by kernel_rfl) (by kernel_rfl) (fun _ _ _ h => h) (by rfl) (by assumption) ?_ ?_
    rotate_left
    · intro w hSw; (try dsimp only at hSw); go_simp; (try with_reducible rfl)
    try simp only [Act.put, List.setIfInBounds_toArray, List.set_cons_zero, List.set_cons_succ]
    refine MyHeld.take 17 (v := ?_) (.s (.s (.s (.s (.s (.s (.s (.s (.s (.s (.s (.s (.s (.s (.s (.s (.s .z))))))))))))))))) (by kernel_rfl) (by kernel_rfl) (by kernel_rfl) (fun _ _ _ h => h) (by rfl) (by assumption) ?_ ?_
    rotate_left
    · intro w hSw; (try dsimp only at hSw); go_simp; (try with_reducible rfl)
    try simp only [Act.put, List.setIfInBounds_toArray, List.set_cons_zero, List.set_cons_succ]
    refine MyHeld.take 19 (v := ?_) (.s (.s (.s (.s (.s (.s (.s (.s (.s (.s (.s (.s (.s (.s (.s (.s (.s (.s (.s .z))))))))))))))))))) (by kernel_rfl) (by kernel_rfl) (by kernel_rfl) (fun _ _ _ h => h) (by rfl) (by assumption) ?_ ?_
    rotate_left
    · intro w hSw; (try dsimp only at hSw); go_simp; (try with_reducible rfl)
    try simp only [Act.put, List.setIfInBounds_toArray, List.set_cons_zero, List.set_cons_succ]
    refine MyHeld.take 20 (v := ?_) (.s (.s (.s (.s (.s (.s (.s (.s (.s (.s (.s (.s (.s (.s (.s (.s (.s (.s (.s (.s .z)))))))))))))))))))) (by kernel_rfl) (by kernel_rfl) (by kernel_rfl) (fun _ _ _ h => h) (by rfl) (by assumption) ?_ ?_
    rotate_left
    · intro w hSw; (try dsimp only at hSw); go_simp; (try with_reducible rfl)
    try simp only [Act.put, List.setIfInBounds_toArray, List.set_cons_zero, List.set_cons_succ]
    refine MyHeld.take 21 (v := ?_) (.s (.s (.s (.s (.s (.s (.s (.s (.s (.s (.s (.s (.s (.s (.s (.s (.s (.s (.s (.s (.s .z))))))))))))))))))))) (by kernel_rfl) (by kernel_rfl) (by kernel_rfl) (fun _ _ _ h => h) (by rfl) (by assumption) ?_ ?_
    rotate_left
    · intro w hSw; (try dsimp only at hSw); go_simp; (try with_reducible rfl)
    try simp only [Act.put, List.setIfInBounds_toArray, List.set_cons_zero, List.set_cons_succ]
    refine MyHeld.take 22 (v := ?_) (.s (.s (.s (.s (.s (.s (.s (.s (.s (.s (.s (.s (.s (.s (.s (.s (.s (.s (.s (.s (.s (.s .z)))))))))))))))))))))) (by kernel_rfl) (by kernel_rfl) (by kernel_rfl) (fun _ _ _ h => h) (by rfl) (by assumption) ?_ ?_
    rotate_left
    · intro w hSw; (try dsimp only at hSw); go_simp; (try with_reducible rfl)
    try simp only [Act.put, List.setIfInBounds_toArray, List.set_cons_zero, List.set_cons_succ]
    refine MyHeld.take 23 (v := ?_) (.s (.s (.s (.s (.s (.s (.s (.s (.s (.s (.s (.s (.s (.s (.s (.s (.s (.s (.s (.s (.s (.s (.s .z))))))))))))))))))))))) (by kernel_rfl) (by kernel_rfl) (by kernel_rfl) (fun _ _ _ h => h) (by rfl) (by assumption) ?_ ?_
    rotate_left
    · intro w hSw; (try dsimp only at hSw); go_simp; (try with_reducible rfl)
    try simp only [Act.put, List.setIfInBounds_toArray, List.set_cons_zero, List.set_cons_succ]
    refine wpAnyH_ready (rs := [18]) (by kernel_rfl) (by simp) ?_
    refine (MyHeld.next 18 (.s (.s (.s (.s (.s (.s (.s (.s (.s (.s (.s (.s (.s (.s (.s (.s (.s (.s .z)))))))))))))))))) (fun Kq hKq => ?_) AllReadyH.nil)
    go_simp
    (go_at_call 49; refine (best_call a n c s z v z' v' t fl k 1 _ (HL.out.below K.1.2.2.2) HO.out (by decide)).mono ?_; rintro e w3 ⟨rfl, hb3⟩; replace K := K.keep hb3; clear hb3)
    go_wp2_with fail
    refine hKq.out _ _ (by (try dsimp only); (exact ⟨eleven K.1.2.2.1, by rw [← HV.out]; exact (five_cells K.1.1).2.2.2.2⟩)) (fun hHeld' => ?_)
    clear hKq Kq hHeld; have hHeld := hHeld'; clear hHeld'
    try simp only [Act.put, List.setIfInBounds_toArray, List.set_cons_zero, List.set_cons_succ]
    refine MyHeld.take 24 (v := ?_) (.s (.s (.s (.s (.s (.s (.s (.s (.s (.s (.s (.s (.s (.s (.s (.s (.s (.s (.s (.s (.s (.s (.s (.s .z)))))))))))))))))))))))) (by kernel_rfl) (by kernel_rfl) (by kernel_rfl) (fun _ _ _ h => h) (by rfl) (by assumption) ?_ ?_
    rotate_left
    · intro w hSw; (try dsimp only at hSw); go_simp; (try with_reducible rfl)
    try simp only [Act.put, List.setIfInBounds_toArray, List.set_cons_zero, List.set_cons_succ]
    refine MyHeld.take 25 (v := ?_) (.s (.s (.s (.s (.s (.s (.s (.s (.s (.s (.s (.s (.s (.s (.s (.s (.s (.s (.s (.s (.s (.s (.s (.s (.s .z))))))))))))))))))))))))) (by kernel_rfl) (by kernel_rfl) (by kernel_rfl) (fun _ _ _ h => h) (by rfl) (by assumption) ?_ ?_
    rotate_left
    · intro w hSw; (try dsimp only at hSw); go_simp; (try with_reducible rfl)
    try simp only [Act.put, List.setIfInBounds_toArray, List.set_cons_zero, List.set_cons_succ]
    refine wpAnyH_done (by kernel_rfl) ?_ _
    all_goals go_wp2_with fail
    all_goals go_meet
    all_goals exact ⟨by rw [HT.out], K⟩
  case rest =>
    clear hbS s0 s1 s2 s3 s4 n0 n1 n2 d0 d1 d2 d3 d4 q0 q1 q2 q3 q4 q5 q6 q7 q8 q9 qa hl1 hl4 hl5 hlN hlF hlX
    clear HLL
    obtain ⟨rfl, hL⟩ := hcut
    have HLL := Lib.hid hL
    clear hL
    rw [HT.out]
    obtain ⟨s0, s1, s2, s3, s4⟩ := five_cells HLL.out.1.1
    obtain ⟨n0, n1, n2⟩ := three_old' HLL.out.2.2.2.2.1
    obtain ⟨d0, d1, d2, d3, d4⟩ := five_cells HLL.out.2.2.2.2.2.2
    obtain ⟨q0, q1, q2, q3, q4, q5, q6, q7, q8, q9, qa⟩ := eleven HLL.out.1.2.2.1
    obtain ⟨hl1, hl4, hl5⟩ := HLL.out.1.lts
    obtain ⟨hlN, hlF, hlX⟩ := HLL.out.lts
    rw [show st.a.s = 2 from HG.out] at n0
    go_wp2_with fail
    refine ((enough_call a n c s z v z' v' t fl k 1 _ (HL.out.below HLL.out.1.2.2.2) HO.out (by decide))).mono ?_; rintro e w5 ⟨rfl, hb5⟩
    replace HLL := Lib.hid (HLL.out.keep hb5)
    clear hb5
    clear s0 s1 s2 s3 s4 n0 n1 n2 d0 d1 d2 d3 d4 q0 q1 q2 q3 q4 q5 q6 q7 q8 q9 qa hl1 hl4 hl5 hlN hlF hlX
    obtain ⟨s0, s1, s2, s3, s4⟩ := five_cells HLL.out.1.1
    obtain ⟨n0, n1, n2⟩ := three_old' HLL.out.2.2.2.2.1
    obtain ⟨d0, d1, d2, d3, d4⟩ := five_cells HLL.out.2.2.2.2.2.2
    obtain ⟨q0, q1, q2, q3, q4, q5, q6, q7, q8, q9, qa⟩ := eleven HLL.out.1.2.2.1
    obtain ⟨hl1, hl4, hl5⟩ := HLL.out.1.lts
    obtain ⟨hlN, hlF, hlX⟩ := HLL.out.lts
    rw [show st.a.s = 2 from HG.out] at n0
    go_wp2_with (first | (refine wpList_store_new rfl 57 (.tmp 24) (.tmp 125) rfl bX #[.int .u8 (enA s z v z' v' 1 t).s, .int .i64 (enA s z v z' v' 1 t).r, .bool (enA s z v z' v' 1 t).k, .int .i64 0, .bool true] rfl rfl 57 _ HLL.out.2.2.2.2.2.2 (by kernel_rfl) rfl (by simp [Value.oneCell']) ?_; intro w8 H8; replace HLL := Lib.hid (HLL.out.only H8.out.2 H8.out.1); obtain ⟨x0, x1, x2, x3, x4⟩ := five_cells H8.out.1; clear H8) | (refine wpList_store_new rfl 57 (.tmp 14) (.tmp 158) rfl (w.heap.size + 4) #[.int .u8 (enA s z v z' v' 1 t).s, .int .i64 (enA s z v z' v' 1 t).r, .bool (enA s z v z' v' 1 t).k, .int .i64 0, .bool true] rfl rfl 57 _ HLL.out.1.2.1 (by kernel_rfl) rfl (by simp [Value.oneCell']) ?_; intro w9 H9))
    try rw [Exit.noGoto_ret]
    refine bodyPost_ret (v := .tuple #[nstV ⟨enA s z v z' v' 1 t, 0, true⟩, .int .i64 0]) ?_ rfl (nxPost_of ⟨(nx_ok HE.out HBn.out HA0.out HC.out).1, (nx_ok HE.out HBn.out HA0.out HC.out).2.trans (by rw [nxA_turn HNZ.out (by rw [HG.out]; exact HT.out), HG.out]; rfl)⟩ (HLL.out.1.done H9.out.2))
    obtain ⟨r0, r1, r2, r3, r4⟩ := five_cells H9.out.1
    simp [results, Try.f26, go_sem, r0, r1, r2, r3, r4, nstV]

set_option maxRecDepth 100000 in
set_option maxHeartbeats 8000000 in
theorem pNext_same2 (a : Option Addr) (n c : Nat) (s : RulesMath.Set) (z v z' v' t fl k : Int) (st : NSt) (w : World) (h : Ints w a n s.rs) (hs : 0 ≤ st.a.s) (hE : whlE s z v z' v' t k = 0) (hB : bndE st.a = 0) (hA0 : ¬ st.age < 0) (hA : ¬ 1000 < st.age) (hC : chE s z v z' v' t fl k = 0) (hg : st.a.s = 2) (hw : alwB z fl k 2 = true) (hT : turnB s z v z' v' t fl k st 2 = false) (hH : holdB st (enA s z v z' v' 2 t) = false) :
    Calls Try.prog 26 #[setV a n c s, nstV st, .agg #[.int .i64 z, .int .i64 v], .agg #[.int .i64 z', .int .i64 v'], .int .i64 t, .int .i64 fl, .int .u8 k] w (NxPost s z v z' v' t fl k st w) := by
  have HL := Lib.hid h
  have HS := Lib.hid hs
  have HE := Lib.hid hE
  have HBn := Lib.hid hB
  have HO := Lib.hid (scOk_of (whlE_zero hE).1 ⟨(whlE_zero hE).2.1, (whlE_zero hE).2.2.1⟩)
  have HC := Lib.hid hC
  have HG := Lib.hid hg
  have HNZ := Lib.hid (show st.a.s ≠ 0 from by rw [hg]; decide)
  have HA0 := Lib.hid (show ¬ (st.age < 0 ∨ 1000 < st.age) from by omega)
  have age0 : 0 ≤ st.age := by omega
  have age1 : st.age ≤ 1000 := by omega
  have HW := Lib.hid hw
  have HT := Lib.hid hT
  have HH := Lib.hid ((hold_cases (st := st) (enA s z v z' v' 2 t)).resolve_left (fun h => by rw [hH] at h; cases h.1))
  have HQ := Lib.hid (((turn_cases (s := s) (z := z) (v := v) (z' := z') (v' := v') (t := t) (fl := fl) (k := k) (st := st) 2).resolve_left (fun h => by rw [hT] at h; cases h.1)).2)
  clear hE hs hB hC hA0 hA hg hw hT hH
  clear h
  unfold setV nstV
  go_enter Try.func26, Try.ntmps26
  go_wp2_with fail
  go_step3
  go_upto_region 1 with fail
  have K0 : Nw0 w (setC a n c s) (nstC st) z v z' v' (((((w.alloc (.cells #[.slice a n c, .int .i64 s.alim, .int .i64 s.d, .int .i64 s.pl] 24)).alloc (.cells #[.int .u8 st.a.s, .int .i64 st.a.r, .bool st.a.k, .int .i64 st.age, .bool st.rv] 57)).alloc (.cells #[.int .i64 z, .int .i64 v] 26)).alloc (.cells #[.int .i64 z', .int .i64 v'] 26)).alloc (.cells #[.int .u8 0, .int .i64 0, .bool false, .int .i64 0, .bool false] 57)) :=
    ⟨block_alloc (block_alloc (block_alloc (block_alloc (block_new _ _ rfl)))), block_alloc (block_alloc (block_alloc (block_new _ _ (by simp)))), block_alloc (block_alloc (block_new _ _ (by simp))), block_alloc (block_new _ _ (by simp)), block_new _ _ (by simp), ((((below_alloc _ _).alloc (by simp) _).alloc (by simp; omega) _).alloc (by simp; omega) _).alloc (by simp; omega) _, by simp⟩
  generalize (((((w.alloc (.cells #[.slice a n c, .int .i64 s.alim, .int .i64 s.d, .int .i64 s.pl] 24)).alloc (.cells #[.int .u8 st.a.s, .int .i64 st.a.r, .bool st.a.k, .int .i64 st.age, .bool st.rv] 57)).alloc (.cells #[.int .i64 z, .int .i64 v] 26)).alloc (.cells #[.int .i64 z', .int .i64 v'] 26)).alloc (.cells #[.int .u8 0, .int .i64 0, .bool false, .int .i64 0, .bool false] 57)) = wq at *
  obtain ⟨s0, s1, s2, s3⟩ := four_cells K0.1
  obtain ⟨p0, p1, -, -⟩ := two_old K0.2.2.1
  obtain ⟨p2, p3, -, -⟩ := two_old K0.2.2.2.1
  have hsz := K0.2.2.2.2.2.2
  have KQ := Lib.hid K0
  clear K0
  go_wp2_with fail
  have K := Lib.hid (show NwK w (nstC st) (scnC a n c s z v z' v' t fl k) (wq.alloc (.cells (scnC a n c s z v z' v' t fl k) 76)) from KQ.out.scene)
  clear KQ s0 s1 s2 s3 p0 p1 p2 p3
  refine (whole_call a n c s z v z' v' t fl k _ (HL.out.below K.out.2.2.2)).mono ?_; rintro e w1 ⟨rfl, hb1⟩
  replace K := Lib.hid (K.out.keep hb1)
  clear hb1
  rw [HE.out]
  obtain ⟨s0, s1, s2, s3, s4⟩ := five_cells K.out.1
  obtain ⟨hl1, hl4, hl5⟩ := K.out.lts
  go_wp2_with fail
  have K2 := Lib.hid (And.intro (K.out.keep (below_alloc w1 (.cells #[.int .u8 st.a.s, .int .i64 st.a.r, .bool st.a.k] 30))) (And.intro hl5 (show (w1.alloc (.cells #[.int .u8 st.a.s, .int .i64 st.a.r, .bool st.a.k] 30)).heap[w1.heap.size]? = some (.cells #[.int .u8 st.a.s, .int .i64 st.a.r, .bool st.a.k] 30 (0, 0)) from block_new _ _ rfl)))
  refine (Bounds_call st.a _ HS.out).mono ?_; rintro e w2 ⟨rfl, hb2⟩
  have K3 := Lib.hid (And.intro (K2.out.1.keep hb2) (And.intro K2.out.2.1 (keepO hb2 K2.out.2.2)))
  clear hb2 K2 K s0 s1 s2 s3 s4 hl1 hl4 hl5
  have K := Lib.hid K3.out.1
  obtain ⟨s0, s1, s2, s3, s4⟩ := five_cells K.out.1
  obtain ⟨hl1, hl4, hl5⟩ := K.out.lts
  rw [HBn.out]
  obtain ⟨q0, q1, q2, q3, q4, q5, q6, q7, q8, q9, qa⟩ := eleven K.out.2.2.1
  go_wp2_with fail
  refine (pchoose_call a n c s z v z' v' t fl k _ (HL.out.below K.out.2.2.2) HO.out HE.out).mono ?_; rintro e w3 ⟨rfl, hb3⟩
  replace K := Lib.hid (K.out.keep hb3)
  have K4 := Lib.hid (And.intro K3.out.2.1 (keepO hb3 K3.out.2.2))
  clear hb3 K3 q0 q1 q2 q3 q4 q5 q6 q7 q8 q9 qa s0 s1 s2 s3 s4 hl1 hl4 hl5
  rw [HC.out]
  generalize hY : chR s z v z' v' t fl k = Y at *
  obtain ⟨s0, s1, s2, s3, s4⟩ := five_cells K.out.1
  obtain ⟨hl1, hl4, hl5⟩ := K.out.lts
  go_upto_region 15 with fail
  have L : NwL w (nstC st) (scnC a n c s z v z' v' t fl k) w1.heap.size st.a w3.heap.size Y (w3.heap.size + 1) #[.int .u8 0, .int .i64 0, .bool false, .int .i64 0, .bool st.rv] ((w3.alloc (.cells #[.int .u8 Y.s, .int .i64 Y.r, .bool Y.k] 30)).alloc (.cells #[.int .u8 0, .int .i64 0, .bool false, .int .i64 0, .bool st.rv] 57)) :=
    ⟨(K.out.keep (below_alloc _ _)).keep (below_alloc _ _), K4.out.1, by have := lt_of_block K4.out.2; omega, by omega, block_alloc (block_alloc K4.out.2), block_alloc (block_new _ _ rfl), block_new _ _ (by simp)⟩
  have HY := Lib.hid hY
  clear hY K K4 s0 s1 s2 s3 s4 hl1 hl4 hl5
  generalize hbN : w1.heap.size = bN at *
  generalize hbX : w3.heap.size + 1 = bX at *
  generalize hbF : w3.heap.size = bF at *
  generalize ((w3.alloc (.cells #[.int .u8 Y.s, .int .i64 Y.r, .bool Y.k] 30)).alloc (.cells #[.int .u8 0, .int .i64 0, .bool false, .int .i64 0, .bool st.rv] 57)) = w4 at *
  clear hbN hbX hbF
  obtain ⟨s0, s1, s2, s3, s4⟩ := five_cells L.1.1
  obtain ⟨n0, n1, n2⟩ := three_old' L.2.2.2.2.1
  obtain ⟨f0, f1, f2⟩ := three_old' L.2.2.2.2.2.1
  obtain ⟨d0, d1, d2, d3, d4⟩ := five_cells L.2.2.2.2.2.2
  obtain ⟨q0, q1, q2, q3, q4, q5, q6, q7, q8, q9, qa⟩ := eleven L.1.2.2.1
  obtain ⟨hl1, hl4, hl5⟩ := L.1.lts
  obtain ⟨hlN, hlF, hlX⟩ := L.lts
  rw [show st.a.s = 2 from HG.out] at n0
  have HLL := Lib.hid L
  clear L
  go_step3
  go_wp2_with fail
  refine wp_loop_rounds 1 ?_
  rw [rounds_succ]
  clear f0 f1 f2
  go_wp2_with fail
  refine (allowed_call a n c s z v z' v' t fl k 2 _).mono ?_; rintro e w5 ⟨rfl, hb5⟩
  replace HLL := Lib.hid (HLL.out.keep hb5)
  clear hb5
  rw [HW.out]
  clear s0 s1 s2 s3 s4 n0 n1 n2 d0 d1 d2 d3 d4 q0 q1 q2 q3 q4 q5 q6 q7 q8 q9 qa hl1 hl4 hl5 hlN hlF hlX
  obtain ⟨s0, s1, s2, s3, s4⟩ := five_cells HLL.out.1.1
  obtain ⟨n0, n1, n2⟩ := three_old' HLL.out.2.2.2.2.1
  obtain ⟨d0, d1, d2, d3, d4⟩ := five_cells HLL.out.2.2.2.2.2.2
  obtain ⟨q0, q1, q2, q3, q4, q5, q6, q7, q8, q9, qa⟩ := eleven HLL.out.1.2.2.1
  obtain ⟨hl1, hl4, hl5⟩ := HLL.out.1.lts
  obtain ⟨hlN, hlF, hlX⟩ := HLL.out.lts
  rw [show st.a.s = 2 from HG.out] at n0
  go_wp2_with fail
  refine (best_call a n c s z v z' v' t fl k 2 _ (HL.out.below HLL.out.1.2.2.2) HO.out (by decide)).mono ?_; rintro e w5 ⟨rfl, hb5⟩
  replace HLL := Lib.hid (HLL.out.keep hb5)
  clear hb5
  clear s0 s1 s2 s3 s4 n0 n1 n2 d0 d1 d2 d3 d4 q0 q1 q2 q3 q4 q5 q6 q7 q8 q9 qa hl1 hl4 hl5 hlN hlF hlX
  obtain ⟨s0, s1, s2, s3, s4⟩ := five_cells HLL.out.1.1
  obtain ⟨n0, n1, n2⟩ := three_old' HLL.out.2.2.2.2.1
  obtain ⟨d0, d1, d2, d3, d4⟩ := five_cells HLL.out.2.2.2.2.2.2
  obtain ⟨q0, q1, q2, q3, q4, q5, q6, q7, q8, q9, qa⟩ := eleven HLL.out.1.2.2.1
  obtain ⟨hl1, hl4, hl5⟩ := HLL.out.1.lts
  obtain ⟨hlN, hlF, hlX⟩ := HLL.out.lts
  rw [show st.a.s = 2 from HG.out] at n0
  have hbS := HO.out.bestBd (g := 2) (by decide)
  go_upto_region 21 with fail
  go_cut [121] (fun s121 wx => s121 = .bool (turnB s z v z' v' t fl k st 2) ∧ NwL w (nstC st) (scnC a n c s z v z' v' t fl k) bN st.a bF Y bX #[.int .u8 0, .int .i64 0, .bool false, .int .i64 0, .bool st.rv] wx)
  case first =>
    have K := HLL.out.keep ((Below.refl _ _).drew)
    clear HLL
    have hsum : IntKind.i64.wrap (bestV s z v z' v' 2 t + s.alim) = bestV s z v z' v' 2 t + s.alim := IntWalk.i64_in _ (by omega)
    clear hbS
    rcases HQ.out with v1 | ⟨v1, v2 | ⟨v2, v3 | ⟨v3, v4⟩⟩⟩
    · have HV := Lib.hid v1
      clear v1
      refine wp_region_held_drew (S := (fun w' => ((w'.cell? ⟨w.heap.size + 5, 0, none⟩ = some (.slice a n c) ∧ w'.cell? ⟨w.heap.size + 5, 1, none⟩ = some (.int .i64 s.alim) ∧ w'.cell? ⟨w.heap.size + 5, 2, none⟩ = some (.int .i64 s.d) ∧ w'.cell? ⟨w.heap.size + 5, 3, none⟩ = some (.int .i64 s.pl) ∧ w'.cell? ⟨w.heap.size + 5, 4, none⟩ = some (.int .i64 z) ∧ w'.cell? ⟨w.heap.size + 5, 5, none⟩ = some (.int .i64 v) ∧ w'.cell? ⟨w.heap.size + 5, 6, none⟩ = some (.int .i64 z') ∧ w'.cell? ⟨w.heap.size + 5, 7, none⟩ = some (.int .i64 v') ∧ w'.cell? ⟨w.heap.size + 5, 8, none⟩ = some (.int .i64 t) ∧ w'.cell? ⟨w.heap.size + 5, 9, none⟩ = some (.int .i64 fl) ∧ w'.cell? ⟨w.heap.size + 5, 10, none⟩ = some (.int .u8 k)) ∧ w'.cell? ⟨w.heap.size + 1, 4, none⟩ = some (.bool true)))) (by kernel_rfl) (by (try dsimp only); (exact ⟨eleven K.1.2.2.1, by rw [← HV.out]; exact (five_cells K.1.1).2.2.2.2⟩)) (fun hHeld => ?_)
      refine MyHeld.take 0 (v := ?_) .z (by kernel_rfl) (by kernel_rfl) (by kernel_rfl) (fun _ _ _ h => h) (by rfl) (by assumption) ?_ ?_
      rotate_left
      · intro w hSw; (try dsimp only at hSw); go_simp; (try with_reducible rfl)
      try simp only [Act.put, List.setIfInBounds_toArray, List.set_cons_zero, List.set_cons_succ]
      refine MyHeld.take 1 (v := ?_) (.s .z) (by kernel_rfl) (by kernel_rfl) (by kernel_rfl) (fun _ _ _ h => h) (by rfl) (by assumption) ?_ ?_
      rotate_left
      · intro w hSw; (try dsimp only at hSw); go_simp; (try with_reducible rfl)
      try simp only [Act.put, List.setIfInBounds_toArray, List.set_cons_zero, List.set_cons_succ]
      refine MyHeld.take 2 (v := ?_) (.s (.s .z)) (by kernel_rfl) (by kernel_rfl) (by kernel_rfl) (fun _ _ _ h => h) (by rfl) (by assumption) ?_ ?_
      rotate_left
      · intro w hSw; (try dsimp only at hSw); go_simp; (try with_reducible rfl)
      try simp only [Act.put, List.setIfInBounds_toArray, List.set_cons_zero, List.set_cons_succ]
      refine MyHeld.take 3 (v := ?_) (.s (.s (.s .z))) (by kernel_rfl) (by kernel_rfl) (by kernel_rfl) (fun _ _ _ h => h) (by rfl) (by assumption) ?_ ?_
      rotate_left
      · intro w hSw; (try dsimp only at hSw); go_simp; (try with_reducible rfl)
      try simp only [Act.put, List.setIfInBounds_toArray, List.set_cons_zero, List.set_cons_succ]
      refine MyHeld.skip 4 (.s (.s (.s (.s .z)))) (by kernel_rfl) (by kernel_rfl) (by kernel_rfl) (fun _ _ _ h => h) (by rfl) (by assumption) ?_
      try simp only [Act.put, List.setIfInBounds_toArray, List.set_cons_zero, List.set_cons_succ]
      refine MyHeld.skip 5 (.s (.s (.s (.s (.s .z))))) (by kernel_rfl) (by kernel_rfl) (by kernel_rfl) (fun _ _ _ h => h) (by rfl) (by assumption) ?_
      try simp only [Act.put, List.setIfInBounds_toArray, List.set_cons_zero, List.set_cons_succ]
      refine MyHeld.skip 6 (.s (.s (.s (.s (.s (.s .z)))))) (by kernel_rfl) (by kernel_rfl) (by kernel_rfl) (fun _ _ _ h => h) (by rfl) (by assumption) ?_
      try simp only [Act.put, List.setIfInBounds_toArray, List.set_cons_zero, List.set_cons_succ]
      refine MyHeld.take 7 (v := ?_) (.s (.s (.s (.s (.s (.s (.s .z))))))) (by kernel_rfl) (by kernel_rfl) (by kernel_rfl) (fun _ _ _ h => h) (by rfl) (by assumption) ?_ ?_
      rotate_left
      · intro w hSw; (try dsimp only at hSw); go_simp; (try with_reducible rfl)
      try simp only [Act.put, List.setIfInBounds_toArray, List.set_cons_zero, List.set_cons_succ]
      refine MyHeld.take 8 (v := ?_) (.s (.s (.s (.s (.s (.s (.s (.s .z)))))))) (by kernel_rfl) (by kernel_rfl) (by kernel_rfl) (fun _ _ _ h => h) (by rfl) (by assumption) ?_ ?_
      rotate_left
      · intro w hSw; (try dsimp only at hSw); go_simp; (try with_reducible rfl)
      try simp only [Act.put, List.setIfInBounds_toArray, List.set_cons_zero, List.set_cons_succ]
      refine MyHeld.skip 9 (.s (.s (.s (.s (.s (.s (.s (.s (.s .z))))))))) (by kernel_rfl) (by kernel_rfl) (by kernel_rfl) (fun _ _ _ h => h) (by rfl) (by assumption) ?_
      try simp only [Act.put, List.setIfInBounds_toArray, List.set_cons_zero, List.set_cons_succ]
      refine MyHeld.skip 10 (.s (.s (.s (.s (.s (.s (.s (.s (.s (.s .z)))))))))) (by kernel_rfl) (by kernel_rfl) (by kernel_rfl) (fun _ _ _ h => h) (by rfl) (by assumption) ?_
      try simp only [Act.put, List.setIfInBounds_toArray, List.set_cons_zero, List.set_cons_succ]
      refine MyHeld.skip 11 (.s (.s (.s (.s (.s (.s (.s (.s (.s (.s (.s .z))))))))))) (by kernel_rfl) (by kernel_rfl) (by kernel_rfl) (fun _ _ _ h => h) (by rfl) (by assumption) ?_
      try simp only [Act.put, List.setIfInBounds_toArray, List.set_cons_zero, List.set_cons_succ]
      refine MyHeld.skip 12 (.s (.s (.s (.s (.s (.s (.s (.s (.s (.s (.s (.s .z)))))))))))) (by kernel_rfl) (by kernel_rfl) (by kernel_rfl) (fun _ _ _ h => h) (by rfl) (by assumption) ?_
      try simp only [Act.put, List.setIfInBounds_toArray, List.set_cons_zero, List.set_cons_succ]
      refine MyHeld.skip 13 (.s (.s (.s (.s (.s (.s (.s (.s (.s (.s (.s (.s (.s .z))))))))))))) (by kernel_rfl) (by kernel_rfl) (by kernel_rfl) (fun _ _ _ h => h) (by rfl) (by assumption) ?_
      try simp only [Act.put, List.setIfInBounds_toArray, List.set_cons_zero, List.set_cons_succ]
      refine MyHeld.take 14 (v := ?_) (.s (.s (.s (.s (.s (.s (.s (.s (.s (.s (.s (.s (.s (.s .z)))))))))))))) (by kernel_rfl) (by kernel_rfl) (by kernel_rfl) (fun _ _ _ h => h) (by rfl) (by assumption) ?_ ?_
      rotate_left
      · intro w hSw; (try dsimp only at hSw); go_simp; (try with_reducible rfl)
      try simp only [Act.put, List.setIfInBounds_toArray, List.set_cons_zero, List.set_cons_succ]
      refine MyHeld.take 15 (v := ?_) (.s (.s (.s (.s (.s (.s (.s (.s (.s (.s (.s (.s (.s (.s (.s .z))))))))))))))) (by kernel_rfl) (by kernel_rfl) (by kernel_rfl) (fun _ _ _ h => h) (by rfl) (by assumption) ?_ ?_
      rotate_left
      · intro w hSw; (try dsimp only at hSw); go_simp; (try with_reducible rfl)
      try simp only [Act.put, List.setIfInBounds_toArray, List.set_cons_zero, List.set_cons_succ]
      refine MyHeld.skip 16 (.s (.s (.s (.s (.s (.s (.s (.s (.s (.s (.s (.s (.s (.s (.s (.s .z)))))))))))))))) (by kernel_rfl) (by kernel_rfl) (by kernel_rfl) (fun _ _ _ h => h) (by rfl) (by assumption) ?_
      try simp only [Act.put, List.setIfInBounds_toArray, List.set_cons_zero, List.set_cons_succ]
      refine MyHeld.skip 17 (.s (.s (.s (.s (.s (.s (.s (.s (.s (.s (.s (.s (.s (.s (.s (.s (.s .z))))))))))))))))) (by kernel_rfl) (by kernel_rfl) (by kernel_rfl) (fun _ _ _ h => h) (by rfl) (by assumption) ?_
      try simp only [Act.put, List.setIfInBounds_toArray, List.set_cons_zero, List.set_cons_succ]
      refine MyHeld.skip 18 (.s (.s (.s (.s (.s (.s (.s (.s (.s (.s (.s (.s (.s (.s (.s (.s (.s (.s .z)))))))))))))))))) (by kernel_rfl) (by kernel_rfl) (by kernel_rfl) (fun _ _ _ h => h) (by rfl) (by assumption) ?_
      try simp only [Act.put, List.setIfInBounds_toArray, List.set_cons_zero, List.set_cons_succ]
      refine MyHeld.skip 19 (.s (.s (.s (.s (.s (.s (.s (.s (.s (.s (.s (.s (.s (.s (.s (.s (.s (.s (.s .z))))))))))))))))))) (by kernel_rfl) (by kernel_rfl) (by kernel_rfl) (fun _ _ _ h => h) (by rfl) (by assumption) ?_
      try simp only [Act.put, List.setIfInBounds_toArray, List.set_cons_zero, List.set_cons_succ]
      refine MyHeld.skip 20 (.s (.s (.s (.s (.s (.s (.s (.s (.s (.s (.s (.s (.s (.s (.s (.s (.s (.s (.s (.s .z)))))))))))))))))))) (by kernel_rfl) (by kernel_rfl) (by kernel_rfl) (fun _ _ _ h => h) (by rfl) (by assumption) ?_
      try simp only [Act.put, List.setIfInBounds_toArray, List.set_cons_zero, List.set_cons_succ]
      refine MyHeld.skip 21 (.s (.s (.s (.s (.s (.s (.s (.s (.s (.s (.s (.s (.s (.s (.s (.s (.s (.s (.s (.s (.s .z))))))))))))))))))))) (by kernel_rfl) (by kernel_rfl) (by kernel_rfl) (fun _ _ _ h => h) (by rfl) (by assumption) ?_
      try simp only [Act.put, List.setIfInBounds_toArray, List.set_cons_zero, List.set_cons_succ]
      refine MyHeld.skip 22 (.s (.s (.s (.s (.s (.s (.s (.s (.s (.s (.s (.s (.s (.s (.s (.s (.s (.s (.s (.s (.s (.s .z)))))))))))))))))))))) (by kernel_rfl) (by kernel_rfl) (by kernel_rfl) (fun _ _ _ h => h) (by rfl) (by assumption) ?_
      try simp only [Act.put, List.setIfInBounds_toArray, List.set_cons_zero, List.set_cons_succ]
      refine MyHeld.skip 23 (.s (.s (.s (.s (.s (.s (.s (.s (.s (.s (.s (.s (.s (.s (.s (.s (.s (.s (.s (.s (.s (.s (.s .z))))))))))))))))))))))) (by kernel_rfl) (by kernel_rfl) (by kernel_rfl) (fun _ _ _ h => h) (by rfl) (by assumption) ?_
      try simp only [Act.put, List.setIfInBounds_toArray, List.set_cons_zero, List.set_cons_succ]
      refine MyHeld.skip 24 (.s (.s (.s (.s (.s (.s (.s (.s (.s (.s (.s (.s (.s (.s (.s (.s (.s (.s (.s (.s (.s (.s (.s (.s .z)))))))))))))))))))))))) (by kernel_rfl) (by kernel_rfl) (by kernel_rfl) (fun _ _ _ h => h) (by rfl) (by assumption) ?_
      try simp only [Act.put, List.setIfInBounds_toArray, List.set_cons_zero, List.set_cons_succ]
      refine MyHeld.take 25 (v := ?_) (.s (.s (.s (.s (.s (.s (.s (.s (.s (.s (.s (.s (.s (.s (.s (.s (.s (.s (.s (.s (.s (.s (.s (.s (.s .z))))))))))))))))))))))))) (by kernel_rfl) (by kernel_rfl) (by kernel_rfl) (fun _ _ _ h => h) (by rfl) (by assumption) ?_ ?_
      rotate_left
      · intro w hSw; (try dsimp only at hSw); go_simp; (try with_reducible rfl)
      try simp only [Act.put, List.setIfInBounds_toArray, List.set_cons_zero, List.set_cons_succ]
      refine wpAnyH_done (by kernel_rfl) ?_ _
      all_goals go_wp2_with fail
      all_goals go_meet
      all_goals exact ⟨by rw [HT.out], K⟩
    · have HV := Lib.hid v1
      have HV2 := Lib.hid v2
      clear v1 v2
      refine wp_region_held_drew (S := (fun w' => ((w'.cell? ⟨w.heap.size + 5, 0, none⟩ = some (.slice a n c) ∧ w'.cell? ⟨w.heap.size + 5, 1, none⟩ = some (.int .i64 s.alim) ∧ w'.cell? ⟨w.heap.size + 5, 2, none⟩ = some (.int .i64 s.d) ∧ w'.cell? ⟨w.heap.size + 5, 3, none⟩ = some (.int .i64 s.pl) ∧ w'.cell? ⟨w.heap.size + 5, 4, none⟩ = some (.int .i64 z) ∧ w'.cell? ⟨w.heap.size + 5, 5, none⟩ = some (.int .i64 v) ∧ w'.cell? ⟨w.heap.size + 5, 6, none⟩ = some (.int .i64 z') ∧ w'.cell? ⟨w.heap.size + 5, 7, none⟩ = some (.int .i64 v') ∧ w'.cell? ⟨w.heap.size + 5, 8, none⟩ = some (.int .i64 t) ∧ w'.cell? ⟨w.heap.size + 5, 9, none⟩ = some (.int .i64 fl) ∧ w'.cell? ⟨w.heap.size + 5, 10, none⟩ = some (.int .u8 k)) ∧ w'.cell? ⟨w.heap.size + 1, 4, none⟩ = some (.bool false)))) (by kernel_rfl) (by (try dsimp only); (exact ⟨eleven K.1.2.2.1, by rw [← HV.out]; exact (five_cells K.1.1).2.2.2.2⟩)) (fun hHeld => ?_)
      refine MyHeld.take 0 (v := ?_) .z (by kernel_rfl) (by kernel_rfl) (by kernel_rfl) (fun _ _ _ h => h) (by rfl) (by assumption) ?_ ?_
      rotate_left
      · intro w hSw; (try dsimp only at hSw); go_simp; (try with_reducible rfl)
      try simp only [Act.put, List.setIfInBounds_toArray, List.set_cons_zero, List.set_cons_succ]
      refine MyHeld.take 1 (v := ?_) (.s .z) (by kernel_rfl) (by kernel_rfl) (by kernel_rfl) (fun _ _ _ h => h) (by rfl) (by assumption) ?_ ?_
      rotate_left
      · intro w hSw; (try dsimp only at hSw); go_simp; (try with_reducible rfl)
      try simp only [Act.put, List.setIfInBounds_toArray, List.set_cons_zero, List.set_cons_succ]
      refine MyHeld.take 2 (v := ?_) (.s (.s .z)) (by kernel_rfl) (by kernel_rfl) (by kernel_rfl) (fun _ _ _ h => h) (by rfl) (by assumption) ?_ ?_
      rotate_left
      · intro w hSw; (try dsimp only at hSw); go_simp; (try with_reducible rfl)
      try simp only [Act.put, List.setIfInBounds_toArray, List.set_cons_zero, List.set_cons_succ]
      refine MyHeld.take 3 (v := ?_) (.s (.s (.s .z))) (by kernel_rfl) (by kernel_rfl) (by kernel_rfl) (fun _ _ _ h => h) (by rfl) (by assumption) ?_ ?_
      rotate_left
      · intro w hSw; (try dsimp only at hSw); go_simp; (try with_reducible rfl)
      try simp only [Act.put, List.setIfInBounds_toArray, List.set_cons_zero, List.set_cons_succ]
      refine MyHeld.take 4 (v := ?_) (.s (.s (.s (.s .z)))) (by kernel_rfl) (by kernel_rfl) (by kernel_rfl) (fun _ _ _ h => h) (by rfl) (by assumption) ?_ ?_
      rotate_left
      · intro w hSw; (try dsimp only at hSw); go_simp; (try with_reducible rfl)
      try simp only [Act.put, List.setIfInBounds_toArray, List.set_cons_zero, List.set_cons_succ]
      refine MyHeld.take 5 (v := ?_) (.s (.s (.s (.s (.s .z))))) (by kernel_rfl) (by kernel_rfl) (by kernel_rfl) (fun _ _ _ h => h) (by rfl) (by assumption) ?_ ?_
      rotate_left
      · intro w hSw; (try dsimp only at hSw); go_simp; (try with_reducible rfl)
      try simp only [Act.put, List.setIfInBounds_toArray, List.set_cons_zero, List.set_cons_succ]
      refine wpAnyH_ready (rs := [6]) (by kernel_rfl) (by simp) ?_
      refine (MyHeld.next 6 (.s (.s (.s (.s (.s (.s .z)))))) (fun Kq hKq => ?_) AllReadyH.nil)
      go_simp
      (go_at_call 47; refine (allowed_call a n c s z v z' v' t fl k 1 _).mono ?_; rintro e w3 ⟨rfl, hb3⟩; rw [show alwB z fl k 1 = false from HV2.out]; replace K := K.keep hb3; clear hb3)
      go_wp2_with fail
      refine hKq.out _ _ (by (try dsimp only); (exact ⟨eleven K.1.2.2.1, by rw [← HV.out]; exact (five_cells K.1.1).2.2.2.2⟩)) (fun hHeld' => ?_)
      clear hKq Kq hHeld; have hHeld := hHeld'; clear hHeld'
      try simp only [Act.put, List.setIfInBounds_toArray, List.set_cons_zero, List.set_cons_succ]
      refine MyHeld.take 7 (v := ?_) (.s (.s (.s (.s (.s (.s (.s .z))))))) (by kernel_rfl) (by kernel_rfl) (by kernel_rfl) (fun _ _ _ h => h) (by rfl) (by assumption) ?_ ?_
      rotate_left
      · intro w hSw; (try dsimp only at hSw); go_simp; (try with_reducible rfl)
      try simp only [Act.put, List.setIfInBounds_toArray, List.set_cons_zero, List.set_cons_succ]
      refine MyHeld.take 8 (v := ?_) (.s (.s (.s (.s (.s (.s (.s (.s .z)))))))) (by kernel_rfl) (by kernel_rfl) (by kernel_rfl) (fun _ _ _ h => h) (by rfl) (by assumption) ?_ ?_
      rotate_left
      · intro w hSw; (try dsimp only at hSw); go_simp; (try with_reducible rfl)
      try simp only [Act.put, List.setIfInBounds_toArray, List.set_cons_zero, List.set_cons_succ]
      refine MyHeld.skip 9 (.s (.s (.s (.s (.s (.s (.s (.s (.s .z))))))))) (by kernel_rfl) (by kernel_rfl) (by kernel_rfl) (fun _ _ _ h => h) (by rfl) (by assumption) ?_
      try simp only [Act.put, List.setIfInBounds_toArray, List.set_cons_zero, List.set_cons_succ]
      refine MyHeld.skip 10 (.s (.s (.s (.s (.s (.s (.s (.s (.s (.s .z)))))))))) (by kernel_rfl) (by kernel_rfl) (by kernel_rfl) (fun _ _ _ h => h) (by rfl) (by assumption) ?_
      try simp only [Act.put, List.setIfInBounds_toArray, List.set_cons_zero, List.set_cons_succ]
      refine MyHeld.skip 11 (.s (.s (.s (.s (.s (.s (.s (.s (.s (.s (.s .z))))))))))) (by kernel_rfl) (by kernel_rfl) (by kernel_rfl) (fun _ _ _ h => h) (by rfl) (by assumption) ?_
      try simp only [Act.put, List.setIfInBounds_toArray, List.set_cons_zero, List.set_cons_succ]
      refine MyHeld.skip 12 (.s (.s (.s (.s (.s (.s (.s (.s (.s (.s (.s (.s .z)))))))))))) (by kernel_rfl) (by kernel_rfl) (by kernel_rfl) (fun _ _ _ h => h) (by rfl) (by assumption) ?_
      try simp only [Act.put, List.setIfInBounds_toArray, List.set_cons_zero, List.set_cons_succ]
      refine MyHeld.skip 13 (.s (.s (.s (.s (.s (.s (.s (.s (.s (.s (.s (.s (.s .z))))))))))))) (by kernel_rfl) (by kernel_rfl) (by kernel_rfl) (fun _ _ _ h => h) (by rfl) (by assumption) ?_
      try simp only [Act.put, List.setIfInBounds_toArray, List.set_cons_zero, List.set_cons_succ]
      refine MyHeld.take 14 (v := ?_) (.s (.s (.s (.s (.s (.s (.s (.s (.s (.s (.s (.s (.s (.s .z)))))))))))))) (by kernel_rfl) (by kernel_rfl) (by kernel_rfl) (fun _ _ _ h => h) (by rfl) (by assumption) ?_ ?_
      rotate_left
      · intro w hSw; (try dsimp only at hSw); go_simp; (try with_reducible rfl)
      try simp only [Act.put, List.setIfInBounds_toArray, List.set_cons_zero, List.set_cons_succ]
      refine MyHeld.take 15 (v := ?_) (.s (.s (.s (.s (.s (.s (.s (.s (.s (.s (.s (.s (.s (.s (.s .z))))))))))))))) (by kernel_rfl) (by kernel_rfl) (by kernel_rfl) (fun _ _ _ h => h) (by rfl) (by assumption) ?_ ?_
      rotate_left
      · intro w hSw; (try dsimp only at hSw); go_simp; (try with_reducible rfl)
      try simp only [Act.put, List.setIfInBounds_toArray, List.set_cons_zero, List.set_cons_succ]
      refine MyHeld.skip 16 (.s (.s (.s (.s (.s (.s (.s (.s (.s (.s (.s (.s (.s (.s (.s (.s .z)))))))))))))))) (by kernel_rfl) (by kernel_rfl) (by kernel_rfl) (fun _ _ _ h => h) (by rfl) (by assumption) ?_
      try simp only [Act.put, List.setIfInBounds_toArray, List.set_cons_zero, List.set_cons_succ]
      refine MyHeld.skip 17 (.s (.s (.s (.s (.s (.s (.s (.s (.s (.s (.s (.s (.s (.s (.s (.s (.s .z))))))))))))))))) (by kernel_rfl) (by kernel_rfl) (by kernel_rfl) (fun _ _ _ h => h) (by rfl) (by assumption) ?_
      try simp only [Act.put, List.setIfInBounds_toArray, List.set_cons_zero, List.set_cons_succ]
      refine MyHeld.skip 18 (.s (.s (.s (.s (.s (.s (.s (.s (.s (.s (.s (.s (.s (.s (.s (.s (.s (.s .z)))))))))))))))))) (by kernel_rfl) (by kernel_rfl) (by kernel_rfl) (fun _ _ _ h => h) (by rfl) (by assumption) ?_
      try simp only [Act.put, List.setIfInBounds_toArray, List.set_cons_zero, List.set_cons_succ]
      refine MyHeld.skip 19 (.s (.s (.s (.s (.s (.s (.s (.s (.s (.s (.s (.s (.s (.s (.s (.s (.s (.s (.s .z))))))))))))))))))) (by kernel_rfl) (by kernel_rfl) (by kernel_rfl) (fun _ _ _ h => h) (by rfl) (by assumption) ?_
      try simp only [Act.put, List.setIfInBounds_toArray, List.set_cons_zero, List.set_cons_succ]
      refine MyHeld.skip 20 (.s (.s (.s (.s (.s (.s (.s (.s (.s (.s (.s (.s (.s (.s (.s (.s (.s (.s (.s (.s .z)))))))))))))))))))) (by kernel_rfl) (by kernel_rfl) (by kernel_rfl) (fun _ _ _ h => h) (by rfl) (by assumption) ?_
      try simp only [Act.put, List.setIfInBounds_toArray, List.set_cons_zero, List.set_cons_succ]
      refine MyHeld.skip 21 (.s (.s (.s (.s (.s (.s (.s (.s (.s (.s (.s (.s (.s (.s (.s (.s (.s (.s (.s (.s (.s .z))))))))))))))))))))) (by kernel_rfl) (by kernel_rfl) (by kernel_rfl) (fun _ _ _ h => h) (by rfl) (by assumption) ?_
      try simp only [Act.put, List.setIfInBounds_toArray, List.set_cons_zero, List.set_cons_succ]
      refine MyHeld.skip 22 (.s (.s (.s (.s (.s (.s (.s (.s (.s (.s (.s (.s (.s (.s (.s (.s (.s (.s (.s (.s (.s (.s .z)))))))))))))))))))))) (by kernel_rfl) (by kernel_rfl) (by kernel_rfl) (fun _ _ _ h => h) (by rfl) (by assumption) ?_
      try simp only [Act.put, List.setIfInBounds_toArray, List.set_cons_zero, List.set_cons_succ]
      refine MyHeld.skip 23 (.s (.s (.s (.s (.s (.s (.s (.s (.s (.s (.s (.s (.s (.s (.s (.s (.s (.s (.s (.s (.s (.s (.s .z))))))))))))))))))))))) (by kernel_rfl) (by kernel_rfl) (by kernel_rfl) (fun _ _ _ h => h) (by rfl) (by assumption) ?_
      try simp only [Act.put, List.setIfInBounds_toArray, List.set_cons_zero, List.set_cons_succ]
      refine MyHeld.skip 24 (.s (.s (.s (.s (.s (.s (.s (.s (.s (.s (.s (.s (.s (.s (.s (.s (.s (.s (.s (.s (.s (.s (.s (.s .z)))))))))))))))))))))))) (by kernel_rfl) (by kernel_rfl) (by kernel_rfl) (fun _ _ _ h => h) (by rfl) (by assumption) ?_
      try simp only [Act.put, List.setIfInBounds_toArray, List.set_cons_zero, List.set_cons_succ]
      refine MyHeld.take 25 (v := ?_) (.s (.s (.s (.s (.s (.s (.s (.s (.s (.s (.s (.s (.s (.s (.s (.s (.s (.s (.s (.s (.s (.s (.s (.s (.s .z))))))))))))))))))))))))) (by kernel_rfl) (by kernel_rfl) (by kernel_rfl) (fun _ _ _ h => h) (by rfl) (by assumption) ?_ ?_
      rotate_left
      · intro w hSw; (try dsimp only at hSw); go_simp; (try with_reducible rfl)
      try simp only [Act.put, List.setIfInBounds_toArray, List.set_cons_zero, List.set_cons_succ]
      refine wpAnyH_done (by kernel_rfl) ?_ _
      all_goals go_wp2_with fail
      all_goals go_meet
      all_goals exact ⟨by rw [HT.out], K⟩
    · have HV := Lib.hid v1
      have HV2 := Lib.hid v2
      clear v1 v2
      have gv3 : decide (bestV s z v z' v' 2 t < s.alim) = false := v3
      clear v3
      refine wp_region_held_drew (S := (fun w' => ((w'.cell? ⟨w.heap.size + 5, 0, none⟩ = some (.slice a n c) ∧ w'.cell? ⟨w.heap.size + 5, 1, none⟩ = some (.int .i64 s.alim) ∧ w'.cell? ⟨w.heap.size + 5, 2, none⟩ = some (.int .i64 s.d) ∧ w'.cell? ⟨w.heap.size + 5, 3, none⟩ = some (.int .i64 s.pl) ∧ w'.cell? ⟨w.heap.size + 5, 4, none⟩ = some (.int .i64 z) ∧ w'.cell? ⟨w.heap.size + 5, 5, none⟩ = some (.int .i64 v) ∧ w'.cell? ⟨w.heap.size + 5, 6, none⟩ = some (.int .i64 z') ∧ w'.cell? ⟨w.heap.size + 5, 7, none⟩ = some (.int .i64 v') ∧ w'.cell? ⟨w.heap.size + 5, 8, none⟩ = some (.int .i64 t) ∧ w'.cell? ⟨w.heap.size + 5, 9, none⟩ = some (.int .i64 fl) ∧ w'.cell? ⟨w.heap.size + 5, 10, none⟩ = some (.int .u8 k)) ∧ w'.cell? ⟨w.heap.size + 1, 4, none⟩ = some (.bool false)))) (by kernel_rfl) (by (try dsimp only); (exact ⟨eleven K.1.2.2.1, by rw [← HV.out]; exact (five_cells K.1.1).2.2.2.2⟩)) (fun hHeld => ?_)
      refine MyHeld.take 0 (v := ?_) .z (by kernel_rfl) (by kernel_rfl) (by kernel_rfl) (fun _ _ _ h => h) (by rfl) (by assumption) ?_ ?_
      rotate_left
      · intro w hSw; (try dsimp only at hSw); go_simp; (try with_reducible rfl)
      try simp only [Act.put, List.setIfInBounds_toArray, List.set_cons_zero, List.set_cons_succ]
      refine MyHeld.take 1 (v := ?_) (.s .z) (by kernel_rfl) (by kernel_rfl) (by kernel_rfl) (fun _ _ _ h => h) (by rfl) (by assumption) ?_ ?_
      rotate_left
      · intro w hSw; (try dsimp only at hSw); go_simp; (try with_reducible rfl)
      try simp only [Act.put, List.setIfInBounds_toArray, List.set_cons_zero, List.set_cons_succ]
      refine MyHeld.take 2 (v := ?_) (.s (.s .z)) (by kernel_rfl) (by kernel_rfl) (by kernel_rfl) (fun _ _ _ h => h) (by rfl) (by assumption) ?_ ?_
      rotate_left
      · intro w hSw; (try dsimp only at hSw); go_simp; (try with_reducible rfl)
      try simp only [Act.put, List.setIfInBounds_toArray, List.set_cons_zero, List.set_cons_succ]
      refine MyHeld.take 3 (v := ?_) (.s (.s (.s .z))) (by kernel_rfl) (by kernel_rfl) (by kernel_rfl) (fun _ _ _ h => h) (by rfl) (by assumption) ?_ ?_
      rotate_left
      · intro w hSw; (try dsimp only at hSw); go_simp; (try with_reducible rfl)
      try simp only [Act.put, List.setIfInBounds_toArray, List.set_cons_zero, List.set_cons_succ]
      refine MyHeld.take 4 (v := ?_) (.s (.s (.s (.s .z)))) (by kernel_rfl) (by kernel_rfl) (by kernel_rfl) (fun _ _ _ h => h) (by rfl) (by assumption) ?_ ?_
      rotate_left
      · intro w hSw; (try dsimp only at hSw); go_simp; (try with_reducible rfl)
      try simp only [Act.put, List.setIfInBounds_toArray, List.set_cons_zero, List.set_cons_succ]
      refine MyHeld.take 5 (v := ?_) (.s (.s (.s (.s (.s .z))))) (by kernel_rfl) (by kernel_rfl) (by kernel_rfl) (fun _ _ _ h => h) (by rfl) (by assumption) ?_ ?_
      rotate_left
      · intro w hSw; (try dsimp only at hSw); go_simp; (try with_reducible rfl)
      try simp only [Act.put, List.setIfInBounds_toArray, List.set_cons_zero, List.set_cons_succ]
      refine wpAnyH_ready (rs := [6]) (by kernel_rfl) (by simp) ?_
      refine (MyHeld.next 6 (.s (.s (.s (.s (.s (.s .z)))))) (fun Kq hKq => ?_) AllReadyH.nil)
      go_simp
      (go_at_call 47; refine (allowed_call a n c s z v z' v' t fl k 1 _).mono ?_; rintro e w3 ⟨rfl, hb3⟩; rw [show alwB z fl k 1 = true from HV2.out]; replace K := K.keep hb3; clear hb3)
      go_wp2_with fail
      refine hKq.out _ _ (by (try dsimp only); (exact ⟨eleven K.1.2.2.1, by rw [← HV.out]; exact (five_cells K.1.1).2.2.2.2⟩)) (fun hHeld' => ?_)
      clear hKq Kq hHeld; have hHeld := hHeld'; clear hHeld'
      try simp only [Act.put, List.setIfInBounds_toArray, List.set_cons_zero, List.set_cons_succ]
      refine MyHeld.take 7 (v := ?_) (.s (.s (.s (.s (.s (.s (.s .z))))))) (by kernel_rfl) (by kernel_rfl) (by kernel_rfl) (fun _ _ _ h => h) (by rfl) (by assumption) ?_ ?_
      rotate_left
      · intro w hSw; (try dsimp only at hSw); go_simp; (try with_reducible rfl)
      try simp only [Act.put, List.setIfInBounds_toArray, List.set_cons_zero, List.set_cons_succ]
      refine MyHeld.take 8 (v := ?_) (.s (.s (.s (.s (.s (.s (.s (.s .z)))))))) (by kernel_rfl) (by kernel_rfl) (by kernel_rfl) (fun _ _ _ h => h) (by rfl) (by assumption) ?_ ?_
      rotate_left
      · intro w hSw; (try dsimp only at hSw); go_simp; (try with_reducible rfl)
      try simp only [Act.put, List.setIfInBounds_toArray, List.set_cons_zero, List.set_cons_succ]
      refine MyHeld.take 9 (v := ?_) (.s (.s (.s (.s (.s (.s (.s (.s (.s .z))))))))) (by kernel_rfl) (by kernel_rfl) (by kernel_rfl) (fun _ _ _ h => h) (by rfl) (by assumption) ?_ ?_
      rotate_left
      · intro w hSw; (try dsimp only at hSw); go_simp; (try with_reducible rfl)
      try simp only [Act.put, List.setIfInBounds_toArray, List.set_cons_zero, List.set_cons_succ]
      refine MyHeld.take 10 (v := ?_) (.s (.s (.s (.s (.s (.s (.s (.s (.s (.s .z)))))))))) (by kernel_rfl) (by kernel_rfl) (by kernel_rfl) (fun _ _ _ h => h) (by rfl) (by assumption) ?_ ?_
      rotate_left
      · intro w hSw; (try dsimp only at hSw); go_simp; (try with_reducible rfl)
      try simp only [Act.put, List.setIfInBounds_toArray, List.set_cons_zero, List.set_cons_succ]
      refine MyHeld.take 11 (v := ?_) (.s (.s (.s (.s (.s (.s (.s (.s (.s (.s (.s .z))))))))))) (by kernel_rfl) (by kernel_rfl) (by kernel_rfl) (fun _ _ _ h => h) (by rfl) (by assumption) ?_ ?_
      rotate_left
      · intro w hSw; (try dsimp only at hSw); go_simp; (try with_reducible rfl)
      try simp only [Act.put, List.setIfInBounds_toArray, List.set_cons_zero, List.set_cons_succ]
      refine MyHeld.take 12 (v := ?_) (.s (.s (.s (.s (.s (.s (.s (.s (.s (.s (.s (.s .z)))))))))))) (by kernel_rfl) (by kernel_rfl) (by kernel_rfl) (fun _ _ _ h => h) (by rfl) (by assumption) ?_ ?_
      rotate_left
      · intro w hSw; (try dsimp only at hSw); go_simp; (try with_reducible rfl)
      try simp only [Act.put, List.setIfInBounds_toArray, List.set_cons_zero, List.set_cons_succ]
      refine MyHeld.take 13 (v := ?_) (.s (.s (.s (.s (.s (.s (.s (.s (.s (.s (.s (.s (.s .z))))))))))))) (by kernel_rfl) (by kernel_rfl) (by kernel_rfl) (fun _ _ _ h => h) (by rfl) (by assumption) ?_ ?_
      rotate_left
      · intro w hSw; (try dsimp only at hSw); go_simp; (try with_reducible rfl)
      try simp only [Act.put, List.setIfInBounds_toArray, List.set_cons_zero, List.set_cons_succ]
      refine MyHeld.take 14 (v := ?_) (.s (.s (.s (.s (.s (.s (.s (.s (.s (.s (.s (.s (.s (.s .z)))))))))))))) (by kernel_rfl) (by kernel_rfl) (by kernel_rfl) (fun _ _ _ h => h) (by rfl) (by assumption) ?_ ?_
      rotate_left
      · intro w hSw; (try dsimp only at hSw); go_simp; (try with_reducible rfl)
      try simp only [Act.put, List.setIfInBounds_toArray, List.set_cons_zero, List.set_cons_succ]
      refine MyHeld.take 15 (v := ?_) (.s (.s (.s (.s (.s (.s (.s (.s (.s (.s (.s (.s (.s (.s (.s .z))))))))))))))) (by kernel_rfl) (by kernel_rfl) (by kernel_rfl) (fun _ _ _ h => h) (by rfl) (by assumption) ?_ ?_
      rotate_left
      · intro w hSw; (try dsimp only at hSw); go_simp; (try with_reducible rfl)
      try simp only [Act.put, List.setIfInBounds_toArray, List.set_cons_zero, List.set_cons_succ]
      refine MyHeld.skip 16 (.s (.s (.s (.s (.s (.s (.s (.s (.s (.s (.s (.s (.s (.s (.s (.s .z)))))))))))))))) (by kernel_rfl) (by kernel_rfl) (by kernel_rfl) (fun _ _ _ h => h) (by rfl) (by assumption) ?_
      try simp only [Act.put, List.setIfInBounds_toArray, List.set_cons_zero, List.set_cons_succ]
      refine MyHeld.skip 17 (.s (.s (.s (.s (.s (.s (.s (.s (.s (.s (.s (.s (.s (.s (.s (.s (.s .z))))))))))))))))) (by kernel_rfl) (by kernel_rfl) (by kernel_rfl) (fun _ _ _ h => h) (by rfl) (by assumption) ?_
      try simp only [Act.put, List.setIfInBounds_toArray, List.set_cons_zero, List.set_cons_succ]
      refine MyHeld.skip 18 (.s (.s (.s (.s (.s (.s (.s (.s (.s (.s (.s (.s (.s (.s (.s (.s (.s (.s .z)))))))))))))))))) (by kernel_rfl) (by kernel_rfl) (by kernel_rfl) (fun _ _ _ h => h) (by rfl) (by assumption) ?_
      try simp only [Act.put, List.setIfInBounds_toArray, List.set_cons_zero, List.set_cons_succ]
      refine MyHeld.skip 19 (.s (.s (.s (.s (.s (.s (.s (.s (.s (.s (.s (.s (.s (.s (.s (.s (.s (.s (.s .z))))))))))))))))))) (by kernel_rfl) (by kernel_rfl) (by kernel_rfl) (fun _ _ _ h => h) (by rfl) (by assumption) ?_
      try simp only [Act.put, List.setIfInBounds_toArray, List.set_cons_zero, List.set_cons_succ]
      refine MyHeld.skip 20 (.s (.s (.s (.s (.s (.s (.s (.s (.s (.s (.s (.s (.s (.s (.s (.s (.s (.s (.s (.s .z)))))))))))))))))))) (by kernel_rfl) (by kernel_rfl) (by kernel_rfl) (fun _ _ _ h => h) (by rfl) (by assumption) ?_
      try simp only [Act.put, List.setIfInBounds_toArray, List.set_cons_zero, List.set_cons_succ]
      refine MyHeld.skip 21 (.s (.s (.s (.s (.s (.s (.s (.s (.s (.s (.s (.s (.s (.s (.s (.s (.s (.s (.s (.s (.s .z))))))))))))))))))))) (by kernel_rfl) (by kernel_rfl) (by kernel_rfl) (fun _ _ _ h => h) (by rfl) (by assumption) ?_
      try simp only [Act.put, List.setIfInBounds_toArray, List.set_cons_zero, List.set_cons_succ]
      refine MyHeld.skip 22 (.s (.s (.s (.s (.s (.s (.s (.s (.s (.s (.s (.s (.s (.s (.s (.s (.s (.s (.s (.s (.s (.s .z)))))))))))))))))))))) (by kernel_rfl) (by kernel_rfl) (by kernel_rfl) (fun _ _ _ h => h) (by rfl) (by assumption) ?_
      try simp only [Act.put, List.setIfInBounds_toArray, List.set_cons_zero, List.set_cons_succ]
      refine MyHeld.skip 23 (.s (.s (.s (.s (.s (.s (.s (.s (.s (.s (.s (.s (.s (.s (.s (.s (.s (.s (.s (.s (.s (.s (.s .z))))))))))))))))))))))) (by kernel_rfl) (by kernel_rfl) (by kernel_rfl) (fun _ _ _ h => h) (by rfl) (by assumption) ?_
      try simp only [Act.put, List.setIfInBounds_toArray, List.set_cons_zero, List.set_cons_succ]
      refine MyHeld.skip 24 (.s (.s (.s (.s (.s (.s (.s (.s (.s (.s (.s (.s (.s (.s (.s (.s (.s (.s (.s (.s (.s (.s (.s (.s .z)))))))))))))))))))))))) (by kernel_rfl) (by kernel_rfl) (by kernel_rfl) (fun _ _ _ h => h) (by rfl) (by assumption) ?_
      try simp only [Act.put, List.setIfInBounds_toArray, List.set_cons_zero, List.set_cons_succ]
      refine MyHeld.take 25 (v := ?_) (.s (.s (.s (.s (.s (.s (.s (.s (.s (.s (.s (.s (.s (.s (.s (.s (.s (.s (.s (.s (.s (.s (.s (.s (.s .z))))))))))))))))))))))))) (by kernel_rfl) (by kernel_rfl) (by kernel_rfl) (fun _ _ _ h => h) (by rfl) (by assumption) ?_ ?_
      rotate_left
      · intro w hSw; (try dsimp only at hSw); go_simp; (try with_reducible rfl)
      try simp only [Act.put, List.setIfInBounds_toArray, List.set_cons_zero, List.set_cons_succ]
      refine wpAnyH_done (by kernel_rfl) ?_ _
      all_goals go_wp2_with fail
      all_goals go_meet
      all_goals exact ⟨by rw [HT.out], K⟩
    · have HV := Lib.hid v1
      have HV2 := Lib.hid v2
      clear v1 v2
      have gv3 : decide (bestV s z v z' v' 2 t < s.alim) = true := v3
      have gv4 : decide (bestV s z v z' v' 2 t + s.alim ≤ bestV s z v z' v' 1 t) = false := v4
      clear v3 v4
      refine wp_region_held_drew (S := (fun w' => ((w'.cell? ⟨w.heap.size + 5, 0, none⟩ = some (.slice a n c) ∧ w'.cell? ⟨w.heap.size + 5, 1, none⟩ = some (.int .i64 s.alim) ∧ w'.cell? ⟨w.heap.size + 5, 2, none⟩ = some (.int .i64 s.d) ∧ w'.cell? ⟨w.heap.size + 5, 3, none⟩ = some (.int .i64 s.pl) ∧ w'.cell? ⟨w.heap.size + 5, 4, none⟩ = some (.int .i64 z) ∧ w'.cell? ⟨w.heap.size + 5, 5, none⟩ = some (.int .i64 v) ∧ w'.cell? ⟨w.heap.size + 5, 6, none⟩ = some (.int .i64 z') ∧ w'.cell? ⟨w.heap.size + 5, 7, none⟩ = some (.int .i64 v') ∧ w'.cell? ⟨w.heap.size + 5, 8, none⟩ = some (.int .i64 t) ∧ w'.cell? ⟨w.heap.size + 5, 9, none⟩ = some (.int .i64 fl) ∧ w'.cell? ⟨w.heap.size + 5, 10, none⟩ = some (.int .u8 k)) ∧ w'.cell? ⟨w.heap.size + 1, 4, none⟩ = some (.bool false)))) (by kernel_rfl) (by (try dsimp only); (exact ⟨eleven K.1.2.2.1, by rw [← HV.out]; exact (five_cells K.1.1).2.2.2.2⟩)) (fun hHeld => ?_)
      refine MyHeld.take 0 (v := ?_) .z (by kernel_rfl) (by kernel_rfl) (by kernel_rfl) (fun _ _ _ h => h) (by rfl) (by assumption) ?_ ?_
      rotate_left
      · intro w hSw; (try dsimp only at hSw); go_simp; (try with_reducible rfl)
      try simp only [Act.put, List.setIfInBounds_toArray, List.set_cons_zero, List.set_cons_succ]
      refine MyHeld.take 1 (v := ?_) (.s .z) (by kernel_rfl) (by kernel_rfl) (by kernel_rfl) (fun _ _ _ h => h) (by rfl) (by assumption) ?_ ?_
      rotate_left
      · intro w hSw; (try dsimp only at hSw); go_simp; (try with_reducible rfl)
      try simp only [Act.put, List.setIfInBounds_toArray, List.set_cons_zero, List.set_cons_succ]
      refine MyHeld.take 2 (v := ?_) (.s (.s .z)) (by kernel_rfl) (by kernel_rfl) (by kernel_rfl) (fun _ _ _ h => h) (by rfl) (by assumption) ?_ ?_
      rotate_left
      · intro w hSw; (try dsimp only at hSw); go_simp; (try with_reducible rfl)
      try simp only [Act.put, List.setIfInBounds_toArray, List.set_cons_zero, List.set_cons_succ]
      refine MyHeld.take 3 (v := ?_) (.s (.s (.s .z))) (by kernel_rfl) (by kernel_rfl) (by kernel_rfl) (fun _ _ _ h => h) (by rfl) (by assumption) ?_ ?_
      rotate_left
      · intro w hSw; (try dsimp only at hSw); go_simp; (try with_reducible rfl)
      try simp only [Act.put, List.setIfInBounds_toArray, List.set_cons_zero, List.set_cons_succ]
      refine MyHeld.take 4 (v := ?_) (.s (.s (.s (.s .z)))) (by kernel_rfl) (by kernel_rfl) (by kernel_rfl) (fun _ _ _ h => h) (by rfl) (by assumption) ?_ ?_
      rotate_left
      · intro w hSw; (try dsimp only at hSw); go_simp; (try with_reducible rfl)
      try simp only [Act.put, List.setIfInBounds_toArray, List.set_cons_zero, List.set_cons_succ]
      refine MyHeld.take 5 (v := ?_) (.s (.s (.s (.s (.s .z))))) (by kernel_rfl) (by kernel_rfl) (by kernel_rfl) (fun _ _ _ h => h) (by rfl) (by assumption) ?_ ?_
      rotate_left
      · intro w hSw; (try dsimp only at hSw); go_simp; (try with_reducible rfl)
      try simp only [Act.put, List.setIfInBounds_toArray, List.set_cons_zero, List.set_cons_succ]
      refine wpAnyH_ready (rs := [6]) (by kernel_rfl) (by simp) ?_
      refine (MyHeld.next 6 (.s (.s (.s (.s (.s (.s .z)))))) (fun Kq hKq => ?_) AllReadyH.nil)
      go_simp
      (go_at_call 47; refine (allowed_call a n c s z v z' v' t fl k 1 _).mono ?_; rintro e w3 ⟨rfl, hb3⟩; rw [show alwB z fl k 1 = true from HV2.out]; replace K := K.keep hb3; clear hb3)
      go_wp2_with fail
      refine hKq.out _ _ (by (try dsimp only); (exact ⟨eleven K.1.2.2.1, by rw [← HV.out]; exact (five_cells K.1.1).2.2.2.2⟩)) (fun hHeld' => ?_)
      clear hKq Kq hHeld; have hHeld := hHeld'; clear hHeld'
      try simp only [Act.put, List.setIfInBounds_toArray, List.set_cons_zero, List.set_cons_succ]
      refine MyHeld.take 7 (v := ?_) (.s (.s (.s (.s (.s (.s (.s .z))))))) (by kernel_rfl) (by kernel_rfl) (by kernel_rfl) (fun _ _ _ h => h) (by rfl) (by assumption) ?_ ?_
      rotate_left
      · intro w hSw; (try dsimp only at hSw); go_simp; (try with_reducible rfl)
      try simp only [Act.put, List.setIfInBounds_toArray, List.set_cons_zero, List.set_cons_succ]
      refine MyHeld.take 8 (v := ?_) (.s (.s (.s (.s (.s (.s (.s (.s .z)))))))) (by kernel_rfl) (by kernel_rfl) (by kernel_rfl) (fun _ _ _ h => h) (by rfl) (by assumption) ?_ ?_
      rotate_left
      · intro w hSw; (try dsimp only at hSw); go_simp; (try with_reducible rfl)
      try simp only [Act.put, List.setIfInBounds_toArray, List.set_cons_zero, List.set_cons_succ]
      refine MyHeld.take 9 (v := ?_) (.s (.s (.s (.s (.s (.s (.s (.s (.s .z))))))))) (by kernel_rfl) (by kernel_rfl) (by kernel_rfl) (fun _ _ _ h => h) (by rfl) (by assumption) ?_ ?_
      rotate_left
      · intro w hSw; (try dsimp only at hSw); go_simp; (try with_reducible rfl)
      try simp only [Act.put, List.setIfInBounds_toArray, List.set_cons_zero, List.set_cons_succ]
      refine MyHeld.take 10 (v := ?_) (.s (.s (.s (.s (.s (.s (.s (.s (.s (.s .z)))))))))) (by kernel_rfl) (by kernel_rfl) (by kernel_rfl) (fun _ _ _ h => h) (by rfl) (by assumption) ?_ ?_
      rotate_left
      · intro w hSw; (try dsimp only at hSw); go_simp; (try with_reducible rfl)
      try simp only [Act.put, List.setIfInBounds_toArray, List.set_cons_zero, List.set_cons_succ]
      refine MyHeld.take 11 (v := ?_) (.s (.s (.s (.s (.s (.s (.s (.s (.s (.s (.s .z))))))))))) (by kernel_rfl) (by kernel_rfl) (by kernel_rfl) (fun _ _ _ h => h) (by rfl) (by assumption) ?_ ?_
      rotate_left
      · intro w hSw; (try dsimp only at hSw); go_simp; (try with_reducible rfl)
      try simp only [Act.put, List.setIfInBounds_toArray, List.set_cons_zero, List.set_cons_succ]
      refine MyHeld.take 12 (v := ?_) (.s (.s (.s (.s (.s (.s (.s (.s (.s (.s (.s (.s .z)))))))))))) (by kernel_rfl) (by kernel_rfl) (by kernel_rfl) (fun _ _ _ h => h) (by rfl) (by assumption) ?_ ?_
      rotate_left
      · intro w hSw; (try dsimp only at hSw); go_simp; (try with_reducible rfl)
      try simp only [Act.put, List.setIfInBounds_toArray, List.set_cons_zero, List.set_cons_succ]
      refine MyHeld.take 13 (v := ?_) (.s (.s (.s (.s (.s (.s (.s (.s (.s (.s (.s (.s (.s .z))))))))))))) (by kernel_rfl) (by kernel_rfl) (by kernel_rfl) (fun _ _ _ h => h) (by rfl) (by assumption) ?_ ?_
      rotate_left
      · intro w hSw; (try dsimp only at hSw); go_simp; (try with_reducible rfl)
      try simp only [Act.put, List.setIfInBounds_toArray, List.set_cons_zero, List.set_cons_succ]
      refine MyHeld.take 14 (v := ?_) (.s (.s (.s (.s (.s (.s (.s (.s (.s (.s (.s (.s (.s (.s .z)))))))))))))) (by kernel_rfl) (by kernel_rfl) (by kernel_rfl) (fun _ _ _ h => h) (by rfl) (by assumption) ?_ ?_
      rotate_left
      · intro w hSw; (try dsimp only at hSw); go_simp; (try with_reducible rfl)
      try simp only [Act.put, List.setIfInBounds_toArray, List.set_cons_zero, List.set_cons_succ]
      refine MyHeld.take 15 (v := ?_) (.s (.s (.s (.s (.s (.s (.s (.s (.s (.s (.s (.s (.s (.s (.s .z))))))))))))))) (by kernel_rfl) (by kernel_rfl) (by kernel_rfl) (fun _ _ _ h => h) (by rfl) (by assumption) ?_ ?_
      rotate_left
      · intro w hSw; (try dsimp only at hSw); go_simp; (try with_reducible rfl)
      try simp only [Act.put, List.setIfInBounds_toArray, List.set_cons_zero, List.set_cons_succ]
      refine MyHeld.take 16 (v := ?_) (.s (.s (.s (.s (.s (.s (.s (.s (.s (.s (.s (.s (.s (.s (.s (.s .z)))))))))))))))) (by kernel_rfl) (by kernel_rfl) (by kernel_rfl) (fun _ _ _ h => h) (by rfl) (by assumption) ?_ ?_
      rotate_left
      · intro w hSw; (try dsimp only at hSw); go_simp; (try with_reducible rfl)
      try simp only [Act.put, List.setIfInBounds_toArray, List.set_cons_zero, List.set_cons_succ]
      refine MyHeld.take 17 (v := ?_) (.s (.s (.s (.s (.s (.s (.s (.s (.s (.s (.s (.s (.s (.s (.s (.s (.s .z))))))))))))))))) (by kernel_rfl) (by kernel_rfl) (by kernel_rfl) (fun _ _ _ h => h) (by rfl) (by assumption) ?_ ?_
      rotate_left
      · intro w hSw; (try dsimp only at hSw); go_simp; (try with_reducible rfl)
      try simp only [Act.put, List.setIfInBounds_toArray, List.set_cons_zero, List.set_cons_succ]
      refine MyHeld.take 19 (v := ?_) (.s (.s (.s (.s (.s (.s (.s (.s (.s (.s (.s (.s (.s (.s (.s (.s (.s (.s (.s .z))))))))))))))))))) (by kernel_rfl) (by kernel_rfl) (by kernel_rfl) (fun _ _ _ h => h) (by rfl) (by assumption) ?_ ?_
      rotate_left
      · intro w hSw; (try dsimp only at hSw); go_simp; (try with_reducible rfl)
      try simp only [Act.put, List.setIfInBounds_toArray, List.set_cons_zero, List.set_cons_succ]
      refine MyHeld.take 20 (v := ?_) (.s (.s (.s (.s (.s (.s (.s (.s (.s (.s (.s (.s (.s (.s (.s (.s (.s (.s (.s (.s .z)))))))))))))))))))) (by kernel_rfl) (by kernel_rfl) (by kernel_rfl) (fun _ _ _ h => h) (by rfl) (by assumption) ?_ ?_
      rotate_left
      · intro w hSw; (try dsimp only at hSw); go_simp; (try with_reducible rfl)
      try simp only [Act.put, List.setIfInBounds_toArray, List.set_cons_zero, List.set_cons_succ]
      refine MyHeld.take 21 (v := ?_) (.s (.s (.s (.s (.s (.s (.s (.s (.s (.s (.s (.s (.s (.s (.s (.s (.s (.s (.s (.s (.s .z))))))))))))))))))))) (by kernel_rfl) (by kernel_rfl) (by kernel_rfl) (fun _ _ _ h => h) (by rfl) (by assumption) ?_ ?_
      rotate_left
      · intro w hSw; (try dsimp only at hSw); go_simp; (try with_reducible rfl)
      try simp only [Act.put, List.setIfInBounds_toArray, List.set_cons_zero, List.set_cons_succ]
      refine MyHeld.take 22 (v := ?_) (.s (.s (.s (.s (.s (.s (.s (.s (.s (.s (.s (.s (.s (.s (.s (.s (.s (.s (.s (.s (.s (.s .z)))))))))))))))))))))) (by kernel_rfl) (by kernel_rfl) (by kernel_rfl) (fun _ _ _ h => h) (by rfl) (by assumption) ?_ ?_
      rotate_left
      · intro w hSw; (try dsimp only at hSw); go_simp; (try with_reducible rfl)
      try simp only [Act.put, List.setIfInBounds_toArray, List.set_cons_zero, List.set_cons_succ]
      refine MyHeld.take 23 (v := ?_) (.s (.s (.s (.s (.s (.s (.s (.s (.s (.s (.s (.s (.s (.s (.s (.s (.s (.s (.s (.s (.s (.s (.s .z))))))))))))))))))))))) (by kernel_rfl) (by kernel_rfl) (by kernel_rfl) (fun _ _ _ h => h) (by rfl) (by assumption) ?_ ?_
      rotate_left
      · intro w hSw; (try dsimp only at hSw); go_simp; (try with_reducible rfl)
      try simp only [Act.put, List.setIfInBounds_toArray, List.set_cons_zero, List.set_cons_succ]
      refine wpAnyH_ready (rs := [18]) (by kernel_rfl) (by simp) ?_
      refine (MyHeld.next 18 (.s (.s (.s (.s (.s (.s (.s (.s (.s (.s (.s (.s (.s (.s (.s (.s (.s (.s .z)))))))))))))))))) (fun Kq hKq => ?_) AllReadyH.nil)
      go_simp
      (go_at_call 49; refine (best_call a n c s z v z' v' t fl k 1 _ (HL.out.below K.1.2.2.2) HO.out (by decide)).mono ?_; rintro e w3 ⟨rfl, hb3⟩; replace K := K.keep hb3; clear hb3)
      go_wp2_with fail
      refine hKq.out _ _ (by (try dsimp only); (exact ⟨eleven K.1.2.2.1, by rw [← HV.out]; exact (five_cells K.1.1).2.2.2.2⟩)) (fun hHeld' => ?_)
      clear hKq Kq hHeld; have hHeld := hHeld'; clear hHeld'
      try simp only [Act.put, List.setIfInBounds_toArray, List.set_cons_zero, List.set_cons_succ]
      refine MyHeld.take 24 (v := ?_) (.s (.s (.s (.s (.s (.s (.s (.s (.s (.s (.s (.s (.s (.s (.s (.s (.s (.s (.s (.s (.s (.s (.s (.s .z)))))))))))))))))))))))) (by kernel_rfl) (by kernel_rfl) (by kernel_rfl) (fun _ _ _ h => h) (by rfl) (by assumption) ?_ ?_
      rotate_left
      · intro w hSw; (try dsimp only at hSw); go_simp; (try with_reducible rfl)
      try simp only [Act.put, List.setIfInBounds_toArray, List.set_cons_zero, List.set_cons_succ]
      refine MyHeld.take 25 (v := ?_) (.s (.s (.s (.s (.s (.s (.s (.s (.s (.s (.s (.s (.s (.s (.s (.s (.s (.s (.s (.s (.s (.s (.s (.s (.s .z))))))))))))))))))))))))) (by kernel_rfl) (by kernel_rfl) (by kernel_rfl) (fun _ _ _ h => h) (by rfl) (by assumption) ?_ ?_
      rotate_left
      · intro w hSw; (try dsimp only at hSw); go_simp; (try with_reducible rfl)
      try simp only [Act.put, List.setIfInBounds_toArray, List.set_cons_zero, List.set_cons_succ]
      refine wpAnyH_done (by kernel_rfl) ?_ _
      all_goals go_wp2_with fail
      all_goals go_meet
      all_goals exact ⟨by rw [HT.out], K⟩
  case rest =>
    clear hbS s0 s1 s2 s3 s4 n0 n1 n2 d0 d1 d2 d3 d4 q0 q1 q2 q3 q4 q5 q6 q7 q8 q9 qa hl1 hl4 hl5 hlN hlF hlX
    clear HLL
    obtain ⟨rfl, hL⟩ := hcut
    have HLL := Lib.hid hL
    clear hL
    rw [HT.out]
    obtain ⟨s0, s1, s2, s3, s4⟩ := five_cells HLL.out.1.1
    obtain ⟨n0, n1, n2⟩ := three_old' HLL.out.2.2.2.2.1
    obtain ⟨d0, d1, d2, d3, d4⟩ := five_cells HLL.out.2.2.2.2.2.2
    obtain ⟨q0, q1, q2, q3, q4, q5, q6, q7, q8, q9, qa⟩ := eleven HLL.out.1.2.2.1
    obtain ⟨hl1, hl4, hl5⟩ := HLL.out.1.lts
    obtain ⟨hlN, hlF, hlX⟩ := HLL.out.lts
    rw [show st.a.s = 2 from HG.out] at n0
    go_wp2_with fail
    refine ((enough_call a n c s z v z' v' t fl k 2 _ (HL.out.below HLL.out.1.2.2.2) HO.out (by decide))).mono ?_; rintro e w5 ⟨rfl, hb5⟩
    replace HLL := Lib.hid (HLL.out.keep hb5)
    clear hb5
    clear s0 s1 s2 s3 s4 n0 n1 n2 d0 d1 d2 d3 d4 q0 q1 q2 q3 q4 q5 q6 q7 q8 q9 qa hl1 hl4 hl5 hlN hlF hlX
    obtain ⟨s0, s1, s2, s3, s4⟩ := five_cells HLL.out.1.1
    obtain ⟨n0, n1, n2⟩ := three_old' HLL.out.2.2.2.2.1
    obtain ⟨d0, d1, d2, d3, d4⟩ := five_cells HLL.out.2.2.2.2.2.2
    obtain ⟨q0, q1, q2, q3, q4, q5, q6, q7, q8, q9, qa⟩ := eleven HLL.out.1.2.2.1
    obtain ⟨hl1, hl4, hl5⟩ := HLL.out.1.lts
    obtain ⟨hlN, hlF, hlX⟩ := HLL.out.lts
    rw [show st.a.s = 2 from HG.out] at n0
    have e0 : w5.frozen? ⟨bX, 0, none⟩ = false := free_of_block HLL.out.2.2.2.2.2.2
    have e1 : w5.frozen? ⟨bX, 1, none⟩ = false := free_of_block HLL.out.2.2.2.2.2.2
    have e2 : w5.frozen? ⟨bX, 2, none⟩ = false := free_of_block HLL.out.2.2.2.2.2.2
    go_upto_region 24 with fail
    have L := ((HLL.out.set 0 (.int .u8 (enA s z v z' v' 2 t).s)).set 1 (.int .i64 (enA s z v z' v' 2 t).r)).set 2 (.bool (enA s z v z' v' 2 t).k)
    replace L : NwL w (nstC st) (scnC a n c s z v z' v' t fl k) bN st.a bF Y bX #[.int .u8 (enA s z v z' v' 2 t).s, .int .i64 (enA s z v z' v' 2 t).r, .bool (enA s z v z' v' 2 t).k, .int .i64 0, .bool st.rv] _ := L
    generalize (((w5.setCell ⟨bX, 0, none⟩ (.int .u8 (enA s z v z' v' 2 t).s)).setCell ⟨bX, 1, none⟩ (.int .i64 (enA s z v z' v' 2 t).r)).setCell ⟨bX, 2, none⟩ (.bool (enA s z v z' v' 2 t).k)) = w6 at *
    clear HLL e0 e1 e2
    have HLL := Lib.hid L
    clear L
    obtain ⟨s0, s1, s2, s3, s4⟩ := five_cells HLL.out.1.1
    obtain ⟨n0, n1, n2⟩ := three_old' HLL.out.2.2.2.2.1
    obtain ⟨d0, d1, d2, d3, d4⟩ := five_cells HLL.out.2.2.2.2.2.2
    obtain ⟨q0, q1, q2, q3, q4, q5, q6, q7, q8, q9, qa⟩ := eleven HLL.out.1.2.2.1
    obtain ⟨hl1, hl4, hl5⟩ := HLL.out.1.lts
    obtain ⟨hlN, hlF, hlX⟩ := HLL.out.lts
    rw [show st.a.s = 2 from HG.out] at n0
    obtain ⟨_, v1, v2⟩ := HH.out
    have hage : IntKind.i64.wrap (st.age + 1) = st.age + 1 := IntWalk.i64_in _ (by omega)
    have V := Lib.hid v1
    have g1 : ((enA s z v z' v' 2 t).r == st.a.r) = false := v1
    clear v1
    rcases v2 with v2 | ⟨v2, v3⟩
    all_goals
      go_wp2_with (refine wpList_store_new rfl 57 (.tmp 14) (.tmp 158) rfl (w.heap.size + 4) #[.int .u8 (enA s z v z' v' 2 t).s, .int .i64 (enA s z v z' v' 2 t).r, .bool (enA s z v z' v' 2 t).k, .int .i64 0, .bool st.rv] rfl rfl 57 _ HLL.out.1.2.1 (by kernel_rfl) rfl (by simp [Value.oneCell']) ?_; intro w9 H9)
      try rw [Exit.noGoto_ret]
      refine bodyPost_ret (v := .tuple #[nstV ⟨enA s z v z' v' 2 t, 0, st.rv⟩, .int .i64 0]) ?_ rfl (nxPost_of ⟨(nx_ok HE.out HBn.out HA0.out HC.out).1, (nx_ok HE.out HBn.out HA0.out HC.out).2.trans (by rw [nxA_same HNZ.out (by rw [HG.out]; exact HW.out) (by rw [HG.out]; exact HT.out) (by rw [HG.out]; exact HH.out.1), HG.out])⟩ (HLL.out.1.done H9.out.2))
      obtain ⟨r0, r1, r2, r3, r4⟩ := five_cells H9.out.1
      simp [results, Try.f26, go_sem, r0, r1, r2, r3, r4, nstV]

set_option maxRecDepth 100000 in
set_option maxHeartbeats 8000000 in
theorem pNext_hold2 (a : Option Addr) (n c : Nat) (s : RulesMath.Set) (z v z' v' t fl k : Int) (st : NSt) (w : World) (h : Ints w a n s.rs) (hs : 0 ≤ st.a.s) (hE : whlE s z v z' v' t k = 0) (hB : bndE st.a = 0) (hA0 : ¬ st.age < 0) (hA : ¬ 1000 < st.age) (hC : chE s z v z' v' t fl k = 0) (hg : st.a.s = 2) (hw : alwB z fl k 2 = true) (hT : turnB s z v z' v' t fl k st 2 = false) (hH : holdB st (enA s z v z' v' 2 t) = true) :
    Calls Try.prog 26 #[setV a n c s, nstV st, .agg #[.int .i64 z, .int .i64 v], .agg #[.int .i64 z', .int .i64 v'], .int .i64 t, .int .i64 fl, .int .u8 k] w (NxPost s z v z' v' t fl k st w) := by
  have HL := Lib.hid h
  have HS := Lib.hid hs
  have HE := Lib.hid hE
  have HBn := Lib.hid hB
  have HO := Lib.hid (scOk_of (whlE_zero hE).1 ⟨(whlE_zero hE).2.1, (whlE_zero hE).2.2.1⟩)
  have HC := Lib.hid hC
  have HG := Lib.hid hg
  have HNZ := Lib.hid (show st.a.s ≠ 0 from by rw [hg]; decide)
  have HA0 := Lib.hid (show ¬ (st.age < 0 ∨ 1000 < st.age) from by omega)
  have age0 : 0 ≤ st.age := by omega
  have age1 : st.age ≤ 1000 := by omega
  have HW := Lib.hid hw
  have HT := Lib.hid hT
  have HH := Lib.hid ((hold_cases (st := st) (enA s z v z' v' 2 t)).resolve_right (fun h => by rw [hH] at h; cases h.1))
  have HQ := Lib.hid (((turn_cases (s := s) (z := z) (v := v) (z' := z') (v' := v') (t := t) (fl := fl) (k := k) (st := st) 2).resolve_left (fun h => by rw [hT] at h; cases h.1)).2)
  clear hE hs hB hC hA0 hA hg hw hT hH
  clear h
  unfold setV nstV
  go_enter Try.func26, Try.ntmps26
  go_wp2_with fail
  go_step3
  go_upto_region 1 with fail
  have K0 : Nw0 w (setC a n c s) (nstC st) z v z' v' (((((w.alloc (.cells #[.slice a n c, .int .i64 s.alim, .int .i64 s.d, .int .i64 s.pl] 24)).alloc (.cells #[.int .u8 st.a.s, .int .i64 st.a.r, .bool st.a.k, .int .i64 st.age, .bool st.rv] 57)).alloc (.cells #[.int .i64 z, .int .i64 v] 26)).alloc (.cells #[.int .i64 z', .int .i64 v'] 26)).alloc (.cells #[.int .u8 0, .int .i64 0, .bool false, .int .i64 0, .bool false] 57)) :=
    ⟨block_alloc (block_alloc (block_alloc (block_alloc (block_new _ _ rfl)))), block_alloc (block_alloc (block_alloc (block_new _ _ (by simp)))), block_alloc (block_alloc (block_new _ _ (by simp))), block_alloc (block_new _ _ (by simp)), block_new _ _ (by simp), ((((below_alloc _ _).alloc (by simp) _).alloc (by simp; omega) _).alloc (by simp; omega) _).alloc (by simp; omega) _, by simp⟩
  generalize (((((w.alloc (.cells #[.slice a n c, .int .i64 s.alim, .int .i64 s.d, .int .i64 s.pl] 24)).alloc (.cells #[.int .u8 st.a.s, .int .i64 st.a.r, .bool st.a.k, .int .i64 st.age, .bool st.rv] 57)).alloc (.cells #[.int .i64 z, .int .i64 v] 26)).alloc (.cells #[.int .i64 z', .int .i64 v'] 26)).alloc (.cells #[.int .u8 0, .int .i64 0, .bool false, .int .i64 0, .bool false] 57)) = wq at *
  obtain ⟨s0, s1, s2, s3⟩ := four_cells K0.1
  obtain ⟨p0, p1, -, -⟩ := two_old K0.2.2.1
  obtain ⟨p2, p3, -, -⟩ := two_old K0.2.2.2.1
  have hsz := K0.2.2.2.2.2.2
  have KQ := Lib.hid K0
  clear K0
  go_wp2_with fail
  have K := Lib.hid (show NwK w (nstC st) (scnC a n c s z v z' v' t fl k) (wq.alloc (.cells (scnC a n c s z v z' v' t fl k) 76)) from KQ.out.scene)
  clear KQ s0 s1 s2 s3 p0 p1 p2 p3
  refine (whole_call a n c s z v z' v' t fl k _ (HL.out.below K.out.2.2.2)).mono ?_; rintro e w1 ⟨rfl, hb1⟩
  replace K := Lib.hid (K.out.keep hb1)
  clear hb1
  rw [HE.out]
  obtain ⟨s0, s1, s2, s3, s4⟩ := five_cells K.out.1
  obtain ⟨hl1, hl4, hl5⟩ := K.out.lts
  go_wp2_with fail
  have K2 := Lib.hid (And.intro (K.out.keep (below_alloc w1 (.cells #[.int .u8 st.a.s, .int .i64 st.a.r, .bool st.a.k] 30))) (And.intro hl5 (show (w1.alloc (.cells #[.int .u8 st.a.s, .int .i64 st.a.r, .bool st.a.k] 30)).heap[w1.heap.size]? = some (.cells #[.int .u8 st.a.s, .int .i64 st.a.r, .bool st.a.k] 30 (0, 0)) from block_new _ _ rfl)))
  refine (Bounds_call st.a _ HS.out).mono ?_; rintro e w2 ⟨rfl, hb2⟩
  have K3 := Lib.hid (And.intro (K2.out.1.keep hb2) (And.intro K2.out.2.1 (keepO hb2 K2.out.2.2)))
  clear hb2 K2 K s0 s1 s2 s3 s4 hl1 hl4 hl5
  have K := Lib.hid K3.out.1
  obtain ⟨s0, s1, s2, s3, s4⟩ := five_cells K.out.1
  obtain ⟨hl1, hl4, hl5⟩ := K.out.lts
  rw [HBn.out]
  obtain ⟨q0, q1, q2, q3, q4, q5, q6, q7, q8, q9, qa⟩ := eleven K.out.2.2.1
  go_wp2_with fail
  refine (pchoose_call a n c s z v z' v' t fl k _ (HL.out.below K.out.2.2.2) HO.out HE.out).mono ?_; rintro e w3 ⟨rfl, hb3⟩
  replace K := Lib.hid (K.out.keep hb3)
  have K4 := Lib.hid (And.intro K3.out.2.1 (keepO hb3 K3.out.2.2))
  clear hb3 K3 q0 q1 q2 q3 q4 q5 q6 q7 q8 q9 qa s0 s1 s2 s3 s4 hl1 hl4 hl5
  rw [HC.out]
  generalize hY : chR s z v z' v' t fl k = Y at *
  obtain ⟨s0, s1, s2, s3, s4⟩ := five_cells K.out.1
  obtain ⟨hl1, hl4, hl5⟩ := K.out.lts
  go_upto_region 15 with fail
  have L : NwL w (nstC st) (scnC a n c s z v z' v' t fl k) w1.heap.size st.a w3.heap.size Y (w3.heap.size + 1) #[.int .u8 0, .int .i64 0, .bool false, .int .i64 0, .bool st.rv] ((w3.alloc (.cells #[.int .u8 Y.s, .int .i64 Y.r, .bool Y.k] 30)).alloc (.cells #[.int .u8 0, .int .i64 0, .bool false, .int .i64 0, .bool st.rv] 57)) :=
    ⟨(K.out.keep (below_alloc _ _)).keep (below_alloc _ _), K4.out.1, by have := lt_of_block K4.out.2; omega, by omega, block_alloc (block_alloc K4.out.2), block_alloc (block_new _ _ rfl), block_new _ _ (by simp)⟩
  have HY := Lib.hid hY
  clear hY K K4 s0 s1 s2 s3 s4 hl1 hl4 hl5
  generalize hbN : w1.heap.size = bN at *
  generalize hbX : w3.heap.size + 1 = bX at *
  generalize hbF : w3.heap.size = bF at *
  generalize ((w3.alloc (.cells #[.int .u8 Y.s, .int .i64 Y.r, .bool Y.k] 30)).alloc (.cells #[.int .u8 0, .int .i64 0, .bool false, .int .i64 0, .bool st.rv] 57)) = w4 at *
  clear hbN hbX hbF
  obtain ⟨s0, s1, s2, s3, s4⟩ := five_cells L.1.1
  obtain ⟨n0, n1, n2⟩ := three_old' L.2.2.2.2.1
  obtain ⟨f0, f1, f2⟩ := three_old' L.2.2.2.2.2.1
  obtain ⟨d0, d1, d2, d3, d4⟩ := five_cells L.2.2.2.2.2.2
  obtain ⟨q0, q1, q2, q3, q4, q5, q6, q7, q8, q9, qa⟩ := eleven L.1.2.2.1
  obtain ⟨hl1, hl4, hl5⟩ := L.1.lts
  obtain ⟨hlN, hlF, hlX⟩ := L.lts
  rw [show st.a.s = 2 from HG.out] at n0
  have HLL := Lib.hid L
  clear L
  go_step3
  go_wp2_with fail
  refine wp_loop_rounds 1 ?_
  rw [rounds_succ]
  clear f0 f1 f2
  go_wp2_with fail
  refine (allowed_call a n c s z v z' v' t fl k 2 _).mono ?_; rintro e w5 ⟨rfl, hb5⟩
  replace HLL := Lib.hid (HLL.out.keep hb5)
  clear hb5
  rw [HW.out]
  clear s0 s1 s2 s3 s4 n0 n1 n2 d0 d1 d2 d3 d4 q0 q1 q2 q3 q4 q5 q6 q7 q8 q9 qa hl1 hl4 hl5 hlN hlF hlX
  obtain ⟨s0, s1, s2, s3, s4⟩ := five_cells HLL.out.1.1
  obtain ⟨n0, n1, n2⟩ := three_old' HLL.out.2.2.2.2.1
  obtain ⟨d0, d1, d2, d3, d4⟩ := five_cells HLL.out.2.2.2.2.2.2
  obtain ⟨q0, q1, q2, q3, q4, q5, q6, q7, q8, q9, qa⟩ := eleven HLL.out.1.2.2.1
  obtain ⟨hl1, hl4, hl5⟩ := HLL.out.1.lts
  obtain ⟨hlN, hlF, hlX⟩ := HLL.out.lts
  rw [show st.a.s = 2 from HG.out] at n0
  go_wp2_with fail
  refine (best_call a n c s z v z' v' t fl k 2 _ (HL.out.below HLL.out.1.2.2.2) HO.out (by decide)).mono ?_; rintro e w5 ⟨rfl, hb5⟩
  replace HLL := Lib.hid (HLL.out.keep hb5)
  clear hb5
  clear s0 s1 s2 s3 s4 n0 n1 n2 d0 d1 d2 d3 d4 q0 q1 q2 q3 q4 q5 q6 q7 q8 q9 qa hl1 hl4 hl5 hlN hlF hlX
  obtain ⟨s0, s1, s2, s3, s4⟩ := five_cells HLL.out.1.1
  obtain ⟨n0, n1, n2⟩ := three_old' HLL.out.2.2.2.2.1
  obtain ⟨d0, d1, d2, d3, d4⟩ := five_cells HLL.out.2.2.2.2.2.2
  obtain ⟨q0, q1, q2, q3, q4, q5, q6, q7, q8, q9, qa⟩ := eleven HLL.out.1.2.2.1
  obtain ⟨hl1, hl4, hl5⟩ := HLL.out.1.lts
  obtain ⟨hlN, hlF, hlX⟩ := HLL.out.lts
  rw [show st.a.s = 2 from HG.out] at n0
  have hbS := HO.out.bestBd (g := 2) (by decide)
  go_upto_region 21 with fail
  go_cut [121] (fun s121 wx => s121 = .bool (turnB s z v z' v' t fl k st 2) ∧ NwL w (nstC st) (scnC a n c s z v z' v' t fl k) bN st.a bF Y bX #[.int .u8 0, .int .i64 0, .bool false, .int .i64 0, .bool st.rv] wx)
  case first =>
    have K := HLL.out.keep ((Below.refl _ _).drew)
    clear HLL
    have hsum : IntKind.i64.wrap (bestV s z v z' v' 2 t + s.alim) = bestV s z v z' v' 2 t + s.alim := IntWalk.i64_in _ (by omega)
    clear hbS
    rcases HQ.out with v1 | ⟨v1, v2 | ⟨v2, v3 | ⟨v3, v4⟩⟩⟩
    · have HV := Lib.hid v1
      clear v1
      refine wp_region_held_drew (S := (fun w' => ((w'.cell? ⟨w.heap.size + 5, 0, none⟩ = some (.slice a n c) ∧ w'.cell? ⟨w.heap.size + 5, 1, none⟩ = some (.int .i64 s.alim) ∧ w'.cell? ⟨w.heap.size + 5, 2, none⟩ = some (.int .i64 s.d) ∧ w'.cell? ⟨w.heap.size + 5, 3, none⟩ = some (.int .i64 s.pl) ∧ w'.cell? ⟨w.heap.size + 5, 4, none⟩ = some (.int .i64 z) ∧ w'.cell? ⟨w.heap.size + 5, 5, none⟩ = some (.int .i64 v) ∧ w'.cell? ⟨w.heap.size + 5, 6, none⟩ = some (.int .i64 z') ∧ w'.cell? ⟨w.heap.size + 5, 7, none⟩ = some (.int .i64 v') ∧ w'.cell? ⟨w.heap.size + 5, 8, none⟩ = some (.int .i64 t) ∧ w'.cell? ⟨w.heap.size + 5, 9, none⟩ = some (.int .i64 fl) ∧ w'.cell? ⟨w.heap.size + 5, 10, none⟩ = some (.int .u8 k)) ∧ w'.cell? ⟨w.heap.size + 1, 4, none⟩ = some (.bool true)))) (by kernel_rfl) (by (try dsimp only); (exact ⟨eleven K.1.2.2.1, by rw [← HV.out]; exact (five_cells K.1.1).2.2.2.2⟩)) (fun hHeld => ?_)
      refine MyHeld.take 0 (v := ?_) .z (by kernel_rfl) (by kernel_rfl) (by kernel_rfl) (fun _ _ _ h => h) (by rfl) (by assumption) ?_ ?_
      rotate_left
      · intro w hSw; (try dsimp only at hSw); go_simp; (try with_reducible rfl)
      try simp only [Act.put, List.setIfInBounds_toArray, List.set_cons_zero, List.set_cons_succ]
      refine MyHeld.take 1 (v := ?_) (.s .z) (by kernel_rfl) (by kernel_rfl) (by kernel_rfl) (fun _ _ _ h => h) (by rfl) (by assumption) ?_ ?_
      rotate_left
      · intro w hSw; (try dsimp only at hSw); go_simp; (try with_reducible rfl)
      try simp only [Act.put, List.setIfInBounds_toArray, List.set_cons_zero, List.set_cons_succ]
      refine MyHeld.take 2 (v := ?_) (.s (.s .z)) (by kernel_rfl) (by kernel_rfl) (by kernel_rfl) (fun _ _ _ h => h) (by rfl) (by assumption) ?_ ?_
      rotate_left
      · intro w hSw; (try dsimp only at hSw); go_simp; (try with_reducible rfl)
      try simp only [Act.put, List.setIfInBounds_toArray, List.set_cons_zero, List.set_cons_succ]
      refine MyHeld.take 3 (v := ?_) (.s (.s (.s .z))) (by kernel_rfl) (by kernel_rfl) (by kernel_rfl) (fun _ _ _ h => h) (by rfl) (by assumption) ?_ ?_
      rotate_left
      · intro w hSw; (try dsimp only at hSw); go_simp; (try with_reducible rfl)
      try simp only [Act.put, List.setIfInBounds_toArray, List.set_cons_zero, List.set_cons_succ]
      refine MyHeld.skip 4 (.s (.s (.s (.s .z)))) (by kernel_rfl) (by kernel_rfl) (by kernel_rfl) (fun _ _ _ h => h) (by rfl) (by assumption) ?_
      try simp only [Act.put, List.setIfInBounds_toArray, List.set_cons_zero, List.set_cons_succ]
      refine MyHeld.skip 5 (.s (.s (.s (.s (.s .z))))) (by kernel_rfl) (by kernel_rfl) (by kernel_rfl) (fun _ _ _ h => h) (by rfl) (by assumption) ?_
      try simp only [Act.put, List.setIfInBounds_toArray, List.set_cons_zero, List.set_cons_succ]
      refine MyHeld.skip 6 (.s (.s (.s (.s (.s (.s .z)))))) (by kernel_rfl) (by kernel_rfl) (by kernel_rfl) (fun _ _ _ h => h) (by rfl) (by assumption) ?_
      try simp only [Act.put, List.setIfInBounds_toArray, List.set_cons_zero, List.set_cons_succ]
      refine MyHeld.take 7 (v := ?_) (.s (.s (.s (.s (.s (.s (.s .z))))))) (by kernel_rfl) (by kernel_rfl) (by kernel_rfl) (fun _ _ _ h => h) (by rfl) (by assumption) ?_ ?_
      rotate_left
      · intro w hSw; (try dsimp only at hSw); go_simp; (try with_reducible rfl)
      try simp only [Act.put, List.setIfInBounds_toArray, List.set_cons_zero, List.set_cons_succ]
      refine MyHeld.take 8 (v := ?_) (.s (.s (.s (.s (.s (.s (.s (.s .z)))))))) (by kernel_rfl) (by kernel_rfl) (by kernel_rfl) (fun _ _ _ h => h) (by rfl) (by assumption) ?_ ?_
      rotate_left
      · intro w hSw; (try dsimp only at hSw); go_simp; (try with_reducible rfl)
      try simp only [Act.put, List.setIfInBounds_toArray, List.set_cons_zero, List.set_cons_succ]
      refine MyHeld.skip 9 (.s (.s (.s (.s (.s (.s (.s (.s (.s .z))))))))) (by kernel_rfl) (by kernel_rfl) (by kernel_rfl) (fun _ _ _ h => h) (by rfl) (by assumption) ?_
      try simp only [Act.put, List.setIfInBounds_toArray, List.set_cons_zero, List.set_cons_succ]
      refine MyHeld.skip 10 (.s (.s (.s (.s (.s (.s (.s (.s (.s (.s .z)))))))))) (by kernel_rfl) (by kernel_rfl) (by kernel_rfl) (fun _ _ _ h => h) (by rfl) (by assumption) ?_
      try simp only [Act.put, List.setIfInBounds_toArray, List.set_cons_zero, List.set_cons_succ]
      refine MyHeld.skip 11 (.s (.s (.s (.s (.s (.s (.s (.s (.s (.s (.s .z))))))))))) (by kernel_rfl) (by kernel_rfl) (by kernel_rfl) (fun _ _ _ h => h) (by rfl) (by assumption) ?_
      try simp only [Act.put, List.setIfInBounds_toArray, List.set_cons_zero, List.set_cons_succ]
      refine MyHeld.skip 12 (.s (.s (.s (.s (.s (.s (.s (.s (.s (.s (.s (.s .z)))))))))))) (by kernel_rfl) (by kernel_rfl) (by kernel_rfl) (fun _ _ _ h => h) (by rfl) (by assumption) ?_
      try simp only [Act.put, List.setIfInBounds_toArray, List.set_cons_zero, List.set_cons_succ]
      refine MyHeld.skip 13 (.s (.s (.s (.s (.s (.s (.s (.s (.s (.s (.s (.s (.s .z))))))))))))) (by kernel_rfl) (by kernel_rfl) (by kernel_rfl) (fun _ _ _ h => h) (by rfl) (by assumption) ?_
      try simp only [Act.put, List.setIfInBounds_toArray, List.set_cons_zero, List.set_cons_succ]
      refine MyHeld.take 14 (v := ?_) (.s (.s (.s (.s (.s (.s (.s (.s (.s (.s (.s (.s (.s (.s .z)))))))))))))) (by kernel_rfl) (by kernel_rfl) (by kernel_rfl) (fun _ _ _ h => h) (by rfl) (by assumption) ?_ ?_
      rotate_left
      · intro w hSw; (try dsimp only at hSw); go_simp; (try with_reducible rfl)
      try simp only [Act.put, List.setIfInBounds_toArray, List.set_cons_zero, List.set_cons_succ]
      refine MyHeld.take 15 (v := ?_) (.s (.s (.s (.s (.s (.s (.s (.s (.s (.s (.s (.s (.s (.s (.s .z))))))))))))))) (by kernel_rfl) (by kernel_rfl) (by kernel_rfl) (fun _ _ _ h => h) (by rfl) (by assumption) ?_ ?_
      rotate_left
      · intro w hSw; (try dsimp only at hSw); go_simp; (try with_reducible rfl)
      try simp only [Act.put, List.setIfInBounds_toArray, List.set_cons_zero, List.set_cons_succ]
      refine MyHeld.skip 16 (.s (.s (.s (.s (.s (.s (.s (.s (.s (.s (.s (.s (.s (.s (.s (.s .z)))))))))))))))) (by kernel_rfl) (by kernel_rfl) (by kernel_rfl) (fun _ _ _ h => h) (by rfl) (by assumption) ?_
      try simp only [Act.put, List.setIfInBounds_toArray, List.set_cons_zero, List.set_cons_succ]
      refine MyHeld.skip 17 (.s (.s (.s (.s (.s (.s (.s (.s (.s (.s (.s (.s (.s (.s (.s (.s (.s .z))))))))))))))))) (by kernel_rfl) (by kernel_rfl) (by kernel_rfl) (fun _ _ _ h => h) (by rfl) (by assumption) ?_
      try simp only [Act.put, List.setIfInBounds_toArray, List.set_cons_zero, List.set_cons_succ]
      refine MyHeld.skip 18 (.s (.s (.s (.s (.s (.s (.s (.s (.s (.s (.s (.s (.s (.s (.s (.s (.s (.s .z)))))))))))))))))) (by kernel_rfl) (by kernel_rfl) (by kernel_rfl) (fun _ _ _ h => h) (by rfl) (by assumption) ?_
      try simp only [Act.put, List.setIfInBounds_toArray, List.set_cons_zero, List.set_cons_succ]
      refine MyHeld.skip 19 (.s (.s (.s (.s (.s (.s (.s (.s (.s (.s (.s (.s (.s (.s (.s (.s (.s (.s (.s .z))))))))))))))))))) (by kernel_rfl) (by kernel_rfl) (by kernel_rfl) (fun _ _ _ h => h) (by rfl) (by assumption) ?_
      try simp only [Act.put, List.setIfInBounds_toArray, List.set_cons_zero, List.set_cons_succ]
      refine MyHeld.skip 20 (.s (.s (.s (.s (.s (.s (.s (.s (.s (.s (.s (.s (.s (.s (.s (.s (.s (.s (.s (.s .z)))))))))))))))))))) (by kernel_rfl) (by kernel_rfl) (by kernel_rfl) (fun _ _ _ h => h) (by rfl) (by assumption) ?_
      try simp only [Act.put, List.setIfInBounds_toArray, List.set_cons_zero, List.set_cons_succ]
      refine MyHeld.skip 21 (.s (.s (.s (.s (.s (.s (.s (.s (.s (.s (.s (.s (.s (.s (.s (.s (.s (.s (.s (.s (.s .z))))))))))))))))))))) (by kernel_rfl) (by kernel_rfl) (by kernel_rfl) (fun _ _ _ h => h) (by rfl) (by assumption) ?_
      try simp only [Act.put, List.setIfInBounds_toArray, List.set_cons_zero, List.set_cons_succ]
      refine MyHeld.skip 22 (.s (.s (.s (.s (.s (.s (.s (.s (.s (.s (.s (.s (.s (.s (.s (.s (.s (.s (.s (.s (.s (.s .z)))))))))))))))))))))) (by kernel_rfl) (by kernel_rfl) (by kernel_rfl) (fun _ _ _ h => h) (by rfl) (by assumption) ?_
      try simp only [Act.put, List.setIfInBounds_toArray, List.set_cons_zero, List.set_cons_succ]
      refine MyHeld.skip 23 (.s (.s (.s (.s (.s (.s (.s (.s (.s (.s (.s (.s (.s (.s (.s (.s (.s (.s (.s (.s (.s (.s (.s .z))))))))))))))))))))))) (by kernel_rfl) (by kernel_rfl) (by kernel_rfl) (fun _ _ _ h => h) (by rfl) (by assumption) ?_
      try simp only [Act.put, List.setIfInBounds_toArray, List.set_cons_zero, List.set_cons_succ]
      refine MyHeld.skip 24 (.s (.s (.s (.s (.s (.s (.s (.s (.s (.s (.s (.s (.s (.s (.s (.s (.s (.s (.s (.s (.s (.s (.s (.s .z)))))))))))))))))))))))) (by kernel_rfl) (by kernel_rfl) (by kernel_rfl) (fun _ _ _ h => h) (by rfl) (by assumption) ?_
      try simp only [Act.put, List.setIfInBounds_toArray, List.set_cons_zero, List.set_cons_succ]
      refine MyHeld.take 25 (v := ?_) (.s (.s (.s (.s (.s (.s (.s (.s (.s (.s (.s (.s (.s (.s (.s (.s (.s (.s (.s (.s (.s (.s (.s (.s (.s .z))))))))))))))))))))))))) (by kernel_rfl) (by kernel_rfl) (by kernel_rfl) (fun _ _ _ h => h) (by rfl) (by assumption) ?_ ?_
      rotate_left
      · intro w hSw; (try dsimp only at hSw); go_simp; (try with_reducible rfl)
      try simp only [Act.put, List.setIfInBounds_toArray, List.set_cons_zero, List.set_cons_succ]
      refine wpAnyH_done (by kernel_rfl) ?_ _
      all_goals go_wp2_with fail
      all_goals go_meet
      all_goals exact ⟨by rw [HT.out], K⟩
    · have HV := Lib.hid v1
      have HV2 := Lib.hid v2
      clear v1 v2
      refine wp_region_held_drew (S := (fun w' => ((w'.cell? ⟨w.heap.size + 5, 0, none⟩ = some (.slice a n c) ∧ w'.cell? ⟨w.heap.size + 5, 1, none⟩ = some (.int .i64 s.alim) ∧ w'.cell? ⟨w.heap.size + 5, 2, none⟩ = some (.int .i64 s.d) ∧ w'.cell? ⟨w.heap.size + 5, 3, none⟩ = some (.int .i64 s.pl) ∧ w'.cell? ⟨w.heap.size + 5, 4, none⟩ = some (.int .i64 z) ∧ w'.cell? ⟨w.heap.size + 5, 5, none⟩ = some (.int .i64 v) ∧ w'.cell? ⟨w.heap.size + 5, 6, none⟩ = some (.int .i64 z') ∧ w'.cell? ⟨w.heap.size + 5, 7, none⟩ = some (.int .i64 v') ∧ w'.cell? ⟨w.heap.size + 5, 8, none⟩ = some (.int .i64 t) ∧ w'.cell? ⟨w.heap.size + 5, 9, none⟩ = some (.int .i64 fl) ∧ w'.cell? ⟨w.heap.size + 5, 10, none⟩ = some (.int .u8 k)) ∧ w'.cell? ⟨w.heap.size + 1, 4, none⟩ = some (.bool false)))) (by kernel_rfl) (by (try dsimp only); (exact ⟨eleven K.1.2.2.1, by rw [← HV.out]; exact (five_cells K.1.1).2.2.2.2⟩)) (fun hHeld => ?_)
      refine MyHeld.take 0 (v := ?_) .z (by kernel_rfl) (by kernel_rfl) (by kernel_rfl) (fun _ _ _ h => h) (by rfl) (by assumption) ?_ ?_
      rotate_left
      · intro w hSw; (try dsimp only at hSw); go_simp; (try with_reducible rfl)
      try simp only [Act.put, List.setIfInBounds_toArray, List.set_cons_zero, List.set_cons_succ]
      refine MyHeld.take 1 (v := ?_) (.s .z) (by kernel_rfl) (by kernel_rfl) (by kernel_rfl) (fun _ _ _ h => h) (by rfl) (by assumption) ?_ ?_
      rotate_left
      · intro w hSw; (try dsimp only at hSw); go_simp; (try with_reducible rfl)
      try simp only [Act.put, List.setIfInBounds_toArray, List.set_cons_zero, List.set_cons_succ]
      refine MyHeld.take 2 (v := ?_) (.s (.s .z)) (by kernel_rfl) (by kernel_rfl) (by kernel_rfl) (fun _ _ _ h => h) (by rfl) (by assumption) ?_ ?_
      rotate_left
      · intro w hSw; (try dsimp only at hSw); go_simp; (try with_reducible rfl)
      try simp only [Act.put, List.setIfInBounds_toArray, List.set_cons_zero, List.set_cons_succ]
      refine MyHeld.take 3 (v := ?_) (.s (.s (.s .z))) (by kernel_rfl) (by kernel_rfl) (by kernel_rfl) (fun _ _ _ h => h) (by rfl) (by assumption) ?_ ?_
      rotate_left
      · intro w hSw; (try dsimp only at hSw); go_simp; (try with_reducible rfl)
      try simp only [Act.put, List.setIfInBounds_toArray, List.set_cons_zero, List.set_cons_succ]
      refine MyHeld.take 4 (v := ?_) (.s (.s (.s (.s .z)))) (by kernel_rfl) (by kernel_rfl) (by kernel_rfl) (fun _ _ _ h => h) (by rfl) (by assumption) ?_ ?_
      rotate_left
      · intro w hSw; (try dsimp only at hSw); go_simp; (try with_reducible rfl)
      try simp only [Act.put, List.setIfInBounds_toArray, List.set_cons_zero, List.set_cons_succ]
      refine MyHeld.take 5 (v := ?_) (.s (.s (.s (.s (.s .z))))) (by kernel_rfl) (by kernel_rfl) (by kernel_rfl) (fun _ _ _ h => h) (by rfl) (by assumption) ?_ ?_
      rotate_left
      · intro w hSw; (try dsimp only at hSw); go_simp; (try with_reducible rfl)
      try simp only [Act.put, List.setIfInBounds_toArray, List.set_cons_zero, List.set_cons_succ]
      refine wpAnyH_ready (rs := [6]) (by kernel_rfl) (by simp) ?_
      refine (MyHeld.next 6 (.s (.s (.s (.s (.s (.s .z)))))) (fun Kq hKq => ?_) AllReadyH.nil)
      go_simp
      (go_at_call 47; refine (allowed_call a n c s z v z' v' t fl k 1 _).mono ?_; rintro e w3 ⟨rfl, hb3⟩; rw [show alwB z fl k 1 = false from HV2.out]; replace K := K.keep hb3; clear hb3)
      go_wp2_with fail
      refine hKq.out _ _ (by (try dsimp only); (exact ⟨eleven K.1.2.2.1, by rw [← HV.out]; exact (five_cells K.1.1).2.2.2.2⟩)) (fun hHeld' => ?_)
      clear hKq Kq hHeld; have hHeld := hHeld'; clear hHeld'
      try simp only [Act.put, List.setIfInBounds_toArray, List.set_cons_zero, List.set_cons_succ]
      refine MyHeld.take 7 (v := ?_) (.s (.s (.s (.s (.s (.s (.s .z))))))) (by kernel_rfl) (by kernel_rfl) (by kernel_rfl) (fun _ _ _ h => h) (by rfl) (by assumption) ?_ ?_
      rotate_left
      · intro w hSw; (try dsimp only at hSw); go_simp; (try with_reducible rfl)
      try simp only [Act.put, List.setIfInBounds_toArray, List.set_cons_zero, List.set_cons_succ]
      refine MyHeld.take 8 (v := ?_) (.s (.s (.s (.s (.s (.s (.s (.s .z)))))))) (by kernel_rfl) (by kernel_rfl) (by kernel_rfl) (fun _ _ _ h => h) (by rfl) (by assumption) ?_ ?_
      rotate_left
      · intro w hSw; (try dsimp only at hSw); go_simp; (try with_reducible rfl)
      try simp only [Act.put, List.setIfInBounds_toArray, List.set_cons_zero, List.set_cons_succ]
      refine MyHeld.skip 9 (.s (.s (.s (.s (.s (.s (.s (.s (.s .z))))))))) (by kernel_rfl) (by kernel_rfl) (by kernel_rfl) (fun _ _ _ h => h) (by rfl) (by assumption) ?_
      try simp only [Act.put, List.setIfInBounds_toArray, List.set_cons_zero, List.set_cons_succ]
      refine MyHeld.skip 10 (.s (.s (.s (.s (.s (.s (.s (.s (.s (.s .z)))))))))) (by kernel_rfl) (by kernel_rfl) (by kernel_rfl) (fun _ _ _ h => h) (by rfl) (by assumption) ?_
      try simp only [Act.put, List.setIfInBounds_toArray, List.set_cons_zero, List.set_cons_succ]
      refine MyHeld.skip 11 (.s (.s (.s (.s (.s (.s (.s (.s (.s (.s (.s .z))))))))))) (by kernel_rfl) (by kernel_rfl) (by kernel_rfl) (fun _ _ _ h => h) (by rfl) (by assumption) ?_
      try simp only [Act.put, List.setIfInBounds_toArray, List.set_cons_zero, List.set_cons_succ]
      refine MyHeld.skip 12 (.s (.s (.s (.s (.s (.s (.s (.s (.s (.s (.s (.s .z)))))))))))) (by kernel_rfl) (by kernel_rfl) (by kernel_rfl) (fun _ _ _ h => h) (by rfl) (by assumption) ?_
      try simp only [Act.put, List.setIfInBounds_toArray, List.set_cons_zero, List.set_cons_succ]
      refine MyHeld.skip 13 (.s (.s (.s (.s (.s (.s (.s (.s (.s (.s (.s (.s (.s .z))))))))))))) (by kernel_rfl) (by kernel_rfl) (by kernel_rfl) (fun _ _ _ h => h) (by rfl) (by assumption) ?_
      try simp only [Act.put, List.setIfInBounds_toArray, List.set_cons_zero, List.set_cons_succ]
      refine MyHeld.take 14 (v := ?_) (.s (.s (.s (.s (.s (.s (.s (.s (.s (.s (.s (.s (.s (.s .z)))))))))))))) (by kernel_rfl) (by kernel_rfl) (by kernel_rfl) (fun _ _ _ h => h) (by rfl) (by assumption) ?_ ?_
      rotate_left
      · intro w hSw; (try dsimp only at hSw); go_simp; (try with_reducible rfl)
      try simp only [Act.put, List.setIfInBounds_toArray, List.set_cons_zero, List.set_cons_succ]
      refine MyHeld.take 15 (v := ?_) (.s (.s (.s (.s (.s (.s (.s (.s (.s (.s (.s (.s (.s (.s (.s .z))))))))))))))) (by kernel_rfl) (by kernel_rfl) (by kernel_rfl) (fun _ _ _ h => h) (by rfl) (by assumption) ?_ ?_
      rotate_left
      · intro w hSw; (try dsimp only at hSw); go_simp; (try with_reducible rfl)
      try simp only [Act.put, List.setIfInBounds_toArray, List.set_cons_zero, List.set_cons_succ]
      refine MyHeld.skip 16 (.s (.s (.s (.s (.s (.s (.s (.s (.s (.s (.s (.s (.s (.s (.s (.s .z)))))))))))))))) (by kernel_rfl) (by kernel_rfl) (by kernel_rfl) (fun _ _ _ h => h) (by rfl) (by assumption) ?_
      try simp only [Act.put, List.setIfInBounds_toArray, List.set_cons_zero, List.set_cons_succ]
      refine MyHeld.skip 17 (.s (.s (.s (.s (.s (.s (.s (.s (.s (.s (.s (.s (.s (.s (.s (.s (.s .z))))))))))))))))) (by kernel_rfl) (by kernel_rfl) (by kernel_rfl) (fun _ _ _ h => h) (by rfl) (by assumption) ?_
      try simp only [Act.put, List.setIfInBounds_toArray, List.set_cons_zero, List.set_cons_succ]
      refine MyHeld.skip 18 (.s (.s (.s (.s (.s (.s (.s (.s (.s (.s (.s (.s (.s (.s (.s (.s (.s (.s .z)))))))))))))))))) (by kernel_rfl) (by kernel_rfl) (by kernel_rfl) (fun _ _ _ h => h) (by rfl) (by assumption) ?_
      try simp only [Act.put, List.setIfInBounds_toArray, List.set_cons_zero, List.set_cons_succ]
      refine MyHeld.skip 19 (.s (.s (.s (.s (.s (.s (.s (.s (.s (.s (.s (.s (.s (.s (.s (.s (.s (.s (.s .z))))))))))))))))))) (by kernel_rfl) (by kernel_rfl) (by kernel_rfl) (fun _ _ _ h => h) (by rfl) (by assumption) ?_
      try simp only [Act.put, List.setIfInBounds_toArray, List.set_cons_zero, List.set_cons_succ]
      refine MyHeld.skip 20 (.s (.s (.s (.s (.s (.s (.s (.s (.s (.s (.s (.s (.s (.s (.s (.s (.s (.s (.s (.s .z)))))))))))))))))))) (by kernel_rfl) (by kernel_rfl) (by kernel_rfl) (fun _ _ _ h => h) (by rfl) (by assumption) ?_
      try simp only [Act.put, List.setIfInBounds_toArray, List.set_cons_zero, List.set_cons_succ]
      refine MyHeld.skip 21 (.s (.s (.s (.s (.s (.s (.s (.s (.s (.s (.s (.s (.s (.s (.s (.s (.s (.s (.s (.s (.s .z))))))))))))))))))))) (by kernel_rfl) (by kernel_rfl) (by kernel_rfl) (fun _ _ _ h => h) (by rfl) (by assumption) ?_
      try simp only [Act.put, List.setIfInBounds_toArray, List.set_cons_zero, List.set_cons_succ]
      refine MyHeld.skip 22 (.s (.s (.s (.s (.s (.s (.s (.s (.s (.s (.s (.s (.s (.s (.s (.s (.s (.s (.s (.s (.s (.s .z)))))))))))))))))))))) (by kernel_rfl) (by kernel_rfl) (by kernel_rfl) (fun _ _ _ h => h) (by rfl) (by assumption) ?_
      try simp only [Act.put, List.setIfInBounds_toArray, List.set_cons_zero, List.set_cons_succ]
      refine MyHeld.skip 23 (.s (.s (.s (.s (.s (.s (.s (.s (.s (.s (.s (.s (.s (.s (.s (.s (.s (.s (.s (.s (.s (.s (.s .z))))))))))))))))))))))) (by kernel_rfl) (by kernel_rfl) (by kernel_rfl) (fun _ _ _ h => h) (by rfl) (by assumption) ?_
      try simp only [Act.put, List.setIfInBounds_toArray, List.set_cons_zero, List.set_cons_succ]
      refine MyHeld.skip 24 (.s (.s (.s (.s (.s (.s (.s (.s (.s (.s (.s (.s (.s (.s (.s (.s (.s (.s (.s (.s (.s (.s (.s (.s .z)))))))))))))))))))))))) (by kernel_rfl) (by kernel_rfl) (by kernel_rfl) (fun _ _ _ h => h) (by rfl) (by assumption) ?_
      try simp only [Act.put, List.setIfInBounds_toArray, List.set_cons_zero, List.set_cons_succ]
      refine MyHeld.take 25 (v := ?_) (.s (.s (.s (.s (.s (.s (.s (.s (.s (.s (.s (.s (.s (.s (.s (.s (.s (.s (.s (.s (.s (.s (.s (.s (.s .z))))))))))))))))))))))))) (by kernel_rfl) (by kernel_rfl) (by kernel_rfl) (fun _ _ _ h => h) (by rfl) (by assumption) ?_ ?_
      rotate_left
      · intro w hSw; (try dsimp only at hSw); go_simp; (try with_reducible rfl)
      try simp only [Act.put, List.setIfInBounds_toArray, List.set_cons_zero, List.set_cons_succ]
      refine wpAnyH_done (by kernel_rfl) ?_ _
      all_goals go_wp2_with fail
      all_goals go_meet
      all_goals exact ⟨by rw [HT.out], K⟩
    · have HV := Lib.hid v1
      have HV2 := Lib.hid v2
      clear v1 v2
      have gv3 : decide (bestV s z v z' v' 2 t < s.alim) = false := v3
      clear v3
      refine wp_region_held_drew (S := (fun w' => ((w'.cell? ⟨w.heap.size + 5, 0, none⟩ = some (.slice a n c) ∧ w'.cell? ⟨w.heap.size + 5, 1, none⟩ = some (.int .i64 s.alim) ∧ w'.cell? ⟨w.heap.size + 5, 2, none⟩ = some (.int .i64 s.d) ∧ w'.cell? ⟨w.heap.size + 5, 3, none⟩ = some (.int .i64 s.pl) ∧ w'.cell? ⟨w.heap.size + 5, 4, none⟩ = some (.int .i64 z) ∧ w'.cell? ⟨w.heap.size + 5, 5, none⟩ = some (.int .i64 v) ∧ w'.cell? ⟨w.heap.size + 5, 6, none⟩ = some (.int .i64 z') ∧ w'.cell? ⟨w.heap.size + 5, 7, none⟩ = some (.int .i64 v') ∧ w'.cell? ⟨w.heap.size + 5, 8, none⟩ = some (.int .i64 t) ∧ w'.cell? ⟨w.heap.size + 5, 9, none⟩ = some (.int .i64 fl) ∧ w'.cell? ⟨w.heap.size + 5, 10, none⟩ = some (.int .u8 k)) ∧ w'.cell? ⟨w.heap.size + 1, 4, none⟩ = some (.bool false)))) (by kernel_rfl) (by (try dsimp only); (exact ⟨eleven K.1.2.2.1, by rw [← HV.out]; exact (five_cells K.1.1).2.2.2.2⟩)) (fun hHeld => ?_)
      refine MyHeld.take 0 (v := ?_) .z (by kernel_rfl) (by kernel_rfl) (by kernel_rfl) (fun _ _ _ h => h) (by rfl) (by assumption) ?_ ?_
      rotate_left
      · intro w hSw; (try dsimp only at hSw); go_simp; (try with_reducible rfl)
      try simp only [Act.put, List.setIfInBounds_toArray, List.set_cons_zero, List.set_cons_succ]
      refine MyHeld.take 1 (v := ?_) (.s .z) (by kernel_rfl) (by kernel_rfl) (by kernel_rfl) (fun _ _ _ h => h) (by rfl) (by assumption) ?_ ?_
      rotate_left
      · intro w hSw; (try dsimp only at hSw); go_simp; (try with_reducible rfl)
      try simp only [Act.put, List.setIfInBounds_toArray, List.set_cons_zero, List.set_cons_succ]
      refine MyHeld.take 2 (v := ?_) (.s (.s .z)) (by kernel_rfl) (by kernel_rfl) (by kernel_rfl) (fun _ _ _ h => h) (by rfl) (by assumption) ?_ ?_
      rotate_left
      · intro w hSw; (try dsimp only at hSw); go_simp; (try with_reducible rfl)
      try simp only [Act.put, List.setIfInBounds_toArray, List.set_cons_zero, List.set_cons_succ]
      refine MyHeld.take 3 (v := ?_) (.s (.s (.s .z))) (by kernel_rfl) (by kernel_rfl) (by kernel_rfl) (fun _ _ _ h => h) (by rfl) (by assumption) ?_ ?_
      rotate_left
      · intro w hSw; (try dsimp only at hSw); go_simp; (try with_reducible rfl)
      try simp only [Act.put, List.setIfInBounds_toArray, List.set_cons_zero, List.set_cons_succ]
      refine MyHeld.take 4 (v := ?_) (.s (.s (.s (.s .z)))) (by kernel_rfl) (by kernel_rfl) (by kernel_rfl) (fun _ _ _ h => h) (by rfl) (by assumption) ?_ ?_
      rotate_left
      · intro w hSw; (try dsimp only at hSw); go_simp; (try with_reducible rfl)
      try simp only [Act.put, List.setIfInBounds_toArray, List.set_cons_zero, List.set_cons_succ]
      refine MyHeld.take 5 (v := ?_) (.s (.s (.s (.s (.s .z))))) (by kernel_rfl) (by kernel_rfl) (by kernel_rfl) (fun _ _ _ h => h) (by rfl) (by assumption) ?_ ?_
      rotate_left
      · intro w hSw; (try dsimp only at hSw); go_simp; (try with_reducible rfl)
      try simp only [Act.put, List.setIfInBounds_toArray, List.set_cons_zero, List.set_cons_succ]
      refine wpAnyH_ready (rs := [6]) (by kernel_rfl) (by simp) ?_
      refine (MyHeld.next 6 (.s (.s (.s (.s (.s (.s .z)))))) (fun Kq hKq => ?_) AllReadyH.nil)
      go_simp
      (go_at_call 47; refine (allowed_call a n c s z v z' v' t fl k 1 _).mono ?_; rintro e w3 ⟨rfl, hb3⟩; rw [show alwB z fl k 1 = true from HV2.out]; replace K := K.keep hb3; clear hb3)
      go_wp2_with fail
      refine hKq.out _ _ (by (try dsimp only); (exact ⟨eleven K.1.2.2.1, by rw [← HV.out]; exact (five_cells K.1.1).2.2.2.2⟩)) (fun hHeld' => ?_)
      clear hKq Kq hHeld; have hHeld := hHeld'; clear hHeld'
      try simp only [Act.put, List.setIfInBounds_toArray, List.set_cons_zero, List.set_cons_succ]
      refine MyHeld.take 7 (v := ?_) (.s (.s (.s (.s (.s (.s (.s .z))))))) (by kernel_rfl) (by kernel_rfl) (by kernel_rfl) (fun _ _ _ h => h) (by rfl) (by assumption) ?_ ?_
      rotate_left
      · intro w hSw; (try dsimp only at hSw); go_simp; (try with_reducible rfl)
      try simp only [Act.put, List.setIfInBounds_toArray, List.set_cons_zero, List.set_cons_succ]
      refine MyHeld.take 8 (v := ?_) (.s (.s (.s (.s (.s (.s (.s (.s .z)))))))) (by kernel_rfl) (by kernel_rfl) (by kernel_rfl) (fun _ _ _ h => h) (by rfl) (by assumption) ?_ ?_
      rotate_left
      · intro w hSw; (try dsimp only at hSw); go_simp; (try with_reducible rfl)
      try simp only [Act.put, List.setIfInBounds_toArray, List.set_cons_zero, List.set_cons_succ]
      refine MyHeld.take 9 (v := ?_) (.s (.s (.s (.s (.s (.s (.s (.s (.s .z))))))))) (by kernel_rfl) (by kernel_rfl) (by kernel_rfl) (fun _ _ _ h => h) (by rfl) (by assumption) ?_ ?_
      rotate_left
      · intro w hSw; (try dsimp only at hSw); go_simp; (try with_reducible rfl)
      try simp only [Act.put, List.setIfInBounds_toArray, List.set_cons_zero, List.set_cons_succ]
      refine MyHeld.take 10 (v := ?_) (.s (.s (.s (.s (.s (.s (.s (.s (.s (.s .z)))))))))) (by kernel_rfl) (by kernel_rfl) (by kernel_rfl) (fun _ _ _ h => h) (by rfl) (by assumption) ?_ ?_
      rotate_left
      · intro w hSw; (try dsimp only at hSw); go_simp; (try with_reducible rfl)
      try simp only [Act.put, List.setIfInBounds_toArray, List.set_cons_zero, List.set_cons_succ]
      refine MyHeld.take 11 (v := ?_) (.s (.s (.s (.s (.s (.s (.s (.s (.s (.s (.s .z))))))))))) (by kernel_rfl) (by kernel_rfl) (by kernel_rfl) (fun _ _ _ h => h) (by rfl) (by assumption) ?_ ?_
      rotate_left
      · intro w hSw; (try dsimp only at hSw); go_simp; (try with_reducible rfl)
      try simp only [Act.put, List.setIfInBounds_toArray, List.set_cons_zero, List.set_cons_succ]
      refine MyHeld.take 12 (v := ?_) (.s (.s (.s (.s (.s (.s (.s (.s (.s (.s (.s (.s .z)))))))))))) (by kernel_rfl) (by kernel_rfl) (by kernel_rfl) (fun _ _ _ h => h) (by rfl) (by assumption) ?_ ?_
      rotate_left
      · intro w hSw; (try dsimp only at hSw); go_simp; (try with_reducible rfl)
      try simp only [Act.put, List.setIfInBounds_toArray, List.set_cons_zero, List.set_cons_succ]
      refine MyHeld.take 13 (v := ?_) (.s (.s (.s (.s (.s (.s (.s (.s (.s (.s (.s (.s (.s .z))))))))))))) (by kernel_rfl) (by kernel_rfl) (by kernel_rfl) (fun _ _ _ h => h) (by rfl) (by assumption) ?_ ?_
      rotate_left
      · intro w hSw; (try dsimp only at hSw); go_simp; (try with_reducible rfl)
      try simp only [Act.put, List.setIfInBounds_toArray, List.set_cons_zero, List.set_cons_succ]
      refine MyHeld.take 14 (v := ?_) (.s (.s (.s (.s (.s (.s (.s (.s (.s (.s (.s (.s (.s (.s .z)))))))))))))) (by kernel_rfl) (by kernel_rfl) (by kernel_rfl) (fun _ _ _ h => h) (by rfl) (by assumption) ?_ ?_
      rotate_left
      · intro w hSw; (try dsimp only at hSw); go_simp; (try with_reducible rfl)
      try simp only [Act.put, List.setIfInBounds_toArray, List.set_cons_zero, List.set_cons_succ]
      refine MyHeld.take 15 (v := ?_) (.s (.s (.s (.s (.s (.s (.s (.s (.s (.s (.s (.s (.s (.s (.s .z))))))))))))))) (by kernel_rfl) (by kernel_rfl) (by kernel_rfl) (fun _ _ _ h => h) (by rfl) (by assumption) ?_ ?_
      rotate_left
      · intro w hSw; (try dsimp only at hSw); go_simp; (try with_reducible rfl)
      try simp only [Act.put, List.setIfInBounds_toArray, List.set_cons_zero, List.set_cons_succ]
      refine MyHeld.skip 16 (.s (.s (.s (.s (.s (.s (.s (.s (.s (.s (.s (.s (.s (.s (.s (.s .z)))))))))))))))) (by kernel_rfl) (by kernel_rfl) (by kernel_rfl) (fun _ _ _ h => h) (by rfl) (by assumption) ?_
      try simp only [Act.put, List.setIfInBounds_toArray, List.set_cons_zero, List.set_cons_succ]
      refine MyHeld.skip 17 (.s (.s (.s (.s (.s (.s (.s (.s (.s (.s (.s (.s (.s (.s (.s (.s (.s .z))))))))))))))))) (by kernel_rfl) (by kernel_rfl) (by kernel_rfl) (fun _ _ _ h => h) (by rfl) (by assumption) ?_
      try simp only [Act.put, List.setIfInBounds_toArray, List.set_cons_zero, List.set_cons_succ]
      refine MyHeld.skip 18 (.s (.s (.s (.s (.s (.s (.s (.s (.s (.s (.s (.s (.s (.s (.s (.s (.s (.s .z)))))))))))))))))) (by kernel_rfl) (by kernel_rfl) (by kernel_rfl) (fun _ _ _ h => h) (by rfl) (by assumption) ?_
      try simp only [Act.put, List.setIfInBounds_toArray, List.set_cons_zero, List.set_cons_succ]
      refine MyHeld.skip 19 (.s (.s (.s (.s (.s (.s (.s (.s (.s (.s (.s (.s (.s (.s (.s (.s (.s (.s (.s .z))))))))))))))))))) (by kernel_rfl) (by kernel_rfl) (by kernel_rfl) (fun _ _ _ h => h) (by rfl) (by assumption) ?_
      try simp only [Act.put, List.setIfInBounds_toArray, List.set_cons_zero, List.set_cons_succ]
      refine MyHeld.skip 20 (.s (.s (.s (.s (.s (.s (.s (.s (.s (.s (.s (.s (.s (.s (.s (.s (.s (.s (.s (.s .z)))))))))))))))))))) (by kernel_rfl) (by kernel_rfl) (by kernel_rfl) (fun _ _ _ h => h) (by rfl) (by assumption) ?_
      try simp only [Act.put, List.setIfInBounds_toArray, List.set_cons_zero, List.set_cons_succ]
      refine MyHeld.skip 21 (.s (.s (.s (.s (.s (.s (.s (.s (.s (.s (.s (.s (.s (.s (.s (.s (.s (.s (.s (.s (.s .z))))))))))))))))))))) (by kernel_rfl) (by kernel_rfl) (by kernel_rfl) (fun _ _ _ h => h) (by rfl) (by assumption) ?_
      try simp only [Act.put, List.setIfInBounds_toArray, List.set_cons_zero, List.set_cons_succ]
      refine MyHeld.skip 22 (.s (.s (.s (.s (.s (.s (.s (.s (.s (.s (.s (.s (.s (.s (.s (.s (.s (.s (.s (.s (.s (.s .z)))))))))))))))))))))) (by kernel_rfl) (by kernel_rfl) (by kernel_rfl) (fun _ _ _ h => h) (by rfl) (by assumption) ?_
      try simp only [Act.put, List.setIfInBounds_toArray, List.set_cons_zero, List.set_cons_succ]
      refine MyHeld.skip 23 (.s (.s (.s (.s (.s (.s (.s (.s (.s (.s (.s (.s (.s (.s (.s (.s (.s (.s (.s (.s (.s (.s (.s .z))))))))))))))))))))))) (by kernel_rfl) (by kernel_rfl) (by kernel_rfl) (fun _ _ _ h => h) (by rfl) (by assumption) ?_
      try simp only [Act.put, List.setIfInBounds_toArray, List.set_cons_zero, List.set_cons_succ]
      refine MyHeld.skip 24 (.s (.s (.s (.s (.s (.s (.s (.s (.s (.s (.s (.s (.s (.s (.s (.s (.s (.s (.s (.s (.s (.s (.s (.s .z)))))))))))))))))))))))) (by kernel_rfl) (by kernel_rfl) (by kernel_rfl) (fun _ _ _ h => h) (by rfl) (by assumption) ?_
      try simp only [Act.put, List.setIfInBounds_toArray, List.set_cons_zero, List.set_cons_succ]
      refine MyHeld.take 25 (v := ?_) (.s (.s (.s (.s (.s (.s (.s (.s (.s (.s (.s (.s (.s (.s (.s (.s (.s (.s (.s (.s (.s (.s (.s (.s (.s .z))))))))))))))))))))))))) (by kernel_rfl) (by kernel_rfl) (by kernel_rfl) (fun _ _ _ h => h) (by rfl) (by assumption) ?_ ?_
      rotate_left
      · intro w hSw; (try dsimp only at hSw); go_simp; (try with_reducible rfl)
      try simp only [Act.put, List.setIfInBounds_toArray, List.set_cons_zero, List.set_cons_succ]
      refine wpAnyH_done (by kernel_rfl) ?_ _
      all_goals go_wp2_with fail
      all_goals go_meet
      all_goals exact ⟨by rw [HT.out], K⟩
    · have HV := Lib.hid v1
      have HV2 := Lib.hid v2
      clear v1 v2
      have gv3 : decide (bestV s z v z' v' 2 t < s.alim) = true := v3
      have gv4 : decide (bestV s z v z' v' 2 t + s.alim ≤ bestV s z v z' v' 1 t) = false := v4
      clear v3 v4
      refine wp_region_held_drew (S := (fun w' => ((w'.cell? ⟨w.heap.size + 5, 0, none⟩ = some (.slice a n c) ∧ w'.cell? ⟨w.heap.size + 5, 1, none⟩ = some (.int .i64 s.alim) ∧ w'.cell? ⟨w.heap.size + 5, 2, none⟩ = some (.int .i64 s.d) ∧ w'.cell? ⟨w.heap.size + 5, 3, none⟩ = some (.int .i64 s.pl) ∧ w'.cell? ⟨w.heap.size + 5, 4, none⟩ = some (.int .i64 z) ∧ w'.cell? ⟨w.heap.size + 5, 5, none⟩ = some (.int .i64 v) ∧ w'.cell? ⟨w.heap.size + 5, 6, none⟩ = some (.int .i64 z') ∧ w'.cell? ⟨w.heap.size + 5, 7, none⟩ = some (.int .i64 v') ∧ w'.cell? ⟨w.heap.size + 5, 8, none⟩ = some (.int .i64 t) ∧ w'.cell? ⟨w.heap.size + 5, 9, none⟩ = some (.int .i64 fl) ∧ w'.cell? ⟨w.heap.size + 5, 10, none⟩ = some (.int .u8 k)) ∧ w'.cell? ⟨w.heap.size + 1, 4, none⟩ = some (.bool false)))) (by kernel_rfl) (by (try dsimp only); (exact ⟨eleven K.1.2.2.1, by rw [← HV.out]; exact (five_cells K.1.1).2.2.2.2⟩)) (fun hHeld => ?_)
      refine MyHeld.take 0 (v := ?_) .z (by kernel_rfl) (by kernel_rfl) (by kernel_rfl) (fun _ _ _ h => h) (by rfl) (by assumption) ?_ ?_
      rotate_left
      · intro w hSw; (try dsimp only at hSw); go_simp; (try with_reducible rfl)
      try simp only [Act.put, List.setIfInBounds_toArray, List.set_cons_zero, List.set_cons_succ]
      refine MyHeld.take 1 (v := ?_) (.s .z) (by kernel_rfl) (by kernel_rfl) (by kernel_rfl) (fun _ _ _ h => h) (by rfl) (by assumption) ?_ ?_
      rotate_left
      · intro w hSw; (try dsimp only at hSw); go_simp; (try with_reducible rfl)
      try simp only [Act.put, List.setIfInBounds_toArray, List.set_cons_zero, List.set_cons_succ]
      refine MyHeld.take 2 (v := ?_) (.s (.s .z)) (by kernel_rfl) (by kernel_rfl) (by kernel_rfl) (fun _ _ _ h => h) (by rfl) (by assumption) ?_ ?_
      rotate_left
      · intro w hSw; (try dsimp only at hSw); go_simp; (try with_reducible rfl)
      try simp only [Act.put, List.setIfInBounds_toArray, List.set_cons_zero, List.set_cons_succ]
      refine MyHeld.take 3 (v := ?_) (.s (.s (.s .z))) (by kernel_rfl) (by kernel_rfl) (by kernel_rfl) (fun _ _ _ h => h) (by rfl) (by assumption) ?_ ?_
      rotate_left
      · intro w hSw; (try dsimp only at hSw); go_simp; (try with_reducible rfl)
      try simp only [Act.put, List.setIfInBounds_toArray, List.set_cons_zero, List.set_cons_succ]
      refine MyHeld.take 4 (v := ?_) (.s (.s (.s (.s .z)))) (by kernel_rfl) (by kernel_rfl) (by kernel_rfl) (fun _ _ _ h => h) (by rfl) (by assumption) ?_ ?_
      rotate_left
      · intro w hSw; (try dsimp only at hSw); go_simp; (try with_reducible rfl)
      try simp only [Act.put, List.setIfInBounds_toArray, List.set_cons_zero, List.set_cons_succ]
      refine MyHeld.take 5 (v := ?_) (.s (.s (.s (.s (.s .z))))) (by kernel_rfl) (by kernel_rfl) (by kernel_rfl) (fun _ _ _ h => h) (by rfl) (by assumption) ?_ ?_
      rotate_left
      · intro w hSw; (try dsimp only at hSw); go_simp; (try with_reducible rfl)
      try simp only [Act.put, List.setIfInBounds_toArray, List.set_cons_zero, List.set_cons_succ]
      refine wpAnyH_ready (rs := [6]) (by kernel_rfl) (by simp) ?_
      refine (MyHeld.next 6 (.s (.s (.s (.s (.s (.s .z)))))) (fun Kq hKq => ?_) AllReadyH.nil)
      go_simp
      (go_at_call 47; refine (allowed_call a n c s z v z' v' t fl k 1 _).mono ?_; rintro e w3 ⟨rfl, hb3⟩; rw [show alwB z fl k 1 = true from HV2.out]; replace K := K.keep hb3; clear hb3)
      go_wp2_with fail
      refine hKq.out _ _ (by (try dsimp only); (exact ⟨eleven K.1.2.2.1, by rw [← HV.out]; exact (five_cells K.1.1).2.2.2.2⟩)) (fun hHeld' => ?_)
      clear hKq Kq hHeld; have hHeld := hHeld'; clear hHeld'
      try simp only [Act.put, List.setIfInBounds_toArray, List.set_cons_zero, List.set_cons_succ]
      refine MyHeld.take 7 (v := ?_) (.s (.s (.s (.s (.s (.s (.s .z))))))) (by kernel_rfl) (by kernel_rfl) (by kernel_rfl) (fun _ _ _ h => h) (by rfl) (by assumption) ?_ ?_
      rotate_left
      · intro w hSw; (try dsimp only at hSw); go_simp; (try with_reducible rfl)
      try simp only [Act.put, List.setIfInBounds_toArray, List.set_cons_zero, List.set_cons_succ]
      refine MyHeld.take 8 (v := ?_) (.s (.s (.s (.s (.s (.s (.s (.s .z)))))))) (by kernel_rfl) (by kernel_rfl) (by kernel_rfl) (fun _ _ _ h => h) (by rfl) (by assumption) ?_ ?_
      rotate_left
      · intro w hSw; (try dsimp only at hSw); go_simp; (try with_reducible rfl)
      try simp only [Act.put, List.setIfInBounds_toArray, List.set_cons_zero, List.set_cons_succ]
      refine MyHeld.take 9 (v := ?_) (.s (.s (.s (.s (.s (.s (.s (.s (.s .z))))))))) (by kernel_rfl) (by kernel_rfl) (by kernel_rfl) (fun _ _ _ h => h) (by rfl) (by assumption) ?_ ?_
      rotate_left
      · intro w hSw; (try dsimp only at hSw); go_simp; (try with_reducible rfl)
      try simp only [Act.put, List.setIfInBounds_toArray, List.set_cons_zero, List.set_cons_succ]
      refine MyHeld.take 10 (v := ?_) (.s (.s (.s (.s (.s (.s (.s (.s (.s (.s .z)))))))))) (by kernel_rfl) (by kernel_rfl) (by kernel_rfl) (fun _ _ _ h => h) (by rfl) (by assumption) ?_ ?_
      rotate_left
      · intro w hSw; (try dsimp only at hSw); go_simp; (try with_reducible rfl)
      try simp only [Act.put, List.setIfInBounds_toArray, List.set_cons_zero, List.set_cons_succ]
      refine MyHeld.take 11 (v := ?_) (.s (.s (.s (.s (.s (.s (.s (.s (.s (.s (.s .z))))))))))) (by kernel_rfl) (by kernel_rfl) (by kernel_rfl) (fun _ _ _ h => h) (by rfl) (by assumption) ?_ ?_
      rotate_left
      · intro w hSw; (try dsimp only at hSw); go_simp; (try with_reducible rfl)
      try simp only [Act.put, List.setIfInBounds_toArray, List.set_cons_zero, List.set_cons_succ]
      refine MyHeld.take 12 (v := ?_) (.s (.s (.s (.s (.s (.s (.s (.s (.s (.s (.s (.s .z)))))))))))) (by kernel_rfl) (by kernel_rfl) (by kernel_rfl) (fun _ _ _ h => h) (by rfl) (by assumption) ?_ ?_
      rotate_left
      · intro w hSw; (try dsimp only at hSw); go_simp; (try with_reducible rfl)
      try simp only [Act.put, List.setIfInBounds_toArray, List.set_cons_zero, List.set_cons_succ]
      refine MyHeld.take 13 (v := ?_) (.s (.s (.s (.s (.s (.s (.s (.s (.s (.s (.s (.s (.s .z))))))))))))) (by kernel_rfl) (by kernel_rfl) (by kernel_rfl) (fun _ _ _ h => h) (by rfl) (by assumption) ?_ ?_
      rotate_left
      · intro w hSw; (try dsimp only at hSw); go_simp; (try with_reducible rfl)
      try simp only [Act.put, List.setIfInBounds_toArray, List.set_cons_zero, List.set_cons_succ]
      refine MyHeld.take 14 (v := ?_) (.s (.s (.s (.s (.s (.s (.s (.s (.s (.s (.s (.s (.s (.s .z)))))))))))))) (by kernel_rfl) (by kernel_rfl) (by kernel_rfl) (fun _ _ _ h => h) (by rfl) (by assumption) ?_ ?_
      rotate_left
      · intro w hSw; (try dsimp only at hSw); go_simp; (try with_reducible rfl)
      try simp only [Act.put, List.setIfInBounds_toArray, List.set_cons_zero, List.set_cons_succ]
      refine MyHeld.take 15 (v := ?_) (.s (.s (.s (.s (.s (.s (.s (.s (.s (.s (.s (.s (.s (.s (.s .z))))))))))))))) (by kernel_rfl) (by kernel_rfl) (by kernel_rfl) (fun _ _ _ h => h) (by rfl) (by assumption) ?_ ?_
      rotate_left
      · intro w hSw; (try dsimp only at hSw); go_simp; (try with_reducible rfl)
      try simp only [Act.put, List.setIfInBounds_toArray, List.set_cons_zero, List.set_cons_succ]
      refine MyHeld.take 16 (v := ?_) (.s (.s (.s (.s (.s (.s (.s (.s (.s (.s (.s (.s (.s (.s (.s (.s .z)))))))))))))))) (by kernel_rfl) (by kernel_rfl) (by kernel_rfl) (fun _ _ _ h => h) (by rfl) (by assumption) ?_ ?_
      rotate_left
      · intro w hSw; (try dsimp only at hSw); go_simp; (try with_reducible rfl)
      try simp only [Act.put, List.setIfInBounds_toArray, List.set_cons_zero, List.set_cons_succ]
      refine MyHeld.take 17 (v := ?_) (.s (.s (.s (.s (.s (.s (.s (.s (.s (.s (.s (.s (.s (.s (.s (.s (.s .z))))))))))))))))) (by kernel_rfl) (by kernel_rfl) (by kernel_rfl) (fun _ _ _ h => h) (by rfl) (by assumption) ?_ ?_
      rotate_left
      · intro w hSw; (try dsimp only at hSw); go_simp; (try with_reducible rfl)
      try simp only [Act.put, List.setIfInBounds_toArray, List.set_cons_zero, List.set_cons_succ]
      refine MyHeld.take 19 (v := ?_) (.s (.s (.s (.s (.s (.s (.s (.s (.s (.s (.s (.s (.s (.s (.s (.s (.s (.s (.s .z))))))))))))))))))) (by kernel_rfl) (by kernel_rfl) (by kernel_rfl) (fun _ _ _ h => h) (by rfl) (by assumption) ?_ ?_
      rotate_left
      · intro w hSw; (try dsimp only at hSw); go_simp; (try with_reducible rfl)
      try simp only [Act.put, List.setIfInBounds_toArray, List.set_cons_zero, List.set_cons_succ]
      refine MyHeld.take 20 (v := ?_) (.s (.s (.s (.s (.s (.s (.s (.s (.s (.s (.s (.s (.s (.s (.s (.s (.s (.s (.s (.s .z)))))))))))))))))))) (by kernel_rfl) (by kernel_rfl) (by kernel_rfl) (fun _ _ _ h => h) (by rfl) (by assumption) ?_ ?_
      rotate_left
      · intro w hSw; (try dsimp only at hSw); go_simp; (try with_reducible rfl)
      try simp only [Act.put, List.setIfInBounds_toArray, List.set_cons_zero, List.set_cons_succ]
      refine MyHeld.take 21 (v := ?_) (.s (.s (.s (.s (.s (.s (.s (.s (.s (.s (.s (.s (.s (.s (.s (.s (.s (.s (.s (.s (.s .z))))))))))))))))))))) (by kernel_rfl) (by kernel_rfl) (by kernel_rfl) (fun _ _ _ h => h) (by rfl) (by assumption) ?_ ?_
      rotate_left
      · intro w hSw; (try dsimp only at hSw); go_simp; (try with_reducible rfl)
      try simp only [Act.put, List.setIfInBounds_toArray, List.set_cons_zero, List.set_cons_succ]
      refine MyHeld.take 22 (v := ?_) (.s (.s (.s (.s (.s (.s (.s (.s (.s (.s (.s (.s (.s (.s (.s (.s (.s (.s (.s (.s (.s (.s .z)))))))))))))))))))))) (by kernel_rfl) (by kernel_rfl) (by kernel_rfl) (fun _ _ _ h => h) (by rfl) (by assumption) ?_ ?_
      rotate_left
      · intro w hSw; (try dsimp only at hSw); go_simp; (try with_reducible rfl)
      try simp only [Act.put, List.setIfInBounds_toArray, List.set_cons_zero, List.set_cons_succ]
      refine MyHeld.take 23 (v := ?_) (.s (.s (.s (.s (.s (.s (.s (.s (.s (.s (.s (.s (.s (.s (.s (.s (.s (.s (.s (.s (.s (.s (.s .z))))))))))))))))))))))) (by kernel_rfl) (by kernel_rfl) (by kernel_rfl) (fun _ _ _ h => h) (by rfl) (by assumption) ?_ ?_
      rotate_left
      · intro w hSw; (try dsimp only at hSw); go_simp; (try with_reducible rfl)
      try simp only [Act.put, List.setIfInBounds_toArray, List.set_cons_zero, List.set_cons_succ]
      refine wpAnyH_ready (rs := [18]) (by kernel_rfl) (by simp) ?_
      refine (MyHeld.next 18 (.s (.s (.s (.s (.s (.s (.s (.s (.s (.s (.s (.s (.s (.s (.s (.s (.s (.s .z)))))))))))))))))) (fun Kq hKq => ?_) AllReadyH.nil)
      go_simp
      (go_at_call 49; refine (best_call a n c s z v z' v' t fl k 1 _ (HL.out.below K.1.2.2.2) HO.out (by decide)).mono ?_; rintro e w3 ⟨rfl, hb3⟩; replace K := K.keep hb3; clear hb3)
      go_wp2_with fail
      refine hKq.out _ _ (by (try dsimp only); (exact ⟨eleven K.1.2.2.1, by rw [← HV.out]; exact (five_cells K.1.1).2.2.2.2⟩)) (fun hHeld' => ?_)
      clear hKq Kq hHeld; have hHeld := hHeld'; clear hHeld'
      try simp only [Act.put, List.setIfInBounds_toArray, List.set_cons_zero, List.set_cons_succ]
      refine MyHeld.take 24 (v := ?_) (.s (.s (.s (.s (.s (.s (.s (.s (.s (.s (.s (.s (.s (.s (.s (.s (.s (.s (.s (.s (.s (.s (.s (.s .z)))))))))))))))))))))))) (by kernel_rfl) (by kernel_rfl) (by kernel_rfl) (fun _ _ _ h => h) (by rfl) (by assumption) ?_ ?_
      rotate_left
      · intro w hSw; (try dsimp only at hSw); go_simp; (try with_reducible rfl)
      try simp only [Act.put, List.setIfInBounds_toArray, List.set_cons_zero, List.set_cons_succ]
      refine MyHeld.take 25 (v := ?_) (.s (.s (.s (.s (.s (.s (.s (.s (.s (.s (.s (.s (.s (.s (.s (.s (.s (.s (.s (.s (.s (.s (.s (.s (.s .z))))))))))))))))))))))))) (by kernel_rfl) (by kernel_rfl) (by kernel_rfl) (fun _ _ _ h => h) (by rfl) (by assumption) ?_ ?_
      rotate_left
      · intro w hSw; (try dsimp only at hSw); go_simp; (try with_reducible rfl)
      try simp only [Act.put, List.setIfInBounds_toArray, List.set_cons_zero, List.set_cons_succ]
      refine wpAnyH_done (by kernel_rfl) ?_ _
      all_goals go_wp2_with fail
      all_goals go_meet
      all_goals exact ⟨by rw [HT.out], K⟩
  case rest =>
    clear hbS s0 s1 s2 s3 s4 n0 n1 n2 d0 d1 d2 d3 d4 q0 q1 q2 q3 q4 q5 q6 q7 q8 q9 qa hl1 hl4 hl5 hlN hlF hlX
    clear HLL
    obtain ⟨rfl, hL⟩ := hcut
    have HLL := Lib.hid hL
    clear hL
    rw [HT.out]
    obtain ⟨s0, s1, s2, s3, s4⟩ := five_cells HLL.out.1.1
    obtain ⟨n0, n1, n2⟩ := three_old' HLL.out.2.2.2.2.1
    obtain ⟨d0, d1, d2, d3, d4⟩ := five_cells HLL.out.2.2.2.2.2.2
    obtain ⟨q0, q1, q2, q3, q4, q5, q6, q7, q8, q9, qa⟩ := eleven HLL.out.1.2.2.1
    obtain ⟨hl1, hl4, hl5⟩ := HLL.out.1.lts
    obtain ⟨hlN, hlF, hlX⟩ := HLL.out.lts
    rw [show st.a.s = 2 from HG.out] at n0
    go_wp2_with fail
    refine ((enough_call a n c s z v z' v' t fl k 2 _ (HL.out.below HLL.out.1.2.2.2) HO.out (by decide))).mono ?_; rintro e w5 ⟨rfl, hb5⟩
    replace HLL := Lib.hid (HLL.out.keep hb5)
    clear hb5
    clear s0 s1 s2 s3 s4 n0 n1 n2 d0 d1 d2 d3 d4 q0 q1 q2 q3 q4 q5 q6 q7 q8 q9 qa hl1 hl4 hl5 hlN hlF hlX
    obtain ⟨s0, s1, s2, s3, s4⟩ := five_cells HLL.out.1.1
    obtain ⟨n0, n1, n2⟩ := three_old' HLL.out.2.2.2.2.1
    obtain ⟨d0, d1, d2, d3, d4⟩ := five_cells HLL.out.2.2.2.2.2.2
    obtain ⟨q0, q1, q2, q3, q4, q5, q6, q7, q8, q9, qa⟩ := eleven HLL.out.1.2.2.1
    obtain ⟨hl1, hl4, hl5⟩ := HLL.out.1.lts
    obtain ⟨hlN, hlF, hlX⟩ := HLL.out.lts
    rw [show st.a.s = 2 from HG.out] at n0
    have e0 : w5.frozen? ⟨bX, 0, none⟩ = false := free_of_block HLL.out.2.2.2.2.2.2
    have e1 : w5.frozen? ⟨bX, 1, none⟩ = false := free_of_block HLL.out.2.2.2.2.2.2
    have e2 : w5.frozen? ⟨bX, 2, none⟩ = false := free_of_block HLL.out.2.2.2.2.2.2
    go_upto_region 24 with fail
    have L := ((HLL.out.set 0 (.int .u8 (enA s z v z' v' 2 t).s)).set 1 (.int .i64 (enA s z v z' v' 2 t).r)).set 2 (.bool (enA s z v z' v' 2 t).k)
    replace L : NwL w (nstC st) (scnC a n c s z v z' v' t fl k) bN st.a bF Y bX #[.int .u8 (enA s z v z' v' 2 t).s, .int .i64 (enA s z v z' v' 2 t).r, .bool (enA s z v z' v' 2 t).k, .int .i64 0, .bool st.rv] _ := L
    generalize (((w5.setCell ⟨bX, 0, none⟩ (.int .u8 (enA s z v z' v' 2 t).s)).setCell ⟨bX, 1, none⟩ (.int .i64 (enA s z v z' v' 2 t).r)).setCell ⟨bX, 2, none⟩ (.bool (enA s z v z' v' 2 t).k)) = w6 at *
    clear HLL e0 e1 e2
    have HLL := Lib.hid L
    clear L
    obtain ⟨s0, s1, s2, s3, s4⟩ := five_cells HLL.out.1.1
    obtain ⟨n0, n1, n2⟩ := three_old' HLL.out.2.2.2.2.1
    obtain ⟨d0, d1, d2, d3, d4⟩ := five_cells HLL.out.2.2.2.2.2.2
    obtain ⟨q0, q1, q2, q3, q4, q5, q6, q7, q8, q9, qa⟩ := eleven HLL.out.1.2.2.1
    obtain ⟨hl1, hl4, hl5⟩ := HLL.out.1.lts
    obtain ⟨hlN, hlF, hlX⟩ := HLL.out.lts
    rw [show st.a.s = 2 from HG.out] at n0
    obtain ⟨hh, v1⟩ := HH.out
    have HH2 := Lib.hid hh
    clear hh
    have e0 : w6.frozen? ⟨bX, 0, none⟩ = false := free_of_block HLL.out.2.2.2.2.2.2
    have e1 : w6.frozen? ⟨bX, 1, none⟩ = false := free_of_block HLL.out.2.2.2.2.2.2
    have e2 : w6.frozen? ⟨bX, 2, none⟩ = false := free_of_block HLL.out.2.2.2.2.2.2
    have e3 : w6.frozen? ⟨bX, 3, none⟩ = false := free_of_block HLL.out.2.2.2.2.2.2
    have hage : IntKind.i64.wrap (st.age + 1) = st.age + 1 := IntWalk.i64_in _ (by omega)
    rcases v1 with v1 | ⟨v1, v2, v3⟩
    all_goals
      go_upto_region 25 with fail
      have K := HLL.out
      go_region_held3 (fun w' => (w'.cell? ⟨bN, 0, none⟩ = some (.int .u8 st.a.s) ∧ w'.cell? ⟨bN, 1, none⟩ = some (.int .i64 st.a.r) ∧ w'.cell? ⟨bN, 2, none⟩ = some (.bool st.a.k)) ∧ w'.cell? ⟨w.heap.size + 1, 3, none⟩ = some (.int .i64 st.age)) (first | with_reducible exact K.sn | with_reducible exact K.sn3 _ _ _ | with_reducible exact K.sn4 _ _ _ _) (fail)
      all_goals
        rw [show (if 1000 < st.age + 1 then (1000 : Int) else st.age + 1) = min (st.age + 1) 1000 from by split <;> omega]
        have L := (((K.set 0 (.int .u8 st.a.s)).set 1 (.int .i64 st.a.r)).set 2 (.bool st.a.k)).set 3 (.int .i64 (min (st.age + 1) 1000))
        replace L : NwL w (nstC st) (scnC a n c s z v z' v' t fl k) bN st.a bF Y bX #[.int .u8 st.a.s, .int .i64 st.a.r, .bool st.a.k, .int .i64 (min (st.age + 1) 1000), .bool st.rv] _ := L.keep ((Below.refl _ _).drew)
        generalize (((((w6.setCell ⟨bX, 0, none⟩ (.int .u8 st.a.s)).setCell ⟨bX, 1, none⟩ (.int .i64 st.a.r)).setCell ⟨bX, 2, none⟩ (.bool st.a.k)).setCell ⟨bX, 3, none⟩ (.int .i64 (min (st.age + 1) 1000))).drew) = w7 at *
        clear HLL K s0 s1 s2 s3 s4 n0 n1 n2 d0 d1 d2 d3 d4 e0 e1 e2 e3 q0 q1 q2 q3 q4 q5 q6 q7 q8 q9 qa
        generalize hmn : min (st.age + 1) 1000 = mn at *
        have HMN := Lib.hid hmn
        clear hmn
        have HLL := Lib.hid L
        clear L
        obtain ⟨x0, x1, x2, x3, x4⟩ := five_cells HLL.out.2.2.2.2.2.2
        clear v1 hage
        go_wp2_with (refine wpList_store_new rfl 57 (.tmp 14) (.tmp 158) rfl (w.heap.size + 4) #[.int .u8 st.a.s, .int .i64 st.a.r, .bool st.a.k, .int .i64 mn, .bool st.rv] rfl rfl 57 _ HLL.out.1.2.1 (by kernel_rfl) rfl (by simp [Value.oneCell']) ?_; intro w9 H9)
        try rw [Exit.noGoto_ret]
        refine bodyPost_ret (v := .tuple #[nstV ⟨st.a, mn, st.rv⟩, .int .i64 0]) ?_ rfl (nxPost_of ⟨(nx_ok HE.out HBn.out HA0.out HC.out).1, (nx_ok HE.out HBn.out HA0.out HC.out).2.trans ((nxA_hold HNZ.out (by rw [HG.out]; exact HW.out) (by rw [HG.out]; exact HT.out) (by rw [HG.out]; exact HH2.out)).trans (by rw [HMN.out]))⟩ (HLL.out.1.done H9.out.2))
        obtain ⟨r0, r1, r2, r3, r4⟩ := five_cells H9.out.1
        simp [results, Try.f26, go_sem, r0, r1, r2, r3, r4, nstV]
end Go.Proofs.Ytfgalaalopkclaa
