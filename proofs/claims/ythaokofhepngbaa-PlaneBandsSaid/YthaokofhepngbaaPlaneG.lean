/-
  Layer 36 (plane): Reach's errors; the reference's Reach.
-/
import Derived.Test.YthaokofhepngbaaPlaneF
namespace Go.Proofs.Ythaokofhepngbaa
open Go.RowKit PlaneMath MyHeap

set_option maxRecDepth 100000 in
set_option maxHeartbeats 4000000 in
theorem Reach_no1 (z v pull n : Int) (w : World) (hs : stB z v = false) :
    Calls Try.prog 11 #[.agg #[.int .i64 z, .int .i64 v], .int .i64 pull, .int .i64 n] w fun e w' =>
      e = .returned (.tuple #[.int .i64 0, .int .i64 0, .int .i64 1]) ∧ Below w.heap.size w w' := by
  have hE : stE z v = 1 := by unfold stE; rw [hs]; rfl
  clear hs
  go_enter Try.func11, Try.ntmps11
  go_wp2_with fail
  refine (Check_call _ _ _).mono ?_; rintro e w1 ⟨rfl, hb1⟩
  have hB : Below w.heap.size w w1 := ((Below.refl _ w).alloc (Nat.le_refl _) _).trans (hb1.mono (by simp))
  clear hb1
  go_wp2
  go_ret3
  exact ⟨rfl, hB⟩

set_option maxRecDepth 100000 in
set_option maxHeartbeats 4000000 in
theorem Reach_no2 (z v pull n : Int) (w : World) (hs : stB z v = true) (hp : pull < 0 ∨ 32 < pull) :
    Calls Try.prog 11 #[.agg #[.int .i64 z, .int .i64 v], .int .i64 pull, .int .i64 n] w fun e w' =>
      e = .returned (.tuple #[.int .i64 0, .int .i64 0, .int .i64 1]) ∧ Below w.heap.size w w' := by
  have hE : stE z v = 0 := stE_yes hs
  have HP := Lib.hid hp
  clear hs hp
  go_enter Try.func11, Try.ntmps11
  go_wp2_with fail
  refine (Check_call _ _ _).mono ?_; rintro e w1 ⟨rfl, hb1⟩
  have hB : Below w.heap.size w w1 := ((Below.refl _ w).alloc (Nat.le_refl _) _).trans (hb1.mono (by simp))
  clear hb1
  go_wp2_with fail
  refine (in_no _ _ _ _ HP.out).mono ?_; rintro e w3 ⟨rfl, rfl⟩
  go_wp2
  go_ret3
  exact ⟨rfl, hB⟩

set_option maxRecDepth 100000 in
set_option maxHeartbeats 4000000 in
theorem Reach_no3 (z v pull n : Int) (w : World) (hs : stB z v = true) (hp0 : 0 ≤ pull) (hp1 : pull ≤ 32) (hn : n < 0 ∨ 256 < n) :
    Calls Try.prog 11 #[.agg #[.int .i64 z, .int .i64 v], .int .i64 pull, .int .i64 n] w fun e w' =>
      e = .returned (.tuple #[.int .i64 0, .int .i64 0, .int .i64 1]) ∧ Below w.heap.size w w' := by
  have hE : stE z v = 0 := stE_yes hs
  have HN := Lib.hid hn
  clear hs hn
  go_enter Try.func11, Try.ntmps11
  go_wp2_with fail
  refine (Check_call _ _ _).mono ?_; rintro e w1 ⟨rfl, hb1⟩
  have hB : Below w.heap.size w w1 := ((Below.refl _ w).alloc (Nat.le_refl _) _).trans (hb1.mono (by simp))
  clear hb1
  go_wp2_with fail
  refine (in_yes _ _ _ _ hp0 hp1).mono ?_; rintro e w3 ⟨rfl, rfl⟩
  go_wp2_with fail
  refine (in_no _ _ _ _ HN.out).mono ?_; rintro e w3 ⟨rfl, rfl⟩
  go_wp2
  go_ret3
  exact ⟨rfl, hB⟩

set_option maxRecDepth 100000 in
set_option maxHeartbeats 4000000 in
theorem rReach_no1 (z v pull n : Int) (w : World) (hs : stB z v = false) :
    Calls Try.prog 12 #[.agg #[.int .i64 z, .int .i64 v], .int .i64 pull, .int .i64 n] w fun e w' =>
      e = .returned (.tuple #[.int .i64 0, .int .i64 0, .int .i64 1]) ∧ Below w.heap.size w w' := by
  have hE : stE z v = 1 := by unfold stE; rw [hs]; rfl
  clear hs
  go_enter Try.func12, Try.ntmps12
  go_wp2_with fail
  refine (refCheck_call _ _ _).mono ?_; rintro e w1 ⟨rfl, hb1⟩
  have hB : Below w.heap.size w w1 := ((Below.refl _ w).alloc (Nat.le_refl _) _).trans (hb1.mono (by simp))
  clear hb1
  go_wp2
  go_ret3
  exact ⟨rfl, hB⟩

set_option maxRecDepth 100000 in
set_option maxHeartbeats 4000000 in
theorem rReach_no2a (z v pull n : Int) (w : World) (hs : stB z v = true) (hp : pull < 0) :
    Calls Try.prog 12 #[.agg #[.int .i64 z, .int .i64 v], .int .i64 pull, .int .i64 n] w fun e w' =>
      e = .returned (.tuple #[.int .i64 0, .int .i64 0, .int .i64 1]) ∧ Below w.heap.size w w' := by
  have hE : stE z v = 0 := stE_yes hs
  clear hs
  go_enter Try.func12, Try.ntmps12
  go_wp2_with fail
  refine (refCheck_call _ _ _).mono ?_; rintro e w1 ⟨rfl, hb1⟩
  have hB : Below w.heap.size w w1 := ((Below.refl _ w).alloc (Nat.le_refl _) _).trans (hb1.mono (by simp))
  clear hb1
  go_wp2
  go_ret3
  exact ⟨rfl, hB⟩

set_option maxRecDepth 100000 in
set_option maxHeartbeats 4000000 in
theorem rReach_no2b (z v pull n : Int) (w : World) (hs : stB z v = true) (hp' : ¬ pull < 0) (hp : 32 < pull) :
    Calls Try.prog 12 #[.agg #[.int .i64 z, .int .i64 v], .int .i64 pull, .int .i64 n] w fun e w' =>
      e = .returned (.tuple #[.int .i64 0, .int .i64 0, .int .i64 1]) ∧ Below w.heap.size w w' := by
  have hE : stE z v = 0 := stE_yes hs
  clear hs
  go_enter Try.func12, Try.ntmps12
  go_wp2_with fail
  refine (refCheck_call _ _ _).mono ?_; rintro e w1 ⟨rfl, hb1⟩
  have hB : Below w.heap.size w w1 := ((Below.refl _ w).alloc (Nat.le_refl _) _).trans (hb1.mono (by simp))
  clear hb1
  go_wp2
  go_ret3
  exact ⟨rfl, hB⟩

set_option maxRecDepth 100000 in
set_option maxHeartbeats 4000000 in
theorem rReach_no3a (z v pull n : Int) (w : World) (hs : stB z v = true) (hp' : ¬ pull < 0) (hp : ¬ 32 < pull) (hn : n < 0) :
    Calls Try.prog 12 #[.agg #[.int .i64 z, .int .i64 v], .int .i64 pull, .int .i64 n] w fun e w' =>
      e = .returned (.tuple #[.int .i64 0, .int .i64 0, .int .i64 1]) ∧ Below w.heap.size w w' := by
  have hE : stE z v = 0 := stE_yes hs
  clear hs
  go_enter Try.func12, Try.ntmps12
  go_wp2_with fail
  refine (refCheck_call _ _ _).mono ?_; rintro e w1 ⟨rfl, hb1⟩
  have hB : Below w.heap.size w w1 := ((Below.refl _ w).alloc (Nat.le_refl _) _).trans (hb1.mono (by simp))
  clear hb1
  go_wp2
  go_ret3
  exact ⟨rfl, hB⟩

set_option maxRecDepth 100000 in
set_option maxHeartbeats 4000000 in
theorem rReach_no3b (z v pull n : Int) (w : World) (hs : stB z v = true) (hp' : ¬ pull < 0) (hp : ¬ 32 < pull) (hn' : ¬ n < 0) (hn : 256 < n) :
    Calls Try.prog 12 #[.agg #[.int .i64 z, .int .i64 v], .int .i64 pull, .int .i64 n] w fun e w' =>
      e = .returned (.tuple #[.int .i64 0, .int .i64 0, .int .i64 1]) ∧ Below w.heap.size w w' := by
  have hE : stE z v = 0 := stE_yes hs
  clear hs
  go_enter Try.func12, Try.ntmps12
  go_wp2_with fail
  refine (refCheck_call _ _ _).mono ?_; rintro e w1 ⟨rfl, hb1⟩
  have hB : Below w.heap.size w w1 := ((Below.refl _ w).alloc (Nat.le_refl _) _).trans (hb1.mono (by simp))
  clear hb1
  go_wp2
  go_ret3
  exact ⟨rfl, hB⟩

theorem Reach_call (z v pull n : Int) (w : World) :
    Calls Try.prog 11 #[.agg #[.int .i64 z, .int .i64 v], .int .i64 pull, .int .i64 n] w fun e w' =>
      e = .returned (.tuple #[.int .i64 (rchD z v pull n), .int .i64 (rchU z v pull n), .int .i64 (rchE z v pull n)]) ∧ Below w.heap.size w w' := by
  cases hf : rchB z v pull n with
  | true =>
    unfold rchB at hf
    simp only [Bool.and_eq_true, decide_eq_true_eq] at hf
    obtain ⟨m, rfl⟩ := Int.eq_ofNat_of_zero_le hf.2.1
    exact Reach_good z v pull m w hf.1.1 hf.1.2.1 hf.1.2.2 (by omega)
  | false =>
    obtain ⟨e1, e2, e3⟩ := rch_no hf
    rw [e1, e2, e3]
    cases hs : stB z v with
    | false => exact Reach_no1 z v pull n w hs
    | true =>
      unfold rchB at hf
      rw [hs] at hf
      simp at hf
      by_cases hp : 0 ≤ pull ∧ pull ≤ 32
      · exact Reach_no3 z v pull n w hs hp.1 hp.2 (by omega)
      · exact Reach_no2 z v pull n w hs (by omega)

set_option maxRecDepth 100000 in
set_option maxHeartbeats 8000000 in
theorem rReach_good (z v pull : Int) (n : Nat) (w : World) (hs : stB z v = true) (hp0 : 0 ≤ pull) (hp1 : pull ≤ 32) (hn : n ≤ 256) :
    Calls Try.prog 12 #[.agg #[.int .i64 z, .int .i64 v], .int .i64 pull, .int .i64 n] w fun e w' =>
      e = .returned (.tuple #[.int .i64 (rchD z v pull n), .int .i64 (rchU z v pull n), .int .i64 (rchE z v pull n)]) ∧ Below w.heap.size w w' := by
  have hE : stE z v = 0 := stE_yes hs
  have hg : rchB z v pull n = true := by unfold rchB; rw [hs]; simp; omega
  have HS := Lib.hid hs
  clear hs
  go_enter Try.func12, Try.ntmps12
  go_wp2_with fail
  refine (refCheck_call _ _ _).mono ?_; rintro e w1 ⟨rfl, hb1⟩
  have kp : w1.heap[w.heap.size]? = some (.cells #[.int .i64 z, .int .i64 v] 23 (0, 0)) := keepO hb1 (block_new _ _ rfl)
  have hB : Below w.heap.size w w1 := ((Below.refl _ w).alloc (Nat.le_refl _) _).trans (hb1.mono (by simp))
  have hz1 := lt_of_block kp
  clear hb1
  obtain ⟨p0, p1, _, _⟩ := two_old kp
  clear kp
  go_wp2_with fail
  go_region
  all_goals go_wp2
  · go_loopw [12] (fun i wr => ∃ k : Nat, k ≤ n ∧ i = .int .i64 k ∧ (wr.heap[w1.heap.size]? = some (.cells #[.int .i64 (itZ (-100) (-100) pull k z v), .int .i64 (itV (-100) (-100) pull k z v)] 23 (0, 0)) ∧ wr.heap[w1.heap.size + 1]? = some (.cells #[.int .i64 (itZ 100 100 pull k z v), .int .i64 (itV 100 100 pull k z v)] 23 (0, 0))) ∧ (itL (-100) (-100) pull k z v = false ∧ itL 100 100 pull k z v = false) ∧ Below w.heap.size w wr) (fun i _ => n - (intOf i).toNat)
    case atStart => exact ⟨0, by omega, rfl, ⟨block_alloc (block_new w1 _ rfl), block_new _ _ (by simp)⟩, ⟨rfl, rfl⟩, ((hB.alloc (by omega) _).alloc (by simp; omega) _).drew⟩
    case round =>
      obtain ⟨k, hk, rfl, ⟨hFd, hFu⟩, ⟨lD, lU⟩, hBr⟩ := hrel
      have HFd := Lib.hid hFd
      have HFu := Lib.hid hFu
      have HLD := Lib.hid lD
      have HLU := Lib.hid lU
      clear lD lU
      obtain ⟨d0, d1, _, _⟩ := two_old hFd
      obtain ⟨u0, u1, _, _⟩ := two_old hFu
      by_cases hlt : k < n
      · clear hFd hFu
        go_wp2_with fail
        refine (next_call _ _ _ _ pull _ (it_st (by decide) hp0 k HS.out) (by decide) hp0 hp1).mono ?_; rintro e w4 ⟨rfl, hb4⟩
        have hFd4 := keepO hb4 HFd.out
        have hFu4 := keepO hb4 HFu.out
        have hB4 := hBr.trans (hb4.mono hBr.size)
        have HFd4 := Lib.hid hFd4
        have HFu4 := Lib.hid hFu4
        clear hb4
        obtain ⟨d0', d1', gd0, gd1⟩ := two_old hFd4
        obtain ⟨u0', u1', gu0, gu1⟩ := two_old hFu4
        clear hFd4 hFu4
        go_wp2_with fail
        refine (next_call _ _ _ _ pull _ (it_st (by decide) hp0 k HS.out) (by decide) hp0 hp1).mono ?_; rintro e w5 ⟨rfl, hb5⟩
        have hFd5 := keepO hb5 (block_setCell (i := 1) (v := .int .i64 (nxtV (itZ (-100) (-100) pull k z v) (itV (-100) (-100) pull k z v) (-100) (-100) pull)) (block_setCell (i := 0) (v := .int .i64 (nxtZ (itZ (-100) (-100) pull k z v) (itV (-100) (-100) pull k z v))) HFd4.out))
        have hFu5 := keepO hb5 ((Below.heap_setCell _ _ _ _ (by simp)).trans ((Below.heap_setCell _ _ _ _ (by simp)).trans HFu4.out))
        have hB5 := ((hB4.setCell (p := ⟨w1.heap.size, 0, none⟩) (by simp; omega) _).setCell (p := ⟨w1.heap.size, 1, none⟩) (by simp; omega) _).trans (hb5.mono (by simp [World.setCell]; have := hB4.size; omega))
        have HFd5 := Lib.hid hFd5
        have HFu5 := Lib.hid hFu5
        clear hb5 d0 d1 d0' d1' gd0 gd1 u0 u1 u0' u1' gu0 gu1
        obtain ⟨u0, u1, gu0, gu1⟩ := two_old hFu5
        clear hFd5 hFu5
        have hBf := (hB5.setCell (p := ⟨w1.heap.size + 1, 0, none⟩) (by simp; omega) (.int .i64 (nxtZ (itZ 100 100 pull k z v) (itV 100 100 pull k z v)))).setCell (p := ⟨w1.heap.size + 1, 1, none⟩) (by simp; omega) (.int .i64 (nxtV (itZ 100 100 pull k z v) (itV 100 100 pull k z v) 100 100 pull))
        cases nD : nxtL (itZ (-100) (-100) pull k z v) (itV (-100) (-100) pull k z v)
        · cases nU : nxtL (itZ 100 100 pull k z v) (itV 100 100 pull k z v)
          · have HND := Lib.hid nD
            have HNU := Lib.hid nU
            go_wp2
            go_roundw
            case rel =>
              refine ⟨k + 1, by omega, by go_num, ⟨?_, ?_⟩, ⟨by rw [itL_succ, HLD.out, HND.out]; rfl, by rw [itL_succ, HLU.out, HNU.out]; rfl⟩, hBf⟩
              · exact (Below.heap_setCell _ _ _ _ (by simp)).trans ((Below.heap_setCell _ _ _ _ (by simp)).trans HFd5.out)
              · exact block_setCell (block_setCell HFu5.out)
            case measure => simp [intOf]; omega
          · have HR := Lib.hid (rch_lim hg (by rw [itL_mono (show k + 1 ≤ n by omega) (show itL 100 100 pull (k + 1) z v = true by rw [itL_succ, nU]; simp)]; simp))
            go_wp2
            go_ret3
            rw [HR.out.1, HR.out.2.1, HR.out.2.2]
            exact ⟨rfl, hBf⟩
        · have HR := Lib.hid (rch_lim hg (by rw [itL_mono (show k + 1 ≤ n by omega) (show itL (-100) (-100) pull (k + 1) z v = true by rw [itL_succ, nD]; simp)]; rfl))
          go_wp2
          go_ret3
          rw [HR.out.1, HR.out.2.1, HR.out.2.2]
          exact ⟨rfl, hBf⟩
      · obtain rfl : k = n := by omega
        clear hFd hFu
        have HR := Lib.hid (rch_ok hg (by rw [HLD.out, HLU.out]; rfl))
        go_wp2
        go_quiet (fail)
        go_wp2
        go_ret3
        rw [HR.out.1, HR.out.2.1, HR.out.2.2]
        exact ⟨rfl, below_drewN hBr _⟩
  · go_loopw [12] (fun i wr => ∃ k : Nat, k ≤ n ∧ i = .int .i64 k ∧ (wr.heap[w1.heap.size + 1]? = some (.cells #[.int .i64 (itZ (-100) (-100) pull k z v), .int .i64 (itV (-100) (-100) pull k z v)] 23 (0, 0)) ∧ wr.heap[w1.heap.size]? = some (.cells #[.int .i64 (itZ 100 100 pull k z v), .int .i64 (itV 100 100 pull k z v)] 23 (0, 0))) ∧ (itL (-100) (-100) pull k z v = false ∧ itL 100 100 pull k z v = false) ∧ Below w.heap.size w wr) (fun i _ => n - (intOf i).toNat)
    case atStart => exact ⟨0, by omega, rfl, ⟨block_new _ _ (by simp), block_alloc (block_new w1 _ rfl)⟩, ⟨rfl, rfl⟩, ((hB.alloc (by omega) _).alloc (by simp; omega) _).drew⟩
    case round =>
      obtain ⟨k, hk, rfl, ⟨hFd, hFu⟩, ⟨lD, lU⟩, hBr⟩ := hrel
      have HFd := Lib.hid hFd
      have HFu := Lib.hid hFu
      have HLD := Lib.hid lD
      have HLU := Lib.hid lU
      clear lD lU
      obtain ⟨d0, d1, _, _⟩ := two_old hFd
      obtain ⟨u0, u1, _, _⟩ := two_old hFu
      by_cases hlt : k < n
      · clear hFd hFu
        go_wp2_with fail
        refine (next_call _ _ _ _ pull _ (it_st (by decide) hp0 k HS.out) (by decide) hp0 hp1).mono ?_; rintro e w4 ⟨rfl, hb4⟩
        have hFd4 := keepO hb4 HFd.out
        have hFu4 := keepO hb4 HFu.out
        have hB4 := hBr.trans (hb4.mono hBr.size)
        have HFd4 := Lib.hid hFd4
        have HFu4 := Lib.hid hFu4
        clear hb4
        obtain ⟨d0', d1', gd0, gd1⟩ := two_old hFd4
        obtain ⟨u0', u1', gu0, gu1⟩ := two_old hFu4
        clear hFd4 hFu4
        go_wp2_with fail
        refine (next_call _ _ _ _ pull _ (it_st (by decide) hp0 k HS.out) (by decide) hp0 hp1).mono ?_; rintro e w5 ⟨rfl, hb5⟩
        have hFd5 := keepO hb5 (block_setCell (i := 1) (v := .int .i64 (nxtV (itZ (-100) (-100) pull k z v) (itV (-100) (-100) pull k z v) (-100) (-100) pull)) (block_setCell (i := 0) (v := .int .i64 (nxtZ (itZ (-100) (-100) pull k z v) (itV (-100) (-100) pull k z v))) HFd4.out))
        have hFu5 := keepO hb5 ((Below.heap_setCell _ _ _ _ (by simp)).trans ((Below.heap_setCell _ _ _ _ (by simp)).trans HFu4.out))
        have hB5 := ((hB4.setCell (p := ⟨w1.heap.size + 1, 0, none⟩) (by simp; omega) _).setCell (p := ⟨w1.heap.size + 1, 1, none⟩) (by simp; omega) _).trans (hb5.mono (by simp [World.setCell]; have := hB4.size; omega))
        have HFd5 := Lib.hid hFd5
        have HFu5 := Lib.hid hFu5
        clear hb5 d0 d1 d0' d1' gd0 gd1 u0 u1 u0' u1' gu0 gu1
        obtain ⟨u0, u1, gu0, gu1⟩ := two_old hFu5
        clear hFd5 hFu5
        have hBf := (hB5.setCell (p := ⟨w1.heap.size, 0, none⟩) (by simp; omega) (.int .i64 (nxtZ (itZ 100 100 pull k z v) (itV 100 100 pull k z v)))).setCell (p := ⟨w1.heap.size, 1, none⟩) (by simp; omega) (.int .i64 (nxtV (itZ 100 100 pull k z v) (itV 100 100 pull k z v) 100 100 pull))
        cases nD : nxtL (itZ (-100) (-100) pull k z v) (itV (-100) (-100) pull k z v)
        · cases nU : nxtL (itZ 100 100 pull k z v) (itV 100 100 pull k z v)
          · have HND := Lib.hid nD
            have HNU := Lib.hid nU
            go_wp2
            go_roundw
            case rel =>
              refine ⟨k + 1, by omega, by go_num, ⟨?_, ?_⟩, ⟨by rw [itL_succ, HLD.out, HND.out]; rfl, by rw [itL_succ, HLU.out, HNU.out]; rfl⟩, hBf⟩
              · exact (Below.heap_setCell _ _ _ _ (by simp)).trans ((Below.heap_setCell _ _ _ _ (by simp)).trans HFd5.out)
              · exact block_setCell (block_setCell HFu5.out)
            case measure => simp [intOf]; omega
          · have HR := Lib.hid (rch_lim hg (by rw [itL_mono (show k + 1 ≤ n by omega) (show itL 100 100 pull (k + 1) z v = true by rw [itL_succ, nU]; simp)]; simp))
            go_wp2
            go_ret3
            rw [HR.out.1, HR.out.2.1, HR.out.2.2]
            exact ⟨rfl, hBf⟩
        · have HR := Lib.hid (rch_lim hg (by rw [itL_mono (show k + 1 ≤ n by omega) (show itL (-100) (-100) pull (k + 1) z v = true by rw [itL_succ, nD]; simp)]; rfl))
          go_wp2
          go_ret3
          rw [HR.out.1, HR.out.2.1, HR.out.2.2]
          exact ⟨rfl, hBf⟩
      · obtain rfl : k = n := by omega
        clear hFd hFu
        have HR := Lib.hid (rch_ok hg (by rw [HLD.out, HLU.out]; rfl))
        go_wp2
        go_quiet (fail)
        go_wp2
        go_ret3
        rw [HR.out.1, HR.out.2.1, HR.out.2.2]
        exact ⟨rfl, below_drewN hBr _⟩

theorem refReach_call (z v pull n : Int) (w : World) :
    Calls Try.prog 12 #[.agg #[.int .i64 z, .int .i64 v], .int .i64 pull, .int .i64 n] w fun e w' =>
      e = .returned (.tuple #[.int .i64 (rchD z v pull n), .int .i64 (rchU z v pull n), .int .i64 (rchE z v pull n)]) ∧ Below w.heap.size w w' := by
  cases hf : rchB z v pull n with
  | true =>
    unfold rchB at hf
    simp only [Bool.and_eq_true, decide_eq_true_eq] at hf
    obtain ⟨m, rfl⟩ := Int.eq_ofNat_of_zero_le hf.2.1
    exact rReach_good z v pull m w hf.1.1 hf.1.2.1 hf.1.2.2 (by omega)
  | false =>
    obtain ⟨e1, e2, e3⟩ := rch_no hf
    rw [e1, e2, e3]
    cases hs : stB z v with
    | false => exact rReach_no1 z v pull n w hs
    | true =>
      unfold rchB at hf
      rw [hs] at hf
      simp at hf
      by_cases h1 : pull < 0
      · exact rReach_no2a z v pull n w hs h1
      · by_cases h2 : 32 < pull
        · exact rReach_no2b z v pull n w hs h1 h2
        · by_cases h3 : n < 0
          · exact rReach_no3a z v pull n w hs h1 h2 h3
          · exact rReach_no3b z v pull n w hs h1 h2 h3 (by omega)
end Go.Proofs.Ythaokofhepngbaa
