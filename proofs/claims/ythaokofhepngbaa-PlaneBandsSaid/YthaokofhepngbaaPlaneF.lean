/-
  Layer 36 (plane): Reach.
-/
import Derived.Test.YthaokofhepngbaaPlaneE
namespace Go.Proofs.Ythaokofhepngbaa
open Go.RowKit PlaneMath MyHeap

set_option maxRecDepth 100000 in
set_option maxHeartbeats 4000000 in
theorem Reach_good (z v pull : Int) (n : Nat) (w : World) (hs : stB z v = true) (hp0 : 0 ≤ pull) (hp1 : pull ≤ 32) (hn : n ≤ 256) :
    Calls Try.prog 11 #[.agg #[.int .i64 z, .int .i64 v], .int .i64 pull, .int .i64 n] w fun e w' =>
      e = .returned (.tuple #[.int .i64 (rchD z v pull n), .int .i64 (rchU z v pull n), .int .i64 (rchE z v pull n)]) ∧ Below w.heap.size w w' := by
  have hE : stE z v = 0 := stE_yes hs
  have HS := Lib.hid hs
  clear hs
  go_enter Try.func11, Try.ntmps11
  go_wp2_with fail
  refine (Check_call _ _ _).mono ?_; rintro e w1 ⟨rfl, hb1⟩
  have kp : w1.heap[w.heap.size]? = some (.cells #[.int .i64 z, .int .i64 v] 23 (0, 0)) := keepO hb1 (block_new _ _ rfl)
  have hB : Below w.heap.size w w1 := ((Below.refl _ w).alloc (Nat.le_refl _) _).trans (hb1.mono (by simp))
  have hz1 := lt_of_block kp
  clear hb1
  obtain ⟨p0, p1, _, _⟩ := two_old kp
  go_wp2_with fail
  refine (in_yes _ _ _ _ hp0 hp1).mono ?_; rintro e w3 ⟨rfl, rfl⟩
  go_wp2_with fail
  refine (in_yes _ _ _ _ (by omega) (by omega)).mono ?_; rintro e w3 ⟨rfl, rfl⟩
  go_wp2_with fail
  go_region
  all_goals go_wp2
  · have hFd : Flight ((w1.alloc (.cells #[.int .i64 z, .int .i64 v, .int .i64 pull, .bool false] 60)).alloc (.cells #[.int .i64 z, .int .i64 v, .int .i64 pull, .bool false] 60)) (w1.heap.size) (itZ (-100) (-100) pull 0 z v) (itV (-100) (-100) pull 0 z v) pull (itL (-100) (-100) pull 0 z v) := block_alloc (o' := (.cells #[.int .i64 z, .int .i64 v, .int .i64 pull, .bool false] 60)) (block_new w1 (.cells #[.int .i64 z, .int .i64 v, .int .i64 pull, .bool false] 60) rfl)
    have hFu : Flight ((w1.alloc (.cells #[.int .i64 z, .int .i64 v, .int .i64 pull, .bool false] 60)).alloc (.cells #[.int .i64 z, .int .i64 v, .int .i64 pull, .bool false] 60)) (w1.heap.size + 1) (itZ 100 100 pull 0 z v) (itV 100 100 pull 0 z v) pull (itL 100 100 pull 0 z v) := block_new (w1.alloc (.cells #[.int .i64 z, .int .i64 v, .int .i64 pull, .bool false] 60)) (.cells #[.int .i64 z, .int .i64 v, .int .i64 pull, .bool false] 60) (by simp)
    go_loopw [34] (fun i wr => ∃ k : Nat, k ≤ n ∧ i = .int .i64 k ∧ (Flight wr (w1.heap.size) (itZ (-100) (-100) pull k z v) (itV (-100) (-100) pull k z v) pull (itL (-100) (-100) pull k z v) ∧ Flight wr (w1.heap.size + 1) (itZ 100 100 pull k z v) (itV 100 100 pull k z v) pull (itL 100 100 pull k z v)) ∧ Below w.heap.size w wr) (fun i _ => n - (intOf i).toNat)
    case atStart => exact ⟨0, by omega, rfl, ⟨hFd, hFu⟩, ((hB.alloc (by omega) _).alloc (by simp; omega) _).drew⟩
    case round =>
      obtain ⟨k, hk, rfl, ⟨hFd, hFu⟩, hBr⟩ := hrel
      have HFd := Lib.hid hFd
      have HFu := Lib.hid hFu
      by_cases hlt : k < n
      · clear hFd hFu
        go_wp2_with fail
        refine (fly_call _ _ _ pull _ _ _ _ HFd.out (it_st (by decide) hp0 k HS.out) (by decide) hp0 hp1).mono ?_; rintro e w4 ⟨rfl, hF4, hO4⟩
        have HF4 := Lib.hid hF4
        have HU4 := Lib.hid (hO4.keeps HFu.out (by omega))
        have hB4 := hBr.trans (hO4.below (by omega) hBr.size)
        clear hF4 hO4
        go_wp2_with fail
        refine (fly_call _ _ _ pull _ _ _ _ HU4.out (it_st (by decide) hp0 k HS.out) (by decide) hp0 hp1).mono ?_; rintro e w5 ⟨rfl, hF5, hO5⟩
        have HF5 := Lib.hid hF5
        have HD5 := Lib.hid (hO5.keeps HF4.out (by omega))
        have hB5 := hB4.trans (hO5.below (by omega) hB4.size)
        clear hF5 hO5
        go_wp2
        go_roundw
        case rel => exact ⟨k + 1, by omega, by go_num, ⟨HD5.out, HF5.out⟩, hB5⟩
        case measure => simp [intOf]; omega
      · obtain rfl : k = n := by omega
        have d0 : wr.cell? ⟨w1.heap.size, 0, none⟩ = some (.int .i64 (itZ (-100) (-100) pull k z v)) := cell_of_block hFd rfl
        have d3 : wr.cell? ⟨w1.heap.size, 3, none⟩ = some (.bool (itL (-100) (-100) pull k z v)) := cell_of_block hFd rfl
        have u0 : wr.cell? ⟨w1.heap.size + 1, 0, none⟩ = some (.int .i64 (itZ 100 100 pull k z v)) := cell_of_block hFu rfl
        have u3 : wr.cell? ⟨w1.heap.size + 1, 3, none⟩ = some (.bool (itL 100 100 pull k z v)) := cell_of_block hFu rfl
        clear hFd hFu
        have hg : rchB z v pull k = true := by unfold rchB; rw [HS.out]; simp; omega
        cases lD : itL (-100) (-100) pull k z v
        · cases lU : itL 100 100 pull k z v
          · have HR := Lib.hid (rch_ok hg (by rw [lD, lU]; rfl))
            rw [lD] at d3
            rw [lU] at u3
            clear hg lD lU
            go_wp2
            go_quiet (fail)
            go_wp2
            go_ret3
            rw [HR.out.1, HR.out.2.1, HR.out.2.2]
            exact ⟨rfl, below_drewN hBr _⟩
          · have HR := Lib.hid (rch_lim hg (by rw [lD, lU]; rfl))
            rw [lD] at d3
            rw [lU] at u3
            clear hg lD lU
            go_wp2
            go_ret3
            rw [HR.out.1, HR.out.2.1, HR.out.2.2]
            exact ⟨rfl, hBr⟩
        · have HR := Lib.hid (rch_lim hg (by rw [lD]; rfl))
          rw [lD] at d3
          clear hg lD
          go_wp2
          go_ret3
          rw [HR.out.1, HR.out.2.1, HR.out.2.2]
          exact ⟨rfl, hBr⟩
  · have hFd : Flight ((w1.alloc (.cells #[.int .i64 z, .int .i64 v, .int .i64 pull, .bool false] 60)).alloc (.cells #[.int .i64 z, .int .i64 v, .int .i64 pull, .bool false] 60)) (w1.heap.size + 1) (itZ (-100) (-100) pull 0 z v) (itV (-100) (-100) pull 0 z v) pull (itL (-100) (-100) pull 0 z v) := block_new (w1.alloc (.cells #[.int .i64 z, .int .i64 v, .int .i64 pull, .bool false] 60)) (.cells #[.int .i64 z, .int .i64 v, .int .i64 pull, .bool false] 60) (by simp)
    have hFu : Flight ((w1.alloc (.cells #[.int .i64 z, .int .i64 v, .int .i64 pull, .bool false] 60)).alloc (.cells #[.int .i64 z, .int .i64 v, .int .i64 pull, .bool false] 60)) (w1.heap.size) (itZ 100 100 pull 0 z v) (itV 100 100 pull 0 z v) pull (itL 100 100 pull 0 z v) := block_alloc (o' := (.cells #[.int .i64 z, .int .i64 v, .int .i64 pull, .bool false] 60)) (block_new w1 (.cells #[.int .i64 z, .int .i64 v, .int .i64 pull, .bool false] 60) rfl)
    go_loopw [34] (fun i wr => ∃ k : Nat, k ≤ n ∧ i = .int .i64 k ∧ (Flight wr (w1.heap.size + 1) (itZ (-100) (-100) pull k z v) (itV (-100) (-100) pull k z v) pull (itL (-100) (-100) pull k z v) ∧ Flight wr (w1.heap.size) (itZ 100 100 pull k z v) (itV 100 100 pull k z v) pull (itL 100 100 pull k z v)) ∧ Below w.heap.size w wr) (fun i _ => n - (intOf i).toNat)
    case atStart => exact ⟨0, by omega, rfl, ⟨hFd, hFu⟩, ((hB.alloc (by omega) _).alloc (by simp; omega) _).drew⟩
    case round =>
      obtain ⟨k, hk, rfl, ⟨hFd, hFu⟩, hBr⟩ := hrel
      have HFd := Lib.hid hFd
      have HFu := Lib.hid hFu
      by_cases hlt : k < n
      · clear hFd hFu
        go_wp2_with fail
        refine (fly_call _ _ _ pull _ _ _ _ HFd.out (it_st (by decide) hp0 k HS.out) (by decide) hp0 hp1).mono ?_; rintro e w4 ⟨rfl, hF4, hO4⟩
        have HF4 := Lib.hid hF4
        have HU4 := Lib.hid (hO4.keeps HFu.out (by omega))
        have hB4 := hBr.trans (hO4.below (by omega) hBr.size)
        clear hF4 hO4
        go_wp2_with fail
        refine (fly_call _ _ _ pull _ _ _ _ HU4.out (it_st (by decide) hp0 k HS.out) (by decide) hp0 hp1).mono ?_; rintro e w5 ⟨rfl, hF5, hO5⟩
        have HF5 := Lib.hid hF5
        have HD5 := Lib.hid (hO5.keeps HF4.out (by omega))
        have hB5 := hB4.trans (hO5.below (by omega) hB4.size)
        clear hF5 hO5
        go_wp2
        go_roundw
        case rel => exact ⟨k + 1, by omega, by go_num, ⟨HD5.out, HF5.out⟩, hB5⟩
        case measure => simp [intOf]; omega
      · obtain rfl : k = n := by omega
        have d0 : wr.cell? ⟨w1.heap.size + 1, 0, none⟩ = some (.int .i64 (itZ (-100) (-100) pull k z v)) := cell_of_block hFd rfl
        have d3 : wr.cell? ⟨w1.heap.size + 1, 3, none⟩ = some (.bool (itL (-100) (-100) pull k z v)) := cell_of_block hFd rfl
        have u0 : wr.cell? ⟨w1.heap.size, 0, none⟩ = some (.int .i64 (itZ 100 100 pull k z v)) := cell_of_block hFu rfl
        have u3 : wr.cell? ⟨w1.heap.size, 3, none⟩ = some (.bool (itL 100 100 pull k z v)) := cell_of_block hFu rfl
        clear hFd hFu
        have hg : rchB z v pull k = true := by unfold rchB; rw [HS.out]; simp; omega
        cases lD : itL (-100) (-100) pull k z v
        · cases lU : itL 100 100 pull k z v
          · have HR := Lib.hid (rch_ok hg (by rw [lD, lU]; rfl))
            rw [lD] at d3
            rw [lU] at u3
            clear hg lD lU
            go_wp2
            go_quiet (fail)
            go_wp2
            go_ret3
            rw [HR.out.1, HR.out.2.1, HR.out.2.2]
            exact ⟨rfl, below_drewN hBr _⟩
          · have HR := Lib.hid (rch_lim hg (by rw [lD, lU]; rfl))
            rw [lD] at d3
            rw [lU] at u3
            clear hg lD lU
            go_wp2
            go_ret3
            rw [HR.out.1, HR.out.2.1, HR.out.2.2]
            exact ⟨rfl, hBr⟩
        · have HR := Lib.hid (rch_lim hg (by rw [lD]; rfl))
          rw [lD] at d3
          clear hg lD
          go_wp2
          go_ret3
          rw [HR.out.1, HR.out.2.1, HR.out.2.2]
          exact ⟨rfl, hBr⟩
end Go.Proofs.Ythaokofhepngbaa
