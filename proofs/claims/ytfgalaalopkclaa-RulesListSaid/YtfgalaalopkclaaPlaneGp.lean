/-
  Layer 36 (plane): Reach's errors.
-/
import Derived.Test.YtfgalaalopkclaaPlaneF
namespace Go.Proofs.Ytfgalaalopkclaa
open Go.RowKit PlaneMath MyHeap

set_option maxRecDepth 100000 in
set_option maxHeartbeats 4000000 in
theorem Reach_no1 (z v pull n : Int) (w : World) (hs : stB z v = false) :
    Calls Try.prog 24 #[.agg #[.int .i64 z, .int .i64 v], .int .i64 pull, .int .i64 n] w fun e w' =>
      e = .returned (.tuple #[.int .i64 0, .int .i64 0, .int .i64 1]) ∧ Below w.heap.size w w' := by
  have hE : stE z v = 1 := by unfold stE; rw [hs]; rfl
  clear hs
  go_enter Try.func24, Try.ntmps24
  go_wp2_with fail
  refine (Check_call _ _ _).mono ?_; rintro e w1 ⟨rfl, hb1⟩
  have hB : Below w.heap.size w w1 := ((Below.refl _ w).alloc (Nat.le_refl _) _).trans (hb1.mono (by simp))
  clear hb1
  go_wp2
  go_ret3
  exact ⟨rfl, hB⟩

set_option maxRecDepth 100000 in
set_option maxHeartbeats 4000000 in
theorem Reach_no2 (z v pull n : Int) (w : World) (hs : stB z v = true) (hp : pull < 0 ∨ 32 < pull) :
    Calls Try.prog 24 #[.agg #[.int .i64 z, .int .i64 v], .int .i64 pull, .int .i64 n] w fun e w' =>
      e = .returned (.tuple #[.int .i64 0, .int .i64 0, .int .i64 1]) ∧ Below w.heap.size w w' := by
  have hE : stE z v = 0 := stE_yes hs
  have HP := Lib.hid hp
  clear hs hp
  go_enter Try.func24, Try.ntmps24
  go_wp2_with fail
  refine (Check_call _ _ _).mono ?_; rintro e w1 ⟨rfl, hb1⟩
  have hB : Below w.heap.size w w1 := ((Below.refl _ w).alloc (Nat.le_refl _) _).trans (hb1.mono (by simp))
  clear hb1
  go_wp2_with fail
  refine (in_no _ _ _ _ HP.out).mono ?_; rintro e w3 ⟨rfl, rfl⟩
  go_wp2
  go_ret3
  exact ⟨rfl, hB⟩

set_option maxRecDepth 100000 in
set_option maxHeartbeats 4000000 in
theorem Reach_no3 (z v pull n : Int) (w : World) (hs : stB z v = true) (hp0 : 0 ≤ pull) (hp1 : pull ≤ 32) (hn : n < 0 ∨ 256 < n) :
    Calls Try.prog 24 #[.agg #[.int .i64 z, .int .i64 v], .int .i64 pull, .int .i64 n] w fun e w' =>
      e = .returned (.tuple #[.int .i64 0, .int .i64 0, .int .i64 1]) ∧ Below w.heap.size w w' := by
  have hE : stE z v = 0 := stE_yes hs
  have HN := Lib.hid hn
  clear hs hn
  go_enter Try.func24, Try.ntmps24
  go_wp2_with fail
  refine (Check_call _ _ _).mono ?_; rintro e w1 ⟨rfl, hb1⟩
  have hB : Below w.heap.size w w1 := ((Below.refl _ w).alloc (Nat.le_refl _) _).trans (hb1.mono (by simp))
  clear hb1
  go_wp2_with fail
  refine (in_yes _ _ _ _ hp0 hp1).mono ?_; rintro e w3 ⟨rfl, rfl⟩
  go_wp2_with fail
  refine (in_no _ _ _ _ HN.out).mono ?_; rintro e w3 ⟨rfl, rfl⟩
  go_wp2
  go_ret3
  exact ⟨rfl, hB⟩

theorem Reach_call (z v pull n : Int) (w : World) :
    Calls Try.prog 24 #[.agg #[.int .i64 z, .int .i64 v], .int .i64 pull, .int .i64 n] w fun e w' =>
      e = .returned (.tuple #[.int .i64 (rchD z v pull n), .int .i64 (rchU z v pull n), .int .i64 (rchE z v pull n)]) ∧ Below w.heap.size w w' := by
  cases hf : rchB z v pull n with
  | true =>
    unfold rchB at hf
    simp only [Bool.and_eq_true, decide_eq_true_eq] at hf
    obtain ⟨m, rfl⟩ := Int.eq_ofNat_of_zero_le hf.2.1
    exact Reach_good z v pull m w hf.1.1 hf.1.2.1 hf.1.2.2 (by omega)
  | false =>
    obtain ⟨e1, e2, e3⟩ := rch_no hf
    rw [e1, e2, e3]
    cases hs : stB z v with
    | false => exact Reach_no1 z v pull n w hs
    | true =>
      unfold rchB at hf
      rw [hs] at hf
      simp at hf
      by_cases hp : 0 ≤ pull ∧ pull ≤ 32
      · exact Reach_no3 z v pull n w hs hp.1 hp.2 (by omega)
      · exact Reach_no2 z v pull n w hs (by omega)

end Go.Proofs.Ytfgalaalopkclaa
