import Derived.Test.YtlhechkaljodmaaGrayD
import Derived.Deep.RegionHeld3
namespace Go.Proofs.Ytlhechkaljodmaa
open Go.RowKit GrayMath

set_option maxHeartbeats 1000000 in
theorem hundreds_even (h : Int) (w : World) (h0 : h % 2 = 0) :
    Calls Try.prog 28 #[.int .i64 h] w fun e w' => e = .returned (.agg #[.int .i64 1, .int .i64 3, .int .i64 2, .int .i64 6, .int .i64 4]) ∧ Below w.heap.size w w' := by
  have hb : (bits .and .i64 h 1 == 1) = false := by rw [MyBits.i64_and1, h0]; rfl
  clear h0
  go_enter Try.func28, Try.ntmps28
  go_wp2
  go_returns
  exact ⟨rfl, by go_grown⟩

set_option maxHeartbeats 1000000 in
theorem reverse5 (a0 a1 a2 a3 a4 : Int) (T : TypeId) (n : Nat) (W : World) (hn : n = W.heap.size) :
    Calls Try.prog 35 #[.slice (some ⟨n, 0, none⟩) 5 5] (W.alloc (.cells #[.int .i64 a0, .int .i64 a1, .int .i64 a2, .int .i64 a3, .int .i64 a4] T)) fun e w' =>
      e = .returned (.tuple #[]) ∧ w' = (W.alloc (.cells #[.int .i64 a4, .int .i64 a3, .int .i64 a2, .int .i64 a1, .int .i64 a0] T)).drew.drew := by
  subst hn
  go_enter Try.func35, Try.ntmps35
  go_wp2
  refine wp_loop_rounds 3 ?_
  rw [rounds_succ]; go_wp2
  go_region
  all_goals (go_wp2; rw [rounds_succ]; go_wp2)
  go_region
  all_goals (go_wp2; rw [rounds_succ]; go_wp2; go_end0; exact ⟨rfl, rfl⟩)

set_option maxHeartbeats 1000000 in
theorem hundreds_odd (h : Int) (w : World) (h0 : h % 2 = 1) :
    Calls Try.prog 28 #[.int .i64 h] w fun e w' => e = .returned (.agg #[.int .i64 4, .int .i64 6, .int .i64 2, .int .i64 3, .int .i64 1]) ∧ Below w.heap.size w w' := by
  have hb : (bits .and .i64 h 1 == 1) = true := by rw [MyBits.i64_and1, h0]; rfl
  clear h0
  go_enter Try.func28, Try.ntmps28
  go_wp2_with fail
  refine (reverse5 1 3 2 6 4 _ _ _ (by simp)).mono ?_
  rintro e w' ⟨rfl, rfl⟩
  go_wp2
  go_returns
  exact ⟨rfl, by go_grown⟩
end Go.Proofs.Ytlhechkaljodmaa
