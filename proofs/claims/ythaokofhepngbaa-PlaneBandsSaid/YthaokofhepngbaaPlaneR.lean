/-
  Layer 36 (plane): the law's long and limited.
-/
import Derived.Test.YthaokofhepngbaaPlaneP
import Derived.Test.YthaokofhepngbaaPlaneMathD
namespace Go.Proofs.Ythaokofhepngbaa
open Go.RowKit PlaneMath MyHeap MyOwn

set_option maxRecDepth 100000 in
theorem long_nil (a : Option Addr) (n c : Nat) (w : World) :
    Calls Try.prog 16 #[.slice a n c, .slice none 0 0] w fun e w' => e = .returned (.bool (decide (300 < (n : Int)))) ∧ w = w' := by
  go_enter Try.func16, Try.ntmps16
  go_wp2
  refine wp_loop_rounds 1 ?_
  rw [rounds_succ]
  go_wp2
  go_ret
  exact ⟨rfl, rfl⟩

set_option maxRecDepth 100000 in
set_option maxHeartbeats 4000000 in
theorem long_two (a a1 a2 : Option Addr) (n c n1 c1 n2 c2 b : Nat) (w : World) (hn1 : n1 ≤ 9223372036854775807) (hn2 : n2 ≤ 9223372036854775807)
    (h0 : w.cell? ⟨b, 0, none⟩ = some (.slice a1 n1 c1)) (h1 : w.cell? ⟨b, 1, none⟩ = some (.slice a2 n2 c2)) :
    Calls Try.prog 16 #[.slice a n c, .slice (some ⟨b, 0, none⟩) 2 2] w fun e w' => e = .returned (.bool (decide (300 < (n1 : Int)) || decide (300 < (n2 : Int)) || decide (300 < (n : Int)))) ∧ w = w' := by
  by_cases h3 : 300 < (n1 : Int)
  · have d1 : decide (300 < (n1 : Int)) = true := decide_eq_true h3
    have HP := Lib.hid d1
    clear d1
    go_enter Try.func16, Try.ntmps16
    go_wp2
    refine wp_loop_rounds 3 ?_
    rw [rounds_succ]
    go_wp2
    go_ret
    exact ⟨by rw [HP.out]; rfl, rfl⟩
  · have d1 : decide (300 < (n1 : Int)) = false := decide_eq_false h3
    have HP := Lib.hid d1
    clear d1
    by_cases h4 : 300 < (n2 : Int)
    · have d2 : decide (300 < (n2 : Int)) = true := decide_eq_true h4
      have HQ := Lib.hid d2
      clear d2
      go_enter Try.func16, Try.ntmps16
      go_wp2
      refine wp_loop_rounds 3 ?_
      rw [rounds_succ]
      go_wp2
      rw [rounds_succ]
      go_wp2
      go_ret
      exact ⟨by rw [HP.out, HQ.out]; rfl, rfl⟩
    · have d2 : decide (300 < (n2 : Int)) = false := decide_eq_false h4
      have HQ := Lib.hid d2
      clear d2
      go_enter Try.func16, Try.ntmps16
      go_wp2
      refine wp_loop_rounds 3 ?_
      rw [rounds_succ]
      go_wp2
      rw [rounds_succ]
      go_wp2
      rw [rounds_succ]
      go_wp2
      go_ret
      exact ⟨by rw [HP.out, HQ.out]; rfl, rfl⟩
end Go.Proofs.Ythaokofhepngbaa
