/-
  Layer 18 (altitude): the law's Long for one band; the law's among.
-/
import Derived.Test.YtojjhkahigdkoaaAltT
namespace Go.Proofs.Ytojjhkahigdkoaa
open Go.RowKit AltMath MyHeap MyCopy

set_option maxRecDepth 100000 in
set_option maxHeartbeats 4000000 in
theorem long_call (aL aH : Option Addr) (nL cL nH cH b c : Nat) (w : World) (h0 : w.cell? ⟨b, 0, none⟩ = some (.slice aL nL cL)) (h1 : w.cell? ⟨b, 1, none⟩ = some (.slice aH nH cH)) :
    Calls Try.prog 9 #[.slice (some ⟨b, 0, none⟩) 1 c] w (BPost (decide (250 < (nL : Int)) || decide (250 < (nH : Int))) w) := by
  by_cases l1 : 250 < (nL : Int)
  · have d1 : decide (250 < (nL : Int)) = true := decide_eq_true l1
    have D := Lib.hid d1
    clear d1
    go_enter Try.func9, Try.ntmps9
    go_wp2
    refine wp_loop_rounds 2 ?_
    rw [rounds_succ]
    go_wp2
    go_ret
    exact bPost_of (by first | rfl | (rw [D.out]; rfl)) (Below.refl _ _)
  · have d1 : decide (250 < (nL : Int)) = false := decide_eq_false l1
    have D := Lib.hid d1
    clear d1
    by_cases l2 : 250 < (nH : Int)
    · have d2 : decide (250 < (nH : Int)) = true := decide_eq_true l2
      have D2 := Lib.hid d2
      clear d2
      go_enter Try.func9, Try.ntmps9
      go_wp2
      refine wp_loop_rounds 2 ?_
      rw [rounds_succ]
      go_wp2
      go_ret
      exact bPost_of (by first | rfl | (rw [D.out, D2.out]; rfl)) (Below.refl _ _)
    · have d2 : decide (250 < (nH : Int)) = false := decide_eq_false l2
      have D2 := Lib.hid d2
      clear d2
      go_enter Try.func9, Try.ntmps9
      go_wp2
      refine wp_loop_rounds 2 ?_
      rw [rounds_succ]
      go_wp2
      rw [rounds_succ]
      go_wp2
      go_ret
      exact bPost_of (by first | rfl | (rw [D.out, D2.out]; rfl)) (Below.refl _ _)
end Go.Proofs.Ytojjhkahigdkoaa
