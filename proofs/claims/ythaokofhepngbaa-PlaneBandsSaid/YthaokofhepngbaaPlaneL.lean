/-
  Layer 36 (plane): the reference's Path, whole.
-/
import Derived.Test.YthaokofhepngbaaPlaneK
namespace Go.Proofs.Ythaokofhepngbaa
open Go.RowKit PlaneMath MyHeap MyOwn

set_option maxRecDepth 100000 in
set_option maxHeartbeats 4000000 in
theorem rPath_bad (a : Option Addr) (n c : Nat) (l : List (Int × Int)) (z v pull : Int) (w : World) (hs : stB z v = true) (hp : pull < 0 ∨ 32 < pull) :
    Calls Try.prog 18 #[.agg #[.int .i64 z, .int .i64 v], .slice a n c, .int .i64 pull] w (PthPost z v pull l w) := by
  have hE : stE z v = 0 := stE_yes hs
  have HP := Lib.hid (pth_pull (l := l) hs hp)
  clear hs
  rcases hp with hp | hp
  · have h1 : decide (pull < 0) = true := decide_eq_true hp
    go_enter Try.func18, Try.ntmps18
    go_wp2_with fail
    refine (refCheck_call _ _ _).mono ?_; rintro e w1 ⟨rfl, hb1⟩
    have hB : Below w.heap.size w w1 := ((Below.refl _ w).alloc (Nat.le_refl _) _).trans (hb1.mono (by simp))
    go_wp2_with fail
    go_ret2
    exact pth_bad HP.out (by decide) hB
  · have h0 : ¬ pull < 0 := by omega
    have h1 : decide (32 < pull) = true := decide_eq_true hp
    go_enter Try.func18, Try.ntmps18
    go_wp2_with fail
    refine (refCheck_call _ _ _).mono ?_; rintro e w1 ⟨rfl, hb1⟩
    have hB : Below w.heap.size w w1 := ((Below.refl _ w).alloc (Nat.le_refl _) _).trans (hb1.mono (by simp))
    go_wp2_with fail
    go_ret2
    exact pth_bad HP.out (by decide) hB

set_option maxRecDepth 100000 in
set_option maxHeartbeats 4000000 in
theorem refPath_call (a : Option Addr) (n c : Nat) (l : List (Int × Int)) (z v pull : Int) (w : World) (hl : Prs w a n l) :
    Calls Try.prog 18 #[.agg #[.int .i64 z, .int .i64 v], .slice a n c, .int .i64 pull] w (PthPost z v pull l w) := by
  have hnl := hl.len
  have hm := hl.bound
  cases hs : stB z v with
  | false =>
    have hE : stE z v = 1 := by unfold stE; rw [hs]; rfl
    have HP := Lib.hid (pth_st (pull := pull) (l := l) hs)
    clear hs hl hnl
    go_enter Try.func18, Try.ntmps18
    go_wp2_with fail
    refine (refCheck_call _ _ _).mono ?_; rintro e w1 ⟨rfl, hb1⟩
    have hB : Below w.heap.size w w1 := ((Below.refl _ w).alloc (Nat.le_refl _) _).trans (hb1.mono (by simp))
    go_wp2_with fail
    go_ret2
    exact pth_bad HP.out (by decide) hB
  | true =>
    by_cases hp : pull < 0 ∨ 32 < pull
    · exact rPath_bad a n c l z v pull w hs hp
    · by_cases hn : n ≤ 256
      · exact (rPath_loop a n c l z v pull w hl hs (by omega) (by omega) hn).mono fun e w' h => lp_pth hnl hs (by omega) (by omega) hn h
      · have hE : stE z v = 0 := stE_yes hs
        have hp0 : 0 ≤ pull := by omega
        have hp1 : pull ≤ 32 := by omega
        have HP := Lib.hid (pth_long hs hp0 hp1 (show 256 < l.length by omega))
        clear hs hl hnl hp
        go_enter Try.func18, Try.ntmps18
        go_wp2_with fail
        refine (refCheck_call _ _ _).mono ?_; rintro e w1 ⟨rfl, hb1⟩
        have hB : Below w.heap.size w w1 := ((Below.refl _ w).alloc (Nat.le_refl _) _).trans (hb1.mono (by simp))
        go_wp2_with fail
        go_ret2
        exact pth_bad HP.out (by decide) hB
end Go.Proofs.Ythaokofhepngbaa
