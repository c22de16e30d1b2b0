/-
  Layer 36 (plane): the program's small functions, walked.
-/
import Derived.Test.YtjidpkcoaoflbaaProg
import Derived.Test.YtjidpkcoaoflbaaPlaneMath
import Derived.WalkKit
import Derived.WalkSpells
import Derived.WalkLawsBesides
import Derived.Handy
import Derived.Lib.Hide
import Derived.BigQuiet
import Derived.Deep.QuietTactic
import Derived.Deep.RegionHeld3
namespace Go.Proofs.Ytjidpkcoaoflbaa
open Go.RowKit PlaneMath

theorem in_call (n lo hi : Int) (w : World) :
    Calls Try.prog 38 #[.int .i64 n, .int .i64 lo, .int .i64 hi] w fun e w' => e = .returned (.bool (decide (lo ≤ n) && decide (n ≤ hi))) ∧ w = w' := by
  by_cases h : lo ≤ n <;> by_cases h2 : n ≤ hi
  all_goals
    go_enter Try.func38, Try.ntmps38
    go_wp2
    go_ret
    exact ⟨by simp [h, h2], rfl⟩
theorem in_yes (n lo hi : Int) (w : World) (h : lo ≤ n) (h2 : n ≤ hi) :
    Calls Try.prog 38 #[.int .i64 n, .int .i64 lo, .int .i64 hi] w fun e w' => e = .returned (.bool true) ∧ w = w' :=
  (in_call n lo hi w).mono fun _ _ ⟨a, b⟩ => ⟨by rw [a]; simp [h, h2], b⟩
theorem in_no (n lo hi : Int) (w : World) (h : n < lo ∨ hi < n) :
    Calls Try.prog 38 #[.int .i64 n, .int .i64 lo, .int .i64 hi] w fun e w' => e = .returned (.bool false) ∧ w = w' :=
  (in_call n lo hi w).mono fun _ _ ⟨a, b⟩ => ⟨by rw [a]; congr 2; simp; omega, b⟩

theorem Check_call (z v : Int) (w : World) :
    Calls Try.prog 28 #[.agg #[.int .i64 z, .int .i64 v]] w fun e w' => e = .returned (.int .i64 (stE z v)) ∧ Below w.heap.size w w' := by
  cases hs : stB z v with
  | true =>
    have h := stB_iff.1 hs
    unfold stE
    rw [hs]
    clear hs
    obtain ⟨a, b, c, d⟩ := h
    go_enter Try.func28, Try.ntmps28
    go_wp2_with fail
    refine (in_yes z _ _ _ a b).mono ?_; rintro e w' ⟨rfl, rfl⟩
    go_wp2_with fail
    refine (in_yes v _ _ _ c d).mono ?_; rintro e w' ⟨rfl, rfl⟩
    go_wp2
    go_ret
    exact ⟨rfl, by go_grown⟩
  | false =>
    have h : ¬ (-1000 ≤ z ∧ z ≤ 50000 ∧ -100 ≤ v ∧ v ≤ 100) := fun h => by rw [stB_iff.2 h] at hs; exact absurd hs (by decide)
    unfold stE
    rw [hs]
    clear hs
    by_cases h1 : -1000 ≤ z ∧ z ≤ 50000
    · have h2 : v < -100 ∨ 100 < v := by omega
      obtain ⟨a, b⟩ := h1
      clear h
      go_enter Try.func28, Try.ntmps28
      go_wp2_with fail
      refine (in_yes z _ _ _ a b).mono ?_; rintro e w' ⟨rfl, rfl⟩
      go_wp2_with fail
      refine (in_no v _ _ _ h2).mono ?_; rintro e w' ⟨rfl, rfl⟩
      go_wp2
      go_ret
      exact ⟨rfl, by go_grown⟩
    · have h2 : z < -1000 ∨ 50000 < z := by omega
      clear h h1
      go_enter Try.func28, Try.ntmps28
      go_wp2_with fail
      refine (in_no z _ _ _ h2).mono ?_; rintro e w' ⟨rfl, rfl⟩
      go_wp2
      go_ret
      exact ⟨rfl, by go_grown⟩

theorem valid_call (lo hi : Int) (w : World) :
    Calls Try.prog 39 #[.agg #[.int .i64 lo, .int .i64 hi]] w fun e w' => e = .returned (.bool (bdB lo hi)) ∧ Below w.heap.size w w' := by
  by_cases h1 : -100 ≤ lo ∧ lo ≤ hi
  · by_cases h2 : hi ≤ 100
    · rw [bdB_iff.2 ⟨h1.1, h1.2, h2⟩]
      obtain ⟨a, b⟩ := h1
      go_enter Try.func39, Try.ntmps39
      go_wp2_with (go_at_call 38; refine (in_yes _ _ _ _ ?_ ?_).mono ?_; omega; omega; rintro e w' ⟨rfl, rfl⟩)
      go_ret
      exact ⟨by first | rfl | simp [h2], by go_grown⟩
    · have hb : bdB lo hi = false := by simp [bdB]; omega
      rw [hb]
      obtain ⟨a, b⟩ := h1
      go_enter Try.func39, Try.ntmps39
      go_wp2_with (go_at_call 38; refine (in_yes _ _ _ _ ?_ ?_).mono ?_; omega; omega; rintro e w' ⟨rfl, rfl⟩)
      go_ret
      exact ⟨by first | rfl | simp [h2], by go_grown⟩
  · have hb : bdB lo hi = false := by simp [bdB]; omega
    rw [hb]
    have h2 : lo < -100 ∨ hi < lo := by omega
    clear h1 hb
    go_enter Try.func39, Try.ntmps39
    go_wp2_with (go_at_call 38; refine (in_no _ _ _ _ h2).mono ?_; rintro e w' ⟨rfl, rfl⟩)
    go_ret
    exact ⟨by first | rfl | simp [h2], by go_grown⟩
end Go.Proofs.Ytjidpkcoaoflbaa
