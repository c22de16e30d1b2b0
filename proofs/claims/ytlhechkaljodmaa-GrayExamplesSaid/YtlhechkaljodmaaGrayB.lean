import Derived.Test.YtlhechkaljodmaaProg
import Derived.Test.YtlhechkaljodmaaBitsLib
import Derived.Test.YtlhechkaljodmaaGrayMath
import Derived.WalkKit
import Derived.WalkSpells
import Derived.WalkLawsBesides
import Derived.Handy
namespace Go.Proofs.Ytlhechkaljodmaa
open Go.RowKit

theorem closure_any (s : Int) (t : Nat) (v : Nat) (b : Nat) (w : World) (hst : s = t) (hs : t ≤ 32) (hv : v < 2 ^ 63) (hc : w.cell? ⟨b, 0, none⟩ = some (.int .i64 v)) (hf : w.frozen? ⟨b, 0, none⟩ = false) :
    Calls Try.prog 31 #[.int .i64 s, .pointer (some ⟨b, 0, none⟩)] w fun e w' => e = .returned (.tuple #[]) ∧ w' = (w.setCell ⟨b, 0, none⟩ (.int .i64 (GrayMath.dstep t v : Nat))).drew := by
  subst hst
  have e : bits .xor .i64 (v : Int) ((v : Int) / 2 ^ t) = (GrayMath.dstep t v : Nat) := by
    have := MyBits.i64_xor_nat v (v / 2 ^ t) (by omega) (Nat.lt_of_le_of_lt (Nat.div_le_self _ _) (by omega))
    rw [GrayMath.dstep, Nat.shiftRight_eq_div_pow, ← this]; simp
  go_enter Try.func31, Try.ntmps31
  go_wp2
  go_region
  all_goals go_end0
  all_goals exact ⟨rfl, rfl⟩

set_option maxHeartbeats 1000000 in
theorem ungray_walk (n : Nat) (w : World) (h1 : n < 2 ^ 63) :
    Calls Try.prog 17 #[.int .i64 n] w fun e w' => e = .returned (.int .i64 (GrayMath.un n : Nat)) ∧ Below w.heap.size w w' := by
  unfold GrayMath.un
  go_enter Try.func17, Try.ntmps17
  go_wp2_with fail
  refine wp_loop_rounds 7 ?_
  rw [rounds_succ]; go_wp2_with fail
  refine (closure_any 1 1 n _ _ rfl (by decide) (h1) ?_ ?_).mono ?_
  · go_simp
  · go_simp
  rintro e w' ⟨rfl, rfl⟩
  go_wp2_with fail
  rw [rounds_succ]; go_wp2_with fail
  refine (closure_any 2 2 (GrayMath.dstep 1 n) _ _ rfl (by decide) (GrayMath.dstep_lt 1 _ 63 (h1)) ?_ ?_).mono ?_
  · go_simp
  · go_simp
  rintro e w' ⟨rfl, rfl⟩
  go_wp2_with fail
  rw [rounds_succ]; go_wp2_with fail
  refine (closure_any 4 4 (GrayMath.dstep 2 (GrayMath.dstep 1 n)) _ _ rfl (by decide) (GrayMath.dstep_lt 2 _ 63 (GrayMath.dstep_lt 1 _ 63 (h1))) ?_ ?_).mono ?_
  · go_simp
  · go_simp
  rintro e w' ⟨rfl, rfl⟩
  go_wp2_with fail
  rw [rounds_succ]; go_wp2_with fail
  refine (closure_any 8 8 (GrayMath.dstep 4 (GrayMath.dstep 2 (GrayMath.dstep 1 n))) _ _ rfl (by decide) (GrayMath.dstep_lt 4 _ 63 (GrayMath.dstep_lt 2 _ 63 (GrayMath.dstep_lt 1 _ 63 (h1)))) ?_ ?_).mono ?_
  · go_simp
  · go_simp
  rintro e w' ⟨rfl, rfl⟩
  go_wp2_with fail
  rw [rounds_succ]; go_wp2_with fail
  refine (closure_any 16 16 (GrayMath.dstep 8 (GrayMath.dstep 4 (GrayMath.dstep 2 (GrayMath.dstep 1 n)))) _ _ rfl (by decide) (GrayMath.dstep_lt 8 _ 63 (GrayMath.dstep_lt 4 _ 63 (GrayMath.dstep_lt 2 _ 63 (GrayMath.dstep_lt 1 _ 63 (h1))))) ?_ ?_).mono ?_
  · go_simp
  · go_simp
  rintro e w' ⟨rfl, rfl⟩
  go_wp2_with fail
  rw [rounds_succ]; go_wp2_with fail
  refine (closure_any 32 32 (GrayMath.dstep 16 (GrayMath.dstep 8 (GrayMath.dstep 4 (GrayMath.dstep 2 (GrayMath.dstep 1 n))))) _ _ rfl (by decide) (GrayMath.dstep_lt 16 _ 63 (GrayMath.dstep_lt 8 _ 63 (GrayMath.dstep_lt 4 _ 63 (GrayMath.dstep_lt 2 _ 63 (GrayMath.dstep_lt 1 _ 63 (h1)))))) ?_ ?_).mono ?_
  · go_simp
  · go_simp
  rintro e w' ⟨rfl, rfl⟩
  go_wp2_with fail
  rw [rounds_succ]; go_wp2_with fail
  go_ret
  exact ⟨rfl, by go_grown⟩
end Go.Proofs.Ytlhechkaljodmaa
