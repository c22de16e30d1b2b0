/-
  Layer 36 (plane): the law's own small functions: flies, awake.
-/
import Derived.Test.YthaokofhepngbaaPlaneN
namespace Go.Proofs.Ythaokofhepngbaa
open Go.RowKit PlaneMath MyHeap MyOwn

theorem prs_own {w : World} {base : Nat} {e : TypeId} {v : Value} {ps : List (Int × Int)} (h : w.ownsRow base e 2 v ps.length (flat2 ps)) (hm : ps.length ≤ 1000000) : ∃ a c, v = .slice a ps.length c ∧ Prs w a ps.length ps := by
  rcases h.2 with ⟨rfl, h0⟩ | ⟨g, cap, cur, rfl, hg, hh, hc, hcm, hcs, htake⟩
  · refine ⟨none, 0, by rw [h0], rfl, hm, Or.inl h0⟩
  · refine ⟨some ⟨g, 0, none⟩, cap, rfl, rfl, hm, ?_⟩
    rcases Nat.eq_zero_or_pos ps.length with h0 | h0
    · exact Or.inl h0
    · refine Or.inr ⟨g, 0, rfl, fun i hi => ?_⟩
      have hx := flat2_get ps i hi
      rw [← htake, List.getElem?_take_of_lt (by omega), List.getElem?_take_of_lt (by omega)] at hx
      rw [Nat.zero_add]
      exact ⟨cell_of_block hh (by simpa using hx.1), cell_of_block hh (by simpa using hx.2)⟩
theorem prs_block {w : World} {b : Nat} {cs : Array Value} {T : TypeId} {fr : Nat × Nat} {ps : List (Int × Int)} {n : Nat} (h : w.heap[b]? = some (.cells cs T fr)) (hcs : cs.toList = flat2 ps) (hn : ps.length = n) (hm : n ≤ 1000000) : Prs w (some ⟨b, 0, none⟩) n ps := by
  subst hn
  refine ⟨rfl, hm, Or.inr ⟨b, 0, rfl, fun i hi => ?_⟩⟩
  have hx := flat2_get ps i hi
  rw [← hcs] at hx
  rw [Nat.zero_add]
  exact ⟨cell_of_block h (by simpa using hx.1), cell_of_block h (by simpa using hx.2)⟩

set_option maxRecDepth 100000 in
set_option maxHeartbeats 4000000 in
theorem flies_yes (z v lo hi pull z' v' : Int) (w : World) (hz : flyZ z v lo hi pull = z') (hv : flyV z v lo hi pull = v') (he : flyE z v lo hi pull = 0) :
    Calls Try.prog 23 #[.agg #[.int .i64 z, .int .i64 v], .int .i64 lo, .int .i64 hi, .int .i64 pull, .agg #[.int .i64 z', .int .i64 v']] w fun e w' => e = .returned (.bool true) ∧ Below w.heap.size w w' := by
  subst hz hv
  have eq := pln_eql
  have gd := pln_guard
  have ht : prB (flyZ z v lo hi pull, flyV z v lo hi pull) (flyZ z v lo hi pull, flyV z v lo hi pull) = true := prB_true.2 rfl
  go_enter Try.func23, Try.ntmps23
  go_wp2_with fail
  refine (Fly_call _ _ _ _ _ _).mono ?_; rintro e w1 ⟨rfl, hb1⟩
  have kp := keepO hb1 (block_new (w.alloc (.cells #[.int .i64 z, .int .i64 v] 23)) (.cells #[.int .i64 (flyZ z v lo hi pull), .int .i64 (flyV z v lo hi pull)] 23) (n := w.heap.size + 1) (by simp))
  obtain ⟨p0, p1, _, _⟩ := two_old kp
  have hB : Below w.heap.size w w1 := (((Below.refl _ w).alloc (Nat.le_refl _) _).alloc (by simp) _).trans (hb1.mono (by simp; omega))
  have hw := hB.size
  have HB := Lib.hid hB
  have hz1 := lt_of_block kp
  clear hB kp hb1
  go_wp2
  go_ret
  exact ⟨rfl, HB.out.alloc hw _⟩
end Go.Proofs.Ythaokofhepngbaa
