/-
  Layer 36 (plane): the law PlanePaths, walked.
-/
import Derived.Test.YthaokofhepngbaaPlaneT
import Derived.Test.YthaokofhepngbaaPlaneMathF
import Derived.Test.YthaokofhepngbaaCopyLib
import Derived.ChangeKeysEq
namespace Go.Proofs.Ythaokofhepngbaa
open Go.RowKit PlaneMath MyHeap MyOwn MyCopy

def PathsPost (w : World) (e : Ending) (w' : World) : Prop := e = .returned (.bool true) ∧ Below w.heap.size w w'

set_option maxRecDepth 100000 in
set_option maxHeartbeats 4000000 in
theorem PathsLaw_long (a a3 a4 : Option Addr) (n c n3 c3 n4 c4 : Nat) (z v pull : Int) (w : World) (h3 : n3 ≤ 9223372036854775807) (h4 : n4 ≤ 9223372036854775807) (hn : (decide (300 < (n3 : Int)) || decide (300 < (n4 : Int)) || decide (300 < (n : Int))) = true) :
    Calls Try.prog 4 #[.agg #[.int .i64 z, .int .i64 v], .slice a n c, .int .i64 pull, .slice a3 n3 c3, .slice a4 n4 c4] w fun e w' => e = .returned (.bool true) ∧ Below w.heap.size w w' := by
  have HN := Lib.hid hn
  clear hn
  go_enter Try.func4, Try.ntmps4
  go_wp2_with fail
  refine (long_two _ _ _ _ _ _ _ _ _ _ _ h3 h4 (cell_of_block (block_new _ _ (by simp)) rfl) (cell_of_block (block_new _ _ (by simp)) rfl)).mono ?_; rintro e w1 ⟨rfl, rfl⟩
  rw [HN.out]
  go_wp2_with fail
  refine (awake_call _).mono ?_; rintro e w2 ⟨rfl, hb2⟩
  have hB : Below w.heap.size w w2 := (((Below.refl _ w).alloc (Nat.le_refl _) _).alloc (by simp) _).trans (hb2.mono (by simp; omega))
  clear hb2
  go_wp2
  go_ret
  exact ⟨rfl, hB⟩

theorem arr_neq (z v z' v' : Int) (w : World) : (binOp .neq 38 (.agg #[.int .i64 z, .int .i64 v]) (.agg #[.int .i64 z', .int .i64 v'])).run Try.prog w = .ok (.bool (!prB (z, v) (z', v'))) w := by
  have u3 := Try.underlying3
  have a3 := Try.isAgg3
  have z3 := Try.sizeOf3
  obtain ⟨i0, hi, hiz, his, hib⟩ := info_parts (show (Try.prog.info? 3).map (fun i => (i.zero, i.size, i.bytes)) = some (some (.int .i64 0), 1, 8) by kernel_rfl)
  have hu : Try.prog.underlying 38 = some (.array 2 3) := Try.underlying38
  have hc : Try.prog.cellsOf 3 = 1 := by kernel_rfl
  unfold prB
  rw [run_neq_struct, show (10000 : Nat) = 9999 + 1 from rfl, run_equalIn_array (P := Try.prog) w 9999 _ _ hu hi, hc]
  simp only [List.range_succ, List.range_zero, List.nil_append, List.cons_append, Op.eqItems]
  go_simp
  by_cases h1 : z = z' <;> by_cases h2 : v = v' <;> simp [h1, h2]
theorem arr_guard (op : BinOp) (x y : Operand) (xs ys : Array Value) (w : World) : (eqGuard op 38 x y (.agg xs) (.agg ys)).run Try.prog w = .ok () w := run_eqGuard_agg w op _ x y xs ys (by kernel_rfl)

theorem prs_src {w : World} {a : Option Addr} {n : Nat} {l : List (Int × Int)} (h : Prs w a n l) : ∀ ad, a = some ad → ∀ (j : Nat) (u : Value), (flat2 l)[j]? = some u → w.cell? (ad.add j) = some u := by
  intro ad ha j u hu
  have hlt : j < l.length * 2 := by rw [← flat2_length]; exact (List.getElem?_eq_some_iff.1 hu).1
  have hl := h.len
  obtain ⟨b', off', e, h0, h1⟩ := prs_at h (k := j / 2) (by omega)
  cases e
  cases ha
  obtain ⟨g0, g1⟩ := flat2_get l (j / 2) (by omega)
  have hadd : (⟨b', off', none⟩ : Addr).add j = ⟨b', off' + j, none⟩ := by unfold Addr.add; split <;> simp_all
  rw [hadd]
  rcases (show j = j / 2 * 2 ∨ j = j / 2 * 2 + 1 by omega) with e | e
  · rw [e, g0] at hu
    rw [e, h0]; exact hu
  · rw [e, g1] at hu
    rw [e, ← Nat.add_assoc, h1]; exact hu
theorem flat2_one (l : List (Int × Int)) : ∀ u ∈ flat2 l, u.oneCell' = true := by
  intro u hu
  unfold flat2 at hu
  obtain ⟨p, _, hp⟩ := List.mem_flatMap.1 hu
  simp at hp
  rcases hp with rfl | rfl <;> rfl

/-- A row of n pairs of the call's own, whatever it holds. -/
def Row2 (w : World) (base : Nat) (a : Option Addr) (n : Nat) : Prop := n = 0 ∨ ∃ g cs T, a = some ⟨g, 0, none⟩ ∧ base ≤ g ∧ w.heap[g]? = some (.cells cs T (0, 0)) ∧ n * 2 ≤ cs.size
theorem row2_own {w : World} {base : Nat} {e : TypeId} {a : Option Addr} {n c : Nat} {xs : List Value} (h : w.ownsRow base e 2 (.slice a n c) n xs) : Row2 w base a n := by
  rcases h.2 with ⟨e1, h0⟩ | ⟨g, cap, cur, e1, hg, hh, hc, _, hs, _⟩
  · exact Or.inl h0
  · cases e1
    exact Or.inr ⟨g, cur, e, rfl, hg, hh, by omega⟩
theorem row2_at {w : World} {base : Nat} {a : Option Addr} {n : Nat} (h : Row2 w base a n) {k : Nat} (hk : k < n) : ∃ g, a = some ⟨g, 0, none⟩ ∧ base ≤ g ∧ g < w.heap.size ∧ (∃ u, w.cell? ⟨g, k * 2, none⟩ = some u) ∧ (∃ u, w.cell? ⟨g, k * 2 + 1, none⟩ = some u) ∧ w.frozen? ⟨g, k * 2, none⟩ = false ∧ w.frozen? ⟨g, k * 2 + 1, none⟩ = false ∧
    ∀ x y, Row2 ((w.setCell ⟨g, k * 2, none⟩ x).setCell ⟨g, k * 2 + 1, none⟩ y) base a n := by
  rcases h with h0 | ⟨g, cs, T, e, hg, hh, hs⟩
  · omega
  · exact ⟨g, e, hg, lt_of_block hh, ⟨_, cell_of_block hh (Array.getElem?_eq_getElem (by omega))⟩, ⟨_, cell_of_block hh (Array.getElem?_eq_getElem (by omega))⟩, free_of_block hh, free_of_block hh, fun x y => Or.inr ⟨g, _, T, e, hg, block_setCell (block_setCell hh), by simpa using hs⟩⟩

end Go.Proofs.Ythaokofhepngbaa
