/-
  Layer 38 (rules): the law's example, apart.
-/
import Derived.Test.YtfgalaalopkclaaRulesN
namespace Go.Proofs.Ytfgalaalopkclaa
open Go.RowKit PlaneMath PilotMath RulesMath MyHeap MyOwn MyCopy

def exS : RulesMath.Set := { rs := [25, 42], alim := 400, d := 5, pl := 8 }
theorem ints_ex {w : World} {b : Nat} (h : w.heap[b]? = some (.cells #[.int .i64 25, .int .i64 42] 3 (0, 0))) : Ints w (some ⟨b, 0, none⟩) 2 exS.rs := by
  refine ⟨rfl, by decide, Or.inr ⟨b, 0, rfl, fun i hi => ?_⟩⟩
  match i, hi with
  | 0, _ => exact cell_of_block h rfl
  | 1, _ => exact cell_of_block h rfl
/-- The example came back, in the call's own memory. -/
def ExPost (w : World) (e : Ending) (w' : World) : Prop := ∃ b, e = .returned (setV (some ⟨b, 0, none⟩) 2 2 exS) ∧ Ints w' (some ⟨b, 0, none⟩) 2 exS.rs ∧ Below w.heap.size w w'

set_option maxRecDepth 100000 in
set_option maxHeartbeats 4000000 in
theorem example_call (w : World) : Calls Try.prog 29 #[] w (ExPost w) := by
  go_enter Try.func29, Try.ntmps29
  go_wp2
  refine bodyPost_ret (v := setV (some ⟨w.heap.size + 1, 0, none⟩) 2 2 exS) ?_ rfl ⟨w.heap.size + 1, rfl, ints_ex (block_new _ _ (by simp)), (below_alloc _ _).alloc (by simp) _⟩
  simp [results, Try.f29, go_sem]
  rfl

/-- In apart: the two states, the advisory, and nothing of w0 written. -/
def ApK (w0 : World) (z v z' v' : Int) (x : Adv) (W : World) : Prop :=
  W.heap[w0.heap.size]? = some (.cells #[.int .i64 z, .int .i64 v] 26 (0, 0)) ∧ W.heap[w0.heap.size + 1]? = some (.cells #[.int .i64 z', .int .i64 v'] 26 (0, 0)) ∧ W.heap[w0.heap.size + 2]? = some (.cells #[.int .u8 x.s, .int .i64 x.r, .bool x.k] 30 (0, 0)) ∧ Below w0.heap.size w0 W
theorem ApK.keep {w0 : World} {z v z' v' : Int} {x : Adv} {W W' : World} (h : ApK w0 z v z' v' x W) (hb : Below W.heap.size W W') : ApK w0 z v z' v' x W' := ⟨keepO hb h.1, keepO hb h.2.1, keepO hb h.2.2.1, h.2.2.2.trans (hb.mono h.2.2.2.size)⟩

set_option maxRecDepth 100000 in
set_option maxHeartbeats 8000000 in
theorem apart_yes (z v z' v' t q : Int) (x : Adv) (w : World) (hx : 0 ≤ x.s) (hR : sepR exS z v z' v' x t = q) (hE : sepE exS z v z' v' x t = 0) :
    Calls Try.prog 33 #[.agg #[.int .i64 z, .int .i64 v], .agg #[.int .i64 z', .int .i64 v'], .agg #[.int .u8 x.s, .int .i64 x.r, .bool x.k], .int .i64 t, .int .i64 q] w (BPost true w) := by
  have HR := Lib.hid hR
  have HE := Lib.hid hE
  clear hR hE
  have HX := Lib.hid hx
  clear hx
  go_enter Try.func33, Try.ntmps33
  go_wp2_with fail
  have K : ApK w z v z' v' x (((w.alloc (.cells #[.int .i64 z, .int .i64 v] 26)).alloc (.cells #[.int .i64 z', .int .i64 v'] 26)).alloc (.cells #[.int .u8 x.s, .int .i64 x.r, .bool x.k] 30)).drew :=
    ⟨block_alloc (block_alloc (block_new _ _ rfl)), block_alloc (block_new _ _ (by simp)), block_new _ _ (by simp), (((below_alloc _ _).alloc (by simp) _).alloc (by simp; omega) _).drew⟩
  refine wp_region_held_drew (S := (fun w' => (w'.cell? ⟨w.heap.size, 0, none⟩ = some (.int .i64 z) ∧ w'.cell? ⟨w.heap.size, 1, none⟩ = some (.int .i64 v)) ∧ (w'.cell? ⟨w.heap.size + 1, 0, none⟩ = some (.int .i64 z') ∧ w'.cell? ⟨w.heap.size + 1, 1, none⟩ = some (.int .i64 v')) ∧ (w'.cell? ⟨w.heap.size + 1 + 1, 0, none⟩ = some (.int .u8 x.s) ∧ w'.cell? ⟨w.heap.size + 1 + 1, 1, none⟩ = some (.int .i64 x.r) ∧ w'.cell? ⟨w.heap.size + 1 + 1, 2, none⟩ = some (.bool x.k)))) (by kernel_rfl) (by (try dsimp only); (exact ⟨⟨(two_old K.1).1, (two_old K.1).2.1⟩, ⟨(two_old K.2.1).1, (two_old K.2.1).2.1⟩, three_old' K.2.2.1⟩)) (fun hHeld => ?_)
  refine MyHeld.take 1 (v := ?_) (.s .z) (by kernel_rfl) (by kernel_rfl) (by kernel_rfl) (fun _ _ _ h => h) (by rfl) (by assumption) ?_ ?_
  rotate_left
  · intro w hSw; (try dsimp only at hSw); go_simp; (try with_reducible rfl)
  try simp only [Act.put, List.setIfInBounds_toArray, List.set_cons_zero, List.set_cons_succ]
  refine MyHeld.take 2 (v := ?_) (.s (.s .z)) (by kernel_rfl) (by kernel_rfl) (by kernel_rfl) (fun _ _ _ h => h) (by rfl) (by assumption) ?_ ?_
  rotate_left
  · intro w hSw; (try dsimp only at hSw); go_simp; (try with_reducible rfl)
  try simp only [Act.put, List.setIfInBounds_toArray, List.set_cons_zero, List.set_cons_succ]
  refine MyHeld.take 3 (v := ?_) (.s (.s (.s .z))) (by kernel_rfl) (by kernel_rfl) (by kernel_rfl) (fun _ _ _ h => h) (by rfl) (by assumption) ?_ ?_
  rotate_left
  · intro w hSw; (try dsimp only at hSw); go_simp; (try with_reducible rfl)
  try simp only [Act.put, List.setIfInBounds_toArray, List.set_cons_zero, List.set_cons_succ]
  refine MyHeld.take 4 (v := ?_) (.s (.s (.s (.s .z)))) (by kernel_rfl) (by kernel_rfl) (by kernel_rfl) (fun _ _ _ h => h) (by rfl) (by assumption) ?_ ?_
  rotate_left
  · intro w hSw; (try dsimp only at hSw); go_simp; (try with_reducible rfl)
  try simp only [Act.put, List.setIfInBounds_toArray, List.set_cons_zero, List.set_cons_succ]
  refine wpAnyH_ready (rs := [0]) (by kernel_rfl) (by simp) ?_
  refine (MyHeld.next 0 .z (fun Kq hKq => ?_) AllReadyH.nil)
  go_simp
  (go_at_call 29; refine (example_call _).mono ?_; rintro e w3 ⟨bx, rfl, HI, hb3⟩; replace K := K.keep hb3; clear hb3)
  go_wp2_with fail
  refine hKq.out _ _ (by (try dsimp only); (exact ⟨⟨(two_old K.1).1, (two_old K.1).2.1⟩, ⟨(two_old K.2.1).1, (two_old K.2.1).2.1⟩, three_old' K.2.2.1⟩)) (fun hHeld' => ?_)
  clear hKq Kq hHeld; have hHeld := hHeld'; clear hHeld'
  try simp only [Act.put, List.setIfInBounds_toArray, List.set_cons_zero, List.set_cons_succ]
  refine wpAnyH_ready (rs := [5]) (by kernel_rfl) (by simp) ?_
  refine (MyHeld.next 5 (.s (.s (.s (.s (.s .z))))) (fun Kq hKq => ?_) AllReadyH.nil)
  go_simp
  (go_at_call 13; refine (pSeparation_call _ _ _ _ z v z' v' t x _ HI HX.out).mono ?_; rintro e w3 ⟨rfl, hb3⟩; rw [HR.out, HE.out]; replace K := K.keep hb3; clear hb3 HI)
  go_wp2_with fail
  refine hKq.out _ _ (by (try dsimp only); (exact ⟨⟨(two_old K.1).1, (two_old K.1).2.1⟩, ⟨(two_old K.2.1).1, (two_old K.2.1).2.1⟩, three_old' K.2.2.1⟩)) (fun hHeld' => ?_)
  clear hKq Kq hHeld; have hHeld := hHeld'; clear hHeld'
  try simp only [Act.put, List.setIfInBounds_toArray, List.set_cons_zero, List.set_cons_succ]
  refine MyHeld.take 6 (v := ?_) (.s (.s (.s (.s (.s (.s .z)))))) (by kernel_rfl) (by kernel_rfl) (by kernel_rfl) (fun _ _ _ h => h) (by rfl) (by assumption) ?_ ?_
  rotate_left
  · intro w hSw; (try dsimp only at hSw); go_simp; (try with_reducible rfl)
  try simp only [Act.put, List.setIfInBounds_toArray, List.set_cons_zero, List.set_cons_succ]
  refine MyHeld.take 7 (v := ?_) (.s (.s (.s (.s (.s (.s (.s .z))))))) (by kernel_rfl) (by kernel_rfl) (by kernel_rfl) (fun _ _ _ h => h) (by rfl) (by assumption) ?_ ?_
  rotate_left
  · intro w hSw; (try dsimp only at hSw); go_simp; (try with_reducible rfl)
  try simp only [Act.put, List.setIfInBounds_toArray, List.set_cons_zero, List.set_cons_succ]
  refine MyHeld.take 8 (v := ?_) (.s (.s (.s (.s (.s (.s (.s (.s .z)))))))) (by kernel_rfl) (by kernel_rfl) (by kernel_rfl) (fun _ _ _ h => h) (by rfl) (by assumption) ?_ ?_
  rotate_left
  · intro w hSw; (try dsimp only at hSw); go_simp; (try with_reducible rfl)
  try simp only [Act.put, List.setIfInBounds_toArray, List.set_cons_zero, List.set_cons_succ]
  refine MyHeld.take 9 (v := ?_) (.s (.s (.s (.s (.s (.s (.s (.s (.s .z))))))))) (by kernel_rfl) (by kernel_rfl) (by kernel_rfl) (fun _ _ _ h => h) (by rfl) (by assumption) ?_ ?_
  rotate_left
  · intro w hSw; (try dsimp only at hSw); go_simp; (try with_reducible rfl)
  try simp only [Act.put, List.setIfInBounds_toArray, List.set_cons_zero, List.set_cons_succ]
  refine MyHeld.take 10 (v := ?_) (.s (.s (.s (.s (.s (.s (.s (.s (.s (.s .z)))))))))) (by kernel_rfl) (by kernel_rfl) (by kernel_rfl) (fun _ _ _ h => h) (by rfl) (by assumption) ?_ ?_
  rotate_left
  · intro w hSw; (try dsimp only at hSw); go_simp; (try with_reducible rfl)
  try simp only [Act.put, List.setIfInBounds_toArray, List.set_cons_zero, List.set_cons_succ]
  refine wpAnyH_done (by kernel_rfl) ?_ _
  all_goals (
    go_wp2_with fail
    go_ret
    exact ⟨rfl, K.2.2.2⟩)
end Go.Proofs.Ytfgalaalopkclaa
