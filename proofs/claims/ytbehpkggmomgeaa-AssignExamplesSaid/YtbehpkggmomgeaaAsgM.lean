/-
  Layer 19 (assign): the law's own best and awake.
-/
import Derived.Test.YtbehpkggmomgeaaAsgH
import Derived.Test.YtbehpkggmomgeaaAsgK
namespace Go.Proofs.Ytbehpkggmomgeaa
open Go.RowKit AsgRows AsgMath MyHeap MyOwn

theorem bestL_len {c : Nat → Nat → Int} {n m : Nat} : ∀ (r : Nat) (T : Nat → Bool), (bestL c n m r T).length ≤ r
  | 0, _ => Nat.le_refl _
  | r + 1, T => by
    cases e : firstK (takeB c n m r T) m with
    | none => rw [(bestL_skip e).1]; have := bestL_len (c := c) (n := n) (m := m) r T; omega
    | some k => rw [bestL_take e, List.length_cons]; have := bestL_len (c := c) (n := n) (m := m) r (setT T k); omega
theorem bsL_len {L : List (List Int)} : (bsL L).length ≤ 16 := by
  unfold bsL
  by_cases h : chM L = 0
  · rw [if_pos h, toP_len]
    have := (chM_ok h).n16
    have := bestL_len (c := ent L) (n := L.length) (m := wid L) L.length (fun _ => false)
    unfold bestM
    omega
  · rw [if_neg h]; exact Nat.zero_le _

set_option maxRecDepth 100000 in
set_option maxHeartbeats 4000000 in
theorem best_yes (a aw : Option Addr) (n cc nw cw : Nat) (L : List (List Int)) (cost : Int) (want : List (Int × Int)) (w : World) (hM : Mtx w a n L) (hW : Prs w aw nw want) (h1 : chM L = 0) (h2 : bsL L = want) (h3 : coE L want = 0) (h4 : coS L want = cost) :
    Calls Try.prog 27 #[.slice a n cc, .int .i64 cost, .slice aw nw cw] w (BPost true w) := by
  have HM := Lib.hid hM
  have HW := Lib.hid hW
  have H := Lib.hid (And.intro h1 (And.intro h2 (And.intro h3 h4)))
  clear hM hW h1 h2 h3 h4
  go_enter Try.func27, Try.ntmps27
  go_wp2_with fail
  refine (best_call a n cc L _ HM.out).mono ?_
  rintro e w1 ⟨v, rfl, hO, hb⟩
  rw [H.out.1]
  obtain ⟨al, cl, rfl, hP⟩ := prsOwn hO (by have := bsL_len (L := L); omega)
  rw [H.out.2.1] at hP ⊢
  have K := Lib.hid (And.intro hb hP)
  clear hO hb hP
  generalize hnl : want.length = nl at *
  go_wp2_with fail
  refine (pCost_call a al n cc nl cl L want _ (HM.out.below K.out.1) K.out.2).mono ?_
  rintro e w2 ⟨rfl, hb⟩
  rw [H.out.2.2.1, H.out.2.2.2]
  replace K := Lib.hid (And.intro (K.out.1.trans (hb.mono K.out.1.size)) (K.out.2.below hb))
  clear hb
  have hcc : (cost == cost) = true := by simp
  go_wp2_with fail
  refine (equalPairs_call al aw nl nw cl cw want want _ K.out.2 (HW.out.below K.out.1)).mono ?_
  rintro e w3 ⟨rfl, hb⟩
  replace K := Lib.hid (K.out.1.trans (hb.mono K.out.1.size))
  rw [decide_eq_true (rfl : want = want)]
  clear hb
  go_wp2_with fail
  go_ret
  exact bPost_of rfl K.out
/-- A matrix of two rows, written out. -/
theorem mtx_lit {W : World} {b b1 b2 : Nat} {x0 x1 y0 y1 : Int} (h : W.heap[b]? = some (.cells #[.slice (some ⟨b1, 0, none⟩) 2 2, .slice (some ⟨b2, 0, none⟩) 2 2] 24 (0, 0))) (h1 : W.heap[b1]? = some (.cells #[.int .i64 x0, .int .i64 x1] 3 (0, 0))) (h2 : W.heap[b2]? = some (.cells #[.int .i64 y0, .int .i64 y1] 3 (0, 0))) : Mtx W (some ⟨b, 0, none⟩) 2 [[x0, x1], [y0, y1]] := by
  refine ⟨rfl, by decide, Or.inr ⟨b, 0, rfl, fun i hi => ?_⟩⟩
  have : i = 0 ∨ i = 1 := by omega
  rcases this with rfl | rfl
  · refine ⟨_, _, cell_of_block h rfl, rfl, show (2 : Nat) ≤ 9223372036854775807 by decide, Or.inr ⟨b1, 0, rfl, fun j hj => ?_⟩⟩
    have hj : j < 2 := hj
    have : j = 0 ∨ j = 1 := by omega
    rcases this with rfl | rfl <;> exact cell_of_block h1 rfl
  · refine ⟨_, _, cell_of_block h rfl, rfl, show (2 : Nat) ≤ 9223372036854775807 by decide, Or.inr ⟨b2, 0, rfl, fun j hj => ?_⟩⟩
    have hj : j < 2 := hj
    have : j = 0 ∨ j = 1 := by omega
    rcases this with rfl | rfl <;> exact cell_of_block h2 rfl
/-- The examples, reckoned. -/
theorem aw1 : chM [[4, 1], [2, 0]] = 0 ∧ bsL [[4, 1], [2, 0]] = [(0, 1), (1, 0)] ∧ coE [[4, 1], [2, 0]] [(0, 1), (1, 0)] = 0 ∧ coS [[4, 1], [2, 0]] [(0, 1), (1, 0)] = 3 := by
  refine ⟨?_, ?_, ?_, ?_⟩ <;> kernel_rfl
theorem aw2 : chM [[5, -1], [1, -1]] = 0 ∧ bsL [[5, -1], [1, -1]] = [(1, 0)] ∧ coE [[5, -1], [1, -1]] [(1, 0)] = 0 ∧ coS [[5, -1], [1, -1]] [(1, 0)] = 1 := by
  refine ⟨?_, ?_, ?_, ?_⟩ <;> kernel_rfl
theorem aw3 : chM [[7, 7], [7, 7]] = 0 ∧ bsL [[7, 7], [7, 7]] = [(0, 0), (1, 1)] ∧ coE [[7, 7], [7, 7]] [(0, 0), (1, 1)] = 0 ∧ coS [[7, 7], [7, 7]] [(0, 0), (1, 1)] = 14 := by
  refine ⟨?_, ?_, ?_, ?_⟩ <;> kernel_rfl
theorem aw4 : chM [[-1, 3], [0, 0]] = 0 ∧ bsL [[-1, 3], [0, 0]] = [(0, 1), (1, 0)] ∧ coE [[-1, 3], [0, 0]] [(0, 1), (1, 0)] = 0 ∧ coS [[-1, 3], [0, 0]] [(0, 1), (1, 0)] = 3 := by
  refine ⟨?_, ?_, ?_, ?_⟩ <;> kernel_rfl

theorem lit3 (W0 : World) (x0 x1 y0 y1 : Int) : Mtx (((W0.alloc (.cells #[.int .i64 x0, .int .i64 x1] 3)).alloc (.cells #[.int .i64 y0, .int .i64 y1] 3)).alloc (.cells #[.slice (some ⟨W0.heap.size, 0, none⟩) 2 2, .slice (some ⟨W0.heap.size + 1, 0, none⟩) 2 2] 24)) (some ⟨W0.heap.size + 1 + 1, 0, none⟩) 2 [[x0, x1], [y0, y1]] ∧
    Below W0.heap.size W0 (((W0.alloc (.cells #[.int .i64 x0, .int .i64 x1] 3)).alloc (.cells #[.int .i64 y0, .int .i64 y1] 3)).alloc (.cells #[.slice (some ⟨W0.heap.size, 0, none⟩) 2 2, .slice (some ⟨W0.heap.size + 1, 0, none⟩) 2 2] 24)) := by
  refine ⟨mtx_lit (block_new _ _ (by simp)) (block_alloc (block_alloc (block_new _ _ rfl))) (block_alloc (block_new _ _ (by simp))), ?_⟩
  have h1 := below_alloc W0 (.cells #[.int .i64 x0, .int .i64 x1] 3)
  have h2 := h1.alloc h1.size (.cells #[.int .i64 y0, .int .i64 y1] 3)
  exact h2.alloc h2.size _
/-- The two lists of awake. -/
structure Awk (w : World) (b1 b2 : Nat) (W : World) : Prop where
  B : Below w.heap.size w W
  c : W.heap[b1]? = some (.cells #[.int .i64 0, .int .i64 1, .int .i64 1, .int .i64 0] 42 (0, 0))
  s : W.heap[b2]? = some (.cells #[.int .i64 0, .int .i64 0, .int .i64 1, .int .i64 1] 42 (0, 0))
theorem Awk.keep {w W W' : World} {b1 b2 : Nat} (h : Awk w b1 b2 W) (hb : Below W.heap.size W W') : Awk w b1 b2 W' := ⟨h.B.trans (hb.mono h.B.size), keepO hb h.c, keepO hb h.s⟩
theorem Awk.cross {w W : World} {b1 b2 : Nat} (h : Awk w b1 b2 W) : Prs W (some ⟨b1, 0, none⟩) 2 [(0, 1), (1, 0)] := prsBlock h.c rfl rfl (by decide)
theorem Awk.straight {w W : World} {b1 b2 : Nat} (h : Awk w b1 b2 W) : Prs W (some ⟨b2, 0, none⟩) 2 [(0, 0), (1, 1)] := prsBlock h.s rfl rfl (by decide)

set_option maxRecDepth 100000 in
set_option maxHeartbeats 4000000 in
theorem awake_call (w : World) : Calls Try.prog 10 #[] w (BPost true w) := by
  have H1 := Lib.hid aw1
  have H2 := Lib.hid aw2
  have H3 := Lib.hid aw3
  have H4 := Lib.hid aw4
  have K0 : Awk w w.heap.size (w.heap.size + 1) ((w.alloc (.cells #[.int .i64 0, .int .i64 1, .int .i64 1, .int .i64 0] 42 (0, 0))).alloc (.cells #[.int .i64 0, .int .i64 0, .int .i64 1, .int .i64 1] 42 (0, 0))) := by
    have h1 := below_alloc w (.cells #[.int .i64 0, .int .i64 1, .int .i64 1, .int .i64 0] 42 (0, 0))
    exact ⟨h1.alloc h1.size _, block_alloc (block_new _ _ rfl), block_new _ _ (by simp)⟩
  have h3 := lit3 ((w.alloc (.cells #[.int .i64 0, .int .i64 1, .int .i64 1, .int .i64 0] 42 (0, 0))).alloc (.cells #[.int .i64 0, .int .i64 0, .int .i64 1, .int .i64 1] 42 (0, 0))) 4 1 2 0
  have K := Lib.hid (And.intro (K0.keep h3.2) h3.1)
  simp only [World.size_alloc] at K
  clear K0 h3
  go_enter Try.func10, Try.ntmps10
  go_wp2_with fail
  refine (best_yes _ _ 2 2 2 2 _ 3 _ _ K.out.2 K.out.1.cross H1.out.1 H1.out.2.1 H1.out.2.2.1 H1.out.2.2.2).mono ?_
  rintro e x1 ⟨rfl, hb⟩
  replace K := Lib.hid (K.out.1.keep hb)
  clear hb
  generalize w.heap.size + 1 = b2 at *
  generalize hb1 : w.heap.size = b1 at *
  clear hb1
  have h3 := lit3 x1 5 (-1) 1 (-1)
  have hp := block_new (((x1.alloc (.cells #[.int .i64 5, .int .i64 (-1)] 3)).alloc (.cells #[.int .i64 1, .int .i64 (-1)] 3)).alloc (.cells #[.slice (some ⟨x1.heap.size, 0, none⟩) 2 2, .slice (some ⟨x1.heap.size + 1, 0, none⟩) 2 2] 24)) (.cells #[.int .i64 1, .int .i64 0] 42 (0, 0)) (n := x1.heap.size + 1 + 1 + 1) (by simp)
  have hw := below_alloc (((x1.alloc (.cells #[.int .i64 5, .int .i64 (-1)] 3)).alloc (.cells #[.int .i64 1, .int .i64 (-1)] 3)).alloc (.cells #[.slice (some ⟨x1.heap.size, 0, none⟩) 2 2, .slice (some ⟨x1.heap.size + 1, 0, none⟩) 2 2] 24)) (.cells #[.int .i64 1, .int .i64 0] 42 (0, 0))
  have hP : Prs _ (some ⟨x1.heap.size + 1 + 1 + 1, 0, none⟩) 1 [(1, 0)] := prsBlock hp rfl rfl (by decide)
  have K2 := Lib.hid (And.intro ((K.out.keep h3.2).keep hw) (And.intro (h3.1.below hw) hP))
  clear h3 hp hw hP
  go_wp2_with fail
  refine (best_yes _ _ 2 2 1 1 _ 1 _ _ K2.out.2.1 K2.out.2.2 H2.out.1 H2.out.2.1 H2.out.2.2.1 H2.out.2.2.2).mono ?_
  rintro e x2 ⟨rfl, hb⟩
  replace K := Lib.hid (K2.out.1.keep hb)
  clear hb K2
  have h3 := lit3 x2 7 7 7 7
  have K2 := Lib.hid (And.intro (K.out.keep h3.2) h3.1)
  clear h3
  go_wp2_with fail
  refine (best_yes _ _ 2 2 2 2 _ 14 _ _ K2.out.2 K2.out.1.straight H3.out.1 H3.out.2.1 H3.out.2.2.1 H3.out.2.2.2).mono ?_
  rintro e x3 ⟨rfl, hb⟩
  replace K := Lib.hid (K2.out.1.keep hb)
  clear hb K2
  have h3 := lit3 x3 (-1) 3 0 0
  have K2 := Lib.hid (And.intro (K.out.keep h3.2) h3.1)
  clear h3
  go_wp2_with fail
  refine (best_yes _ _ 2 2 2 2 _ 3 _ _ K2.out.2 K2.out.1.cross H4.out.1 H4.out.2.1 H4.out.2.2.1 H4.out.2.2.2).mono ?_
  rintro e x4 ⟨rfl, hb⟩
  replace K := Lib.hid (K2.out.1.keep hb)
  clear hb K2
  go_wp2_with fail
  go_ret
  exact bPost_of rfl K.out.B
end Go.Proofs.Ytbehpkggmomgeaa
