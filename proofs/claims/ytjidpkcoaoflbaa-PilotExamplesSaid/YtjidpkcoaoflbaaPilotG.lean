/-
  Layer 37 (pilot): Command and Fly, walked.
-/
import Derived.Test.YtjidpkcoaoflbaaPilotF
import Derived.Test.YtjidpkcoaoflbaaPlaneD
namespace Go.Proofs.Ytjidpkcoaoflbaa
open Go.RowKit PilotMath MyHeap

def stZ : St := ⟨[], adv0, adv0, 0⟩
def cmdS (d pl ms : Int) (x : St) (a : Adv) : St := if cmdE d pl ms x a = 0 then nx ms x a else stZ
def CmdPost (d pl ms : Int) (x : St) (a : Adv) (w : World) (e : Ending) (w' : World) : Prop :=
  ∃ aq c, e = .returned (.tuple #[stV (.slice aq (cmdS d pl ms x a).q.length c) (cmdS d pl ms x a), .int .i64 (cmdE d pl ms x a)]) ∧ QNew w' w.heap.size aq c (cmdS d pl ms x a).q ∧ Below w.heap.size w w'
theorem cmdPost_err {d pl ms : Int} {x : St} {a : Adv} {w w' : World} (h : cmdE d pl ms x a ≠ 0) (hB : Below w.heap.size w w') : CmdPost d pl ms x a w (.returned (.tuple #[.agg #[.slice none 0 0, .int .u8 0, .int .i64 0, .bool false, .int .u8 0, .int .i64 0, .bool false, .int .i64 0], .int .i64 (cmdE d pl ms x a)])) w' := by
  have e : cmdS d pl ms x a = stZ := if_neg h
  unfold CmdPost
  rw [e]
  exact ⟨none, 0, rfl, qNew_nil _ _, hB⟩
theorem cmdPost_ok {d pl ms : Int} {x : St} {a : Adv} {w w' : World} {aq : Option Addr} {c : Nat} (h : cmdE d pl ms x a = 0) (hq : QNew w' w.heap.size aq c (nx ms x a).q) (hB : Below w.heap.size w w') : CmdPost d pl ms x a w (.returned (.tuple #[.agg (stC (.slice aq (nx ms x a).q.length c) (nx ms x a)), .int .i64 0])) w' := by
  have e : cmdS d pl ms x a = nx ms x a := if_pos h
  unfold CmdPost
  rw [e, h]
  exact ⟨aq, c, rfl, hq, hB⟩
theorem cmdE_ok {d pl ms : Int} {x : St} {a : Adv} (h : cmdE d pl ms x a = 0) : plE d pl ms = 0 ∧ (x.q.length : Int) = d ∧ firstE (x.q ++ [x.due, x.fl, a]) = 0 ∧ 0 ≤ x.c ∧ x.c ≤ 1073741824 := by
  unfold cmdE at h
  by_cases h1 : plE d pl ms ≠ 0
  · rw [if_pos h1] at h; exact absurd h h1
  · rw [if_neg h1] at h
    by_cases h2 : (x.q.length : Int) ≠ d
    · rw [if_pos h2] at h; exact absurd h (by decide)
    · rw [if_neg h2] at h
      by_cases h3 : firstE (x.q ++ [x.due, x.fl, a]) ≠ 0
      · rw [if_pos h3] at h; exact absurd h h3
      · rw [if_neg h3] at h
        by_cases h4 : x.c < 0 ∨ 1073741824 < x.c
        · rw [if_pos h4] at h; exact absurd h (by decide)
        · exact ⟨by omega, by omega, by omega, by omega, by omega⟩

theorem QNew.row {w : World} {base : Nat} {a : Option Addr} {c : Nat} {q : List Adv} (h : QNew w base a c q) {b : Nat} {X : Array Value} (hne : a = none ∨ ∃ g, a = some ⟨g, 0, none⟩ ∧ g ≠ b) : QNew (w.setRow b X) base a c q := by
  obtain ⟨h1, h2, h3⟩ := h
  refine ⟨⟨h1.len, h1.bound, ?_⟩, ?_, h3⟩
  · rcases h1.cells with h0 | ⟨b', off, e, hc⟩
    · exact Or.inl h0
    · have hbb : b' ≠ b := by
        rcases hne with e' | ⟨g, e', hg⟩
        · rw [e] at e'; cases e'
        · rw [e] at e'; cases e'; exact hg
      have hk : ∀ o v, w.cell? ⟨b', o, none⟩ = some v → (w.setRow b X).cell? ⟨b', o, none⟩ = some v := fun o v hv => (World.cell?_of_block (w := w) (setRow_other w b b' X hbb)).trans hv
      exact Or.inr ⟨b', off, e, fun i hi => ⟨hk _ _ (hc i hi).1, hk _ _ (hc i hi).2.1, hk _ _ (hc i hi).2.2⟩⟩
  · rcases h2 with h0 | ⟨g, cs', T', e, hg, hh, hs⟩
    · exact Or.inl h0
    · have hbb : g ≠ b := by
        rcases hne with e' | ⟨g', e', hg'⟩
        · rw [e] at e'; cases e'
        · rw [e] at e'; cases e'; exact hg'
      exact Or.inr ⟨g, cs', T', e, hg, (setRow_other w b g X hbb).trans hh, hs⟩
/-- A queue that was made later than block b lies elsewhere. -/
theorem QNew.apart {w : World} {base : Nat} {a : Option Addr} {c : Nat} {q : List Adv} (h : QNew w base a c q) {b : Nat} (hb : b < base) : q.length = 0 ∨ a = none ∨ ∃ g, a = some ⟨g, 0, none⟩ ∧ g ≠ b := by
  rcases h.2.1 with h0 | ⟨g, _, _, e, hg, _, _⟩
  · exact Or.inl h0
  · exact Or.inr (Or.inr ⟨g, e, by omega⟩)
theorem QNew.row2 {w : World} {base : Nat} {a : Option Addr} {c : Nat} {q : List Adv} (h : QNew w base a c q) {b : Nat} {X : Array Value} (hlt : b < base) : QNew (w.setRow b X) base a c q := by
  rcases h.apart hlt with h0 | h1
  · exact ⟨⟨rfl, by rw [h0]; decide, Or.inl h0⟩, Or.inl h0, h.2.2⟩
  · exact h.row h1

/-- In Command: the arguments' blocks, the result's block, and nothing of w0 written. -/
def CmK (w0 : World) (d pl ms : Int) (q : Value) (x : St) (a : Adv) (w : World) : Prop :=
  w.heap[w0.heap.size]? = some (.cells #[.int .i64 d, .int .i64 pl, .int .i64 ms] 23 (0, 0)) ∧ w.heap[w0.heap.size + 1]? = some (.cells (stC q x) 38 (0, 0)) ∧ w.heap[w0.heap.size + 2]? = some (.cells #[.int .u8 a.s, .int .i64 a.r, .bool a.k] 36 (0, 0)) ∧
  w.heap[w0.heap.size + 3]? = some (.cells (stC (.slice none 0 0) stZ) 38 (0, 0)) ∧ Below w0.heap.size w0 w
theorem CmK.keep {w0 : World} {d pl ms : Int} {q : Value} {x : St} {a : Adv} {w w' : World} (h : CmK w0 d pl ms q x a w) (hb : Below w.heap.size w w') : CmK w0 d pl ms q x a w' := ⟨keepO hb h.1, keepO hb h.2.1, keepO hb h.2.2.1, keepO hb h.2.2.2.1, h.2.2.2.2.trans (hb.mono h.2.2.2.2.size)⟩
theorem cmK_new (w : World) (d pl ms : Int) (q : Value) (x : St) (a : Adv) : CmK w d pl ms q x a ((((w.alloc (.cells #[.int .i64 d, .int .i64 pl, .int .i64 ms] 23)).alloc (.cells (stC q x) 38)).alloc (.cells #[.int .u8 a.s, .int .i64 a.r, .bool a.k] 36)).alloc (.cells (stC (.slice none 0 0) stZ) 38)) :=
  ⟨block_alloc (block_alloc (block_alloc (block_new _ _ rfl))), block_alloc (block_alloc (block_new _ _ (by simp))), block_alloc (block_new _ _ (by simp)), block_new _ _ (by simp), (((Below.refl _ w).alloc (Nat.le_refl _) _ |>.alloc (by simp) _).alloc (by simp; omega) _).alloc (by simp; omega) _⟩

set_option maxRecDepth 100000 in
set_option maxHeartbeats 8000000 in
theorem Command_call (n : Nat) (d pl ms : Int) (aq : Option Addr) (c : Nat) (x : St) (a : Adv) (w : World) (hq : Advs w aq n x.q) (hcap : n ≤ c) (pq : Pos x.q) (pd : 0 ≤ x.due.s) (pf : 0 ≤ x.fl.s) (pa : 0 ≤ a.s) :
    Calls Try.prog 15 #[.agg #[.int .i64 d, .int .i64 pl, .int .i64 ms], stV (.slice aq n c) x, .agg #[.int .u8 a.s, .int .i64 a.r, .bool a.k]] w (CmdPost d pl ms x a w) := by
  have hlen := hq.len
  have HQ := Lib.hid hq
  have HPos := Lib.hid (And.intro pq (And.intro pd (And.intro pf pa)))
  have HL := Lib.hid hlen
  clear hq pq pd pf pa hlen
  by_cases hE : cmdE d pl ms x a = 0
  · obtain ⟨o1, o2, o3, o4, o5⟩ := cmdE_ok hE
    obtain ⟨_, p16, _, _, m0, m1⟩ := plE_ok o1
    obtain rfl : d = (n : Int) := by rw [← o2, HL.out]
    have HE := Lib.hid hE
    have HO := Lib.hid (And.intro o4 o5)
    clear hE o1 o2 o3 o4 o5
    unfold stV
    go_enter Try.func15, Try.ntmps15
    go_wp2_with fail
    have HK := Lib.hid (cmK_new w n pl ms (.slice aq n c) x a)
    refine (check_call n n pl ms aq c x a _ (HQ.out.below HK.out.2.2.2.2) HPos.out.1 HPos.out.2.1 HPos.out.2.2.1 HPos.out.2.2.2).mono ?_; rintro e w1 ⟨rfl, hb1⟩
    rw [HE.out]
    have HK1 := Lib.hid (CmK.keep HK.out hb1)
    clear hb1 HK
    obtain ⟨p0, p1, p2⟩ := three_old HK1.out.1
    obtain ⟨q0, q1, q2, q3, q4, q5, q6, q7⟩ := eight_cells HK1.out.2.1
    obtain ⟨r0, r1, r2⟩ := three_old HK1.out.2.2.1
    go_wp2_with fail
    refine (pnext_call n pl ms aq c x a _ (HQ.out.below HK1.out.2.2.2.2) (by omega) hcap HO.out.1 HO.out.2 m0 m1).mono ?_
    rintro e w2 ⟨a2, c2, rfl, hq2, hb2⟩
    have HK2 := Lib.hid (CmK.keep HK1.out hb2)
    have hw1 := HK1.out.2.2.2.2.size
    have HQ2 := Lib.hid hq2
    have hz3 := lt_of_block HK1.out.2.2.2.1
    clear hb2 hq2 p0 p1 p2 q0 q1 q2 q3 q4 q5 q6 q7 r0 r1 r2
    generalize hy : nx ms x a = y at *
    have HY := Lib.hid hy
    clear hy
    go_wp2_with (refine wpList_store_row rfl 38 (.tmp 6) (.tmp 20) rfl (w.heap.size + 1 + 1 + 1) (stC (.slice a2 y.q.length c2) y) rfl rfl 38 _ HK2.out.2.2.2.1 (by kernel_rfl) rfl (by simp [stC, Value.oneCell']) ?_)
    refine bodyPost_ret (v := .tuple #[.agg (stC (.slice a2 y.q.length c2) y), .int .i64 0]) ?_ rfl ?_
    · obtain ⟨r0, r1, r2, r3, r4, r5, r6, r7⟩ := eight_cells (setRow_heap w2 (w.heap.size + 1 + 1 + 1) _ (stC (.slice a2 y.q.length c2) y) _ _ HK2.out.2.2.2.1)
      simp [results, Try.f15, go_sem, r0, r1, r2, r3, r4, r5, r6, r7]
      rfl
    · rw [← HY.out]
      rw [← HY.out] at HQ2
      exact cmdPost_ok HE.out ((HQ2.out.row2 hz3).base hw1) (below_setRow (g := w.heap.size + 1 + 1 + 1) HK2.out.2.2.2.2 (by omega) _)
  · have HE := Lib.hid hE
    have hne : (cmdE d pl ms x a != 0) = true := by simp [hE]
    clear hE
    unfold stV
    go_enter Try.func15, Try.ntmps15
    go_wp2_with fail
    have HK := Lib.hid (cmK_new w d pl ms (.slice aq n c) x a)
    refine (check_call n d pl ms aq c x a _ (HQ.out.below HK.out.2.2.2.2) HPos.out.1 HPos.out.2.1 HPos.out.2.2.1 HPos.out.2.2.2).mono ?_; rintro e w1 ⟨rfl, hb1⟩
    have HK1 := Lib.hid (CmK.keep HK.out hb1)
    clear hb1 HK
    go_wp2_with (refine wpList_store_row rfl 38 (.tmp 6) (.tmp 15) rfl (w.heap.size + 1 + 1 + 1) (stC (.slice none 0 0) stZ) rfl rfl 38 _ HK1.out.2.2.2.1 (by kernel_rfl) rfl (by simp [stC, Value.oneCell']) ?_)
    refine bodyPost_ret (v := .tuple #[.agg (stC (.slice none 0 0) stZ), .int .i64 (cmdE d pl ms x a)]) ?_ rfl (cmdPost_err HE.out (below_setRow (g := w.heap.size + 1 + 1 + 1) HK1.out.2.2.2.2 (by omega) _))
    obtain ⟨r0, r1, r2, r3, r4, r5, r6, r7⟩ := eight_cells (setRow_heap w1 (w.heap.size + 1 + 1 + 1) _ (stC (.slice none 0 0) stZ) _ _ HK1.out.2.2.2.1)
    simp [results, Try.f15, go_sem, r0, r1, r2, r3, r4, r5, r6, r7]
    rfl
end Go.Proofs.Ytjidpkcoaoflbaa
