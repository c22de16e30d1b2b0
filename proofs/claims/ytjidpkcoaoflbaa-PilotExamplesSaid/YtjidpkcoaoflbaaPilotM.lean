/-
  Layer 37 (pilot): the law's own small functions, walked.
-/
import Derived.Test.YtjidpkcoaoflbaaPilotK
namespace Go.Proofs.Ytjidpkcoaoflbaa
open Go.RowKit PilotMath MyHeap MyCopy

set_option maxRecDepth 100000 in
set_option maxHeartbeats 4000000 in
theorem equal_yes (a a' : Option Addr) (n c c' : Nat) (l : List Adv) (w : World) (h : Advs w a n l) (h' : Advs w a' n l) :
    Calls Try.prog 13 #[.slice a n c, .slice a' n c'] w fun e w' => e = .returned (.bool true) ∧ Below w.heap.size w w' := by
  have hm := h.bound
  have HA := Lib.hid (And.intro h h')
  clear h h'
  have hnn : ((n : Int) != (n : Int)) = false := by simp
  have gd := adv_guard
  have ng := adv_neq
  go_enter Try.func13, Try.ntmps13
  go_wp2
  go_loopw [5] (fun k wr => ∃ j : Nat, j ≤ n ∧ k = .int .i64 j ∧ ∃ d, wr = w.drewN d) (fun k _ => n - (intOf k).toNat)
  case atStart => exact ⟨0, by omega, rfl, 0, rfl⟩
  case round =>
    obtain ⟨k, hk, rfl, d, rfl⟩ := hrel
    by_cases hlt : k < n
    · obtain ⟨b, off, rfl, x0, x1, x2⟩ := advs_at HA.out.1 hlt
      obtain ⟨b', off', rfl, y0, y1, y2⟩ := advs_at HA.out.2 hlt
      have ht : advB ⟨(ga l k).s, (ga l k).r, (ga l k).k⟩ ⟨(ga l k).s, (ga l k).r, (ga l k).k⟩ = true := advB_self _
      have hk0 : (0 : Int) ≤ (k : Int) := by omega
      have hk1 : (k : Int) < (n : Int) := by omega
      go_wp2
      go_quiet (fail)
      go_wp2
      go_roundw
      case rel => exact ⟨k + 1, by omega, by go_num, _, rfl⟩
      case measure => simp [intOf]; omega
    · obtain rfl : k = n := by omega
      go_wp2
      go_ret
      exact ⟨rfl, below_drewN (Below.refl _ _) _⟩

set_option maxRecDepth 100000 in
set_option maxHeartbeats 4000000 in
theorem same_yes (a a' : Option Addr) (n c c' : Nat) (x : St) (w : World) (h : Advs w a n x.q) (h' : Advs w a' n x.q) :
    Calls Try.prog 25 #[stV (.slice a n c) x, stV (.slice a' n c') x] w fun e w' => e = .returned (.bool true) ∧ Below w.heap.size w w' := by
  have HA := Lib.hid (And.intro h h')
  clear h h'
  have gd := adv_guard
  have eq := adv_eql
  have e1 : advB ⟨x.due.s, x.due.r, x.due.k⟩ ⟨x.due.s, x.due.r, x.due.k⟩ = true := advB_self _
  have e2 : advB ⟨x.fl.s, x.fl.r, x.fl.k⟩ ⟨x.fl.s, x.fl.r, x.fl.k⟩ = true := advB_self _
  have e3 : (x.c == x.c) = true := by simp
  unfold stV
  go_enter Try.func25, Try.ntmps25
  go_wp2_with fail
  refine (equal_yes a a' n c c' x.q _ (HA.out.1.below (((Below.refl _ _).alloc (Nat.le_refl _) _).alloc (by simp) _)) (HA.out.2.below (((Below.refl _ _).alloc (Nat.le_refl _) _).alloc (by simp) _))).mono ?_; rintro e w1 ⟨rfl, hb1⟩
  have k0 := keepO hb1 (block_alloc (block_new w (.cells (stC (.slice a n c) x) 38) rfl))
  have k1 := keepO hb1 (block_new (w.alloc (.cells (stC (.slice a n c) x) 38)) (.cells (stC (.slice a' n c') x) 48) (n := w.heap.size + 1) (by simp))
  have hB : Below w.heap.size w w1 := (((Below.refl _ w).alloc (Nat.le_refl _) _).alloc (by simp) _).trans (hb1.mono (by simp; omega))
  obtain ⟨_, p1, p2, p3, p4, p5, p6, p7⟩ := eight_cells k0
  obtain ⟨_, q1, q2, q3, q4, q5, q6, q7⟩ := eight_cells k1
  have HB := Lib.hid hB
  clear hb1 hB k0 k1
  go_wp2
  go_ret
  exact ⟨rfl, HB.out⟩

set_option maxHeartbeats 4000000 in
theorem lup_call (r : Int) (w : World) : Calls Try.prog 26 #[.int .i64 r] w fun e w' => e = .returned (.agg #[.int .u8 1, .int .i64 r, .bool false]) ∧ Below w.heap.size w w' := by
  go_enter Try.func26, Try.ntmps26
  go_wp2
  all_goals go_returns
  all_goals exact ⟨rfl, by go_grown⟩
set_option maxHeartbeats 4000000 in
theorem ldown_call (r : Int) (w : World) : Calls Try.prog 27 #[.int .i64 r] w fun e w' => e = .returned (.agg #[.int .u8 2, .int .i64 r, .bool false]) ∧ Below w.heap.size w w' := by
  go_enter Try.func27, Try.ntmps27
  go_wp2
  all_goals go_returns
  all_goals exact ⟨rfl, by go_grown⟩

/-- What own leaves: the state, its queue copied. -/
def OwnPost (x : St) (w : World) (e : Ending) (w' : World) : Prop := ∃ a c, e = .returned (stV (.slice a x.q.length c) x) ∧ Advs w' a x.q.length x.q ∧ x.q.length ≤ c ∧ Below w.heap.size w w'
set_option maxRecDepth 100000 in
set_option maxHeartbeats 4000000 in
theorem own_call (a : Option Addr) (n c : Nat) (x : St) (w : World) (h : Advs w a n x.q) (hnil : a = none → n = 0 ∧ c = 0) (hn : n ≤ 1000) :
    Calls Try.prog 17 #[stV (.slice a n c) x] w (OwnPost x w) := by
  have hlen := h.len
  have HA := Lib.hid (And.intro h hnil)
  have HL := Lib.hid hlen
  clear h hnil hlen
  obtain ⟨i0, hi, hiz, his, hib⟩ := info_parts infoAdv
  have HI := Lib.hid (And.intro hi (And.intro hiz (And.intro his hib)))
  clear hi hiz his hib
  unfold stV
  go_enter Try.func17, Try.ntmps17
  have HO0 := Lib.hid (show ∀ W : World, W.ownsRow (w.heap.size + 2) 36 3 (.slice none 0 0) 0 [] from fun _ => ⟨rfl, Or.inl ⟨rfl, rfl⟩⟩)
  go_wp2_with (first
    | (at_builtin; refine wpList_append_src rfl _ _ 26 rfl (w.heap.size + 2) 36 i0 _ 3 24 Try.underlying26 HI.out.1 HI.out.2.1 HI.out.2.2.1 HI.out.2.2.2 rfl (by decide) _ 0 [] rfl (HO0.out _) a n c (flat3 x.q) rfl HA.out.2 (by rw [flat3_length, HL.out]) (advs_src (HA.out.1.below (((Below.refl _ _).alloc (Nat.le_refl _) _).alloc (by simp) _))) (flat3_cell x.q) (by unfold maxLen; omega) (by omega) (by simp) ?_; intro v7 w7 hown7 hg7; have hb7 := grownAll hg7; have hown8 : w7.ownsRow (w.heap.size + 2) 36 3 v7 x.q.length (flat3 x.q) := (by rw [HL.out]; simpa using hown7); obtain ⟨a7, c7, rfl, hA7, hc7, hn7⟩ := advs_own hown8 (by rw [HL.out]; omega); rw [HL.out]; have k0 := keepO hb7 (block_alloc (block_new w (.cells (stC (.slice a n c) x) 38) rfl)); have k1 := keepO hb7 (block_new (w.alloc (.cells (stC (.slice a n c) x) 38)) (.cells (stC (.slice none 0 0) stZ) 38) (n := w.heap.size + 1) (by simp)); have hB7 : Below w.heap.size w w7 := (((Below.refl _ w).alloc (Nat.le_refl _) _).alloc (by simp) _).trans (hb7.mono (by simp; omega)); obtain ⟨q0, q1, q2, q3, q4, q5, q6, q7⟩ := eight_cells k0; have f0 : w7.frozen? ⟨w.heap.size, 0, none⟩ = false := free_of_block k0; have H7 := Lib.hid (And.intro hA7 (And.intro k1 (And.intro hB7 (And.intro hc7 (And.intro hown8 hn7))))); have hz7 := lt_of_block k1; clear hown7 hown8 hg7 hb7 k0 k1 hB7 hA7 hc7 hn7)
    | (refine wpList_store_new rfl 38 (.tmp 2) (.tmp 7) rfl (w.heap.size + 1) _ rfl rfl 38 _ ((Below.heap_setCell w7 ⟨w.heap.size, 0, none⟩ _ (w.heap.size + 1) (by simp)).trans H7.out.2.1) (by kernel_rfl) rfl (by simp [Value.oneCell']) ?_; intro w9 H9))
  have hB9 : Below w.heap.size w w9 := (H7.out.2.2.1.setCell (p := ⟨w.heap.size, 0, none⟩) (Nat.le_refl _) _).trans (H9.out.2.below (B := w.heap.size) (by omega) (by simp [World.setCell]; omega))
  have hA9 : Advs w9 a7 x.q.length x.q := by
    have hA := H7.out.1
    refine ⟨rfl, hA.bound, ?_⟩
    rcases hA.cells with h0 | ⟨b, off, e, hc⟩
    · exact Or.inl h0
    · subst e
      have hbb := (H7.out.2.2.2.2.1.lt b rfl).1
      have hk : ∀ o u, w7.cell? ⟨b, o, none⟩ = some u → w9.cell? ⟨b, o, none⟩ = some u := fun o u hu =>
        H9.out.2.cell ((World.cell?_of_block (w := w7) (Below.heap_setCell w7 ⟨w.heap.size, 0, none⟩ _ b (by show b ≠ w.heap.size; omega))).trans hu) (by show b ≠ _; omega)
      exact Or.inr ⟨b, off, rfl, fun i hi => ⟨hk _ _ (hc i hi).1, hk _ _ (hc i hi).2.1, hk _ _ (hc i hi).2.2⟩⟩
  refine bodyPost_ret (v := .agg (stC (.slice a7 n c7) x)) ?_ rfl ⟨a7, c7, by rw [HL.out]; rfl, hA9, H7.out.2.2.2.1, hB9⟩
  obtain ⟨r0, r1, r2, r3, r4, r5, r6, r7⟩ := eight_cells H9.out.1
  simp [results, Try.f17, go_sem, r0, r1, r2, r3, r4, r5, r6, r7]
  rfl
end Go.Proofs.Ytjidpkcoaoflbaa
