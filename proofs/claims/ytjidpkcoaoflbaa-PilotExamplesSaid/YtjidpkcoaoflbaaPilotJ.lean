/-
  Layer 37 (pilot): the reference's Command, whole; Fly of pilot and of the reference, walked. Printed by genPilotJ.py.
-/
import Derived.Test.YtjidpkcoaoflbaaPilotI
import Derived.Test.YtjidpkcoaoflbaaPlaneE
namespace Go.Proofs.Ytjidpkcoaoflbaa
open Go.RowKit PilotMath MyHeap MyCopy PlaneMath

set_option maxRecDepth 100000 in
set_option maxHeartbeats 8000000 in
theorem rCommand_call (n : Nat) (d pl ms : Int) (aq : Option Addr) (c : Nat) (x : St) (a : Adv) (w : World) (hq : Advs w aq n x.q) (hnil : aq = none → n = 0 ∧ c = 0) (pq : Pos x.q) (pd : 0 ≤ x.due.s) (pf : 0 ≤ x.fl.s) (pa : 0 ≤ a.s) :
    Calls Try.prog 19 #[.agg #[.int .i64 d, .int .i64 pl, .int .i64 ms], stV (.slice aq n c) x, .agg #[.int .u8 a.s, .int .i64 a.r, .bool a.k]] w (RCmdPost d pl ms x a w) := by
  by_cases hE : cmdE d pl ms x a = 0
  · obtain ⟨_, o2, _, _, _⟩ := cmdE_ok hE
    obtain rfl : d = (n : Int) := by rw [← o2, hq.len]
    exact rCommand_ok n pl ms aq c x a w hq hnil pq pd pf pa hE
  · have HE := Lib.hid hE
    have hne : (cmdE d pl ms x a != 0) = true := by simp [hE]
    have HQ := Lib.hid hq
    have HNil := Lib.hid hnil
    have HPos := Lib.hid (And.intro pq (And.intro pd (And.intro pf pa)))
    clear hE hq hnil pq pd pf pa
    unfold stV
    go_enter Try.func19, Try.ntmps19
    go_wp2_with fail
    have HK := Lib.hid (rmK_new w d pl ms (.slice aq n c) x a)
    refine (rwrong_call n d pl ms aq c x a _ (HQ.out.below HK.out.2.2.2.2) HNil.out HPos.out.1 HPos.out.2.1 HPos.out.2.2.1 HPos.out.2.2.2).mono ?_; rintro e w1 ⟨rfl, hb1⟩
    have HK1 := Lib.hid (RmK.keep HK.out hb1)
    clear hb1 HK
    go_wp2_with (refine wpList_store_new rfl 48 (.tmp 6) (.tmp 18) rfl (w.heap.size + 1 + 1 + 1) (stC (.slice none 0 0) stZ) rfl rfl 48 _ HK1.out.2.2.2.1 (by kernel_rfl) rfl (by simp [stC, Value.oneCell']) ?_; intro w9 H9)
    refine bodyPost_ret (v := .tuple #[.agg (stC (.slice none 0 0) stZ), .int .i64 (cmdE d pl ms x a)]) ?_ rfl (rcmdPost_err HE.out (HK1.out.2.2.2.2.trans (H9.out.2.below (B := w.heap.size) (by omega) HK1.out.2.2.2.2.size)))
    obtain ⟨r0, r1, r2, r3, r4, r5, r6, r7⟩ := eight_cells H9.out.1
    simp [results, Try.f19, go_sem, r0, r1, r2, r3, r4, r5, r6, r7]
    rfl

/-- The error, the altitude and the rate of Fly. -/
def pfE (d pl ms : Int) (x : St) (z v : Int) : Int := if cmdE d pl ms x adv0 ≠ 0 then cmdE d pl ms x adv0 else flyE z v (bndL x.fl) (bndH x.fl) pl
def pfZ (d pl ms : Int) (x : St) (z v : Int) : Int := if cmdE d pl ms x adv0 ≠ 0 then 0 else flyZ z v (bndL x.fl) (bndH x.fl) pl
def pfV (d pl ms : Int) (x : St) (z v : Int) : Int := if cmdE d pl ms x adv0 ≠ 0 then 0 else flyV z v (bndL x.fl) (bndH x.fl) pl
def PfPost (d pl ms : Int) (x : St) (z v : Int) (w : World) (e : Ending) (w' : World) : Prop :=
  e = .returned (.tuple #[.agg #[.int .i64 (pfZ d pl ms x z v), .int .i64 (pfV d pl ms x z v)], .int .i64 (pfE d pl ms x z v)]) ∧ Below w.heap.size w w'
theorem pfPost_err {d pl ms : Int} {x : St} {z v : Int} {w w' : World} (h : cmdE d pl ms x adv0 ≠ 0) (hB : Below w.heap.size w w') : PfPost d pl ms x z v w (.returned (.tuple #[.agg #[.int .i64 0, .int .i64 0], .int .i64 (cmdE d pl ms x adv0)])) w' := by
  unfold PfPost pfE pfZ pfV
  rw [if_pos h, if_pos h, if_pos h]
  exact ⟨rfl, hB⟩
theorem pfPost_ok {d pl ms : Int} {x : St} {z v : Int} {w w' : World} (h : cmdE d pl ms x adv0 = 0) (hB : Below w.heap.size w w') : PfPost d pl ms x z v w (.returned (.tuple #[.agg #[.int .i64 (flyZ z v (bndL x.fl) (bndH x.fl) pl), .int .i64 (flyV z v (bndL x.fl) (bndH x.fl) pl)], .int .i64 (flyE z v (bndL x.fl) (bndH x.fl) pl)])) w' := by
  unfold PfPost pfE pfZ pfV
  rw [if_neg (by simpa using h), if_neg (by simpa using h), if_neg (by simpa using h)]
  exact ⟨rfl, hB⟩
/-- In Fly: the arguments' blocks, the result's block, and nothing of w0 written. -/
def FlK (w0 : World) (T : TypeId) (d pl ms : Int) (q : Value) (x : St) (z v : Int) (w : World) : Prop :=
  w.heap[w0.heap.size]? = some (.cells #[.int .i64 d, .int .i64 pl, .int .i64 ms] 23 (0, 0)) ∧ w.heap[w0.heap.size + 1]? = some (.cells (stC q x) T (0, 0)) ∧ w.heap[w0.heap.size + 2]? = some (.cells #[.int .i64 z, .int .i64 v] 25 (0, 0)) ∧
  w.heap[w0.heap.size + 3]? = some (.cells #[.int .i64 0, .int .i64 0] 25 (0, 0)) ∧ Below w0.heap.size w0 w
theorem FlK.keep {w0 : World} {T : TypeId} {d pl ms : Int} {q : Value} {x : St} {z v : Int} {w w' : World} (h : FlK w0 T d pl ms q x z v w) (hb : Below w.heap.size w w') : FlK w0 T d pl ms q x z v w' := ⟨keepO hb h.1, keepO hb h.2.1, keepO hb h.2.2.1, keepO hb h.2.2.2.1, h.2.2.2.2.trans (hb.mono h.2.2.2.2.size)⟩
theorem flK_new (w : World) (T : TypeId) (d pl ms : Int) (q : Value) (x : St) (z v : Int) : FlK w T d pl ms q x z v ((((w.alloc (.cells #[.int .i64 d, .int .i64 pl, .int .i64 ms] 23)).alloc (.cells (stC q x) T)).alloc (.cells #[.int .i64 z, .int .i64 v] 25)).alloc (.cells #[.int .i64 0, .int .i64 0] 25)) :=
  ⟨block_alloc (block_alloc (block_alloc (block_new _ _ rfl))), block_alloc (block_alloc (block_new _ _ (by simp))), block_alloc (block_new _ _ (by simp)), block_new _ _ (by simp), (((Below.refl _ w).alloc (Nat.le_refl _) _ |>.alloc (by simp) _).alloc (by simp; omega) _).alloc (by simp; omega) _⟩

set_option maxRecDepth 100000 in
set_option maxHeartbeats 8000000 in
theorem pFly_call (n : Nat) (d pl ms : Int) (aq : Option Addr) (c : Nat) (x : St) (z v : Int) (w : World) (hq : Advs w aq n x.q) (pq : Pos x.q) (pd : 0 ≤ x.due.s) (pf : 0 ≤ x.fl.s) :
    Calls Try.prog 20 #[.agg #[.int .i64 d, .int .i64 pl, .int .i64 ms], stV (.slice aq n c) x, .agg #[.int .i64 z, .int .i64 v]] w (PfPost d pl ms x z v w) := by
  have HQ := Lib.hid hq
  have HPos := Lib.hid (And.intro pq (And.intro pd pf))
  clear hq pq pd pf
  by_cases hE : cmdE d pl ms x adv0 = 0
  · have HE := Lib.hid hE
    clear hE
    unfold stV
    go_enter Try.func20, Try.ntmps20
    go_wp2_with fail
    have HK := Lib.hid (flK_new w 38 d pl ms (.slice aq n c) x z v)
    refine (check_call n d pl ms aq c x adv0 _ (HQ.out.below HK.out.2.2.2.2) HPos.out.1 HPos.out.2.1 HPos.out.2.2 (Int.le_refl 0)).mono ?_; rintro e w1 ⟨rfl, hb1⟩
    rw [HE.out]
    have HK1 := Lib.hid (FlK.keep HK.out hb1)
    clear hb1 HK
    obtain ⟨_, _, _, _, q4, q5, q6, _⟩ := eight_cells HK1.out.2.1
    go_wp2_with fail
    refine (Bounds_call x.fl _ HPos.out.2.2).mono ?_; rintro e w2 ⟨rfl, hb2⟩
    have HK2 := Lib.hid (FlK.keep HK1.out hb2)
    clear hb2 HK1 q4 q5 q6
    obtain ⟨_, p1, _⟩ := three_old HK2.out.1
    obtain ⟨y0, y1, _, _⟩ := two_old HK2.out.2.2.1
    go_wp2_with fail
    refine (Fly_call _ _ _ _ _ _).mono ?_; rintro e w3 ⟨rfl, hb3⟩
    have HK3 := Lib.hid (FlK.keep HK2.out hb3)
    clear hb3 HK2 p1 y0 y1
    go_wp2_with (refine wpList_store_new rfl 25 (.tmp 6) (.tmp 33) rfl (w.heap.size + 1 + 1 + 1) _ rfl rfl 25 _ HK3.out.2.2.2.1 (by kernel_rfl) rfl (by simp [Value.oneCell']) ?_; intro w9 H9)
    refine bodyPost_ret (v := .tuple #[.agg #[.int .i64 (flyZ z v (bndL x.fl) (bndH x.fl) pl), .int .i64 (flyV z v (bndL x.fl) (bndH x.fl) pl)], .int .i64 (flyE z v (bndL x.fl) (bndH x.fl) pl)]) ?_ rfl (pfPost_ok HE.out (HK3.out.2.2.2.2.trans (H9.out.2.below (B := w.heap.size) (by omega) HK3.out.2.2.2.2.size)))
    obtain ⟨r0, r1, _, _⟩ := two_old H9.out.1
    simp [results, Try.f20, go_sem, r0, r1]
  · have HE := Lib.hid hE
    have hne : (cmdE d pl ms x adv0 != 0) = true := by simp [hE]
    clear hE
    unfold stV
    go_enter Try.func20, Try.ntmps20
    go_wp2_with fail
    have HK := Lib.hid (flK_new w 38 d pl ms (.slice aq n c) x z v)
    refine (check_call n d pl ms aq c x adv0 _ (HQ.out.below HK.out.2.2.2.2) HPos.out.1 HPos.out.2.1 HPos.out.2.2 (Int.le_refl 0)).mono ?_; rintro e w1 ⟨rfl, hb1⟩
    have HK1 := Lib.hid (FlK.keep HK.out hb1)
    clear hb1 HK
    go_wp2_with (refine wpList_store_new rfl 25 (.tmp 6) (.tmp 18) rfl (w.heap.size + 1 + 1 + 1) _ rfl rfl 25 _ HK1.out.2.2.2.1 (by kernel_rfl) rfl (by simp [Value.oneCell']) ?_; intro w9 H9)
    refine bodyPost_ret (v := .tuple #[.agg #[.int .i64 0, .int .i64 0], .int .i64 (cmdE d pl ms x adv0)]) ?_ rfl (pfPost_err HE.out (HK1.out.2.2.2.2.trans (H9.out.2.below (B := w.heap.size) (by omega) HK1.out.2.2.2.2.size)))
    obtain ⟨r0, r1, _, _⟩ := two_old H9.out.1
    simp [results, Try.f20, go_sem, r0, r1]

set_option maxRecDepth 100000 in
set_option maxHeartbeats 8000000 in
theorem rFly_call (n : Nat) (d pl ms : Int) (aq : Option Addr) (c : Nat) (x : St) (z v : Int) (w : World) (hq : Advs w aq n x.q) (hnil : aq = none → n = 0 ∧ c = 0) (pq : Pos x.q) (pd : 0 ≤ x.due.s) (pf : 0 ≤ x.fl.s) :
    Calls Try.prog 21 #[.agg #[.int .i64 d, .int .i64 pl, .int .i64 ms], stV (.slice aq n c) x, .agg #[.int .i64 z, .int .i64 v]] w (PfPost d pl ms x z v w) := by
  have HQ := Lib.hid hq
  have HPos := Lib.hid (And.intro pq (And.intro pd pf))
  have HNil := Lib.hid hnil
  clear hnil hq pq pd pf
  by_cases hE : cmdE d pl ms x adv0 = 0
  · have HE := Lib.hid hE
    clear hE
    unfold stV
    go_enter Try.func21, Try.ntmps21
    go_wp2_with fail
    have HK := Lib.hid (flK_new w 48 d pl ms (.slice aq n c) x z v)
    refine (rwrong_call n d pl ms aq c x adv0 _ (HQ.out.below HK.out.2.2.2.2) HNil.out HPos.out.1 HPos.out.2.1 HPos.out.2.2 (Int.le_refl 0)).mono ?_; rintro e w1 ⟨rfl, hb1⟩
    rw [HE.out]
    have HK1 := Lib.hid (FlK.keep HK.out hb1)
    clear hb1 HK
    obtain ⟨_, _, _, _, q4, q5, q6, _⟩ := eight_cells HK1.out.2.1
    go_wp2_with fail
    refine (refBounds_call x.fl _ HPos.out.2.2).mono ?_; rintro e w2 ⟨rfl, hb2⟩
    have HK2 := Lib.hid (FlK.keep HK1.out hb2)
    clear hb2 HK1 q4 q5 q6
    obtain ⟨_, p1, _⟩ := three_old HK2.out.1
    obtain ⟨y0, y1, _, _⟩ := two_old HK2.out.2.2.1
    go_wp2_with fail
    refine (refFly_call _ _ _ _ _ _).mono ?_; rintro e w3 ⟨rfl, hb3⟩
    have HK3 := Lib.hid (FlK.keep HK2.out hb3)
    clear hb3 HK2 p1 y0 y1
    go_wp2_with (refine wpList_store_new rfl 25 (.tmp 6) (.tmp 33) rfl (w.heap.size + 1 + 1 + 1) _ rfl rfl 25 _ HK3.out.2.2.2.1 (by kernel_rfl) rfl (by simp [Value.oneCell']) ?_; intro w9 H9)
    refine bodyPost_ret (v := .tuple #[.agg #[.int .i64 (flyZ z v (bndL x.fl) (bndH x.fl) pl), .int .i64 (flyV z v (bndL x.fl) (bndH x.fl) pl)], .int .i64 (flyE z v (bndL x.fl) (bndH x.fl) pl)]) ?_ rfl (pfPost_ok HE.out (HK3.out.2.2.2.2.trans (H9.out.2.below (B := w.heap.size) (by omega) HK3.out.2.2.2.2.size)))
    obtain ⟨r0, r1, _, _⟩ := two_old H9.out.1
    simp [results, Try.f21, go_sem, r0, r1]
  · have HE := Lib.hid hE
    have hne : (cmdE d pl ms x adv0 != 0) = true := by simp [hE]
    clear hE
    unfold stV
    go_enter Try.func21, Try.ntmps21
    go_wp2_with fail
    have HK := Lib.hid (flK_new w 48 d pl ms (.slice aq n c) x z v)
    refine (rwrong_call n d pl ms aq c x adv0 _ (HQ.out.below HK.out.2.2.2.2) HNil.out HPos.out.1 HPos.out.2.1 HPos.out.2.2 (Int.le_refl 0)).mono ?_; rintro e w1 ⟨rfl, hb1⟩
    have HK1 := Lib.hid (FlK.keep HK.out hb1)
    clear hb1 HK
    go_wp2_with (refine wpList_store_new rfl 25 (.tmp 6) (.tmp 18) rfl (w.heap.size + 1 + 1 + 1) _ rfl rfl 25 _ HK1.out.2.2.2.1 (by kernel_rfl) rfl (by simp [Value.oneCell']) ?_; intro w9 H9)
    refine bodyPost_ret (v := .tuple #[.agg #[.int .i64 0, .int .i64 0], .int .i64 (cmdE d pl ms x adv0)]) ?_ rfl (pfPost_err HE.out (HK1.out.2.2.2.2.trans (H9.out.2.below (B := w.heap.size) (by omega) HK1.out.2.2.2.2.size)))
    obtain ⟨r0, r1, _, _⟩ := two_old H9.out.1
    simp [results, Try.f21, go_sem, r0, r1]

end Go.Proofs.Ytjidpkcoaoflbaa
