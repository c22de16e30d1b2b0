/-
  Layer 38 (rules): the program's choose. Printed by genRulesM.py.
-/
import Derived.Test.YtfgalaalopkclaaRulesL
import Derived.Test.YtfgalaalopkclaaRulesI
namespace Go.Proofs.Ytfgalaalopkclaa
open Go.RowKit PlaneMath PilotMath RulesMath MyHeap MyOwn MyCopy

/-- In choose: the scene, the result's cells, and nothing of w0 written. -/
def CsK (w0 : World) (C : Array Value) (W : World) : Prop := W.heap[w0.heap.size]? = some (.cells C 76 (0, 0)) ∧ W.heap[w0.heap.size + 1]? = some (.cells #[.int .u8 0, .int .i64 0, .bool false] 30 (0, 0)) ∧ Below w0.heap.size w0 W
theorem CsK.keep {w0 : World} {C : Array Value} {W W' : World} (h : CsK w0 C W) (hb : Below W.heap.size W W') : CsK w0 C W' := ⟨keepO hb h.1, keepO hb h.2.1, h.2.2.trans (hb.mono h.2.2.size)⟩
theorem CsK.done {w0 : World} {C : Array Value} {W W' : World} (h : CsK w0 C W) (hO : Only (w0.heap.size + 1) W W') : Below w0.heap.size w0 W' := h.2.2.trans (hO.below (by omega) h.2.2.size)

set_option maxRecDepth 100000 in
set_option maxHeartbeats 4000000 in
theorem pchoose_ff (a : Option Addr) (n c : Nat) (s : RulesMath.Set) (z v z' v' t fl k : Int) (w : World) (h : Ints w a n s.rs) (hok : ScOk s z v z' v' t) (hE : whlE s z v z' v' t k = 0) (hd : alwB z fl k 2 = false) (hu : alwB z fl k 1 = false) : Calls Try.prog 46 #[scnV a n c s z v z' v' t fl k] w (ChPost s z v z' v' t fl k w) := by
  have HL := Lib.hid h
  have HO := Lib.hid hok
  have HE := Lib.hid hE
  have HU := Lib.hid hu
  have HD := Lib.hid hd
  clear h hok hE hu hd
  have HG := Lib.hid (show chG s z v z' v' t fl k = _ from chG_ff HU.out HD.out)
  unfold scnV
  go_enter Try.func46, Try.ntmps46
  go_wp2_with fail
  have HK0 := Lib.hid (show CsK w (scnC a n c s z v z' v' t fl k) ((w.alloc (.cells (scnC a n c s z v z' v' t fl k) 76)).alloc (.cells #[.int .u8 0, .int .i64 0, .bool false] 30)) from ⟨block_alloc (block_new _ _ rfl), block_new _ _ (by simp), (below_alloc _ _).alloc (by simp) _⟩)
  refine (better_f a n c s z v z' v' t fl k w.heap.size _ HK0.out.1 (HL.out.below HK0.out.2.2) HO.out HD.out).mono ?_
  rintro e w1 ⟨rfl, hb1⟩
  have HK := Lib.hid (HK0.out.keep hb1)
  clear hb1 HK0
  obtain ⟨q0, q1, q2, q3, q4, q5, q6, q7, q8, q9, qa⟩ := eleven HK.out.1
  go_wp2_with fail
  refine (allowed_call a n c s z v z' v' t fl k 1 _).mono ?_; rintro e w3 ⟨rfl, hb3⟩
  rw [HU.out]
  have HK3 := Lib.hid (HK.out.keep hb3)
  clear hb3 HK
  clear q0 q1 q2 q3 q4 q5 q6 q7 q8 q9 qa
  go_wp2_with (refine wpList_store_new rfl 30 (.tmp 2) (.tmp 16) rfl (w.heap.size + 1) #[.int .u8 0, .int .i64 0, .bool false] rfl rfl 30 _ HK3.out.2.1 (by kernel_rfl) rfl (by simp [Value.oneCell']) ?_; intro w8 H8)
  refine bodyPost_ret (v := .tuple #[.agg #[.int .u8 0, .int .i64 0, .bool false], .int .i64 (9)]) ?_ rfl (chPost_err (chE_none HE.out HG.out) (by decide) (HK3.out.done H8.out.2))
  obtain ⟨r0, r1, r2⟩ := three_old' H8.out.1
  simp [results, Try.f46, go_sem, r0, r1, r2]

set_option maxRecDepth 100000 in
set_option maxHeartbeats 4000000 in
theorem pchoose_tf (a : Option Addr) (n c : Nat) (s : RulesMath.Set) (z v z' v' t fl k : Int) (w : World) (h : Ints w a n s.rs) (hok : ScOk s z v z' v' t) (hE : whlE s z v z' v' t k = 0) (hd : alwB z fl k 2 = false) (hu : alwB z fl k 1 = true) : Calls Try.prog 46 #[scnV a n c s z v z' v' t fl k] w (ChPost s z v z' v' t fl k w) := by
  have HL := Lib.hid h
  have HO := Lib.hid hok
  have HE := Lib.hid hE
  have HU := Lib.hid hu
  have HD := Lib.hid hd
  clear h hok hE hu hd
  have HG := Lib.hid (show chG s z v z' v' t fl k = _ from chG_tf HU.out HD.out)
  unfold scnV
  go_enter Try.func46, Try.ntmps46
  go_wp2_with fail
  have HK0 := Lib.hid (show CsK w (scnC a n c s z v z' v' t fl k) ((w.alloc (.cells (scnC a n c s z v z' v' t fl k) 76)).alloc (.cells #[.int .u8 0, .int .i64 0, .bool false] 30)) from ⟨block_alloc (block_new _ _ rfl), block_new _ _ (by simp), (below_alloc _ _).alloc (by simp) _⟩)
  refine (better_f a n c s z v z' v' t fl k w.heap.size _ HK0.out.1 (HL.out.below HK0.out.2.2) HO.out HD.out).mono ?_
  rintro e w1 ⟨rfl, hb1⟩
  have HK := Lib.hid (HK0.out.keep hb1)
  clear hb1 HK0
  obtain ⟨q0, q1, q2, q3, q4, q5, q6, q7, q8, q9, qa⟩ := eleven HK.out.1
  go_wp2_with fail
  refine (allowed_call a n c s z v z' v' t fl k 1 _).mono ?_; rintro e w3 ⟨rfl, hb3⟩
  rw [HU.out]
  have HK3 := Lib.hid (HK.out.keep hb3)
  clear hb3 HK
  clear q0 q1 q2 q3 q4 q5 q6 q7 q8 q9 qa
  obtain ⟨q0, q1, q2, q3, q4, q5, q6, q7, q8, q9, qa⟩ := eleven HK3.out.1
  go_wp2_with fail
  refine (enough_call a n c s z v z' v' t fl k 1 _ (HL.out.below HK3.out.2.2) HO.out (by decide)).mono ?_; rintro e w5 ⟨rfl, hb5⟩
  have HK5 := Lib.hid (HK3.out.keep hb5)
  clear hb5
  clear q0 q1 q2 q3 q4 q5 q6 q7 q8 q9 qa
  go_wp2_with (refine wpList_store_new rfl 30 (.tmp 2) (.tmp 15) rfl (w.heap.size + 1) #[.int .u8 (enA s z v z' v' 1 t).s, .int .i64 (enA s z v z' v' 1 t).r, .bool (enA s z v z' v' 1 t).k] rfl rfl 30 _ HK5.out.2.1 (by kernel_rfl) rfl (by simp [Value.oneCell']) ?_; intro w8 H8)
  refine bodyPost_ret (v := .tuple #[.agg #[.int .u8 (enA s z v z' v' 1 t).s, .int .i64 (enA s z v z' v' 1 t).r, .bool (enA s z v z' v' 1 t).k], .int .i64 (0)]) ?_ rfl (chPost_ok HE.out HG.out (by decide) (HK5.out.done H8.out.2))
  obtain ⟨r0, r1, r2⟩ := three_old' H8.out.1
  simp [results, Try.f46, go_sem, r0, r1, r2]

set_option maxRecDepth 100000 in
set_option maxHeartbeats 4000000 in
theorem pchoose_ft (a : Option Addr) (n c : Nat) (s : RulesMath.Set) (z v z' v' t fl k : Int) (w : World) (h : Ints w a n s.rs) (hok : ScOk s z v z' v' t) (hE : whlE s z v z' v' t k = 0) (hd : alwB z fl k 2 = true) (hu : alwB z fl k 1 = false) : Calls Try.prog 46 #[scnV a n c s z v z' v' t fl k] w (ChPost s z v z' v' t fl k w) := by
  have HL := Lib.hid h
  have HO := Lib.hid hok
  have HE := Lib.hid hE
  have HU := Lib.hid hu
  have HD := Lib.hid hd
  clear h hok hE hu hd
  have HG := Lib.hid (show chG s z v z' v' t fl k = _ from chG_ft HU.out HD.out)
  unfold scnV
  go_enter Try.func46, Try.ntmps46
  go_wp2_with fail
  have HK0 := Lib.hid (show CsK w (scnC a n c s z v z' v' t fl k) ((w.alloc (.cells (scnC a n c s z v z' v' t fl k) 76)).alloc (.cells #[.int .u8 0, .int .i64 0, .bool false] 30)) from ⟨block_alloc (block_new _ _ rfl), block_new _ _ (by simp), (below_alloc _ _).alloc (by simp) _⟩)
  refine (better_tf a n c s z v z' v' t fl k w.heap.size _ HK0.out.1 (HL.out.below HK0.out.2.2) HO.out HD.out HU.out).mono ?_
  rintro e w1 ⟨rfl, hb1⟩
  have HK := Lib.hid (HK0.out.keep hb1)
  clear hb1 HK0
  obtain ⟨q0, q1, q2, q3, q4, q5, q6, q7, q8, q9, qa⟩ := eleven HK.out.1
  go_wp2_with fail
  refine (enough_call a n c s z v z' v' t fl k 2 _ (HL.out.below HK.out.2.2) HO.out (by decide)).mono ?_; rintro e w5 ⟨rfl, hb5⟩
  have HK5 := Lib.hid (HK.out.keep hb5)
  clear hb5
  clear q0 q1 q2 q3 q4 q5 q6 q7 q8 q9 qa
  go_wp2_with (refine wpList_store_new rfl 30 (.tmp 2) (.tmp 10) rfl (w.heap.size + 1) #[.int .u8 (enA s z v z' v' 2 t).s, .int .i64 (enA s z v z' v' 2 t).r, .bool (enA s z v z' v' 2 t).k] rfl rfl 30 _ HK5.out.2.1 (by kernel_rfl) rfl (by simp [Value.oneCell']) ?_; intro w8 H8)
  refine bodyPost_ret (v := .tuple #[.agg #[.int .u8 (enA s z v z' v' 2 t).s, .int .i64 (enA s z v z' v' 2 t).r, .bool (enA s z v z' v' 2 t).k], .int .i64 (0)]) ?_ rfl (chPost_ok HE.out HG.out (by decide) (HK5.out.done H8.out.2))
  obtain ⟨r0, r1, r2⟩ := three_old' H8.out.1
  simp [results, Try.f46, go_sem, r0, r1, r2]

set_option maxRecDepth 100000 in
set_option maxHeartbeats 4000000 in
theorem pchoose_tt2 (a : Option Addr) (n c : Nat) (s : RulesMath.Set) (z v z' v' t fl k : Int) (w : World) (h : Ints w a n s.rs) (hok : ScOk s z v z' v' t) (hE : whlE s z v z' v' t k = 0) (hd : alwB z fl k 2 = true) (hu : alwB z fl k 1 = true) (hc : bestV s z v z' v' 1 t < bestV s z v z' v' 2 t) : Calls Try.prog 46 #[scnV a n c s z v z' v' t fl k] w (ChPost s z v z' v' t fl k w) := by
  have HL := Lib.hid h
  have HO := Lib.hid hok
  have HE := Lib.hid hE
  have HU := Lib.hid hu
  have HD := Lib.hid hd
  have HC := Lib.hid hc
  clear h hok hE hu hd hc
  have HG := Lib.hid (show chG s z v z' v' t fl k = _ from chG_tt2 HD.out HC.out)
  unfold scnV
  go_enter Try.func46, Try.ntmps46
  go_wp2_with fail
  have HK0 := Lib.hid (show CsK w (scnC a n c s z v z' v' t fl k) ((w.alloc (.cells (scnC a n c s z v z' v' t fl k) 76)).alloc (.cells #[.int .u8 0, .int .i64 0, .bool false] 30)) from ⟨block_alloc (block_new _ _ rfl), block_new _ _ (by simp), (below_alloc _ _).alloc (by simp) _⟩)
  refine (better_tt a n c s z v z' v' t fl k w.heap.size _ HK0.out.1 (HL.out.below HK0.out.2.2) HO.out HD.out HU.out (decide_eq_true HC.out)).mono ?_
  rintro e w1 ⟨rfl, hb1⟩
  have HK := Lib.hid (HK0.out.keep hb1)
  clear hb1 HK0
  obtain ⟨q0, q1, q2, q3, q4, q5, q6, q7, q8, q9, qa⟩ := eleven HK.out.1
  go_wp2_with fail
  refine (enough_call a n c s z v z' v' t fl k 2 _ (HL.out.below HK.out.2.2) HO.out (by decide)).mono ?_; rintro e w5 ⟨rfl, hb5⟩
  have HK5 := Lib.hid (HK.out.keep hb5)
  clear hb5
  clear q0 q1 q2 q3 q4 q5 q6 q7 q8 q9 qa
  go_wp2_with (refine wpList_store_new rfl 30 (.tmp 2) (.tmp 10) rfl (w.heap.size + 1) #[.int .u8 (enA s z v z' v' 2 t).s, .int .i64 (enA s z v z' v' 2 t).r, .bool (enA s z v z' v' 2 t).k] rfl rfl 30 _ HK5.out.2.1 (by kernel_rfl) rfl (by simp [Value.oneCell']) ?_; intro w8 H8)
  refine bodyPost_ret (v := .tuple #[.agg #[.int .u8 (enA s z v z' v' 2 t).s, .int .i64 (enA s z v z' v' 2 t).r, .bool (enA s z v z' v' 2 t).k], .int .i64 (0)]) ?_ rfl (chPost_ok HE.out HG.out (by decide) (HK5.out.done H8.out.2))
  obtain ⟨r0, r1, r2⟩ := three_old' H8.out.1
  simp [results, Try.f46, go_sem, r0, r1, r2]

set_option maxRecDepth 100000 in
set_option maxHeartbeats 4000000 in
theorem pchoose_tt1 (a : Option Addr) (n c : Nat) (s : RulesMath.Set) (z v z' v' t fl k : Int) (w : World) (h : Ints w a n s.rs) (hok : ScOk s z v z' v' t) (hE : whlE s z v z' v' t k = 0) (hd : alwB z fl k 2 = true) (hu : alwB z fl k 1 = true) (hc : ¬ bestV s z v z' v' 1 t < bestV s z v z' v' 2 t) : Calls Try.prog 46 #[scnV a n c s z v z' v' t fl k] w (ChPost s z v z' v' t fl k w) := by
  have HL := Lib.hid h
  have HO := Lib.hid hok
  have HE := Lib.hid hE
  have HU := Lib.hid hu
  have HD := Lib.hid hd
  have HC := Lib.hid hc
  clear h hok hE hu hd hc
  have HG := Lib.hid (show chG s z v z' v' t fl k = _ from chG_tt1 HU.out HC.out)
  unfold scnV
  go_enter Try.func46, Try.ntmps46
  go_wp2_with fail
  have HK0 := Lib.hid (show CsK w (scnC a n c s z v z' v' t fl k) ((w.alloc (.cells (scnC a n c s z v z' v' t fl k) 76)).alloc (.cells #[.int .u8 0, .int .i64 0, .bool false] 30)) from ⟨block_alloc (block_new _ _ rfl), block_new _ _ (by simp), (below_alloc _ _).alloc (by simp) _⟩)
  refine (better_tt0 a n c s z v z' v' t fl k w.heap.size _ HK0.out.1 (HL.out.below HK0.out.2.2) HO.out HD.out HU.out (decide_eq_false (by have := HC.out; omega))).mono ?_
  rintro e w1 ⟨rfl, hb1⟩
  have HK := Lib.hid (HK0.out.keep hb1)
  clear hb1 HK0
  obtain ⟨q0, q1, q2, q3, q4, q5, q6, q7, q8, q9, qa⟩ := eleven HK.out.1
  go_wp2_with fail
  refine (allowed_call a n c s z v z' v' t fl k 1 _).mono ?_; rintro e w3 ⟨rfl, hb3⟩
  rw [HU.out]
  have HK3 := Lib.hid (HK.out.keep hb3)
  clear hb3 HK
  clear q0 q1 q2 q3 q4 q5 q6 q7 q8 q9 qa
  obtain ⟨q0, q1, q2, q3, q4, q5, q6, q7, q8, q9, qa⟩ := eleven HK3.out.1
  go_wp2_with fail
  refine (enough_call a n c s z v z' v' t fl k 1 _ (HL.out.below HK3.out.2.2) HO.out (by decide)).mono ?_; rintro e w5 ⟨rfl, hb5⟩
  have HK5 := Lib.hid (HK3.out.keep hb5)
  clear hb5
  clear q0 q1 q2 q3 q4 q5 q6 q7 q8 q9 qa
  go_wp2_with (refine wpList_store_new rfl 30 (.tmp 2) (.tmp 15) rfl (w.heap.size + 1) #[.int .u8 (enA s z v z' v' 1 t).s, .int .i64 (enA s z v z' v' 1 t).r, .bool (enA s z v z' v' 1 t).k] rfl rfl 30 _ HK5.out.2.1 (by kernel_rfl) rfl (by simp [Value.oneCell']) ?_; intro w8 H8)
  refine bodyPost_ret (v := .tuple #[.agg #[.int .u8 (enA s z v z' v' 1 t).s, .int .i64 (enA s z v z' v' 1 t).r, .bool (enA s z v z' v' 1 t).k], .int .i64 (0)]) ?_ rfl (chPost_ok HE.out HG.out (by decide) (HK5.out.done H8.out.2))
  obtain ⟨r0, r1, r2⟩ := three_old' H8.out.1
  simp [results, Try.f46, go_sem, r0, r1, r2]

theorem pchoose_call (a : Option Addr) (n c : Nat) (s : RulesMath.Set) (z v z' v' t fl k : Int) (w : World) (h : Ints w a n s.rs) (hok : ScOk s z v z' v' t) (hE : whlE s z v z' v' t k = 0) : Calls Try.prog 46 #[scnV a n c s z v z' v' t fl k] w (ChPost s z v z' v' t fl k w) := by
  cases hd : alwB z fl k 2 <;> cases hu : alwB z fl k 1
  · exact pchoose_ff a n c s z v z' v' t fl k w h hok hE hd hu
  · exact pchoose_tf a n c s z v z' v' t fl k w h hok hE hd hu
  · exact pchoose_ft a n c s z v z' v' t fl k w h hok hE hd hu
  · by_cases hc : bestV s z v z' v' 1 t < bestV s z v z' v' 2 t
    · exact pchoose_tt2 a n c s z v z' v' t fl k w h hok hE hd hu hc
    · exact pchoose_tt1 a n c s z v z' v' t fl k w h hok hE hd hu hc

end Go.Proofs.Ytfgalaalopkclaa
