/-
  Layer 38 (rules): the program's Choose.
-/
import Derived.Test.YtfgalaalopkclaaRulesM
namespace Go.Proofs.Ytfgalaalopkclaa
open Go.RowKit PlaneMath PilotMath RulesMath MyHeap MyOwn MyCopy

/-- In Choose: the result's cells, the scene, and nothing of w0 written. -/
def CdK (w0 : World) (C : Array Value) (W : World) : Prop := W.heap[w0.heap.size + 3]? = some (.cells #[.int .u8 0, .int .i64 0, .bool false] 30 (0, 0)) ∧ W.heap[w0.heap.size + 4]? = some (.cells C 76 (0, 0)) ∧ Below w0.heap.size w0 W
theorem CdK.keep {w0 : World} {C : Array Value} {W W' : World} (h : CdK w0 C W) (hb : Below W.heap.size W W') : CdK w0 C W' := ⟨keepO hb h.1, keepO hb h.2.1, h.2.2.trans (hb.mono h.2.2.size)⟩
theorem CdK.done {w0 : World} {C : Array Value} {W W' : World} (h : CdK w0 C W) (hO : Only (w0.heap.size + 3) W W') : Below w0.heap.size w0 W' := h.2.2.trans (hO.below (by omega) h.2.2.size)

set_option maxRecDepth 100000 in
set_option maxHeartbeats 8000000 in
theorem pChoose_call (a : Option Addr) (n c : Nat) (s : RulesMath.Set) (z v z' v' t fl k : Int) (w : World) (h : Ints w a n s.rs) :
    Calls Try.prog 30 #[setV a n c s, .agg #[.int .i64 z, .int .i64 v], .agg #[.int .i64 z', .int .i64 v'], .int .i64 t, .int .i64 fl, .int .u8 k] w (ChPost s z v z' v' t fl k w) := by
  have HL := Lib.hid h
  clear h
  unfold setV
  go_enter Try.func30, Try.ntmps30
  go_wp2_with fail
  have HK0 := Lib.hid (show CdK w (scnC a n c s z v z' v' t fl k) (((((w.alloc (.cells (setC a n c s) 24)).alloc (.cells #[.int .i64 z, .int .i64 v] 26)).alloc (.cells #[.int .i64 z', .int .i64 v'] 26)).alloc (.cells #[.int .u8 0, .int .i64 0, .bool false] 30)).alloc (.cells (scnC a n c s z v z' v' t fl k) 76)) from
    ⟨block_alloc (block_new _ _ (by simp)), block_new _ _ (by simp), ((((below_alloc _ _).alloc (by simp) _).alloc (by simp; omega) _).alloc (by simp; omega) _).alloc (by simp; omega) _⟩)
  refine (whole_call a n c s z v z' v' t fl k _ (HL.out.below HK0.out.2.2)).mono ?_; rintro e w1 ⟨rfl, hb1⟩
  have HK := Lib.hid (HK0.out.keep hb1)
  clear hb1 HK0
  by_cases hE : whlE s z v z' v' t k = 0
  · have HE := Lib.hid hE
    have hz := whlE_zero hE
    have HO := Lib.hid (scOk_of hz.1 ⟨hz.2.1, hz.2.2.1⟩)
    rw [hE]
    clear hE hz
    obtain ⟨q0, q1, q2, q3, q4, q5, q6, q7, q8, q9, qa⟩ := eleven HK.out.2.1
    go_wp2_with fail
    refine (pchoose_call a n c s z v z' v' t fl k _ (HL.out.below HK.out.2.2) HO.out HE.out).mono ?_; rintro e w5 ⟨rfl, hb5⟩
    have HK5 := Lib.hid (HK.out.keep hb5)
    clear hb5 HK q0 q1 q2 q3 q4 q5 q6 q7 q8 q9 qa
    go_wp2_with (refine wpList_store_new rfl 30 (.tmp 12) (.tmp 31) rfl (w.heap.size + 3) #[.int .u8 (chR s z v z' v' t fl k).s, .int .i64 (chR s z v z' v' t fl k).r, .bool (chR s z v z' v' t fl k).k] rfl rfl 30 _ HK5.out.1 (by kernel_rfl) rfl (by simp [Value.oneCell']) ?_; intro w8 H8)
    refine bodyPost_ret (v := .tuple #[.agg #[.int .u8 (chR s z v z' v' t fl k).s, .int .i64 (chR s z v z' v' t fl k).r, .bool (chR s z v z' v' t fl k).k], .int .i64 (chE s z v z' v' t fl k)]) ?_ rfl ⟨rfl, HK5.out.done H8.out.2⟩
    obtain ⟨r0, r1, r2⟩ := three_old' H8.out.1
    simp [results, Try.f30, go_sem, r0, r1, r2]
  · have HE := Lib.hid hE
    have hne : (whlE s z v z' v' t k != 0) = true := by simp [hE]
    clear hE
    go_wp2_with (refine wpList_store_new rfl 30 (.tmp 12) (.tmp 27) rfl (w.heap.size + 3) #[.int .u8 0, .int .i64 0, .bool false] rfl rfl 30 _ HK.out.1 (by kernel_rfl) rfl (by simp [Value.oneCell']) ?_; intro w8 H8)
    refine bodyPost_ret (v := .tuple #[.agg #[.int .u8 0, .int .i64 0, .bool false], .int .i64 (whlE s z v z' v' t k)]) ?_ rfl (chPost_err (chE_whl HE.out) HE.out (HK.out.done H8.out.2))
    obtain ⟨r0, r1, r2⟩ := three_old' H8.out.1
    simp [results, Try.f30, go_sem, r0, r1, r2]
end Go.Proofs.Ytfgalaalopkclaa
