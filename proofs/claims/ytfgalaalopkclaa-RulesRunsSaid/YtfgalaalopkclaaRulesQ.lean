/-
  Layer 38 (rules): the law's choose, separation, allowed, strongest, long.
-/
import Derived.Test.YtfgalaalopkclaaRulesN
namespace Go.Proofs.Ytfgalaalopkclaa
open Go.RowKit PlaneMath PilotMath RulesMath MyHeap MyOwn MyCopy

/-- In the law's choose: the result's cells, and nothing of w0 written. -/
def LcK (w0 : World) (W : World) : Prop := W.heap[w0.heap.size + 1]? = some (.cells #[.int .u8 0, .int .i64 0, .bool false] 30 (0, 0)) ∧ Below w0.heap.size w0 W
theorem LcK.keep {w0 : World} {W W' : World} (h : LcK w0 W) (hb : Below W.heap.size W W') : LcK w0 W' := ⟨keepO hb h.1, h.2.trans (hb.mono h.2.size)⟩
theorem LcK.done {w0 : World} {W W' : World} (h : LcK w0 W) (hO : Only (w0.heap.size + 1) W W') : Below w0.heap.size w0 W' := h.2.trans (hO.below (by omega) h.2.size)

set_option maxRecDepth 100000 in
set_option maxHeartbeats 8000000 in
theorem lchoose_call (a : Option Addr) (n c : Nat) (s : RulesMath.Set) (z v z' v' t fl k : Int) (w : World) (h : Ints w a n s.rs) :
    Calls Try.prog 15 #[scnV a n c s z v z' v' t fl k] w (ChPost s z v z' v' t fl k w) := by
  have HL := Lib.hid h
  clear h
  unfold scnV
  go_enter Try.func15, Try.ntmps15
  go_wp2_with fail
  have HK0 := Lib.hid (show LcK w ((w.alloc (.cells (scnC a n c s z v z' v' t fl k) 28)).alloc (.cells #[.int .u8 0, .int .i64 0, .bool false] 30)) from
    ⟨block_new _ _ (by simp), (below_alloc _ _).alloc (by simp) _⟩)
  refine (pChoose_call a n c s z v z' v' t fl k _ (HL.out.below HK0.out.2)).mono ?_; rintro e w5 ⟨rfl, hb5⟩
  have HK5 := Lib.hid (HK0.out.keep hb5)
  clear hb5 HK0
  go_wp2_with (refine wpList_store_new rfl 30 (.tmp 2) (.tmp 17) rfl (w.heap.size + 1) #[.int .u8 (chR s z v z' v' t fl k).s, .int .i64 (chR s z v z' v' t fl k).r, .bool (chR s z v z' v' t fl k).k] rfl rfl 30 _ HK5.out.1 (by kernel_rfl) rfl (by simp [Value.oneCell']) ?_; intro w8 H8)
  refine bodyPost_ret (v := .tuple #[.agg #[.int .u8 (chR s z v z' v' t fl k).s, .int .i64 (chR s z v z' v' t fl k).r, .bool (chR s z v z' v' t fl k).k], .int .i64 (chE s z v z' v' t fl k)]) ?_ rfl ⟨rfl, HK5.out.done H8.out.2⟩
  obtain ⟨r0, r1, r2⟩ := three_old' H8.out.1
  simp [results, Try.f15, go_sem, r0, r1, r2]

set_option maxRecDepth 100000 in
set_option maxHeartbeats 4000000 in
theorem long_call (a : Option Addr) (n c : Nat) (s : RulesMath.Set) (w : World) (hn : n ≤ 9223372036854775807) :
    Calls Try.prog 10 #[setV a n c s] w (BPost (decide (20 < n)) w) := by
  have hd : decide ((20 : Int) < (n : Int)) = decide (20 < n) := by simp only [decide_eq_decide]; omega
  unfold setV
  go_enter Try.func10, Try.ntmps10
  go_wp2
  go_ret
  exact bPost_of (by first | rfl | (simp only [decide_eq_decide]; omega)) (below_alloc _ _)

set_option maxRecDepth 100000 in
set_option maxHeartbeats 4000000 in
theorem lallowed_call (a : Option Addr) (n c : Nat) (s : RulesMath.Set) (z v z' v' t fl k g : Int) (w : World) (hg : g = 1 ∨ g = 2) :
    Calls Try.prog 20 #[scnV a n c s z v z' v' t fl k, .int .u8 g] w (BPost (alwB z fl k g) w) := by
  have HB := Lib.hid (below_alloc w (.cells (scnC a n c s z v z' v' t fl k) 28))
  by_cases h1 : g = k
  · have d1 : (g != k) = false := by simp [h1]
    have HE := Lib.hid (alw_lock (z := z) (fl := fl) h1)
    clear h1 hg
    unfold scnV
    go_enter Try.func20, Try.ntmps20
    go_wp2
    go_ret
    exact bPost_of HE.out HB.out
  · have d1 : (g != k) = true := by simp [h1]
    by_cases h2 : g = 1
    · have d2 : (g != 2) = true := by simp [h2]
      have HE := Lib.hid (alw_up (z := z) (fl := fl) h1 h2)
      clear h1 h2 hg
      unfold scnV
      go_enter Try.func20, Try.ntmps20
      go_wp2
      go_ret
      exact bPost_of HE.out HB.out
    · have d2 : (g != 2) = false := by simp; omega
      have HE := Lib.hid (alw_dn (z := z) (fl := fl) h1 h2)
      clear h1 h2 hg
      unfold scnV
      go_enter Try.func20, Try.ntmps20
      go_wp2
      go_ret
      exact bPost_of HE.out HB.out

set_option maxRecDepth 100000 in
set_option maxHeartbeats 4000000 in
theorem lsep_call (a : Option Addr) (n c : Nat) (s : RulesMath.Set) (z v z' v' t fl k : Int) (x : Adv) (w : World) (h : Ints w a n s.rs) (hx : 0 ≤ x.s) :
    Calls Try.prog 21 #[scnV a n c s z v z' v' t fl k, .agg #[.int .u8 x.s, .int .i64 x.r, .bool x.k]] w (EPost (sepR s z v z' v' x t) w) := by
  have HL := Lib.hid h
  have HX := Lib.hid hx
  clear h hx
  unfold scnV
  go_enter Try.func21, Try.ntmps21
  go_wp2_with fail
  have HB := Lib.hid ((below_alloc w (.cells (scnC a n c s z v z' v' t fl k) 28)).alloc (by simp) (.cells #[.int .u8 x.s, .int .i64 x.r, .bool x.k] 30))
  refine (pSeparation_call a n c s z v z' v' t x _ (HL.out.below HB.out) HX.out).mono ?_; rintro e w5 ⟨rfl, hb5⟩
  have HB5 := Lib.hid (HB.out.trans (hb5.mono HB.out.size))
  clear hb5 HB
  go_wp2_with fail
  go_ret
  exact ePost_of rfl HB5.out

set_option maxRecDepth 100000 in
set_option maxHeartbeats 4000000 in
theorem strongest_call (a : Option Addr) (n c : Nat) (s : RulesMath.Set) (z v z' v' t fl k g : Int) (w : World) (h : Ints w a n s.rs) (hn : 1 ≤ n) :
    Calls Try.prog 22 #[scnV a n c s z v z' v' t fl k, .int .u8 g] w (APost (lastA s g) w) := by
  have hl := h.len
  have hm := h.bound
  obtain ⟨j, rfl⟩ : ∃ j : Nat, n = j + 1 := ⟨n - 1, by omega⟩
  obtain ⟨b, off, rfl, y0⟩ := ints_at (h.below ((below_alloc w (.cells (scnC a (j + 1) c s z v z' v' t fl k) 28)).alloc (by simp) (.cells #[.int .u8 0, .int .i64 0, .bool false] 30))) (k := j) (by omega)
  have HL := Lib.hid (show lastA s g = ⟨g, gr s.rs j, false⟩ by unfold lastA; rw [hl, Nat.add_sub_cancel])
  have hj0 : (0 : Int) ≤ (j : Int) := by omega
  have hj1 : (j : Int) < (j : Int) + 1 := by omega
  have hj2 : IntKind.i64.wrap ((j : Int) + 1 - 1) = (j : Int) := by rw [Int.add_sub_cancel]; exact IntWalk.i64_in _ (by omega)
  have hj3 : IntKind.i64.wrap (j : Int) = (j : Int) := IntWalk.i64_in _ (by omega)
  have HB := Lib.hid ((below_alloc w (.cells (scnC (some ⟨b, off, none⟩) (j + 1) c s z v z' v' t fl k) 28)).alloc (by simp) (.cells #[.int .u8 g, .int .i64 (gr s.rs j), .bool false] 30))
  clear h hl hm
  unfold scnC at y0
  unfold scnV
  go_enter Try.func22, Try.ntmps22
  go_wp2
  refine bodyPost_ret (v := .agg #[.int .u8 g, .int .i64 (gr s.rs j), .bool false]) ?_ rfl ⟨by rw [HL.out], HB.out⟩
  simp [results, Try.f22, go_sem]
end Go.Proofs.Ytfgalaalopkclaa
