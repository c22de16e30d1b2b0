/-
  Layer 38 (rules): the reference's Next. Printed by genRulesZ.py.
-/
import Derived.Test.YtfgalaalopkclaaRulesY
namespace Go.Proofs.Ytfgalaalopkclaa
open Go.RowKit PlaneMath PilotMath RulesMath MyHeap MyOwn MyCopy

/-- A guard: the goal is a list of operations. -/
theorem wpList_id {P : Program} {ops : Array Oper} {rest : List Oper} {o : Oper} {a : Act} {w : World} {Q : Exit → Act → World → Prop} (h : wpList P ops Q (o :: rest) a w) : wpList P ops Q (o :: rest) a w := h
theorem hold_cases2 {st : NSt} (x : Adv) : (holdB st x = false ∧ (decide (st.a.r < x.r) = true ∨ (decide (st.a.r < x.r) = false ∧ decide (x.r < st.a.r) = true ∧ decide (5 ≤ st.age + 1) = true))) ∨
    (holdB st x = true ∧ decide (st.a.r < x.r) = false ∧ (decide (x.r < st.a.r) = false ∨ (decide (x.r < st.a.r) = true ∧ decide (5 ≤ st.age + 1) = false))) := by
  have hh : holdB st x = true ↔ x.r = st.a.r ∨ (x.r < st.a.r ∧ st.age + 1 < 5) := by unfold holdB; simp
  have hf : holdB st x = false ↔ ¬ (x.r = st.a.r ∨ (x.r < st.a.r ∧ st.age + 1 < 5)) := by rw [← hh]; simp
  rw [hh, hf]
  simp only [decide_eq_true_eq, decide_eq_false_iff_not]
  omega
def mnOf (age : Int) : Int := min (age + 1) 1000
/-- In the reference's Next: the arguments' blocks, the result; nothing of w0 written. -/
def RwK (w0 : World) (Q S : Array Value) (z v z' v' : Int) (W : World) : Prop :=
  W.heap[w0.heap.size]? = some (.cells Q 34 (0, 0)) ∧ W.heap[w0.heap.size + 1]? = some (.cells S 60 (0, 0)) ∧ W.heap[w0.heap.size + 1 + 1]? = some (.cells #[.int .i64 z, .int .i64 v] 26 (0, 0)) ∧ W.heap[w0.heap.size + 1 + 1 + 1]? = some (.cells #[.int .i64 z', .int .i64 v'] 26 (0, 0)) ∧ W.heap[w0.heap.size + 1 + 1 + 1 + 1]? = some (.cells (nstC nst0) 60 (0, 0)) ∧ Below w0.heap.size w0 W

/-- And the first choice, the advisory in force. -/
def RwL (w0 : World) (Q S : Array Value) (z v z' v' : Int) (bF : Nat) (y : Adv) (bN : Nat) (x : Adv) (W : World) : Prop := RwK w0 Q S z v z' v' W ∧ W.heap[bF]? = some (.cells (advC y) 30 (0, 0)) ∧ W.heap[bN]? = some (.cells (advC x) 30 (0, 0))
section
variable {w0 W W' : World} {Q S : Array Value} {z v z' v' : Int} {bN bF : Nat} {x y : Adv}
theorem RwK.keep (h : RwK w0 Q S z v z' v' W) (hb : Below W.heap.size W W') : RwK w0 Q S z v z' v' W' := ⟨keepO hb h.1, keepO hb h.2.1, keepO hb h.2.2.1, keepO hb h.2.2.2.1, keepO hb h.2.2.2.2.1, h.2.2.2.2.2.trans (hb.mono h.2.2.2.2.2.size)⟩
theorem RwL.keep (h : RwL w0 Q S z v z' v' bF y bN x W) (hb : Below W.heap.size W W') : RwL w0 Q S z v z' v' bF y bN x W' := ⟨h.1.keep hb, keepO hb h.2.1, keepO hb h.2.2⟩
theorem RwK.done (h : RwK w0 Q S z v z' v' W) (hO : Only (w0.heap.size + 1 + 1 + 1 + 1) W W') : Below w0.heap.size w0 W' := h.2.2.2.2.2.trans (hO.below (by omega) h.2.2.2.2.2.size)
theorem RwK.lts (h : RwK w0 Q S z v z' v' W) : w0.heap.size < W.heap.size ∧ w0.heap.size + 1 < W.heap.size ∧ w0.heap.size + 1 + 1 < W.heap.size ∧ w0.heap.size + 1 + 1 + 1 < W.heap.size ∧ w0.heap.size + 1 + 1 + 1 + 1 < W.heap.size := ⟨lt_of_block h.1, lt_of_block h.2.1, lt_of_block h.2.2.1, lt_of_block h.2.2.2.1, lt_of_block h.2.2.2.2.1⟩
theorem two_cells {w : World} {b : Nat} {c0 c1 : Value} {T : TypeId} (h : w.heap[b]? = some (.cells #[c0, c1] T (0, 0))) : w.cell? ⟨b, 0, none⟩ = some c0 ∧ w.cell? ⟨b, 1, none⟩ = some c1 := ⟨cell_of_block h rfl, cell_of_block h rfl⟩
end

set_option maxRecDepth 100000 in
set_option maxHeartbeats 8000000 in
theorem rNext_whl (a : Option Addr) (n c : Nat) (s : RulesMath.Set) (z v z' v' t fl k : Int) (st : NSt) (w : World) (h : Ints w a n s.rs) (hE : whlE s z v z' v' t k ≠ 0) :
    Calls Try.prog 27 #[setV a n c s, nstV st, .agg #[.int .i64 z, .int .i64 v], .agg #[.int .i64 z', .int .i64 v'], .int .i64 t, .int .i64 fl, .int .u8 k] w (NxPost s z v z' v' t fl k st w) := by
  have HL := Lib.hid h
  have HE := Lib.hid hE
  have hne : (whlE s z v z' v' t k != 0) = true := bne_iff_ne.2 hE
  clear hE
  clear h
  unfold setV nstV
  go_enter Try.func27, Try.ntmps27
  go_upto_region 1 with fail
  have K0 : RwK w (setC a n c s) (nstC st) z v z' v' (((((w.alloc (.cells #[.slice a n c, .int .i64 s.alim, .int .i64 s.d, .int .i64 s.pl] 34)).alloc (.cells #[.int .u8 st.a.s, .int .i64 st.a.r, .bool st.a.k, .int .i64 st.age, .bool st.rv] 60)).alloc (.cells #[.int .i64 z, .int .i64 v] 26)).alloc (.cells #[.int .i64 z', .int .i64 v'] 26)).alloc (.cells #[.int .u8 0, .int .i64 0, .bool false, .int .i64 0, .bool false] 60)) :=
    ⟨block_alloc (block_alloc (block_alloc (block_alloc (block_new _ _ rfl)))), block_alloc (block_alloc (block_alloc (block_new _ _ (by simp)))), block_alloc (block_alloc (block_new _ _ (by simp))), block_alloc (block_new _ _ (by simp)), block_new _ _ (by simp), ((((below_alloc _ _).alloc (by simp) _).alloc (by simp; omega) _).alloc (by simp; omega) _).alloc (by simp; omega) _⟩
  generalize (((((w.alloc (.cells #[.slice a n c, .int .i64 s.alim, .int .i64 s.d, .int .i64 s.pl] 34)).alloc (.cells #[.int .u8 st.a.s, .int .i64 st.a.r, .bool st.a.k, .int .i64 st.age, .bool st.rv] 60)).alloc (.cells #[.int .i64 z, .int .i64 v] 26)).alloc (.cells #[.int .i64 z', .int .i64 v'] 26)).alloc (.cells #[.int .u8 0, .int .i64 0, .bool false, .int .i64 0, .bool false] 60)) = wq at *
  have K := Lib.hid K0
  clear K0
  obtain ⟨u0, u1, u2, u3⟩ := four_cells K.out.1
  obtain ⟨s0, s1, s2, s3, s4⟩ := five_cells K.out.2.1
  obtain ⟨p0, p1⟩ := two_cells K.out.2.2.1
  obtain ⟨p2, p3⟩ := two_cells K.out.2.2.2.1
  obtain ⟨hl0, hl1, hl2, hl3, hl4⟩ := K.out.lts
  go_wp2_with fail
  refine (rwrong_call a n c s z v z' v' t k _ (HL.out.below K.out.2.2.2.2.2)).mono ?_; rintro e w5 ⟨rfl, hb5⟩
  replace K := Lib.hid (K.out.keep hb5)
  clear hb5
  clear u0 u1 u2 u3 s0 s1 s2 s3 s4 p0 p1 p2 p3 hl0 hl1 hl2 hl3 hl4
  obtain ⟨u0, u1, u2, u3⟩ := four_cells K.out.1
  obtain ⟨s0, s1, s2, s3, s4⟩ := five_cells K.out.2.1
  obtain ⟨p0, p1⟩ := two_cells K.out.2.2.1
  obtain ⟨p2, p3⟩ := two_cells K.out.2.2.2.1
  obtain ⟨hl0, hl1, hl2, hl3, hl4⟩ := K.out.lts
  go_wp2_with ((with_reducible refine wpList_id ?_); refine wpList_store_new rfl 60 (.tmp 14) (.tmp 34) rfl (w.heap.size + 1 + 1 + 1 + 1) #[.int .u8 0, .int .i64 0, .bool false, .int .i64 0, .bool false] rfl rfl 60 _ K.out.2.2.2.2.1 (by kernel_rfl) rfl (by simp [Value.oneCell']) ?_; intro w9 H9)
  refine bodyPost_ret (v := .tuple #[nstV nst0, .int .i64 (whlE s z v z' v' t k)]) ?_ rfl (nxPost_of (nx_whl HE.out) (K.out.done H9.out.2))
  obtain ⟨r0, r1, r2, r3, r4⟩ := five_cells H9.out.1
  simp [results, Try.f27, go_sem, r0, r1, r2, r3, r4, nstV, nst0, adv0]

set_option maxRecDepth 100000 in
set_option maxHeartbeats 8000000 in
theorem rNext_bnd (a : Option Addr) (n c : Nat) (s : RulesMath.Set) (z v z' v' t fl k : Int) (st : NSt) (w : World) (h : Ints w a n s.rs) (hs : 0 ≤ st.a.s) (hE : whlE s z v z' v' t k = 0) (hB : bndE st.a ≠ 0) :
    Calls Try.prog 27 #[setV a n c s, nstV st, .agg #[.int .i64 z, .int .i64 v], .agg #[.int .i64 z', .int .i64 v'], .int .i64 t, .int .i64 fl, .int .u8 k] w (NxPost s z v z' v' t fl k st w) := by
  have HL := Lib.hid h
  have HS := Lib.hid hs
  have HE := Lib.hid hE
  have HB := Lib.hid hB
  have hne : (bndE st.a != 0) = true := bne_iff_ne.2 hB
  clear hE hs hB
  clear h
  unfold setV nstV
  go_enter Try.func27, Try.ntmps27
  go_upto_region 1 with fail
  have K0 : RwK w (setC a n c s) (nstC st) z v z' v' (((((w.alloc (.cells #[.slice a n c, .int .i64 s.alim, .int .i64 s.d, .int .i64 s.pl] 34)).alloc (.cells #[.int .u8 st.a.s, .int .i64 st.a.r, .bool st.a.k, .int .i64 st.age, .bool st.rv] 60)).alloc (.cells #[.int .i64 z, .int .i64 v] 26)).alloc (.cells #[.int .i64 z', .int .i64 v'] 26)).alloc (.cells #[.int .u8 0, .int .i64 0, .bool false, .int .i64 0, .bool false] 60)) :=
    ⟨block_alloc (block_alloc (block_alloc (block_alloc (block_new _ _ rfl)))), block_alloc (block_alloc (block_alloc (block_new _ _ (by simp)))), block_alloc (block_alloc (block_new _ _ (by simp))), block_alloc (block_new _ _ (by simp)), block_new _ _ (by simp), ((((below_alloc _ _).alloc (by simp) _).alloc (by simp; omega) _).alloc (by simp; omega) _).alloc (by simp; omega) _⟩
  generalize (((((w.alloc (.cells #[.slice a n c, .int .i64 s.alim, .int .i64 s.d, .int .i64 s.pl] 34)).alloc (.cells #[.int .u8 st.a.s, .int .i64 st.a.r, .bool st.a.k, .int .i64 st.age, .bool st.rv] 60)).alloc (.cells #[.int .i64 z, .int .i64 v] 26)).alloc (.cells #[.int .i64 z', .int .i64 v'] 26)).alloc (.cells #[.int .u8 0, .int .i64 0, .bool false, .int .i64 0, .bool false] 60)) = wq at *
  have K := Lib.hid K0
  clear K0
  obtain ⟨u0, u1, u2, u3⟩ := four_cells K.out.1
  obtain ⟨s0, s1, s2, s3, s4⟩ := five_cells K.out.2.1
  obtain ⟨p0, p1⟩ := two_cells K.out.2.2.1
  obtain ⟨p2, p3⟩ := two_cells K.out.2.2.2.1
  obtain ⟨hl0, hl1, hl2, hl3, hl4⟩ := K.out.lts
  go_wp2_with fail
  refine (rwrong_call a n c s z v z' v' t k _ (HL.out.below K.out.2.2.2.2.2)).mono ?_; rintro e w5 ⟨rfl, hb5⟩
  replace K := Lib.hid (K.out.keep hb5)
  clear hb5
  clear u0 u1 u2 u3 s0 s1 s2 s3 s4 p0 p1 p2 p3 hl0 hl1 hl2 hl3 hl4
  obtain ⟨u0, u1, u2, u3⟩ := four_cells K.out.1
  obtain ⟨s0, s1, s2, s3, s4⟩ := five_cells K.out.2.1
  obtain ⟨p0, p1⟩ := two_cells K.out.2.2.1
  obtain ⟨p2, p3⟩ := two_cells K.out.2.2.2.1
  obtain ⟨hl0, hl1, hl2, hl3, hl4⟩ := K.out.lts
  rw [HE.out]
  go_wp2_with fail
  refine (refBounds_call st.a _ HS.out).mono ?_; rintro e w5 ⟨rfl, hb5⟩
  replace K := Lib.hid (K.out.keep hb5)
  clear hb5
  clear u0 u1 u2 u3 s0 s1 s2 s3 s4 p0 p1 p2 p3 hl0 hl1 hl2 hl3 hl4
  obtain ⟨u0, u1, u2, u3⟩ := four_cells K.out.1
  obtain ⟨s0, s1, s2, s3, s4⟩ := five_cells K.out.2.1
  obtain ⟨p0, p1⟩ := two_cells K.out.2.2.1
  obtain ⟨p2, p3⟩ := two_cells K.out.2.2.2.1
  obtain ⟨hl0, hl1, hl2, hl3, hl4⟩ := K.out.lts
  go_wp2_with ((with_reducible refine wpList_id ?_); refine wpList_store_new rfl 60 (.tmp 14) (.tmp 45) rfl (w.heap.size + 1 + 1 + 1 + 1) #[.int .u8 0, .int .i64 0, .bool false, .int .i64 0, .bool false] rfl rfl 60 _ K.out.2.2.2.2.1 (by kernel_rfl) rfl (by simp [Value.oneCell']) ?_; intro w9 H9)
  refine bodyPost_ret (v := .tuple #[nstV nst0, .int .i64 (bndE st.a)]) ?_ rfl (nxPost_of (nx_bnd HE.out HB.out) (K.out.done H9.out.2))
  obtain ⟨r0, r1, r2, r3, r4⟩ := five_cells H9.out.1
  simp [results, Try.f27, go_sem, r0, r1, r2, r3, r4, nstV, nst0, adv0]

set_option maxRecDepth 100000 in
set_option maxHeartbeats 8000000 in
theorem rNext_age0 (a : Option Addr) (n c : Nat) (s : RulesMath.Set) (z v z' v' t fl k : Int) (st : NSt) (w : World) (h : Ints w a n s.rs) (hs : 0 ≤ st.a.s) (hE : whlE s z v z' v' t k = 0) (hB : bndE st.a = 0) (hA : st.age < 0) :
    Calls Try.prog 27 #[setV a n c s, nstV st, .agg #[.int .i64 z, .int .i64 v], .agg #[.int .i64 z', .int .i64 v'], .int .i64 t, .int .i64 fl, .int .u8 k] w (NxPost s z v z' v' t fl k st w) := by
  have HL := Lib.hid h
  have HS := Lib.hid hs
  have HE := Lib.hid hE
  have HBn := Lib.hid hB
  clear hE hs hB
  clear h
  unfold setV nstV
  go_enter Try.func27, Try.ntmps27
  go_upto_region 1 with fail
  have K0 : RwK w (setC a n c s) (nstC st) z v z' v' (((((w.alloc (.cells #[.slice a n c, .int .i64 s.alim, .int .i64 s.d, .int .i64 s.pl] 34)).alloc (.cells #[.int .u8 st.a.s, .int .i64 st.a.r, .bool st.a.k, .int .i64 st.age, .bool st.rv] 60)).alloc (.cells #[.int .i64 z, .int .i64 v] 26)).alloc (.cells #[.int .i64 z', .int .i64 v'] 26)).alloc (.cells #[.int .u8 0, .int .i64 0, .bool false, .int .i64 0, .bool false] 60)) :=
    ⟨block_alloc (block_alloc (block_alloc (block_alloc (block_new _ _ rfl)))), block_alloc (block_alloc (block_alloc (block_new _ _ (by simp)))), block_alloc (block_alloc (block_new _ _ (by simp))), block_alloc (block_new _ _ (by simp)), block_new _ _ (by simp), ((((below_alloc _ _).alloc (by simp) _).alloc (by simp; omega) _).alloc (by simp; omega) _).alloc (by simp; omega) _⟩
  generalize (((((w.alloc (.cells #[.slice a n c, .int .i64 s.alim, .int .i64 s.d, .int .i64 s.pl] 34)).alloc (.cells #[.int .u8 st.a.s, .int .i64 st.a.r, .bool st.a.k, .int .i64 st.age, .bool st.rv] 60)).alloc (.cells #[.int .i64 z, .int .i64 v] 26)).alloc (.cells #[.int .i64 z', .int .i64 v'] 26)).alloc (.cells #[.int .u8 0, .int .i64 0, .bool false, .int .i64 0, .bool false] 60)) = wq at *
  have K := Lib.hid K0
  clear K0
  obtain ⟨u0, u1, u2, u3⟩ := four_cells K.out.1
  obtain ⟨s0, s1, s2, s3, s4⟩ := five_cells K.out.2.1
  obtain ⟨p0, p1⟩ := two_cells K.out.2.2.1
  obtain ⟨p2, p3⟩ := two_cells K.out.2.2.2.1
  obtain ⟨hl0, hl1, hl2, hl3, hl4⟩ := K.out.lts
  go_wp2_with fail
  refine (rwrong_call a n c s z v z' v' t k _ (HL.out.below K.out.2.2.2.2.2)).mono ?_; rintro e w5 ⟨rfl, hb5⟩
  replace K := Lib.hid (K.out.keep hb5)
  clear hb5
  clear u0 u1 u2 u3 s0 s1 s2 s3 s4 p0 p1 p2 p3 hl0 hl1 hl2 hl3 hl4
  obtain ⟨u0, u1, u2, u3⟩ := four_cells K.out.1
  obtain ⟨s0, s1, s2, s3, s4⟩ := five_cells K.out.2.1
  obtain ⟨p0, p1⟩ := two_cells K.out.2.2.1
  obtain ⟨p2, p3⟩ := two_cells K.out.2.2.2.1
  obtain ⟨hl0, hl1, hl2, hl3, hl4⟩ := K.out.lts
  rw [HE.out]
  go_wp2_with fail
  refine (refBounds_call st.a _ HS.out).mono ?_; rintro e w5 ⟨rfl, hb5⟩
  replace K := Lib.hid (K.out.keep hb5)
  clear hb5
  clear u0 u1 u2 u3 s0 s1 s2 s3 s4 p0 p1 p2 p3 hl0 hl1 hl2 hl3 hl4
  obtain ⟨u0, u1, u2, u3⟩ := four_cells K.out.1
  obtain ⟨s0, s1, s2, s3, s4⟩ := five_cells K.out.2.1
  obtain ⟨p0, p1⟩ := two_cells K.out.2.2.1
  obtain ⟨p2, p3⟩ := two_cells K.out.2.2.2.1
  obtain ⟨hl0, hl1, hl2, hl3, hl4⟩ := K.out.lts
  rw [HBn.out]
  go_wp2_with ((with_reducible refine wpList_id ?_); refine wpList_store_new rfl 60 (.tmp 14) (.tmp 55) rfl (w.heap.size + 1 + 1 + 1 + 1) #[.int .u8 0, .int .i64 0, .bool false, .int .i64 0, .bool false] rfl rfl 60 _ K.out.2.2.2.2.1 (by kernel_rfl) rfl (by simp [Value.oneCell']) ?_; intro w9 H9)
  refine bodyPost_ret (v := .tuple #[nstV nst0, .int .i64 (1)]) ?_ rfl (nxPost_of (nx_age HE.out HBn.out (Or.inl hA)) (K.out.done H9.out.2))
  obtain ⟨r0, r1, r2, r3, r4⟩ := five_cells H9.out.1
  simp [results, Try.f27, go_sem, r0, r1, r2, r3, r4, nstV, nst0, adv0]

set_option maxRecDepth 100000 in
set_option maxHeartbeats 8000000 in
theorem rNext_age1 (a : Option Addr) (n c : Nat) (s : RulesMath.Set) (z v z' v' t fl k : Int) (st : NSt) (w : World) (h : Ints w a n s.rs) (hs : 0 ≤ st.a.s) (hE : whlE s z v z' v' t k = 0) (hB : bndE st.a = 0) (hA0 : ¬ st.age < 0) (hA : 1000 < st.age) :
    Calls Try.prog 27 #[setV a n c s, nstV st, .agg #[.int .i64 z, .int .i64 v], .agg #[.int .i64 z', .int .i64 v'], .int .i64 t, .int .i64 fl, .int .u8 k] w (NxPost s z v z' v' t fl k st w) := by
  have HL := Lib.hid h
  have HS := Lib.hid hs
  have HE := Lib.hid hE
  have HBn := Lib.hid hB
  clear hE hs hB
  clear h
  unfold setV nstV
  go_enter Try.func27, Try.ntmps27
  go_upto_region 1 with fail
  have K0 : RwK w (setC a n c s) (nstC st) z v z' v' (((((w.alloc (.cells #[.slice a n c, .int .i64 s.alim, .int .i64 s.d, .int .i64 s.pl] 34)).alloc (.cells #[.int .u8 st.a.s, .int .i64 st.a.r, .bool st.a.k, .int .i64 st.age, .bool st.rv] 60)).alloc (.cells #[.int .i64 z, .int .i64 v] 26)).alloc (.cells #[.int .i64 z', .int .i64 v'] 26)).alloc (.cells #[.int .u8 0, .int .i64 0, .bool false, .int .i64 0, .bool false] 60)) :=
    ⟨block_alloc (block_alloc (block_alloc (block_alloc (block_new _ _ rfl)))), block_alloc (block_alloc (block_alloc (block_new _ _ (by simp)))), block_alloc (block_alloc (block_new _ _ (by simp))), block_alloc (block_new _ _ (by simp)), block_new _ _ (by simp), ((((below_alloc _ _).alloc (by simp) _).alloc (by simp; omega) _).alloc (by simp; omega) _).alloc (by simp; omega) _⟩
  generalize (((((w.alloc (.cells #[.slice a n c, .int .i64 s.alim, .int .i64 s.d, .int .i64 s.pl] 34)).alloc (.cells #[.int .u8 st.a.s, .int .i64 st.a.r, .bool st.a.k, .int .i64 st.age, .bool st.rv] 60)).alloc (.cells #[.int .i64 z, .int .i64 v] 26)).alloc (.cells #[.int .i64 z', .int .i64 v'] 26)).alloc (.cells #[.int .u8 0, .int .i64 0, .bool false, .int .i64 0, .bool false] 60)) = wq at *
  have K := Lib.hid K0
  clear K0
  obtain ⟨u0, u1, u2, u3⟩ := four_cells K.out.1
  obtain ⟨s0, s1, s2, s3, s4⟩ := five_cells K.out.2.1
  obtain ⟨p0, p1⟩ := two_cells K.out.2.2.1
  obtain ⟨p2, p3⟩ := two_cells K.out.2.2.2.1
  obtain ⟨hl0, hl1, hl2, hl3, hl4⟩ := K.out.lts
  go_wp2_with fail
  refine (rwrong_call a n c s z v z' v' t k _ (HL.out.below K.out.2.2.2.2.2)).mono ?_; rintro e w5 ⟨rfl, hb5⟩
  replace K := Lib.hid (K.out.keep hb5)
  clear hb5
  clear u0 u1 u2 u3 s0 s1 s2 s3 s4 p0 p1 p2 p3 hl0 hl1 hl2 hl3 hl4
  obtain ⟨u0, u1, u2, u3⟩ := four_cells K.out.1
  obtain ⟨s0, s1, s2, s3, s4⟩ := five_cells K.out.2.1
  obtain ⟨p0, p1⟩ := two_cells K.out.2.2.1
  obtain ⟨p2, p3⟩ := two_cells K.out.2.2.2.1
  obtain ⟨hl0, hl1, hl2, hl3, hl4⟩ := K.out.lts
  rw [HE.out]
  go_wp2_with fail
  refine (refBounds_call st.a _ HS.out).mono ?_; rintro e w5 ⟨rfl, hb5⟩
  replace K := Lib.hid (K.out.keep hb5)
  clear hb5
  clear u0 u1 u2 u3 s0 s1 s2 s3 s4 p0 p1 p2 p3 hl0 hl1 hl2 hl3 hl4
  obtain ⟨u0, u1, u2, u3⟩ := four_cells K.out.1
  obtain ⟨s0, s1, s2, s3, s4⟩ := five_cells K.out.2.1
  obtain ⟨p0, p1⟩ := two_cells K.out.2.2.1
  obtain ⟨p2, p3⟩ := two_cells K.out.2.2.2.1
  obtain ⟨hl0, hl1, hl2, hl3, hl4⟩ := K.out.lts
  rw [HBn.out]
  go_wp2_with ((with_reducible refine wpList_id ?_); refine wpList_store_new rfl 60 (.tmp 14) (.tmp 55) rfl (w.heap.size + 1 + 1 + 1 + 1) #[.int .u8 0, .int .i64 0, .bool false, .int .i64 0, .bool false] rfl rfl 60 _ K.out.2.2.2.2.1 (by kernel_rfl) rfl (by simp [Value.oneCell']) ?_; intro w9 H9)
  refine bodyPost_ret (v := .tuple #[nstV nst0, .int .i64 (1)]) ?_ rfl (nxPost_of (nx_age HE.out HBn.out (Or.inr hA)) (K.out.done H9.out.2))
  obtain ⟨r0, r1, r2, r3, r4⟩ := five_cells H9.out.1
  simp [results, Try.f27, go_sem, r0, r1, r2, r3, r4, nstV, nst0, adv0]

set_option maxRecDepth 100000 in
set_option maxHeartbeats 8000000 in
theorem rNext_ch (a : Option Addr) (n c : Nat) (s : RulesMath.Set) (z v z' v' t fl k : Int) (st : NSt) (w : World) (h : Ints w a n s.rs) (hs : 0 ≤ st.a.s) (hE : whlE s z v z' v' t k = 0) (hB : bndE st.a = 0) (hA0 : ¬ st.age < 0) (hA : ¬ 1000 < st.age) (hC : chE s z v z' v' t fl k ≠ 0) :
    Calls Try.prog 27 #[setV a n c s, nstV st, .agg #[.int .i64 z, .int .i64 v], .agg #[.int .i64 z', .int .i64 v'], .int .i64 t, .int .i64 fl, .int .u8 k] w (NxPost s z v z' v' t fl k st w) := by
  have HL := Lib.hid h
  have HS := Lib.hid hs
  have HE := Lib.hid hE
  have HBn := Lib.hid hB
  have HO := Lib.hid (scOk_of (whlE_zero hE).1 ⟨(whlE_zero hE).2.1, (whlE_zero hE).2.2.1⟩)
  have HC := Lib.hid hC
  have hne : (chE s z v z' v' t fl k != 0) = true := bne_iff_ne.2 hC
  clear hE hs hB hC
  clear h
  unfold setV nstV
  go_enter Try.func27, Try.ntmps27
  go_upto_region 1 with fail
  have K0 : RwK w (setC a n c s) (nstC st) z v z' v' (((((w.alloc (.cells #[.slice a n c, .int .i64 s.alim, .int .i64 s.d, .int .i64 s.pl] 34)).alloc (.cells #[.int .u8 st.a.s, .int .i64 st.a.r, .bool st.a.k, .int .i64 st.age, .bool st.rv] 60)).alloc (.cells #[.int .i64 z, .int .i64 v] 26)).alloc (.cells #[.int .i64 z', .int .i64 v'] 26)).alloc (.cells #[.int .u8 0, .int .i64 0, .bool false, .int .i64 0, .bool false] 60)) :=
    ⟨block_alloc (block_alloc (block_alloc (block_alloc (block_new _ _ rfl)))), block_alloc (block_alloc (block_alloc (block_new _ _ (by simp)))), block_alloc (block_alloc (block_new _ _ (by simp))), block_alloc (block_new _ _ (by simp)), block_new _ _ (by simp), ((((below_alloc _ _).alloc (by simp) _).alloc (by simp; omega) _).alloc (by simp; omega) _).alloc (by simp; omega) _⟩
  generalize (((((w.alloc (.cells #[.slice a n c, .int .i64 s.alim, .int .i64 s.d, .int .i64 s.pl] 34)).alloc (.cells #[.int .u8 st.a.s, .int .i64 st.a.r, .bool st.a.k, .int .i64 st.age, .bool st.rv] 60)).alloc (.cells #[.int .i64 z, .int .i64 v] 26)).alloc (.cells #[.int .i64 z', .int .i64 v'] 26)).alloc (.cells #[.int .u8 0, .int .i64 0, .bool false, .int .i64 0, .bool false] 60)) = wq at *
  have K := Lib.hid K0
  clear K0
  obtain ⟨u0, u1, u2, u3⟩ := four_cells K.out.1
  obtain ⟨s0, s1, s2, s3, s4⟩ := five_cells K.out.2.1
  obtain ⟨p0, p1⟩ := two_cells K.out.2.2.1
  obtain ⟨p2, p3⟩ := two_cells K.out.2.2.2.1
  obtain ⟨hl0, hl1, hl2, hl3, hl4⟩ := K.out.lts
  go_wp2_with fail
  refine (rwrong_call a n c s z v z' v' t k _ (HL.out.below K.out.2.2.2.2.2)).mono ?_; rintro e w5 ⟨rfl, hb5⟩
  replace K := Lib.hid (K.out.keep hb5)
  clear hb5
  clear u0 u1 u2 u3 s0 s1 s2 s3 s4 p0 p1 p2 p3 hl0 hl1 hl2 hl3 hl4
  obtain ⟨u0, u1, u2, u3⟩ := four_cells K.out.1
  obtain ⟨s0, s1, s2, s3, s4⟩ := five_cells K.out.2.1
  obtain ⟨p0, p1⟩ := two_cells K.out.2.2.1
  obtain ⟨p2, p3⟩ := two_cells K.out.2.2.2.1
  obtain ⟨hl0, hl1, hl2, hl3, hl4⟩ := K.out.lts
  rw [HE.out]
  go_wp2_with fail
  refine (refBounds_call st.a _ HS.out).mono ?_; rintro e w5 ⟨rfl, hb5⟩
  replace K := Lib.hid (K.out.keep hb5)
  clear hb5
  clear u0 u1 u2 u3 s0 s1 s2 s3 s4 p0 p1 p2 p3 hl0 hl1 hl2 hl3 hl4
  obtain ⟨u0, u1, u2, u3⟩ := four_cells K.out.1
  obtain ⟨s0, s1, s2, s3, s4⟩ := five_cells K.out.2.1
  obtain ⟨p0, p1⟩ := two_cells K.out.2.2.1
  obtain ⟨p2, p3⟩ := two_cells K.out.2.2.2.1
  obtain ⟨hl0, hl1, hl2, hl3, hl4⟩ := K.out.lts
  rw [HBn.out]
  go_wp2_with fail
  refine (rChoose_call a n c s z v z' v' t fl k _ (HL.out.below K.out.2.2.2.2.2)).mono ?_; rintro e w3 ⟨rfl, hb3⟩
  replace K := Lib.hid (K.out.keep hb3)
  clear hb3
  clear u0 u1 u2 u3 s0 s1 s2 s3 s4 p0 p1 p2 p3 hl0 hl1 hl2 hl3 hl4
  obtain ⟨u0, u1, u2, u3⟩ := four_cells K.out.1
  obtain ⟨s0, s1, s2, s3, s4⟩ := five_cells K.out.2.1
  obtain ⟨p0, p1⟩ := two_cells K.out.2.2.1
  obtain ⟨p2, p3⟩ := two_cells K.out.2.2.2.1
  obtain ⟨hl0, hl1, hl2, hl3, hl4⟩ := K.out.lts
  go_upto_region 11 with fail
  replace K := Lib.hid (K.out.keep (below_alloc w3 (.cells #[.int .u8 (chR s z v z' v' t fl k).s, .int .i64 (chR s z v z' v' t fl k).r, .bool (chR s z v z' v' t fl k).k] 30)))
  go_wp2_with ((with_reducible refine wpList_id ?_); refine wpList_store_new rfl 60 (.tmp 14) (.tmp 68) rfl (w.heap.size + 1 + 1 + 1 + 1) #[.int .u8 0, .int .i64 0, .bool false, .int .i64 0, .bool false] rfl rfl 60 _ K.out.2.2.2.2.1 (by kernel_rfl) rfl (by simp [Value.oneCell']) ?_; intro w9 H9)
  refine bodyPost_ret (v := .tuple #[nstV nst0, .int .i64 (chE s z v z' v' t fl k)]) ?_ rfl (nxPost_of (nx_ch HE.out HBn.out (by omega) HC.out) (K.out.done H9.out.2))
  obtain ⟨r0, r1, r2, r3, r4⟩ := five_cells H9.out.1
  simp [results, Try.f27, go_sem, r0, r1, r2, r3, r4, nstV, nst0, adv0]

set_option maxRecDepth 100000 in
set_option maxHeartbeats 8000000 in
theorem rNext_new (a : Option Addr) (n c : Nat) (s : RulesMath.Set) (z v z' v' t fl k : Int) (st : NSt) (w : World) (h : Ints w a n s.rs) (hs : 0 ≤ st.a.s) (hE : whlE s z v z' v' t k = 0) (hB : bndE st.a = 0) (hA0 : ¬ st.age < 0) (hA : ¬ 1000 < st.age) (hC : chE s z v z' v' t fl k = 0) (hg : st.a.s = 0) :
    Calls Try.prog 27 #[setV a n c s, nstV st, .agg #[.int .i64 z, .int .i64 v], .agg #[.int .i64 z', .int .i64 v'], .int .i64 t, .int .i64 fl, .int .u8 k] w (NxPost s z v z' v' t fl k st w) := by
  have HL := Lib.hid h
  have HS := Lib.hid hs
  have HE := Lib.hid hE
  have HBn := Lib.hid hB
  have HO := Lib.hid (scOk_of (whlE_zero hE).1 ⟨(whlE_zero hE).2.1, (whlE_zero hE).2.2.1⟩)
  have HC := Lib.hid hC
  have HG := Lib.hid hg
  have HA0 := Lib.hid (show ¬ (st.age < 0 ∨ 1000 < st.age) from by omega)
  have age0 : 0 ≤ st.age := by omega
  have age1 : st.age ≤ 1000 := by omega
  clear hE hs hB hC hA0 hA hg
  clear h
  unfold setV nstV
  go_enter Try.func27, Try.ntmps27
  go_upto_region 1 with fail
  have K0 : RwK w (setC a n c s) (nstC st) z v z' v' (((((w.alloc (.cells #[.slice a n c, .int .i64 s.alim, .int .i64 s.d, .int .i64 s.pl] 34)).alloc (.cells #[.int .u8 st.a.s, .int .i64 st.a.r, .bool st.a.k, .int .i64 st.age, .bool st.rv] 60)).alloc (.cells #[.int .i64 z, .int .i64 v] 26)).alloc (.cells #[.int .i64 z', .int .i64 v'] 26)).alloc (.cells #[.int .u8 0, .int .i64 0, .bool false, .int .i64 0, .bool false] 60)) :=
    ⟨block_alloc (block_alloc (block_alloc (block_alloc (block_new _ _ rfl)))), block_alloc (block_alloc (block_alloc (block_new _ _ (by simp)))), block_alloc (block_alloc (block_new _ _ (by simp))), block_alloc (block_new _ _ (by simp)), block_new _ _ (by simp), ((((below_alloc _ _).alloc (by simp) _).alloc (by simp; omega) _).alloc (by simp; omega) _).alloc (by simp; omega) _⟩
  generalize (((((w.alloc (.cells #[.slice a n c, .int .i64 s.alim, .int .i64 s.d, .int .i64 s.pl] 34)).alloc (.cells #[.int .u8 st.a.s, .int .i64 st.a.r, .bool st.a.k, .int .i64 st.age, .bool st.rv] 60)).alloc (.cells #[.int .i64 z, .int .i64 v] 26)).alloc (.cells #[.int .i64 z', .int .i64 v'] 26)).alloc (.cells #[.int .u8 0, .int .i64 0, .bool false, .int .i64 0, .bool false] 60)) = wq at *
  have K := Lib.hid K0
  clear K0
  obtain ⟨u0, u1, u2, u3⟩ := four_cells K.out.1
  obtain ⟨s0, s1, s2, s3, s4⟩ := five_cells K.out.2.1
  obtain ⟨p0, p1⟩ := two_cells K.out.2.2.1
  obtain ⟨p2, p3⟩ := two_cells K.out.2.2.2.1
  obtain ⟨hl0, hl1, hl2, hl3, hl4⟩ := K.out.lts
  go_wp2_with fail
  refine (rwrong_call a n c s z v z' v' t k _ (HL.out.below K.out.2.2.2.2.2)).mono ?_; rintro e w5 ⟨rfl, hb5⟩
  replace K := Lib.hid (K.out.keep hb5)
  clear hb5
  clear u0 u1 u2 u3 s0 s1 s2 s3 s4 p0 p1 p2 p3 hl0 hl1 hl2 hl3 hl4
  obtain ⟨u0, u1, u2, u3⟩ := four_cells K.out.1
  obtain ⟨s0, s1, s2, s3, s4⟩ := five_cells K.out.2.1
  obtain ⟨p0, p1⟩ := two_cells K.out.2.2.1
  obtain ⟨p2, p3⟩ := two_cells K.out.2.2.2.1
  obtain ⟨hl0, hl1, hl2, hl3, hl4⟩ := K.out.lts
  rw [HE.out]
  go_wp2_with fail
  refine (refBounds_call st.a _ HS.out).mono ?_; rintro e w5 ⟨rfl, hb5⟩
  replace K := Lib.hid (K.out.keep hb5)
  clear hb5
  clear u0 u1 u2 u3 s0 s1 s2 s3 s4 p0 p1 p2 p3 hl0 hl1 hl2 hl3 hl4
  obtain ⟨u0, u1, u2, u3⟩ := four_cells K.out.1
  obtain ⟨s0, s1, s2, s3, s4⟩ := five_cells K.out.2.1
  obtain ⟨p0, p1⟩ := two_cells K.out.2.2.1
  obtain ⟨p2, p3⟩ := two_cells K.out.2.2.2.1
  obtain ⟨hl0, hl1, hl2, hl3, hl4⟩ := K.out.lts
  rw [HBn.out]
  go_wp2_with fail
  refine (rChoose_call a n c s z v z' v' t fl k _ (HL.out.below K.out.2.2.2.2.2)).mono ?_; rintro e w3 ⟨rfl, hb3⟩
  replace K := Lib.hid (K.out.keep hb3)
  clear hb3
  clear u0 u1 u2 u3 s0 s1 s2 s3 s4 p0 p1 p2 p3 hl0 hl1 hl2 hl3 hl4
  rw [HC.out]
  generalize hY : chR s z v z' v' t fl k = Y at *
  obtain ⟨u0, u1, u2, u3⟩ := four_cells K.out.1
  obtain ⟨s0, s1, s2, s3, s4⟩ := five_cells K.out.2.1
  obtain ⟨p0, p1⟩ := two_cells K.out.2.2.1
  obtain ⟨p2, p3⟩ := two_cells K.out.2.2.2.1
  obtain ⟨hl0, hl1, hl2, hl3, hl4⟩ := K.out.lts
  go_upto_region 13 with fail
  have L : RwL w (setC a n c s) (nstC st) z v z' v' w3.heap.size Y (w3.heap.size + 1) st.a ((w3.alloc (.cells #[.int .u8 Y.s, .int .i64 Y.r, .bool Y.k] 30)).alloc (.cells #[.int .u8 st.a.s, .int .i64 st.a.r, .bool st.a.k] 30)) :=
    ⟨(K.out.keep (below_alloc _ _)).keep (below_alloc _ _), block_alloc (block_new _ _ rfl), block_new _ _ (by simp)⟩
  have HY := Lib.hid hY
  clear hY K
  clear u0 u1 u2 u3 s0 s1 s2 s3 s4 p0 p1 p2 p3 hl0 hl1 hl2 hl3 hl4
  generalize hbN : w3.heap.size + 1 = bN at *
  generalize hbF : w3.heap.size = bF at *
  generalize ((w3.alloc (.cells #[.int .u8 Y.s, .int .i64 Y.r, .bool Y.k] 30)).alloc (.cells #[.int .u8 st.a.s, .int .i64 st.a.r, .bool st.a.k] 30)) = w4 at *
  clear hbN hbF
  have K := Lib.hid L
  clear L
  obtain ⟨u0, u1, u2, u3⟩ := four_cells K.out.1.1
  obtain ⟨s0, s1, s2, s3, s4⟩ := five_cells K.out.1.2.1
  obtain ⟨p0, p1⟩ := two_cells K.out.1.2.2.1
  obtain ⟨p2, p3⟩ := two_cells K.out.1.2.2.2.1
  obtain ⟨hl0, hl1, hl2, hl3, hl4⟩ := K.out.1.lts
  obtain ⟨f0, f1, f2⟩ := three_old' K.out.2.1
  obtain ⟨n0, n1, n2⟩ := three_old' K.out.2.2
  have hlF := lt_of_block K.out.2.1
  have hlN := lt_of_block K.out.2.2
  rw [show st.a.s = 0 from HG.out] at n0
  go_wp2_with ((with_reducible refine wpList_id ?_); refine wpList_store_new rfl 60 (.tmp 14) (.tmp 76) rfl (w.heap.size + 1 + 1 + 1 + 1) #[.int .u8 Y.s, .int .i64 Y.r, .bool Y.k, .int .i64 0, .bool false] rfl rfl 60 _ K.out.1.2.2.2.2.1 (by kernel_rfl) rfl (by simp [Value.oneCell']) ?_; intro w9 H9)
  refine bodyPost_ret (v := .tuple #[nstV ⟨Y, 0, false⟩, .int .i64 0]) ?_ rfl (nxPost_of ⟨(nx_ok HE.out HBn.out HA0.out HC.out).1, (nx_ok HE.out HBn.out HA0.out HC.out).2.trans (by rw [nxA_new HG.out, HY.out])⟩ (K.out.1.done H9.out.2))
  obtain ⟨r0, r1, r2, r3, r4⟩ := five_cells H9.out.1
  simp [results, Try.f27, go_sem, r0, r1, r2, r3, r4, nstV]

set_option maxRecDepth 100000 in
set_option maxHeartbeats 8000000 in
theorem rNext_bar1 (a : Option Addr) (n c : Nat) (s : RulesMath.Set) (z v z' v' t fl k : Int) (st : NSt) (w : World) (h : Ints w a n s.rs) (hs : 0 ≤ st.a.s) (hE : whlE s z v z' v' t k = 0) (hB : bndE st.a = 0) (hA0 : ¬ st.age < 0) (hA : ¬ 1000 < st.age) (hC : chE s z v z' v' t fl k = 0) (hg : st.a.s = 1) (hw : alwB z fl k 1 = false) :
    Calls Try.prog 27 #[setV a n c s, nstV st, .agg #[.int .i64 z, .int .i64 v], .agg #[.int .i64 z', .int .i64 v'], .int .i64 t, .int .i64 fl, .int .u8 k] w (NxPost s z v z' v' t fl k st w) := by
  have HL := Lib.hid h
  have HS := Lib.hid hs
  have HE := Lib.hid hE
  have HBn := Lib.hid hB
  have HO := Lib.hid (scOk_of (whlE_zero hE).1 ⟨(whlE_zero hE).2.1, (whlE_zero hE).2.2.1⟩)
  have HC := Lib.hid hC
  have HG := Lib.hid hg
  have HNZ := Lib.hid (show st.a.s ≠ 0 from by rw [hg]; decide)
  have HA0 := Lib.hid (show ¬ (st.age < 0 ∨ 1000 < st.age) from by omega)
  have age0 : 0 ≤ st.age := by omega
  have age1 : st.age ≤ 1000 := by omega
  have HW := Lib.hid hw
  clear hE hs hB hC hA0 hA hg hw
  clear h
  unfold setV nstV
  go_enter Try.func27, Try.ntmps27
  go_upto_region 1 with fail
  have K0 : RwK w (setC a n c s) (nstC st) z v z' v' (((((w.alloc (.cells #[.slice a n c, .int .i64 s.alim, .int .i64 s.d, .int .i64 s.pl] 34)).alloc (.cells #[.int .u8 st.a.s, .int .i64 st.a.r, .bool st.a.k, .int .i64 st.age, .bool st.rv] 60)).alloc (.cells #[.int .i64 z, .int .i64 v] 26)).alloc (.cells #[.int .i64 z', .int .i64 v'] 26)).alloc (.cells #[.int .u8 0, .int .i64 0, .bool false, .int .i64 0, .bool false] 60)) :=
    ⟨block_alloc (block_alloc (block_alloc (block_alloc (block_new _ _ rfl)))), block_alloc (block_alloc (block_alloc (block_new _ _ (by simp)))), block_alloc (block_alloc (block_new _ _ (by simp))), block_alloc (block_new _ _ (by simp)), block_new _ _ (by simp), ((((below_alloc _ _).alloc (by simp) _).alloc (by simp; omega) _).alloc (by simp; omega) _).alloc (by simp; omega) _⟩
  generalize (((((w.alloc (.cells #[.slice a n c, .int .i64 s.alim, .int .i64 s.d, .int .i64 s.pl] 34)).alloc (.cells #[.int .u8 st.a.s, .int .i64 st.a.r, .bool st.a.k, .int .i64 st.age, .bool st.rv] 60)).alloc (.cells #[.int .i64 z, .int .i64 v] 26)).alloc (.cells #[.int .i64 z', .int .i64 v'] 26)).alloc (.cells #[.int .u8 0, .int .i64 0, .bool false, .int .i64 0, .bool false] 60)) = wq at *
  have K := Lib.hid K0
  clear K0
  obtain ⟨u0, u1, u2, u3⟩ := four_cells K.out.1
  obtain ⟨s0, s1, s2, s3, s4⟩ := five_cells K.out.2.1
  obtain ⟨p0, p1⟩ := two_cells K.out.2.2.1
  obtain ⟨p2, p3⟩ := two_cells K.out.2.2.2.1
  obtain ⟨hl0, hl1, hl2, hl3, hl4⟩ := K.out.lts
  go_wp2_with fail
  refine (rwrong_call a n c s z v z' v' t k _ (HL.out.below K.out.2.2.2.2.2)).mono ?_; rintro e w5 ⟨rfl, hb5⟩
  replace K := Lib.hid (K.out.keep hb5)
  clear hb5
  clear u0 u1 u2 u3 s0 s1 s2 s3 s4 p0 p1 p2 p3 hl0 hl1 hl2 hl3 hl4
  obtain ⟨u0, u1, u2, u3⟩ := four_cells K.out.1
  obtain ⟨s0, s1, s2, s3, s4⟩ := five_cells K.out.2.1
  obtain ⟨p0, p1⟩ := two_cells K.out.2.2.1
  obtain ⟨p2, p3⟩ := two_cells K.out.2.2.2.1
  obtain ⟨hl0, hl1, hl2, hl3, hl4⟩ := K.out.lts
  rw [HE.out]
  go_wp2_with fail
  refine (refBounds_call st.a _ HS.out).mono ?_; rintro e w5 ⟨rfl, hb5⟩
  replace K := Lib.hid (K.out.keep hb5)
  clear hb5
  clear u0 u1 u2 u3 s0 s1 s2 s3 s4 p0 p1 p2 p3 hl0 hl1 hl2 hl3 hl4
  obtain ⟨u0, u1, u2, u3⟩ := four_cells K.out.1
  obtain ⟨s0, s1, s2, s3, s4⟩ := five_cells K.out.2.1
  obtain ⟨p0, p1⟩ := two_cells K.out.2.2.1
  obtain ⟨p2, p3⟩ := two_cells K.out.2.2.2.1
  obtain ⟨hl0, hl1, hl2, hl3, hl4⟩ := K.out.lts
  rw [HBn.out]
  go_wp2_with fail
  refine (rChoose_call a n c s z v z' v' t fl k _ (HL.out.below K.out.2.2.2.2.2)).mono ?_; rintro e w3 ⟨rfl, hb3⟩
  replace K := Lib.hid (K.out.keep hb3)
  clear hb3
  clear u0 u1 u2 u3 s0 s1 s2 s3 s4 p0 p1 p2 p3 hl0 hl1 hl2 hl3 hl4
  rw [HC.out]
  generalize hY : chR s z v z' v' t fl k = Y at *
  obtain ⟨u0, u1, u2, u3⟩ := four_cells K.out.1
  obtain ⟨s0, s1, s2, s3, s4⟩ := five_cells K.out.2.1
  obtain ⟨p0, p1⟩ := two_cells K.out.2.2.1
  obtain ⟨p2, p3⟩ := two_cells K.out.2.2.2.1
  obtain ⟨hl0, hl1, hl2, hl3, hl4⟩ := K.out.lts
  go_upto_region 13 with fail
  have L : RwL w (setC a n c s) (nstC st) z v z' v' w3.heap.size Y (w3.heap.size + 1) st.a ((w3.alloc (.cells #[.int .u8 Y.s, .int .i64 Y.r, .bool Y.k] 30)).alloc (.cells #[.int .u8 st.a.s, .int .i64 st.a.r, .bool st.a.k] 30)) :=
    ⟨(K.out.keep (below_alloc _ _)).keep (below_alloc _ _), block_alloc (block_new _ _ rfl), block_new _ _ (by simp)⟩
  have HY := Lib.hid hY
  clear hY K
  clear u0 u1 u2 u3 s0 s1 s2 s3 s4 p0 p1 p2 p3 hl0 hl1 hl2 hl3 hl4
  generalize hbN : w3.heap.size + 1 = bN at *
  generalize hbF : w3.heap.size = bF at *
  generalize ((w3.alloc (.cells #[.int .u8 Y.s, .int .i64 Y.r, .bool Y.k] 30)).alloc (.cells #[.int .u8 st.a.s, .int .i64 st.a.r, .bool st.a.k] 30)) = w4 at *
  clear hbN hbF
  have K := Lib.hid L
  clear L
  obtain ⟨u0, u1, u2, u3⟩ := four_cells K.out.1.1
  obtain ⟨s0, s1, s2, s3, s4⟩ := five_cells K.out.1.2.1
  obtain ⟨p0, p1⟩ := two_cells K.out.1.2.2.1
  obtain ⟨p2, p3⟩ := two_cells K.out.1.2.2.2.1
  obtain ⟨hl0, hl1, hl2, hl3, hl4⟩ := K.out.1.lts
  obtain ⟨f0, f1, f2⟩ := three_old' K.out.2.1
  obtain ⟨n0, n1, n2⟩ := three_old' K.out.2.2
  have hlF := lt_of_block K.out.2.1
  have hlN := lt_of_block K.out.2.2
  rw [show st.a.s = 1 from HG.out] at n0
  go_wp2_with fail
  refine (rallowed_call z v fl k 1 _ (by decide)).mono ?_; rintro e w5 ⟨rfl, hb5⟩
  replace K := Lib.hid (K.out.keep hb5)
  clear hb5
  rw [HW.out]
  clear u0 u1 u2 u3 s0 s1 s2 s3 s4 p0 p1 p2 p3 hl0 hl1 hl2 hl3 hl4 hlF hlN f0 f1 f2 n0 n1 n2
  obtain ⟨u0, u1, u2, u3⟩ := four_cells K.out.1.1
  obtain ⟨s0, s1, s2, s3, s4⟩ := five_cells K.out.1.2.1
  obtain ⟨p0, p1⟩ := two_cells K.out.1.2.2.1
  obtain ⟨p2, p3⟩ := two_cells K.out.1.2.2.2.1
  obtain ⟨hl0, hl1, hl2, hl3, hl4⟩ := K.out.1.lts
  obtain ⟨f0, f1, f2⟩ := three_old' K.out.2.1
  obtain ⟨n0, n1, n2⟩ := three_old' K.out.2.2
  have hlF := lt_of_block K.out.2.1
  have hlN := lt_of_block K.out.2.2
  rw [show st.a.s = 1 from HG.out] at n0
  go_wp2_with fail
  refine (renough_call a n c s z v z' v' t 2 _ (HL.out.below K.out.1.2.2.2.2.2) HO.out (by decide)).mono ?_; rintro e w5 ⟨rfl, hb5⟩
  replace K := Lib.hid (K.out.keep hb5)
  clear hb5
  clear u0 u1 u2 u3 s0 s1 s2 s3 s4 p0 p1 p2 p3 hl0 hl1 hl2 hl3 hl4 hlF hlN f0 f1 f2 n0 n1 n2
  obtain ⟨u0, u1, u2, u3⟩ := four_cells K.out.1.1
  obtain ⟨s0, s1, s2, s3, s4⟩ := five_cells K.out.1.2.1
  obtain ⟨p0, p1⟩ := two_cells K.out.1.2.2.1
  obtain ⟨p2, p3⟩ := two_cells K.out.1.2.2.2.1
  obtain ⟨hl0, hl1, hl2, hl3, hl4⟩ := K.out.1.lts
  obtain ⟨f0, f1, f2⟩ := three_old' K.out.2.1
  obtain ⟨n0, n1, n2⟩ := three_old' K.out.2.2
  have hlF := lt_of_block K.out.2.1
  have hlN := lt_of_block K.out.2.2
  rw [show st.a.s = 1 from HG.out] at n0
  go_wp2_with ((with_reducible refine wpList_id ?_); refine wpList_store_new rfl 60 (.tmp 14) (.tmp 93) rfl (w.heap.size + 1 + 1 + 1 + 1) #[.int .u8 (enA s z v z' v' 2 t).s, .int .i64 (enA s z v z' v' 2 t).r, .bool (enA s z v z' v' 2 t).k, .int .i64 0, .bool true] rfl rfl 60 _ K.out.1.2.2.2.2.1 (by kernel_rfl) rfl (by simp [Value.oneCell']) ?_; intro w9 H9)
  refine bodyPost_ret (v := .tuple #[nstV ⟨enA s z v z' v' 2 t, 0, true⟩, .int .i64 0]) ?_ rfl (nxPost_of ⟨(nx_ok HE.out HBn.out HA0.out HC.out).1, (nx_ok HE.out HBn.out HA0.out HC.out).2.trans (by rw [nxA_bar HNZ.out (by rw [HG.out]; exact HW.out), HG.out]; rfl)⟩ (K.out.1.done H9.out.2))
  obtain ⟨r0, r1, r2, r3, r4⟩ := five_cells H9.out.1
  simp [results, Try.f27, go_sem, r0, r1, r2, r3, r4, nstV]

set_option maxRecDepth 100000 in
set_option maxHeartbeats 8000000 in
theorem rNext_bar2 (a : Option Addr) (n c : Nat) (s : RulesMath.Set) (z v z' v' t fl k : Int) (st : NSt) (w : World) (h : Ints w a n s.rs) (hs : 0 ≤ st.a.s) (hE : whlE s z v z' v' t k = 0) (hB : bndE st.a = 0) (hA0 : ¬ st.age < 0) (hA : ¬ 1000 < st.age) (hC : chE s z v z' v' t fl k = 0) (hg : st.a.s = 2) (hw : alwB z fl k 2 = false) :
    Calls Try.prog 27 #[setV a n c s, nstV st, .agg #[.int .i64 z, .int .i64 v], .agg #[.int .i64 z', .int .i64 v'], .int .i64 t, .int .i64 fl, .int .u8 k] w (NxPost s z v z' v' t fl k st w) := by
  have HL := Lib.hid h
  have HS := Lib.hid hs
  have HE := Lib.hid hE
  have HBn := Lib.hid hB
  have HO := Lib.hid (scOk_of (whlE_zero hE).1 ⟨(whlE_zero hE).2.1, (whlE_zero hE).2.2.1⟩)
  have HC := Lib.hid hC
  have HG := Lib.hid hg
  have HNZ := Lib.hid (show st.a.s ≠ 0 from by rw [hg]; decide)
  have HA0 := Lib.hid (show ¬ (st.age < 0 ∨ 1000 < st.age) from by omega)
  have age0 : 0 ≤ st.age := by omega
  have age1 : st.age ≤ 1000 := by omega
  have HW := Lib.hid hw
  clear hE hs hB hC hA0 hA hg hw
  clear h
  unfold setV nstV
  go_enter Try.func27, Try.ntmps27
  go_upto_region 1 with fail
  have K0 : RwK w (setC a n c s) (nstC st) z v z' v' (((((w.alloc (.cells #[.slice a n c, .int .i64 s.alim, .int .i64 s.d, .int .i64 s.pl] 34)).alloc (.cells #[.int .u8 st.a.s, .int .i64 st.a.r, .bool st.a.k, .int .i64 st.age, .bool st.rv] 60)).alloc (.cells #[.int .i64 z, .int .i64 v] 26)).alloc (.cells #[.int .i64 z', .int .i64 v'] 26)).alloc (.cells #[.int .u8 0, .int .i64 0, .bool false, .int .i64 0, .bool false] 60)) :=
    ⟨block_alloc (block_alloc (block_alloc (block_alloc (block_new _ _ rfl)))), block_alloc (block_alloc (block_alloc (block_new _ _ (by simp)))), block_alloc (block_alloc (block_new _ _ (by simp))), block_alloc (block_new _ _ (by simp)), block_new _ _ (by simp), ((((below_alloc _ _).alloc (by simp) _).alloc (by simp; omega) _).alloc (by simp; omega) _).alloc (by simp; omega) _⟩
  generalize (((((w.alloc (.cells #[.slice a n c, .int .i64 s.alim, .int .i64 s.d, .int .i64 s.pl] 34)).alloc (.cells #[.int .u8 st.a.s, .int .i64 st.a.r, .bool st.a.k, .int .i64 st.age, .bool st.rv] 60)).alloc (.cells #[.int .i64 z, .int .i64 v] 26)).alloc (.cells #[.int .i64 z', .int .i64 v'] 26)).alloc (.cells #[.int .u8 0, .int .i64 0, .bool false, .int .i64 0, .bool false] 60)) = wq at *
  have K := Lib.hid K0
  clear K0
  obtain ⟨u0, u1, u2, u3⟩ := four_cells K.out.1
  obtain ⟨s0, s1, s2, s3, s4⟩ := five_cells K.out.2.1
  obtain ⟨p0, p1⟩ := two_cells K.out.2.2.1
  obtain ⟨p2, p3⟩ := two_cells K.out.2.2.2.1
  obtain ⟨hl0, hl1, hl2, hl3, hl4⟩ := K.out.lts
  go_wp2_with fail
  refine (rwrong_call a n c s z v z' v' t k _ (HL.out.below K.out.2.2.2.2.2)).mono ?_; rintro e w5 ⟨rfl, hb5⟩
  replace K := Lib.hid (K.out.keep hb5)
  clear hb5
  clear u0 u1 u2 u3 s0 s1 s2 s3 s4 p0 p1 p2 p3 hl0 hl1 hl2 hl3 hl4
  obtain ⟨u0, u1, u2, u3⟩ := four_cells K.out.1
  obtain ⟨s0, s1, s2, s3, s4⟩ := five_cells K.out.2.1
  obtain ⟨p0, p1⟩ := two_cells K.out.2.2.1
  obtain ⟨p2, p3⟩ := two_cells K.out.2.2.2.1
  obtain ⟨hl0, hl1, hl2, hl3, hl4⟩ := K.out.lts
  rw [HE.out]
  go_wp2_with fail
  refine (refBounds_call st.a _ HS.out).mono ?_; rintro e w5 ⟨rfl, hb5⟩
  replace K := Lib.hid (K.out.keep hb5)
  clear hb5
  clear u0 u1 u2 u3 s0 s1 s2 s3 s4 p0 p1 p2 p3 hl0 hl1 hl2 hl3 hl4
  obtain ⟨u0, u1, u2, u3⟩ := four_cells K.out.1
  obtain ⟨s0, s1, s2, s3, s4⟩ := five_cells K.out.2.1
  obtain ⟨p0, p1⟩ := two_cells K.out.2.2.1
  obtain ⟨p2, p3⟩ := two_cells K.out.2.2.2.1
  obtain ⟨hl0, hl1, hl2, hl3, hl4⟩ := K.out.lts
  rw [HBn.out]
  go_wp2_with fail
  refine (rChoose_call a n c s z v z' v' t fl k _ (HL.out.below K.out.2.2.2.2.2)).mono ?_; rintro e w3 ⟨rfl, hb3⟩
  replace K := Lib.hid (K.out.keep hb3)
  clear hb3
  clear u0 u1 u2 u3 s0 s1 s2 s3 s4 p0 p1 p2 p3 hl0 hl1 hl2 hl3 hl4
  rw [HC.out]
  generalize hY : chR s z v z' v' t fl k = Y at *
  obtain ⟨u0, u1, u2, u3⟩ := four_cells K.out.1
  obtain ⟨s0, s1, s2, s3, s4⟩ := five_cells K.out.2.1
  obtain ⟨p0, p1⟩ := two_cells K.out.2.2.1
  obtain ⟨p2, p3⟩ := two_cells K.out.2.2.2.1
  obtain ⟨hl0, hl1, hl2, hl3, hl4⟩ := K.out.lts
  go_upto_region 13 with fail
  have L : RwL w (setC a n c s) (nstC st) z v z' v' w3.heap.size Y (w3.heap.size + 1) st.a ((w3.alloc (.cells #[.int .u8 Y.s, .int .i64 Y.r, .bool Y.k] 30)).alloc (.cells #[.int .u8 st.a.s, .int .i64 st.a.r, .bool st.a.k] 30)) :=
    ⟨(K.out.keep (below_alloc _ _)).keep (below_alloc _ _), block_alloc (block_new _ _ rfl), block_new _ _ (by simp)⟩
  have HY := Lib.hid hY
  clear hY K
  clear u0 u1 u2 u3 s0 s1 s2 s3 s4 p0 p1 p2 p3 hl0 hl1 hl2 hl3 hl4
  generalize hbN : w3.heap.size + 1 = bN at *
  generalize hbF : w3.heap.size = bF at *
  generalize ((w3.alloc (.cells #[.int .u8 Y.s, .int .i64 Y.r, .bool Y.k] 30)).alloc (.cells #[.int .u8 st.a.s, .int .i64 st.a.r, .bool st.a.k] 30)) = w4 at *
  clear hbN hbF
  have K := Lib.hid L
  clear L
  obtain ⟨u0, u1, u2, u3⟩ := four_cells K.out.1.1
  obtain ⟨s0, s1, s2, s3, s4⟩ := five_cells K.out.1.2.1
  obtain ⟨p0, p1⟩ := two_cells K.out.1.2.2.1
  obtain ⟨p2, p3⟩ := two_cells K.out.1.2.2.2.1
  obtain ⟨hl0, hl1, hl2, hl3, hl4⟩ := K.out.1.lts
  obtain ⟨f0, f1, f2⟩ := three_old' K.out.2.1
  obtain ⟨n0, n1, n2⟩ := three_old' K.out.2.2
  have hlF := lt_of_block K.out.2.1
  have hlN := lt_of_block K.out.2.2
  rw [show st.a.s = 2 from HG.out] at n0
  go_wp2_with fail
  refine (rallowed_call z v fl k 2 _ (by decide)).mono ?_; rintro e w5 ⟨rfl, hb5⟩
  replace K := Lib.hid (K.out.keep hb5)
  clear hb5
  rw [HW.out]
  clear u0 u1 u2 u3 s0 s1 s2 s3 s4 p0 p1 p2 p3 hl0 hl1 hl2 hl3 hl4 hlF hlN f0 f1 f2 n0 n1 n2
  obtain ⟨u0, u1, u2, u3⟩ := four_cells K.out.1.1
  obtain ⟨s0, s1, s2, s3, s4⟩ := five_cells K.out.1.2.1
  obtain ⟨p0, p1⟩ := two_cells K.out.1.2.2.1
  obtain ⟨p2, p3⟩ := two_cells K.out.1.2.2.2.1
  obtain ⟨hl0, hl1, hl2, hl3, hl4⟩ := K.out.1.lts
  obtain ⟨f0, f1, f2⟩ := three_old' K.out.2.1
  obtain ⟨n0, n1, n2⟩ := three_old' K.out.2.2
  have hlF := lt_of_block K.out.2.1
  have hlN := lt_of_block K.out.2.2
  rw [show st.a.s = 2 from HG.out] at n0
  go_wp2_with fail
  refine (renough_call a n c s z v z' v' t 1 _ (HL.out.below K.out.1.2.2.2.2.2) HO.out (by decide)).mono ?_; rintro e w5 ⟨rfl, hb5⟩
  replace K := Lib.hid (K.out.keep hb5)
  clear hb5
  clear u0 u1 u2 u3 s0 s1 s2 s3 s4 p0 p1 p2 p3 hl0 hl1 hl2 hl3 hl4 hlF hlN f0 f1 f2 n0 n1 n2
  obtain ⟨u0, u1, u2, u3⟩ := four_cells K.out.1.1
  obtain ⟨s0, s1, s2, s3, s4⟩ := five_cells K.out.1.2.1
  obtain ⟨p0, p1⟩ := two_cells K.out.1.2.2.1
  obtain ⟨p2, p3⟩ := two_cells K.out.1.2.2.2.1
  obtain ⟨hl0, hl1, hl2, hl3, hl4⟩ := K.out.1.lts
  obtain ⟨f0, f1, f2⟩ := three_old' K.out.2.1
  obtain ⟨n0, n1, n2⟩ := three_old' K.out.2.2
  have hlF := lt_of_block K.out.2.1
  have hlN := lt_of_block K.out.2.2
  rw [show st.a.s = 2 from HG.out] at n0
  go_wp2_with ((with_reducible refine wpList_id ?_); refine wpList_store_new rfl 60 (.tmp 14) (.tmp 93) rfl (w.heap.size + 1 + 1 + 1 + 1) #[.int .u8 (enA s z v z' v' 1 t).s, .int .i64 (enA s z v z' v' 1 t).r, .bool (enA s z v z' v' 1 t).k, .int .i64 0, .bool true] rfl rfl 60 _ K.out.1.2.2.2.2.1 (by kernel_rfl) rfl (by simp [Value.oneCell']) ?_; intro w9 H9)
  refine bodyPost_ret (v := .tuple #[nstV ⟨enA s z v z' v' 1 t, 0, true⟩, .int .i64 0]) ?_ rfl (nxPost_of ⟨(nx_ok HE.out HBn.out HA0.out HC.out).1, (nx_ok HE.out HBn.out HA0.out HC.out).2.trans (by rw [nxA_bar HNZ.out (by rw [HG.out]; exact HW.out), HG.out]; rfl)⟩ (K.out.1.done H9.out.2))
  obtain ⟨r0, r1, r2, r3, r4⟩ := five_cells H9.out.1
  simp [results, Try.f27, go_sem, r0, r1, r2, r3, r4, nstV]
end Go.Proofs.Ytfgalaalopkclaa
