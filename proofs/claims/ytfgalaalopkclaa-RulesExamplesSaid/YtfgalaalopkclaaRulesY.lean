/-
  Layer 38 (rules): the program's Next. Printed by genRulesY.py.
-/
import Derived.Test.YtfgalaalopkclaaRulesN
import Derived.Test.YtfgalaalopkclaaRulesNx
import Derived.Deep.DeepCutAuto
import Derived.LoopN
import Derived.WalkMore
namespace Go.Proofs.Ytfgalaalopkclaa
open Go.RowKit PlaneMath PilotMath RulesMath MyHeap MyOwn MyCopy

def nstV (x : NSt) : Value := .agg #[.int .u8 x.a.s, .int .i64 x.a.r, .bool x.a.k, .int .i64 x.age, .bool x.rv]
def nstC (x : NSt) : Array Value := #[.int .u8 x.a.s, .int .i64 x.a.r, .bool x.a.k, .int .i64 x.age, .bool x.rv]
theorem ScOk.bestBd {s : RulesMath.Set} {z v z' v' t g : Int} (h : ScOk s z v z' v' t) (hg : g = 1 ∨ g = 2) : -100000 ≤ bestV s z v z' v' g t ∧ bestV s z v z' v' g t ≤ 100000 ∧ 1 ≤ s.alim ∧ s.alim ≤ 5000 := by
  have hn := numB_iff.1 (setE_zero h.set).1
  have hb := stB_iff.1 (sp_st (s := s) (bnd_ok (lastA_ok h.set hg)) (by omega) h.own t.toNat)
  have ho : -1000 ≤ othZ z' v' t ∧ othZ z' v' t ≤ 50000 := by unfold othZ; omega
  unfold bestV sepV
  split <;> omega
def NxPost (s : RulesMath.Set) (z v z' v' t fl k : Int) (st : NSt) (w : World) (e : Ending) (w' : World) : Prop := e = .returned (.tuple #[nstV (nxR s z v z' v' t fl k st), .int .i64 (nxE s z v z' v' t fl k st)]) ∧ Below w.heap.size w w'
theorem nxPost_of {s : RulesMath.Set} {z v z' v' t fl k : Int} {st x : NSt} {E : Int} {w w' : World} (h : nxE s z v z' v' t fl k st = E ∧ nxR s z v z' v' t fl k st = x) (hB : Below w.heap.size w w') : NxPost s z v z' v' t fl k st w (.returned (.tuple #[nstV x, .int .i64 E])) w' := ⟨by rw [h.1, h.2], hB⟩
/-- In Next: the state, the result, the scene; nothing of w0 written. -/
def NwK (w0 : World) (S C : Array Value) (W : World) : Prop :=
  W.heap[w0.heap.size + 1]? = some (.cells S 57 (0, 0)) ∧ W.heap[w0.heap.size + 4]? = some (.cells (nstC nst0) 57 (0, 0)) ∧ W.heap[w0.heap.size + 5]? = some (.cells C 76 (0, 0)) ∧ Below w0.heap.size w0 W
def Nw0 (w0 : World) (Q S : Array Value) (z v z' v' : Int) (W : World) : Prop :=
  W.heap[w0.heap.size]? = some (.cells Q 24 (0, 0)) ∧ W.heap[w0.heap.size + 1]? = some (.cells S 57 (0, 0)) ∧ W.heap[w0.heap.size + 1 + 1]? = some (.cells #[.int .i64 z, .int .i64 v] 26 (0, 0)) ∧ W.heap[w0.heap.size + 1 + 1 + 1]? = some (.cells #[.int .i64 z', .int .i64 v'] 26 (0, 0)) ∧ W.heap[w0.heap.size + 4]? = some (.cells (nstC nst0) 57 (0, 0)) ∧ Below w0.heap.size w0 W ∧ W.heap.size = w0.heap.size + 5
theorem Nw0.scene {w0 W : World} {Q S C : Array Value} {z v z' v' : Int} (h : Nw0 w0 Q S z v z' v' W) : NwK w0 S C (W.alloc (.cells C 76)) :=
  ⟨block_alloc h.2.1, block_alloc h.2.2.2.2.1, block_new _ _ (by rw [h.2.2.2.2.2.2]), h.2.2.2.2.2.1.alloc (by rw [h.2.2.2.2.2.2]; omega) _⟩
/-- And the advisory in force, the first choice, the next state. -/
def NwL (w0 : World) (S C : Array Value) (bN : Nat) (x : Adv) (bF : Nat) (y : Adv) (bX : Nat) (D : Array Value) (W : World) : Prop :=
  NwK w0 S C W ∧ w0.heap.size + 5 < bN ∧ bN < bF ∧ bF < bX ∧ W.heap[bN]? = some (.cells #[.int .u8 x.s, .int .i64 x.r, .bool x.k] 30 (0, 0)) ∧ W.heap[bF]? = some (.cells #[.int .u8 y.s, .int .i64 y.r, .bool y.k] 30 (0, 0)) ∧ W.heap[bX]? = some (.cells D 57 (0, 0))
section
variable {w0 W W' : World} {S C D : Array Value} {bN bF bX : Nat} {x y : Adv}
theorem NwK.keep (h : NwK w0 S C W) (hb : Below W.heap.size W W') : NwK w0 S C W' := ⟨keepO hb h.1, keepO hb h.2.1, keepO hb h.2.2.1, h.2.2.2.trans (hb.mono h.2.2.2.size)⟩
theorem NwL.keep (h : NwL w0 S C bN x bF y bX D W) (hb : Below W.heap.size W W') : NwL w0 S C bN x bF y bX D W' := ⟨h.1.keep hb, h.2.1, h.2.2.1, h.2.2.2.1, keepO hb h.2.2.2.2.1, keepO hb h.2.2.2.2.2.1, keepO hb h.2.2.2.2.2.2⟩
theorem NwL.only (h : NwL w0 S C bN x bF y bX D W) (hO : Only bX W W') {D' : Array Value} (hD : W'.heap[bX]? = some (.cells D' 57 (0, 0))) : NwL w0 S C bN x bF y bX D' W' := by
  have h1 := h.2.1
  have h2 := h.2.2.1
  have h3 := h.2.2.2.1
  exact ⟨⟨hO.keeps h.1.1 (by omega), hO.keeps h.1.2.1 (by omega), hO.keeps h.1.2.2.1 (by omega), h.1.2.2.2.trans (hO.below (by omega) h.1.2.2.2.size)⟩, h1, h2, h3, hO.keeps h.2.2.2.2.1 (by omega), hO.keeps h.2.2.2.2.2.1 (by omega), hD⟩
theorem NwL.set (h : NwL w0 S C bN x bF y bX D W) (i : Nat) (v : Value) : NwL w0 S C bN x bF y bX (D.setIfInBounds i v) (W.setCell ⟨bX, i, none⟩ v) := h.only ((Only.refl _ _).setCell i v) (block_setCell h.2.2.2.2.2.2)
theorem NwK.lts (h : NwK w0 S C W) : w0.heap.size + 1 < W.heap.size ∧ w0.heap.size + 4 < W.heap.size ∧ w0.heap.size + 5 < W.heap.size := ⟨lt_of_block h.1, lt_of_block h.2.1, lt_of_block h.2.2.1⟩
theorem NwL.lts (h : NwL w0 S C bN x bF y bX D W) : bN < W.heap.size ∧ bF < W.heap.size ∧ bX < W.heap.size := ⟨lt_of_block h.2.2.2.2.1, lt_of_block h.2.2.2.2.2.1, lt_of_block h.2.2.2.2.2.2⟩
theorem NwK.done (h : NwK w0 S C W) (hO : Only (w0.heap.size + 4) W W') : Below w0.heap.size w0 W' := h.2.2.2.trans (hO.below (by omega) h.2.2.2.size)
theorem five_cells {w : World} {b : Nat} {c0 c1 c2 c3 c4 : Value} {T : TypeId} (h : w.heap[b]? = some (.cells #[c0, c1, c2, c3, c4] T (0, 0))) : w.cell? ⟨b, 0, none⟩ = some c0 ∧ w.cell? ⟨b, 1, none⟩ = some c1 ∧ w.cell? ⟨b, 2, none⟩ = some c2 ∧ w.cell? ⟨b, 3, none⟩ = some c3 ∧ w.cell? ⟨b, 4, none⟩ = some c4 := ⟨cell_of_block h rfl, cell_of_block h rfl, cell_of_block h rfl, cell_of_block h rfl, cell_of_block h rfl⟩
end
theorem NwL.sn {w0 W : World} {st : NSt} {C D : Array Value} {bN bF bX : Nat} {y : Adv} (h : NwL w0 (nstC st) C bN st.a bF y bX D W) : (W.drew.cell? ⟨bN, 0, none⟩ = some (.int .u8 st.a.s) ∧ W.drew.cell? ⟨bN, 1, none⟩ = some (.int .i64 st.a.r) ∧ W.drew.cell? ⟨bN, 2, none⟩ = some (.bool st.a.k)) ∧ W.drew.cell? ⟨w0.heap.size + 1, 3, none⟩ = some (.int .i64 st.age) := ⟨three_old' h.2.2.2.2.1, (five_cells h.1.1).2.2.2.1⟩
theorem NwL.sn3 {w0 W : World} {st : NSt} {C D : Array Value} {bN bF bX : Nat} {y : Adv} (h : NwL w0 (nstC st) C bN st.a bF y bX D W) (x0 x1 x2 : Value) : ((((W.setCell ⟨bX, 0, none⟩ x0).setCell ⟨bX, 1, none⟩ x1).setCell ⟨bX, 2, none⟩ x2).drew.cell? ⟨bN, 0, none⟩ = some (.int .u8 st.a.s) ∧ (((W.setCell ⟨bX, 0, none⟩ x0).setCell ⟨bX, 1, none⟩ x1).setCell ⟨bX, 2, none⟩ x2).drew.cell? ⟨bN, 1, none⟩ = some (.int .i64 st.a.r) ∧ (((W.setCell ⟨bX, 0, none⟩ x0).setCell ⟨bX, 1, none⟩ x1).setCell ⟨bX, 2, none⟩ x2).drew.cell? ⟨bN, 2, none⟩ = some (.bool st.a.k)) ∧ (((W.setCell ⟨bX, 0, none⟩ x0).setCell ⟨bX, 1, none⟩ x1).setCell ⟨bX, 2, none⟩ x2).drew.cell? ⟨w0.heap.size + 1, 3, none⟩ = some (.int .i64 st.age) := (((h.set 0 x0).set 1 x1).set 2 x2).sn
theorem NwL.sn4 {w0 W : World} {st : NSt} {C D : Array Value} {bN bF bX : Nat} {y : Adv} (h : NwL w0 (nstC st) C bN st.a bF y bX D W) (x0 x1 x2 x3 : Value) : (((((W.setCell ⟨bX, 0, none⟩ x0).setCell ⟨bX, 1, none⟩ x1).setCell ⟨bX, 2, none⟩ x2).setCell ⟨bX, 3, none⟩ x3).drew.cell? ⟨bN, 0, none⟩ = some (.int .u8 st.a.s) ∧ ((((W.setCell ⟨bX, 0, none⟩ x0).setCell ⟨bX, 1, none⟩ x1).setCell ⟨bX, 2, none⟩ x2).setCell ⟨bX, 3, none⟩ x3).drew.cell? ⟨bN, 1, none⟩ = some (.int .i64 st.a.r) ∧ ((((W.setCell ⟨bX, 0, none⟩ x0).setCell ⟨bX, 1, none⟩ x1).setCell ⟨bX, 2, none⟩ x2).setCell ⟨bX, 3, none⟩ x3).drew.cell? ⟨bN, 2, none⟩ = some (.bool st.a.k)) ∧ ((((W.setCell ⟨bX, 0, none⟩ x0).setCell ⟨bX, 1, none⟩ x1).setCell ⟨bX, 2, none⟩ x2).setCell ⟨bX, 3, none⟩ x3).drew.cell? ⟨w0.heap.size + 1, 3, none⟩ = some (.int .i64 st.age) := ((((h.set 0 x0).set 1 x1).set 2 x2).set 3 x3).sn

set_option maxRecDepth 100000 in
set_option maxHeartbeats 8000000 in
theorem pNext_whl (a : Option Addr) (n c : Nat) (s : RulesMath.Set) (z v z' v' t fl k : Int) (st : NSt) (w : World) (h : Ints w a n s.rs) (hE : whlE s z v z' v' t k ≠ 0) :
    Calls Try.prog 26 #[setV a n c s, nstV st, .agg #[.int .i64 z, .int .i64 v], .agg #[.int .i64 z', .int .i64 v'], .int .i64 t, .int .i64 fl, .int .u8 k] w (NxPost s z v z' v' t fl k st w) := by
  have HL := Lib.hid h
  have HE := Lib.hid hE
  have hne : (whlE s z v z' v' t k != 0) = true := bne_iff_ne.2 hE
  clear hE
  clear h
  unfold setV nstV
  go_enter Try.func26, Try.ntmps26
  go_wp2_with fail
  go_step3
  go_upto_region 1 with fail
  have K0 : Nw0 w (setC a n c s) (nstC st) z v z' v' (((((w.alloc (.cells #[.slice a n c, .int .i64 s.alim, .int .i64 s.d, .int .i64 s.pl] 24)).alloc (.cells #[.int .u8 st.a.s, .int .i64 st.a.r, .bool st.a.k, .int .i64 st.age, .bool st.rv] 57)).alloc (.cells #[.int .i64 z, .int .i64 v] 26)).alloc (.cells #[.int .i64 z', .int .i64 v'] 26)).alloc (.cells #[.int .u8 0, .int .i64 0, .bool false, .int .i64 0, .bool false] 57)) :=
    ⟨block_alloc (block_alloc (block_alloc (block_alloc (block_new _ _ rfl)))), block_alloc (block_alloc (block_alloc (block_new _ _ (by simp)))), block_alloc (block_alloc (block_new _ _ (by simp))), block_alloc (block_new _ _ (by simp)), block_new _ _ (by simp), ((((below_alloc _ _).alloc (by simp) _).alloc (by simp; omega) _).alloc (by simp; omega) _).alloc (by simp; omega) _, by simp⟩
  generalize (((((w.alloc (.cells #[.slice a n c, .int .i64 s.alim, .int .i64 s.d, .int .i64 s.pl] 24)).alloc (.cells #[.int .u8 st.a.s, .int .i64 st.a.r, .bool st.a.k, .int .i64 st.age, .bool st.rv] 57)).alloc (.cells #[.int .i64 z, .int .i64 v] 26)).alloc (.cells #[.int .i64 z', .int .i64 v'] 26)).alloc (.cells #[.int .u8 0, .int .i64 0, .bool false, .int .i64 0, .bool false] 57)) = wq at *
  obtain ⟨s0, s1, s2, s3⟩ := four_cells K0.1
  obtain ⟨p0, p1, -, -⟩ := two_old K0.2.2.1
  obtain ⟨p2, p3, -, -⟩ := two_old K0.2.2.2.1
  have hsz := K0.2.2.2.2.2.2
  have KQ := Lib.hid K0
  clear K0
  go_wp2_with fail
  have K := Lib.hid (show NwK w (nstC st) (scnC a n c s z v z' v' t fl k) (wq.alloc (.cells (scnC a n c s z v z' v' t fl k) 76)) from KQ.out.scene)
  clear KQ s0 s1 s2 s3 p0 p1 p2 p3
  refine (whole_call a n c s z v z' v' t fl k _ (HL.out.below K.out.2.2.2)).mono ?_; rintro e w1 ⟨rfl, hb1⟩
  replace K := Lib.hid (K.out.keep hb1)
  clear hb1
  go_wp2_with (refine wpList_store_new rfl 57 (.tmp 14) (.tmp 38) rfl (w.heap.size + 4) #[.int .u8 0, .int .i64 0, .bool false, .int .i64 0, .bool false] rfl rfl 57 _ K.out.2.1 (by kernel_rfl) rfl (by simp [Value.oneCell']) ?_; intro w8 H8)
  try rw [Exit.noGoto_ret]
  refine bodyPost_ret (v := .tuple #[nstV nst0, .int .i64 (whlE s z v z' v' t k)]) ?_ rfl (nxPost_of (nx_whl HE.out) (K.out.done H8.out.2))
  obtain ⟨r0, r1, r2, r3, r4⟩ := five_cells H8.out.1
  simp [results, Try.f26, go_sem, r0, r1, r2, r3, r4, nstV, nst0, adv0]

set_option maxRecDepth 100000 in
set_option maxHeartbeats 8000000 in
theorem pNext_bnd (a : Option Addr) (n c : Nat) (s : RulesMath.Set) (z v z' v' t fl k : Int) (st : NSt) (w : World) (h : Ints w a n s.rs) (hs : 0 ≤ st.a.s) (hE : whlE s z v z' v' t k = 0) (hB : bndE st.a ≠ 0) :
    Calls Try.prog 26 #[setV a n c s, nstV st, .agg #[.int .i64 z, .int .i64 v], .agg #[.int .i64 z', .int .i64 v'], .int .i64 t, .int .i64 fl, .int .u8 k] w (NxPost s z v z' v' t fl k st w) := by
  have HL := Lib.hid h
  have HS := Lib.hid hs
  have HE := Lib.hid hE
  have HB := Lib.hid hB
  have hne : (bndE st.a != 0) = true := bne_iff_ne.2 hB
  clear hE hs hB
  clear h
  unfold setV nstV
  go_enter Try.func26, Try.ntmps26
  go_wp2_with fail
  go_step3
  go_upto_region 1 with fail
  have K0 : Nw0 w (setC a n c s) (nstC st) z v z' v' (((((w.alloc (.cells #[.slice a n c, .int .i64 s.alim, .int .i64 s.d, .int .i64 s.pl] 24)).alloc (.cells #[.int .u8 st.a.s, .int .i64 st.a.r, .bool st.a.k, .int .i64 st.age, .bool st.rv] 57)).alloc (.cells #[.int .i64 z, .int .i64 v] 26)).alloc (.cells #[.int .i64 z', .int .i64 v'] 26)).alloc (.cells #[.int .u8 0, .int .i64 0, .bool false, .int .i64 0, .bool false] 57)) :=
    ⟨block_alloc (block_alloc (block_alloc (block_alloc (block_new _ _ rfl)))), block_alloc (block_alloc (block_alloc (block_new _ _ (by simp)))), block_alloc (block_alloc (block_new _ _ (by simp))), block_alloc (block_new _ _ (by simp)), block_new _ _ (by simp), ((((below_alloc _ _).alloc (by simp) _).alloc (by simp; omega) _).alloc (by simp; omega) _).alloc (by simp; omega) _, by simp⟩
  generalize (((((w.alloc (.cells #[.slice a n c, .int .i64 s.alim, .int .i64 s.d, .int .i64 s.pl] 24)).alloc (.cells #[.int .u8 st.a.s, .int .i64 st.a.r, .bool st.a.k, .int .i64 st.age, .bool st.rv] 57)).alloc (.cells #[.int .i64 z, .int .i64 v] 26)).alloc (.cells #[.int .i64 z', .int .i64 v'] 26)).alloc (.cells #[.int .u8 0, .int .i64 0, .bool false, .int .i64 0, .bool false] 57)) = wq at *
  obtain ⟨s0, s1, s2, s3⟩ := four_cells K0.1
  obtain ⟨p0, p1, -, -⟩ := two_old K0.2.2.1
  obtain ⟨p2, p3, -, -⟩ := two_old K0.2.2.2.1
  have hsz := K0.2.2.2.2.2.2
  have KQ := Lib.hid K0
  clear K0
  go_wp2_with fail
  have K := Lib.hid (show NwK w (nstC st) (scnC a n c s z v z' v' t fl k) (wq.alloc (.cells (scnC a n c s z v z' v' t fl k) 76)) from KQ.out.scene)
  clear KQ s0 s1 s2 s3 p0 p1 p2 p3
  refine (whole_call a n c s z v z' v' t fl k _ (HL.out.below K.out.2.2.2)).mono ?_; rintro e w1 ⟨rfl, hb1⟩
  replace K := Lib.hid (K.out.keep hb1)
  clear hb1
  rw [HE.out]
  obtain ⟨s0, s1, s2, s3, s4⟩ := five_cells K.out.1
  obtain ⟨hl1, hl4, hl5⟩ := K.out.lts
  go_wp2_with fail
  have K2 := Lib.hid (And.intro (K.out.keep (below_alloc w1 (.cells #[.int .u8 st.a.s, .int .i64 st.a.r, .bool st.a.k] 30))) (And.intro hl5 (show (w1.alloc (.cells #[.int .u8 st.a.s, .int .i64 st.a.r, .bool st.a.k] 30)).heap[w1.heap.size]? = some (.cells #[.int .u8 st.a.s, .int .i64 st.a.r, .bool st.a.k] 30 (0, 0)) from block_new _ _ rfl)))
  refine (Bounds_call st.a _ HS.out).mono ?_; rintro e w2 ⟨rfl, hb2⟩
  have K3 := Lib.hid (And.intro (K2.out.1.keep hb2) (And.intro K2.out.2.1 (keepO hb2 K2.out.2.2)))
  clear hb2 K2 K s0 s1 s2 s3 s4 hl1 hl4 hl5
  have K := Lib.hid K3.out.1
  obtain ⟨s0, s1, s2, s3, s4⟩ := five_cells K.out.1
  obtain ⟨hl1, hl4, hl5⟩ := K.out.lts
  go_wp2_with (refine wpList_store_new rfl 57 (.tmp 14) (.tmp 50) rfl (w.heap.size + 4) #[.int .u8 0, .int .i64 0, .bool false, .int .i64 0, .bool false] rfl rfl 57 _ K.out.2.1 (by kernel_rfl) rfl (by simp [Value.oneCell']) ?_; intro w8 H8)
  try rw [Exit.noGoto_ret]
  refine bodyPost_ret (v := .tuple #[nstV nst0, .int .i64 (bndE st.a)]) ?_ rfl (nxPost_of (nx_bnd HE.out HB.out) (K.out.done H8.out.2))
  obtain ⟨r0, r1, r2, r3, r4⟩ := five_cells H8.out.1
  simp [results, Try.f26, go_sem, r0, r1, r2, r3, r4, nstV, nst0, adv0]

set_option maxRecDepth 100000 in
set_option maxHeartbeats 8000000 in
theorem pNext_age0 (a : Option Addr) (n c : Nat) (s : RulesMath.Set) (z v z' v' t fl k : Int) (st : NSt) (w : World) (h : Ints w a n s.rs) (hs : 0 ≤ st.a.s) (hE : whlE s z v z' v' t k = 0) (hB : bndE st.a = 0) (hA : st.age < 0) :
    Calls Try.prog 26 #[setV a n c s, nstV st, .agg #[.int .i64 z, .int .i64 v], .agg #[.int .i64 z', .int .i64 v'], .int .i64 t, .int .i64 fl, .int .u8 k] w (NxPost s z v z' v' t fl k st w) := by
  have HL := Lib.hid h
  have HS := Lib.hid hs
  have HE := Lib.hid hE
  have HBn := Lib.hid hB
  clear hE hs hB
  clear h
  unfold setV nstV
  go_enter Try.func26, Try.ntmps26
  go_wp2_with fail
  go_step3
  go_upto_region 1 with fail
  have K0 : Nw0 w (setC a n c s) (nstC st) z v z' v' (((((w.alloc (.cells #[.slice a n c, .int .i64 s.alim, .int .i64 s.d, .int .i64 s.pl] 24)).alloc (.cells #[.int .u8 st.a.s, .int .i64 st.a.r, .bool st.a.k, .int .i64 st.age, .bool st.rv] 57)).alloc (.cells #[.int .i64 z, .int .i64 v] 26)).alloc (.cells #[.int .i64 z', .int .i64 v'] 26)).alloc (.cells #[.int .u8 0, .int .i64 0, .bool false, .int .i64 0, .bool false] 57)) :=
    ⟨block_alloc (block_alloc (block_alloc (block_alloc (block_new _ _ rfl)))), block_alloc (block_alloc (block_alloc (block_new _ _ (by simp)))), block_alloc (block_alloc (block_new _ _ (by simp))), block_alloc (block_new _ _ (by simp)), block_new _ _ (by simp), ((((below_alloc _ _).alloc (by simp) _).alloc (by simp; omega) _).alloc (by simp; omega) _).alloc (by simp; omega) _, by simp⟩
  generalize (((((w.alloc (.cells #[.slice a n c, .int .i64 s.alim, .int .i64 s.d, .int .i64 s.pl] 24)).alloc (.cells #[.int .u8 st.a.s, .int .i64 st.a.r, .bool st.a.k, .int .i64 st.age, .bool st.rv] 57)).alloc (.cells #[.int .i64 z, .int .i64 v] 26)).alloc (.cells #[.int .i64 z', .int .i64 v'] 26)).alloc (.cells #[.int .u8 0, .int .i64 0, .bool false, .int .i64 0, .bool false] 57)) = wq at *
  obtain ⟨s0, s1, s2, s3⟩ := four_cells K0.1
  obtain ⟨p0, p1, -, -⟩ := two_old K0.2.2.1
  obtain ⟨p2, p3, -, -⟩ := two_old K0.2.2.2.1
  have hsz := K0.2.2.2.2.2.2
  have KQ := Lib.hid K0
  clear K0
  go_wp2_with fail
  have K := Lib.hid (show NwK w (nstC st) (scnC a n c s z v z' v' t fl k) (wq.alloc (.cells (scnC a n c s z v z' v' t fl k) 76)) from KQ.out.scene)
  clear KQ s0 s1 s2 s3 p0 p1 p2 p3
  refine (whole_call a n c s z v z' v' t fl k _ (HL.out.below K.out.2.2.2)).mono ?_; rintro e w1 ⟨rfl, hb1⟩
  replace K := Lib.hid (K.out.keep hb1)
  clear hb1
  rw [HE.out]
  obtain ⟨s0, s1, s2, s3, s4⟩ := five_cells K.out.1
  obtain ⟨hl1, hl4, hl5⟩ := K.out.lts
  go_wp2_with fail
  have K2 := Lib.hid (And.intro (K.out.keep (below_alloc w1 (.cells #[.int .u8 st.a.s, .int .i64 st.a.r, .bool st.a.k] 30))) (And.intro hl5 (show (w1.alloc (.cells #[.int .u8 st.a.s, .int .i64 st.a.r, .bool st.a.k] 30)).heap[w1.heap.size]? = some (.cells #[.int .u8 st.a.s, .int .i64 st.a.r, .bool st.a.k] 30 (0, 0)) from block_new _ _ rfl)))
  refine (Bounds_call st.a _ HS.out).mono ?_; rintro e w2 ⟨rfl, hb2⟩
  have K3 := Lib.hid (And.intro (K2.out.1.keep hb2) (And.intro K2.out.2.1 (keepO hb2 K2.out.2.2)))
  clear hb2 K2 K s0 s1 s2 s3 s4 hl1 hl4 hl5
  have K := Lib.hid K3.out.1
  obtain ⟨s0, s1, s2, s3, s4⟩ := five_cells K.out.1
  obtain ⟨hl1, hl4, hl5⟩ := K.out.lts
  rw [HBn.out]
  go_wp2_with (refine wpList_store_new rfl 57 (.tmp 14) (.tmp 60) rfl (w.heap.size + 4) #[.int .u8 0, .int .i64 0, .bool false, .int .i64 0, .bool false] rfl rfl 57 _ K.out.2.1 (by kernel_rfl) rfl (by simp [Value.oneCell']) ?_; intro w8 H8)
  try rw [Exit.noGoto_ret]
  refine bodyPost_ret (v := .tuple #[nstV nst0, .int .i64 (1)]) ?_ rfl (nxPost_of (nx_age HE.out HBn.out (Or.inl hA)) (K.out.done H8.out.2))
  obtain ⟨r0, r1, r2, r3, r4⟩ := five_cells H8.out.1
  simp [results, Try.f26, go_sem, r0, r1, r2, r3, r4, nstV, nst0, adv0]

set_option maxRecDepth 100000 in
set_option maxHeartbeats 8000000 in
theorem pNext_age1 (a : Option Addr) (n c : Nat) (s : RulesMath.Set) (z v z' v' t fl k : Int) (st : NSt) (w : World) (h : Ints w a n s.rs) (hs : 0 ≤ st.a.s) (hE : whlE s z v z' v' t k = 0) (hB : bndE st.a = 0) (hA0 : ¬ st.age < 0) (hA : 1000 < st.age) :
    Calls Try.prog 26 #[setV a n c s, nstV st, .agg #[.int .i64 z, .int .i64 v], .agg #[.int .i64 z', .int .i64 v'], .int .i64 t, .int .i64 fl, .int .u8 k] w (NxPost s z v z' v' t fl k st w) := by
  have HL := Lib.hid h
  have HS := Lib.hid hs
  have HE := Lib.hid hE
  have HBn := Lib.hid hB
  clear hE hs hB
  clear h
  unfold setV nstV
  go_enter Try.func26, Try.ntmps26
  go_wp2_with fail
  go_step3
  go_upto_region 1 with fail
  have K0 : Nw0 w (setC a n c s) (nstC st) z v z' v' (((((w.alloc (.cells #[.slice a n c, .int .i64 s.alim, .int .i64 s.d, .int .i64 s.pl] 24)).alloc (.cells #[.int .u8 st.a.s, .int .i64 st.a.r, .bool st.a.k, .int .i64 st.age, .bool st.rv] 57)).alloc (.cells #[.int .i64 z, .int .i64 v] 26)).alloc (.cells #[.int .i64 z', .int .i64 v'] 26)).alloc (.cells #[.int .u8 0, .int .i64 0, .bool false, .int .i64 0, .bool false] 57)) :=
    ⟨block_alloc (block_alloc (block_alloc (block_alloc (block_new _ _ rfl)))), block_alloc (block_alloc (block_alloc (block_new _ _ (by simp)))), block_alloc (block_alloc (block_new _ _ (by simp))), block_alloc (block_new _ _ (by simp)), block_new _ _ (by simp), ((((below_alloc _ _).alloc (by simp) _).alloc (by simp; omega) _).alloc (by simp; omega) _).alloc (by simp; omega) _, by simp⟩
  generalize (((((w.alloc (.cells #[.slice a n c, .int .i64 s.alim, .int .i64 s.d, .int .i64 s.pl] 24)).alloc (.cells #[.int .u8 st.a.s, .int .i64 st.a.r, .bool st.a.k, .int .i64 st.age, .bool st.rv] 57)).alloc (.cells #[.int .i64 z, .int .i64 v] 26)).alloc (.cells #[.int .i64 z', .int .i64 v'] 26)).alloc (.cells #[.int .u8 0, .int .i64 0, .bool false, .int .i64 0, .bool false] 57)) = wq at *
  obtain ⟨s0, s1, s2, s3⟩ := four_cells K0.1
  obtain ⟨p0, p1, -, -⟩ := two_old K0.2.2.1
  obtain ⟨p2, p3, -, -⟩ := two_old K0.2.2.2.1
  have hsz := K0.2.2.2.2.2.2
  have KQ := Lib.hid K0
  clear K0
  go_wp2_with fail
  have K := Lib.hid (show NwK w (nstC st) (scnC a n c s z v z' v' t fl k) (wq.alloc (.cells (scnC a n c s z v z' v' t fl k) 76)) from KQ.out.scene)
  clear KQ s0 s1 s2 s3 p0 p1 p2 p3
  refine (whole_call a n c s z v z' v' t fl k _ (HL.out.below K.out.2.2.2)).mono ?_; rintro e w1 ⟨rfl, hb1⟩
  replace K := Lib.hid (K.out.keep hb1)
  clear hb1
  rw [HE.out]
  obtain ⟨s0, s1, s2, s3, s4⟩ := five_cells K.out.1
  obtain ⟨hl1, hl4, hl5⟩ := K.out.lts
  go_wp2_with fail
  have K2 := Lib.hid (And.intro (K.out.keep (below_alloc w1 (.cells #[.int .u8 st.a.s, .int .i64 st.a.r, .bool st.a.k] 30))) (And.intro hl5 (show (w1.alloc (.cells #[.int .u8 st.a.s, .int .i64 st.a.r, .bool st.a.k] 30)).heap[w1.heap.size]? = some (.cells #[.int .u8 st.a.s, .int .i64 st.a.r, .bool st.a.k] 30 (0, 0)) from block_new _ _ rfl)))
  refine (Bounds_call st.a _ HS.out).mono ?_; rintro e w2 ⟨rfl, hb2⟩
  have K3 := Lib.hid (And.intro (K2.out.1.keep hb2) (And.intro K2.out.2.1 (keepO hb2 K2.out.2.2)))
  clear hb2 K2 K s0 s1 s2 s3 s4 hl1 hl4 hl5
  have K := Lib.hid K3.out.1
  obtain ⟨s0, s1, s2, s3, s4⟩ := five_cells K.out.1
  obtain ⟨hl1, hl4, hl5⟩ := K.out.lts
  rw [HBn.out]
  go_wp2_with (refine wpList_store_new rfl 57 (.tmp 14) (.tmp 60) rfl (w.heap.size + 4) #[.int .u8 0, .int .i64 0, .bool false, .int .i64 0, .bool false] rfl rfl 57 _ K.out.2.1 (by kernel_rfl) rfl (by simp [Value.oneCell']) ?_; intro w8 H8)
  try rw [Exit.noGoto_ret]
  refine bodyPost_ret (v := .tuple #[nstV nst0, .int .i64 (1)]) ?_ rfl (nxPost_of (nx_age HE.out HBn.out (Or.inr hA)) (K.out.done H8.out.2))
  obtain ⟨r0, r1, r2, r3, r4⟩ := five_cells H8.out.1
  simp [results, Try.f26, go_sem, r0, r1, r2, r3, r4, nstV, nst0, adv0]

set_option maxRecDepth 100000 in
set_option maxHeartbeats 8000000 in
theorem pNext_ch (a : Option Addr) (n c : Nat) (s : RulesMath.Set) (z v z' v' t fl k : Int) (st : NSt) (w : World) (h : Ints w a n s.rs) (hs : 0 ≤ st.a.s) (hE : whlE s z v z' v' t k = 0) (hB : bndE st.a = 0) (hA0 : ¬ st.age < 0) (hA : ¬ 1000 < st.age) (hC : chE s z v z' v' t fl k ≠ 0) :
    Calls Try.prog 26 #[setV a n c s, nstV st, .agg #[.int .i64 z, .int .i64 v], .agg #[.int .i64 z', .int .i64 v'], .int .i64 t, .int .i64 fl, .int .u8 k] w (NxPost s z v z' v' t fl k st w) := by
  have HL := Lib.hid h
  have HS := Lib.hid hs
  have HE := Lib.hid hE
  have HBn := Lib.hid hB
  have HO := Lib.hid (scOk_of (whlE_zero hE).1 ⟨(whlE_zero hE).2.1, (whlE_zero hE).2.2.1⟩)
  have HC := Lib.hid hC
  have hne : (chE s z v z' v' t fl k != 0) = true := bne_iff_ne.2 hC
  clear hE hs hB hC
  clear h
  unfold setV nstV
  go_enter Try.func26, Try.ntmps26
  go_wp2_with fail
  go_step3
  go_upto_region 1 with fail
  have K0 : Nw0 w (setC a n c s) (nstC st) z v z' v' (((((w.alloc (.cells #[.slice a n c, .int .i64 s.alim, .int .i64 s.d, .int .i64 s.pl] 24)).alloc (.cells #[.int .u8 st.a.s, .int .i64 st.a.r, .bool st.a.k, .int .i64 st.age, .bool st.rv] 57)).alloc (.cells #[.int .i64 z, .int .i64 v] 26)).alloc (.cells #[.int .i64 z', .int .i64 v'] 26)).alloc (.cells #[.int .u8 0, .int .i64 0, .bool false, .int .i64 0, .bool false] 57)) :=
    ⟨block_alloc (block_alloc (block_alloc (block_alloc (block_new _ _ rfl)))), block_alloc (block_alloc (block_alloc (block_new _ _ (by simp)))), block_alloc (block_alloc (block_new _ _ (by simp))), block_alloc (block_new _ _ (by simp)), block_new _ _ (by simp), ((((below_alloc _ _).alloc (by simp) _).alloc (by simp; omega) _).alloc (by simp; omega) _).alloc (by simp; omega) _, by simp⟩
  generalize (((((w.alloc (.cells #[.slice a n c, .int .i64 s.alim, .int .i64 s.d, .int .i64 s.pl] 24)).alloc (.cells #[.int .u8 st.a.s, .int .i64 st.a.r, .bool st.a.k, .int .i64 st.age, .bool st.rv] 57)).alloc (.cells #[.int .i64 z, .int .i64 v] 26)).alloc (.cells #[.int .i64 z', .int .i64 v'] 26)).alloc (.cells #[.int .u8 0, .int .i64 0, .bool false, .int .i64 0, .bool false] 57)) = wq at *
  obtain ⟨s0, s1, s2, s3⟩ := four_cells K0.1
  obtain ⟨p0, p1, -, -⟩ := two_old K0.2.2.1
  obtain ⟨p2, p3, -, -⟩ := two_old K0.2.2.2.1
  have hsz := K0.2.2.2.2.2.2
  have KQ := Lib.hid K0
  clear K0
  go_wp2_with fail
  have K := Lib.hid (show NwK w (nstC st) (scnC a n c s z v z' v' t fl k) (wq.alloc (.cells (scnC a n c s z v z' v' t fl k) 76)) from KQ.out.scene)
  clear KQ s0 s1 s2 s3 p0 p1 p2 p3
  refine (whole_call a n c s z v z' v' t fl k _ (HL.out.below K.out.2.2.2)).mono ?_; rintro e w1 ⟨rfl, hb1⟩
  replace K := Lib.hid (K.out.keep hb1)
  clear hb1
  rw [HE.out]
  obtain ⟨s0, s1, s2, s3, s4⟩ := five_cells K.out.1
  obtain ⟨hl1, hl4, hl5⟩ := K.out.lts
  go_wp2_with fail
  have K2 := Lib.hid (And.intro (K.out.keep (below_alloc w1 (.cells #[.int .u8 st.a.s, .int .i64 st.a.r, .bool st.a.k] 30))) (And.intro hl5 (show (w1.alloc (.cells #[.int .u8 st.a.s, .int .i64 st.a.r, .bool st.a.k] 30)).heap[w1.heap.size]? = some (.cells #[.int .u8 st.a.s, .int .i64 st.a.r, .bool st.a.k] 30 (0, 0)) from block_new _ _ rfl)))
  refine (Bounds_call st.a _ HS.out).mono ?_; rintro e w2 ⟨rfl, hb2⟩
  have K3 := Lib.hid (And.intro (K2.out.1.keep hb2) (And.intro K2.out.2.1 (keepO hb2 K2.out.2.2)))
  clear hb2 K2 K s0 s1 s2 s3 s4 hl1 hl4 hl5
  have K := Lib.hid K3.out.1
  obtain ⟨s0, s1, s2, s3, s4⟩ := five_cells K.out.1
  obtain ⟨hl1, hl4, hl5⟩ := K.out.lts
  rw [HBn.out]
  obtain ⟨q0, q1, q2, q3, q4, q5, q6, q7, q8, q9, qa⟩ := eleven K.out.2.2.1
  go_wp2_with fail
  refine (pchoose_call a n c s z v z' v' t fl k _ (HL.out.below K.out.2.2.2) HO.out HE.out).mono ?_; rintro e w3 ⟨rfl, hb3⟩
  replace K := Lib.hid (K.out.keep hb3)
  have K4 := Lib.hid (And.intro K3.out.2.1 (keepO hb3 K3.out.2.2))
  clear hb3 K3 q0 q1 q2 q3 q4 q5 q6 q7 q8 q9 qa s0 s1 s2 s3 s4 hl1 hl4 hl5
  obtain ⟨hl1, hl4, hl5⟩ := K.out.lts
  go_upto_region 13 with fail
  replace K := Lib.hid (K.out.keep (below_alloc w3 (.cells #[.int .u8 (chR s z v z' v' t fl k).s, .int .i64 (chR s z v z' v' t fl k).r, .bool (chR s z v z' v' t fl k).k] 30)))
  go_wp2_with (refine wpList_store_new rfl 57 (.tmp 14) (.tmp 68) rfl (w.heap.size + 4) #[.int .u8 0, .int .i64 0, .bool false, .int .i64 0, .bool false] rfl rfl 57 _ K.out.2.1 (by kernel_rfl) rfl (by simp [Value.oneCell']) ?_; intro w8 H8)
  try rw [Exit.noGoto_ret]
  refine bodyPost_ret (v := .tuple #[nstV nst0, .int .i64 (chE s z v z' v' t fl k)]) ?_ rfl (nxPost_of (nx_ch HE.out HBn.out (by omega) HC.out) (K.out.done H8.out.2))
  obtain ⟨r0, r1, r2, r3, r4⟩ := five_cells H8.out.1
  simp [results, Try.f26, go_sem, r0, r1, r2, r3, r4, nstV, nst0, adv0]

set_option maxRecDepth 100000 in
set_option maxHeartbeats 8000000 in
theorem pNext_new (a : Option Addr) (n c : Nat) (s : RulesMath.Set) (z v z' v' t fl k : Int) (st : NSt) (w : World) (h : Ints w a n s.rs) (hs : 0 ≤ st.a.s) (hE : whlE s z v z' v' t k = 0) (hB : bndE st.a = 0) (hA0 : ¬ st.age < 0) (hA : ¬ 1000 < st.age) (hC : chE s z v z' v' t fl k = 0) (hg : st.a.s = 0) :
    Calls Try.prog 26 #[setV a n c s, nstV st, .agg #[.int .i64 z, .int .i64 v], .agg #[.int .i64 z', .int .i64 v'], .int .i64 t, .int .i64 fl, .int .u8 k] w (NxPost s z v z' v' t fl k st w) := by
  have HL := Lib.hid h
  have HS := Lib.hid hs
  have HE := Lib.hid hE
  have HBn := Lib.hid hB
  have HO := Lib.hid (scOk_of (whlE_zero hE).1 ⟨(whlE_zero hE).2.1, (whlE_zero hE).2.2.1⟩)
  have HC := Lib.hid hC
  have HG := Lib.hid hg
  have HA0 := Lib.hid (show ¬ (st.age < 0 ∨ 1000 < st.age) from by omega)
  have age0 : 0 ≤ st.age := by omega
  have age1 : st.age ≤ 1000 := by omega
  clear hE hs hB hC hA0 hA hg
  clear h
  unfold setV nstV
  go_enter Try.func26, Try.ntmps26
  go_wp2_with fail
  go_step3
  go_upto_region 1 with fail
  have K0 : Nw0 w (setC a n c s) (nstC st) z v z' v' (((((w.alloc (.cells #[.slice a n c, .int .i64 s.alim, .int .i64 s.d, .int .i64 s.pl] 24)).alloc (.cells #[.int .u8 st.a.s, .int .i64 st.a.r, .bool st.a.k, .int .i64 st.age, .bool st.rv] 57)).alloc (.cells #[.int .i64 z, .int .i64 v] 26)).alloc (.cells #[.int .i64 z', .int .i64 v'] 26)).alloc (.cells #[.int .u8 0, .int .i64 0, .bool false, .int .i64 0, .bool false] 57)) :=
    ⟨block_alloc (block_alloc (block_alloc (block_alloc (block_new _ _ rfl)))), block_alloc (block_alloc (block_alloc (block_new _ _ (by simp)))), block_alloc (block_alloc (block_new _ _ (by simp))), block_alloc (block_new _ _ (by simp)), block_new _ _ (by simp), ((((below_alloc _ _).alloc (by simp) _).alloc (by simp; omega) _).alloc (by simp; omega) _).alloc (by simp; omega) _, by simp⟩
  generalize (((((w.alloc (.cells #[.slice a n c, .int .i64 s.alim, .int .i64 s.d, .int .i64 s.pl] 24)).alloc (.cells #[.int .u8 st.a.s, .int .i64 st.a.r, .bool st.a.k, .int .i64 st.age, .bool st.rv] 57)).alloc (.cells #[.int .i64 z, .int .i64 v] 26)).alloc (.cells #[.int .i64 z', .int .i64 v'] 26)).alloc (.cells #[.int .u8 0, .int .i64 0, .bool false, .int .i64 0, .bool false] 57)) = wq at *
  obtain ⟨s0, s1, s2, s3⟩ := four_cells K0.1
  obtain ⟨p0, p1, -, -⟩ := two_old K0.2.2.1
  obtain ⟨p2, p3, -, -⟩ := two_old K0.2.2.2.1
  have hsz := K0.2.2.2.2.2.2
  have KQ := Lib.hid K0
  clear K0
  go_wp2_with fail
  have K := Lib.hid (show NwK w (nstC st) (scnC a n c s z v z' v' t fl k) (wq.alloc (.cells (scnC a n c s z v z' v' t fl k) 76)) from KQ.out.scene)
  clear KQ s0 s1 s2 s3 p0 p1 p2 p3
  refine (whole_call a n c s z v z' v' t fl k _ (HL.out.below K.out.2.2.2)).mono ?_; rintro e w1 ⟨rfl, hb1⟩
  replace K := Lib.hid (K.out.keep hb1)
  clear hb1
  rw [HE.out]
  obtain ⟨s0, s1, s2, s3, s4⟩ := five_cells K.out.1
  obtain ⟨hl1, hl4, hl5⟩ := K.out.lts
  go_wp2_with fail
  have K2 := Lib.hid (And.intro (K.out.keep (below_alloc w1 (.cells #[.int .u8 st.a.s, .int .i64 st.a.r, .bool st.a.k] 30))) (And.intro hl5 (show (w1.alloc (.cells #[.int .u8 st.a.s, .int .i64 st.a.r, .bool st.a.k] 30)).heap[w1.heap.size]? = some (.cells #[.int .u8 st.a.s, .int .i64 st.a.r, .bool st.a.k] 30 (0, 0)) from block_new _ _ rfl)))
  refine (Bounds_call st.a _ HS.out).mono ?_; rintro e w2 ⟨rfl, hb2⟩
  have K3 := Lib.hid (And.intro (K2.out.1.keep hb2) (And.intro K2.out.2.1 (keepO hb2 K2.out.2.2)))
  clear hb2 K2 K s0 s1 s2 s3 s4 hl1 hl4 hl5
  have K := Lib.hid K3.out.1
  obtain ⟨s0, s1, s2, s3, s4⟩ := five_cells K.out.1
  obtain ⟨hl1, hl4, hl5⟩ := K.out.lts
  rw [HBn.out]
  obtain ⟨q0, q1, q2, q3, q4, q5, q6, q7, q8, q9, qa⟩ := eleven K.out.2.2.1
  go_wp2_with fail
  refine (pchoose_call a n c s z v z' v' t fl k _ (HL.out.below K.out.2.2.2) HO.out HE.out).mono ?_; rintro e w3 ⟨rfl, hb3⟩
  replace K := Lib.hid (K.out.keep hb3)
  have K4 := Lib.hid (And.intro K3.out.2.1 (keepO hb3 K3.out.2.2))
  clear hb3 K3 q0 q1 q2 q3 q4 q5 q6 q7 q8 q9 qa s0 s1 s2 s3 s4 hl1 hl4 hl5
  rw [HC.out]
  generalize hY : chR s z v z' v' t fl k = Y at *
  obtain ⟨s0, s1, s2, s3, s4⟩ := five_cells K.out.1
  obtain ⟨hl1, hl4, hl5⟩ := K.out.lts
  go_upto_region 15 with fail
  have L : NwL w (nstC st) (scnC a n c s z v z' v' t fl k) w1.heap.size st.a w3.heap.size Y (w3.heap.size + 1) #[.int .u8 0, .int .i64 0, .bool false, .int .i64 0, .bool st.rv] ((w3.alloc (.cells #[.int .u8 Y.s, .int .i64 Y.r, .bool Y.k] 30)).alloc (.cells #[.int .u8 0, .int .i64 0, .bool false, .int .i64 0, .bool st.rv] 57)) :=
    ⟨(K.out.keep (below_alloc _ _)).keep (below_alloc _ _), K4.out.1, by have := lt_of_block K4.out.2; omega, by omega, block_alloc (block_alloc K4.out.2), block_alloc (block_new _ _ rfl), block_new _ _ (by simp)⟩
  have HY := Lib.hid hY
  clear hY K K4 s0 s1 s2 s3 s4 hl1 hl4 hl5
  generalize hbN : w1.heap.size = bN at *
  generalize hbX : w3.heap.size + 1 = bX at *
  generalize hbF : w3.heap.size = bF at *
  generalize ((w3.alloc (.cells #[.int .u8 Y.s, .int .i64 Y.r, .bool Y.k] 30)).alloc (.cells #[.int .u8 0, .int .i64 0, .bool false, .int .i64 0, .bool st.rv] 57)) = w4 at *
  clear hbN hbX hbF
  obtain ⟨s0, s1, s2, s3, s4⟩ := five_cells L.1.1
  obtain ⟨n0, n1, n2⟩ := three_old' L.2.2.2.2.1
  obtain ⟨f0, f1, f2⟩ := three_old' L.2.2.2.2.2.1
  obtain ⟨d0, d1, d2, d3, d4⟩ := five_cells L.2.2.2.2.2.2
  obtain ⟨q0, q1, q2, q3, q4, q5, q6, q7, q8, q9, qa⟩ := eleven L.1.2.2.1
  obtain ⟨hl1, hl4, hl5⟩ := L.1.lts
  obtain ⟨hlN, hlF, hlX⟩ := L.lts
  rw [show st.a.s = 0 from HG.out] at n0
  have HLL := Lib.hid L
  clear L
  go_step3
  go_wp2_with fail
  refine wp_loop_rounds 1 ?_
  rw [rounds_succ]
  go_wp2_with (first | (refine wpList_store_new rfl 57 (.tmp 24) (.tmp 81) rfl bX #[.int .u8 Y.s, .int .i64 Y.r, .bool Y.k, .int .i64 0, .bool false] rfl rfl 57 _ HLL.out.2.2.2.2.2.2 (by kernel_rfl) rfl (by simp [Value.oneCell']) ?_; intro w8 H8; replace HLL := Lib.hid (HLL.out.only H8.out.2 H8.out.1); obtain ⟨x0, x1, x2, x3, x4⟩ := five_cells H8.out.1; clear H8) | (refine wpList_store_new rfl 57 (.tmp 14) (.tmp 158) rfl (w.heap.size + 4) #[.int .u8 Y.s, .int .i64 Y.r, .bool Y.k, .int .i64 0, .bool false] rfl rfl 57 _ HLL.out.1.2.1 (by kernel_rfl) rfl (by simp [Value.oneCell']) ?_; intro w9 H9))
  try rw [Exit.noGoto_ret]
  refine bodyPost_ret (v := .tuple #[nstV ⟨Y, 0, false⟩, .int .i64 0]) ?_ rfl (nxPost_of ⟨(nx_ok HE.out HBn.out HA0.out HC.out).1, (nx_ok HE.out HBn.out HA0.out HC.out).2.trans (by rw [nxA_new HG.out, HY.out])⟩ (HLL.out.1.done H9.out.2))
  obtain ⟨r0, r1, r2, r3, r4⟩ := five_cells H9.out.1
  simp [results, Try.f26, go_sem, r0, r1, r2, r3, r4, nstV]

set_option maxRecDepth 100000 in
set_option maxHeartbeats 8000000 in
theorem pNext_bar1 (a : Option Addr) (n c : Nat) (s : RulesMath.Set) (z v z' v' t fl k : Int) (st : NSt) (w : World) (h : Ints w a n s.rs) (hs : 0 ≤ st.a.s) (hE : whlE s z v z' v' t k = 0) (hB : bndE st.a = 0) (hA0 : ¬ st.age < 0) (hA : ¬ 1000 < st.age) (hC : chE s z v z' v' t fl k = 0) (hg : st.a.s = 1) (hw : alwB z fl k 1 = false) :
    Calls Try.prog 26 #[setV a n c s, nstV st, .agg #[.int .i64 z, .int .i64 v], .agg #[.int .i64 z', .int .i64 v'], .int .i64 t, .int .i64 fl, .int .u8 k] w (NxPost s z v z' v' t fl k st w) := by
  have HL := Lib.hid h
  have HS := Lib.hid hs
  have HE := Lib.hid hE
  have HBn := Lib.hid hB
  have HO := Lib.hid (scOk_of (whlE_zero hE).1 ⟨(whlE_zero hE).2.1, (whlE_zero hE).2.2.1⟩)
  have HC := Lib.hid hC
  have HG := Lib.hid hg
  have HNZ := Lib.hid (show st.a.s ≠ 0 from by rw [hg]; decide)
  have HA0 := Lib.hid (show ¬ (st.age < 0 ∨ 1000 < st.age) from by omega)
  have age0 : 0 ≤ st.age := by omega
  have age1 : st.age ≤ 1000 := by omega
  have HW := Lib.hid hw
  clear hE hs hB hC hA0 hA hg hw
  clear h
  unfold setV nstV
  go_enter Try.func26, Try.ntmps26
  go_wp2_with fail
  go_step3
  go_upto_region 1 with fail
  have K0 : Nw0 w (setC a n c s) (nstC st) z v z' v' (((((w.alloc (.cells #[.slice a n c, .int .i64 s.alim, .int .i64 s.d, .int .i64 s.pl] 24)).alloc (.cells #[.int .u8 st.a.s, .int .i64 st.a.r, .bool st.a.k, .int .i64 st.age, .bool st.rv] 57)).alloc (.cells #[.int .i64 z, .int .i64 v] 26)).alloc (.cells #[.int .i64 z', .int .i64 v'] 26)).alloc (.cells #[.int .u8 0, .int .i64 0, .bool false, .int .i64 0, .bool false] 57)) :=
    ⟨block_alloc (block_alloc (block_alloc (block_alloc (block_new _ _ rfl)))), block_alloc (block_alloc (block_alloc (block_new _ _ (by simp)))), block_alloc (block_alloc (block_new _ _ (by simp))), block_alloc (block_new _ _ (by simp)), block_new _ _ (by simp), ((((below_alloc _ _).alloc (by simp) _).alloc (by simp; omega) _).alloc (by simp; omega) _).alloc (by simp; omega) _, by simp⟩
  generalize (((((w.alloc (.cells #[.slice a n c, .int .i64 s.alim, .int .i64 s.d, .int .i64 s.pl] 24)).alloc (.cells #[.int .u8 st.a.s, .int .i64 st.a.r, .bool st.a.k, .int .i64 st.age, .bool st.rv] 57)).alloc (.cells #[.int .i64 z, .int .i64 v] 26)).alloc (.cells #[.int .i64 z', .int .i64 v'] 26)).alloc (.cells #[.int .u8 0, .int .i64 0, .bool false, .int .i64 0, .bool false] 57)) = wq at *
  obtain ⟨s0, s1, s2, s3⟩ := four_cells K0.1
  obtain ⟨p0, p1, -, -⟩ := two_old K0.2.2.1
  obtain ⟨p2, p3, -, -⟩ := two_old K0.2.2.2.1
  have hsz := K0.2.2.2.2.2.2
  have KQ := Lib.hid K0
  clear K0
  go_wp2_with fail
  have K := Lib.hid (show NwK w (nstC st) (scnC a n c s z v z' v' t fl k) (wq.alloc (.cells (scnC a n c s z v z' v' t fl k) 76)) from KQ.out.scene)
  clear KQ s0 s1 s2 s3 p0 p1 p2 p3
  refine (whole_call a n c s z v z' v' t fl k _ (HL.out.below K.out.2.2.2)).mono ?_; rintro e w1 ⟨rfl, hb1⟩
  replace K := Lib.hid (K.out.keep hb1)
  clear hb1
  rw [HE.out]
  obtain ⟨s0, s1, s2, s3, s4⟩ := five_cells K.out.1
  obtain ⟨hl1, hl4, hl5⟩ := K.out.lts
  go_wp2_with fail
  have K2 := Lib.hid (And.intro (K.out.keep (below_alloc w1 (.cells #[.int .u8 st.a.s, .int .i64 st.a.r, .bool st.a.k] 30))) (And.intro hl5 (show (w1.alloc (.cells #[.int .u8 st.a.s, .int .i64 st.a.r, .bool st.a.k] 30)).heap[w1.heap.size]? = some (.cells #[.int .u8 st.a.s, .int .i64 st.a.r, .bool st.a.k] 30 (0, 0)) from block_new _ _ rfl)))
  refine (Bounds_call st.a _ HS.out).mono ?_; rintro e w2 ⟨rfl, hb2⟩
  have K3 := Lib.hid (And.intro (K2.out.1.keep hb2) (And.intro K2.out.2.1 (keepO hb2 K2.out.2.2)))
  clear hb2 K2 K s0 s1 s2 s3 s4 hl1 hl4 hl5
  have K := Lib.hid K3.out.1
  obtain ⟨s0, s1, s2, s3, s4⟩ := five_cells K.out.1
  obtain ⟨hl1, hl4, hl5⟩ := K.out.lts
  rw [HBn.out]
  obtain ⟨q0, q1, q2, q3, q4, q5, q6, q7, q8, q9, qa⟩ := eleven K.out.2.2.1
  go_wp2_with fail
  refine (pchoose_call a n c s z v z' v' t fl k _ (HL.out.below K.out.2.2.2) HO.out HE.out).mono ?_; rintro e w3 ⟨rfl, hb3⟩
  replace K := Lib.hid (K.out.keep hb3)
  have K4 := Lib.hid (And.intro K3.out.2.1 (keepO hb3 K3.out.2.2))
  clear hb3 K3 q0 q1 q2 q3 q4 q5 q6 q7 q8 q9 qa s0 s1 s2 s3 s4 hl1 hl4 hl5
  rw [HC.out]
  generalize hY : chR s z v z' v' t fl k = Y at *
  obtain ⟨s0, s1, s2, s3, s4⟩ := five_cells K.out.1
  obtain ⟨hl1, hl4, hl5⟩ := K.out.lts
  go_upto_region 15 with fail
  have L : NwL w (nstC st) (scnC a n c s z v z' v' t fl k) w1.heap.size st.a w3.heap.size Y (w3.heap.size + 1) #[.int .u8 0, .int .i64 0, .bool false, .int .i64 0, .bool st.rv] ((w3.alloc (.cells #[.int .u8 Y.s, .int .i64 Y.r, .bool Y.k] 30)).alloc (.cells #[.int .u8 0, .int .i64 0, .bool false, .int .i64 0, .bool st.rv] 57)) :=
    ⟨(K.out.keep (below_alloc _ _)).keep (below_alloc _ _), K4.out.1, by have := lt_of_block K4.out.2; omega, by omega, block_alloc (block_alloc K4.out.2), block_alloc (block_new _ _ rfl), block_new _ _ (by simp)⟩
  have HY := Lib.hid hY
  clear hY K K4 s0 s1 s2 s3 s4 hl1 hl4 hl5
  generalize hbN : w1.heap.size = bN at *
  generalize hbX : w3.heap.size + 1 = bX at *
  generalize hbF : w3.heap.size = bF at *
  generalize ((w3.alloc (.cells #[.int .u8 Y.s, .int .i64 Y.r, .bool Y.k] 30)).alloc (.cells #[.int .u8 0, .int .i64 0, .bool false, .int .i64 0, .bool st.rv] 57)) = w4 at *
  clear hbN hbX hbF
  obtain ⟨s0, s1, s2, s3, s4⟩ := five_cells L.1.1
  obtain ⟨n0, n1, n2⟩ := three_old' L.2.2.2.2.1
  obtain ⟨f0, f1, f2⟩ := three_old' L.2.2.2.2.2.1
  obtain ⟨d0, d1, d2, d3, d4⟩ := five_cells L.2.2.2.2.2.2
  obtain ⟨q0, q1, q2, q3, q4, q5, q6, q7, q8, q9, qa⟩ := eleven L.1.2.2.1
  obtain ⟨hl1, hl4, hl5⟩ := L.1.lts
  obtain ⟨hlN, hlF, hlX⟩ := L.lts
  rw [show st.a.s = 1 from HG.out] at n0
  have HLL := Lib.hid L
  clear L
  go_step3
  go_wp2_with fail
  refine wp_loop_rounds 1 ?_
  rw [rounds_succ]
  clear f0 f1 f2
  go_wp2_with fail
  refine (allowed_call a n c s z v z' v' t fl k 1 _).mono ?_; rintro e w5 ⟨rfl, hb5⟩
  replace HLL := Lib.hid (HLL.out.keep hb5)
  clear hb5
  rw [HW.out]
  clear s0 s1 s2 s3 s4 n0 n1 n2 d0 d1 d2 d3 d4 q0 q1 q2 q3 q4 q5 q6 q7 q8 q9 qa hl1 hl4 hl5 hlN hlF hlX
  obtain ⟨s0, s1, s2, s3, s4⟩ := five_cells HLL.out.1.1
  obtain ⟨n0, n1, n2⟩ := three_old' HLL.out.2.2.2.2.1
  obtain ⟨d0, d1, d2, d3, d4⟩ := five_cells HLL.out.2.2.2.2.2.2
  obtain ⟨q0, q1, q2, q3, q4, q5, q6, q7, q8, q9, qa⟩ := eleven HLL.out.1.2.2.1
  obtain ⟨hl1, hl4, hl5⟩ := HLL.out.1.lts
  obtain ⟨hlN, hlF, hlX⟩ := HLL.out.lts
  rw [show st.a.s = 1 from HG.out] at n0
  go_wp2_with fail
  refine ((enough_call a n c s z v z' v' t fl k 2 _ (HL.out.below HLL.out.1.2.2.2) HO.out (by decide))).mono ?_; rintro e w5 ⟨rfl, hb5⟩
  replace HLL := Lib.hid (HLL.out.keep hb5)
  clear hb5
  clear s0 s1 s2 s3 s4 n0 n1 n2 d0 d1 d2 d3 d4 q0 q1 q2 q3 q4 q5 q6 q7 q8 q9 qa hl1 hl4 hl5 hlN hlF hlX
  obtain ⟨s0, s1, s2, s3, s4⟩ := five_cells HLL.out.1.1
  obtain ⟨n0, n1, n2⟩ := three_old' HLL.out.2.2.2.2.1
  obtain ⟨d0, d1, d2, d3, d4⟩ := five_cells HLL.out.2.2.2.2.2.2
  obtain ⟨q0, q1, q2, q3, q4, q5, q6, q7, q8, q9, qa⟩ := eleven HLL.out.1.2.2.1
  obtain ⟨hl1, hl4, hl5⟩ := HLL.out.1.lts
  obtain ⟨hlN, hlF, hlX⟩ := HLL.out.lts
  rw [show st.a.s = 1 from HG.out] at n0
  go_wp2_with (first | (refine wpList_store_new rfl 57 (.tmp 24) (.tmp 91) rfl bX #[.int .u8 (enA s z v z' v' 2 t).s, .int .i64 (enA s z v z' v' 2 t).r, .bool (enA s z v z' v' 2 t).k, .int .i64 0, .bool true] rfl rfl 57 _ HLL.out.2.2.2.2.2.2 (by kernel_rfl) rfl (by simp [Value.oneCell']) ?_; intro w8 H8; replace HLL := Lib.hid (HLL.out.only H8.out.2 H8.out.1); obtain ⟨x0, x1, x2, x3, x4⟩ := five_cells H8.out.1; clear H8) | (refine wpList_store_new rfl 57 (.tmp 14) (.tmp 158) rfl (w.heap.size + 4) #[.int .u8 (enA s z v z' v' 2 t).s, .int .i64 (enA s z v z' v' 2 t).r, .bool (enA s z v z' v' 2 t).k, .int .i64 0, .bool true] rfl rfl 57 _ HLL.out.1.2.1 (by kernel_rfl) rfl (by simp [Value.oneCell']) ?_; intro w9 H9))
  try rw [Exit.noGoto_ret]
  refine bodyPost_ret (v := .tuple #[nstV ⟨enA s z v z' v' 2 t, 0, true⟩, .int .i64 0]) ?_ rfl (nxPost_of ⟨(nx_ok HE.out HBn.out HA0.out HC.out).1, (nx_ok HE.out HBn.out HA0.out HC.out).2.trans (by rw [nxA_bar HNZ.out (by rw [HG.out]; exact HW.out), HG.out]; rfl)⟩ (HLL.out.1.done H9.out.2))
  obtain ⟨r0, r1, r2, r3, r4⟩ := five_cells H9.out.1
  simp [results, Try.f26, go_sem, r0, r1, r2, r3, r4, nstV]

set_option maxRecDepth 100000 in
set_option maxHeartbeats 8000000 in
theorem pNext_bar2 (a : Option Addr) (n c : Nat) (s : RulesMath.Set) (z v z' v' t fl k : Int) (st : NSt) (w : World) (h : Ints w a n s.rs) (hs : 0 ≤ st.a.s) (hE : whlE s z v z' v' t k = 0) (hB : bndE st.a = 0) (hA0 : ¬ st.age < 0) (hA : ¬ 1000 < st.age) (hC : chE s z v z' v' t fl k = 0) (hg : st.a.s = 2) (hw : alwB z fl k 2 = false) :
    Calls Try.prog 26 #[setV a n c s, nstV st, .agg #[.int .i64 z, .int .i64 v], .agg #[.int .i64 z', .int .i64 v'], .int .i64 t, .int .i64 fl, .int .u8 k] w (NxPost s z v z' v' t fl k st w) := by
  have HL := Lib.hid h
  have HS := Lib.hid hs
  have HE := Lib.hid hE
  have HBn := Lib.hid hB
  have HO := Lib.hid (scOk_of (whlE_zero hE).1 ⟨(whlE_zero hE).2.1, (whlE_zero hE).2.2.1⟩)
  have HC := Lib.hid hC
  have HG := Lib.hid hg
  have HNZ := Lib.hid (show st.a.s ≠ 0 from by rw [hg]; decide)
  have HA0 := Lib.hid (show ¬ (st.age < 0 ∨ 1000 < st.age) from by omega)
  have age0 : 0 ≤ st.age := by omega
  have age1 : st.age ≤ 1000 := by omega
  have HW := Lib.hid hw
  clear hE hs hB hC hA0 hA hg hw
  clear h
  unfold setV nstV
  go_enter Try.func26, Try.ntmps26
  go_wp2_with fail
  go_step3
  go_upto_region 1 with fail
  have K0 : Nw0 w (setC a n c s) (nstC st) z v z' v' (((((w.alloc (.cells #[.slice a n c, .int .i64 s.alim, .int .i64 s.d, .int .i64 s.pl] 24)).alloc (.cells #[.int .u8 st.a.s, .int .i64 st.a.r, .bool st.a.k, .int .i64 st.age, .bool st.rv] 57)).alloc (.cells #[.int .i64 z, .int .i64 v] 26)).alloc (.cells #[.int .i64 z', .int .i64 v'] 26)).alloc (.cells #[.int .u8 0, .int .i64 0, .bool false, .int .i64 0, .bool false] 57)) :=
    ⟨block_alloc (block_alloc (block_alloc (block_alloc (block_new _ _ rfl)))), block_alloc (block_alloc (block_alloc (block_new _ _ (by simp)))), block_alloc (block_alloc (block_new _ _ (by simp))), block_alloc (block_new _ _ (by simp)), block_new _ _ (by simp), ((((below_alloc _ _).alloc (by simp) _).alloc (by simp; omega) _).alloc (by simp; omega) _).alloc (by simp; omega) _, by simp⟩
  generalize (((((w.alloc (.cells #[.slice a n c, .int .i64 s.alim, .int .i64 s.d, .int .i64 s.pl] 24)).alloc (.cells #[.int .u8 st.a.s, .int .i64 st.a.r, .bool st.a.k, .int .i64 st.age, .bool st.rv] 57)).alloc (.cells #[.int .i64 z, .int .i64 v] 26)).alloc (.cells #[.int .i64 z', .int .i64 v'] 26)).alloc (.cells #[.int .u8 0, .int .i64 0, .bool false, .int .i64 0, .bool false] 57)) = wq at *
  obtain ⟨s0, s1, s2, s3⟩ := four_cells K0.1
  obtain ⟨p0, p1, -, -⟩ := two_old K0.2.2.1
  obtain ⟨p2, p3, -, -⟩ := two_old K0.2.2.2.1
  have hsz := K0.2.2.2.2.2.2
  have KQ := Lib.hid K0
  clear K0
  go_wp2_with fail
  have K := Lib.hid (show NwK w (nstC st) (scnC a n c s z v z' v' t fl k) (wq.alloc (.cells (scnC a n c s z v z' v' t fl k) 76)) from KQ.out.scene)
  clear KQ s0 s1 s2 s3 p0 p1 p2 p3
  refine (whole_call a n c s z v z' v' t fl k _ (HL.out.below K.out.2.2.2)).mono ?_; rintro e w1 ⟨rfl, hb1⟩
  replace K := Lib.hid (K.out.keep hb1)
  clear hb1
  rw [HE.out]
  obtain ⟨s0, s1, s2, s3, s4⟩ := five_cells K.out.1
  obtain ⟨hl1, hl4, hl5⟩ := K.out.lts
  go_wp2_with fail
  have K2 := Lib.hid (And.intro (K.out.keep (below_alloc w1 (.cells #[.int .u8 st.a.s, .int .i64 st.a.r, .bool st.a.k] 30))) (And.intro hl5 (show (w1.alloc (.cells #[.int .u8 st.a.s, .int .i64 st.a.r, .bool st.a.k] 30)).heap[w1.heap.size]? = some (.cells #[.int .u8 st.a.s, .int .i64 st.a.r, .bool st.a.k] 30 (0, 0)) from block_new _ _ rfl)))
  refine (Bounds_call st.a _ HS.out).mono ?_; rintro e w2 ⟨rfl, hb2⟩
  have K3 := Lib.hid (And.intro (K2.out.1.keep hb2) (And.intro K2.out.2.1 (keepO hb2 K2.out.2.2)))
  clear hb2 K2 K s0 s1 s2 s3 s4 hl1 hl4 hl5
  have K := Lib.hid K3.out.1
  obtain ⟨s0, s1, s2, s3, s4⟩ := five_cells K.out.1
  obtain ⟨hl1, hl4, hl5⟩ := K.out.lts
  rw [HBn.out]
  obtain ⟨q0, q1, q2, q3, q4, q5, q6, q7, q8, q9, qa⟩ := eleven K.out.2.2.1
  go_wp2_with fail
  refine (pchoose_call a n c s z v z' v' t fl k _ (HL.out.below K.out.2.2.2) HO.out HE.out).mono ?_; rintro e w3 ⟨rfl, hb3⟩
  replace K := Lib.hid (K.out.keep hb3)
  have K4 := Lib.hid (And.intro K3.out.2.1 (keepO hb3 K3.out.2.2))
  clear hb3 K3 q0 q1 q2 q3 q4 q5 q6 q7 q8 q9 qa s0 s1 s2 s3 s4 hl1 hl4 hl5
  rw [HC.out]
  generalize hY : chR s z v z' v' t fl k = Y at *
  obtain ⟨s0, s1, s2, s3, s4⟩ := five_cells K.out.1
  obtain ⟨hl1, hl4, hl5⟩ := K.out.lts
  go_upto_region 15 with fail
  have L : NwL w (nstC st) (scnC a n c s z v z' v' t fl k) w1.heap.size st.a w3.heap.size Y (w3.heap.size + 1) #[.int .u8 0, .int .i64 0, .bool false, .int .i64 0, .bool st.rv] ((w3.alloc (.cells #[.int .u8 Y.s, .int .i64 Y.r, .bool Y.k] 30)).alloc (.cells #[.int .u8 0, .int .i64 0, .bool false, .int .i64 0, .bool st.rv] 57)) :=
    ⟨(K.out.keep (below_alloc _ _)).keep (below_alloc _ _), K4.out.1, by have := lt_of_block K4.out.2; omega, by omega, block_alloc (block_alloc K4.out.2), block_alloc (block_new _ _ rfl), block_new _ _ (by simp)⟩
  have HY := Lib.hid hY
  clear hY K K4 s0 s1 s2 s3 s4 hl1 hl4 hl5
  generalize hbN : w1.heap.size = bN at *
  generalize hbX : w3.heap.size + 1 = bX at *
  generalize hbF : w3.heap.size = bF at *
  generalize ((w3.alloc (.cells #[.int .u8 Y.s, .int .i64 Y.r, .bool Y.k] 30)).alloc (.cells #[.int .u8 0, .int .i64 0, .bool false, .int .i64 0, .bool st.rv] 57)) = w4 at *
  clear hbN hbX hbF
  obtain ⟨s0, s1, s2, s3, s4⟩ := five_cells L.1.1
  obtain ⟨n0, n1, n2⟩ := three_old' L.2.2.2.2.1
  obtain ⟨f0, f1, f2⟩ := three_old' L.2.2.2.2.2.1
  obtain ⟨d0, d1, d2, d3, d4⟩ := five_cells L.2.2.2.2.2.2
  obtain ⟨q0, q1, q2, q3, q4, q5, q6, q7, q8, q9, qa⟩ := eleven L.1.2.2.1
  obtain ⟨hl1, hl4, hl5⟩ := L.1.lts
  obtain ⟨hlN, hlF, hlX⟩ := L.lts
  rw [show st.a.s = 2 from HG.out] at n0
  have HLL := Lib.hid L
  clear L
  go_step3
  go_wp2_with fail
  refine wp_loop_rounds 1 ?_
  rw [rounds_succ]
  clear f0 f1 f2
  go_wp2_with fail
  refine (allowed_call a n c s z v z' v' t fl k 2 _).mono ?_; rintro e w5 ⟨rfl, hb5⟩
  replace HLL := Lib.hid (HLL.out.keep hb5)
  clear hb5
  rw [HW.out]
  clear s0 s1 s2 s3 s4 n0 n1 n2 d0 d1 d2 d3 d4 q0 q1 q2 q3 q4 q5 q6 q7 q8 q9 qa hl1 hl4 hl5 hlN hlF hlX
  obtain ⟨s0, s1, s2, s3, s4⟩ := five_cells HLL.out.1.1
  obtain ⟨n0, n1, n2⟩ := three_old' HLL.out.2.2.2.2.1
  obtain ⟨d0, d1, d2, d3, d4⟩ := five_cells HLL.out.2.2.2.2.2.2
  obtain ⟨q0, q1, q2, q3, q4, q5, q6, q7, q8, q9, qa⟩ := eleven HLL.out.1.2.2.1
  obtain ⟨hl1, hl4, hl5⟩ := HLL.out.1.lts
  obtain ⟨hlN, hlF, hlX⟩ := HLL.out.lts
  rw [show st.a.s = 2 from HG.out] at n0
  go_wp2_with fail
  refine ((enough_call a n c s z v z' v' t fl k 1 _ (HL.out.below HLL.out.1.2.2.2) HO.out (by decide))).mono ?_; rintro e w5 ⟨rfl, hb5⟩
  replace HLL := Lib.hid (HLL.out.keep hb5)
  clear hb5
  clear s0 s1 s2 s3 s4 n0 n1 n2 d0 d1 d2 d3 d4 q0 q1 q2 q3 q4 q5 q6 q7 q8 q9 qa hl1 hl4 hl5 hlN hlF hlX
  obtain ⟨s0, s1, s2, s3, s4⟩ := five_cells HLL.out.1.1
  obtain ⟨n0, n1, n2⟩ := three_old' HLL.out.2.2.2.2.1
  obtain ⟨d0, d1, d2, d3, d4⟩ := five_cells HLL.out.2.2.2.2.2.2
  obtain ⟨q0, q1, q2, q3, q4, q5, q6, q7, q8, q9, qa⟩ := eleven HLL.out.1.2.2.1
  obtain ⟨hl1, hl4, hl5⟩ := HLL.out.1.lts
  obtain ⟨hlN, hlF, hlX⟩ := HLL.out.lts
  rw [show st.a.s = 2 from HG.out] at n0
  go_wp2_with (first | (refine wpList_store_new rfl 57 (.tmp 24) (.tmp 91) rfl bX #[.int .u8 (enA s z v z' v' 1 t).s, .int .i64 (enA s z v z' v' 1 t).r, .bool (enA s z v z' v' 1 t).k, .int .i64 0, .bool true] rfl rfl 57 _ HLL.out.2.2.2.2.2.2 (by kernel_rfl) rfl (by simp [Value.oneCell']) ?_; intro w8 H8; replace HLL := Lib.hid (HLL.out.only H8.out.2 H8.out.1); obtain ⟨x0, x1, x2, x3, x4⟩ := five_cells H8.out.1; clear H8) | (refine wpList_store_new rfl 57 (.tmp 14) (.tmp 158) rfl (w.heap.size + 4) #[.int .u8 (enA s z v z' v' 1 t).s, .int .i64 (enA s z v z' v' 1 t).r, .bool (enA s z v z' v' 1 t).k, .int .i64 0, .bool true] rfl rfl 57 _ HLL.out.1.2.1 (by kernel_rfl) rfl (by simp [Value.oneCell']) ?_; intro w9 H9))
  try rw [Exit.noGoto_ret]
  refine bodyPost_ret (v := .tuple #[nstV ⟨enA s z v z' v' 1 t, 0, true⟩, .int .i64 0]) ?_ rfl (nxPost_of ⟨(nx_ok HE.out HBn.out HA0.out HC.out).1, (nx_ok HE.out HBn.out HA0.out HC.out).2.trans (by rw [nxA_bar HNZ.out (by rw [HG.out]; exact HW.out), HG.out]; rfl)⟩ (HLL.out.1.done H9.out.2))
  obtain ⟨r0, r1, r2, r3, r4⟩ := five_cells H9.out.1
  simp [results, Try.f26, go_sem, r0, r1, r2, r3, r4, nstV]
end Go.Proofs.Ytfgalaalopkclaa
