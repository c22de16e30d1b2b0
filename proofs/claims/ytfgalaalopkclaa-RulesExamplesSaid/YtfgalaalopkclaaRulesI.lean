/-
  Layer 38 (rules): the reference's Choose. Printed by genRulesI.py.
-/
import Derived.Test.YtfgalaalopkclaaRulesH
namespace Go.Proofs.Ytfgalaalopkclaa
open Go.RowKit PlaneMath PilotMath RulesMath MyHeap MyOwn MyCopy

/-- What Choose leaves. -/
def ChPost (s : RulesMath.Set) (z v z' v' t fl k : Int) (w : World) (e : Ending) (w' : World) : Prop :=
  e = .returned (.tuple #[.agg #[.int .u8 (chR s z v z' v' t fl k).s, .int .i64 (chR s z v z' v' t fl k).r, .bool (chR s z v z' v' t fl k).k], .int .i64 (chE s z v z' v' t fl k)]) ∧ Below w.heap.size w w'
section
variable {s : RulesMath.Set} {z v z' v' t fl k : Int}
theorem chE_whl (h : whlE s z v z' v' t k ≠ 0) : chE s z v z' v' t fl k = whlE s z v z' v' t k := if_pos h
theorem chE_none (h : whlE s z v z' v' t k = 0) (h2 : chG s z v z' v' t fl k = 0) : chE s z v z' v' t fl k = 9 := by unfold chE; rw [if_neg (by simpa using h), if_pos h2]
theorem chE_ok (h : whlE s z v z' v' t k = 0) (h2 : chG s z v z' v' t fl k ≠ 0) : chE s z v z' v' t fl k = 0 := by unfold chE; rw [if_neg (by simpa using h), if_neg h2]
theorem chPost_err {E : Int} {w w' : World} (h : chE s z v z' v' t fl k = E) (h0 : E ≠ 0) (hB : Below w.heap.size w w') : ChPost s z v z' v' t fl k w (.returned (.tuple #[.agg #[.int .u8 0, .int .i64 0, .bool false], .int .i64 E])) w' := by
  refine ⟨?_, hB⟩
  unfold chR
  rw [if_neg (by rw [h]; exact h0), h]
  rfl
theorem chPost_ok {g : Int} {w w' : World} (h : whlE s z v z' v' t k = 0) (hG : chG s z v z' v' t fl k = g) (h0 : g ≠ 0) (hB : Below w.heap.size w w') : ChPost s z v z' v' t fl k w (.returned (.tuple #[.agg #[.int .u8 (enA s z v z' v' g t).s, .int .i64 (enA s z v z' v' g t).r, .bool (enA s z v z' v' g t).k], .int .i64 0])) w' := by
  have hE := chE_ok (fl := fl) h (by rw [hG]; exact h0)
  refine ⟨?_, hB⟩
  unfold chR chA
  rw [if_pos hE, if_neg (by rw [hG]; exact h0), hE, hG]
theorem chG_ff (h1 : alwB z fl k 1 = false) (h2 : alwB z fl k 2 = false) : chG s z v z' v' t fl k = 0 := by unfold chG; rw [if_neg (by rw [h2]; simp), if_neg (by rw [h1]; simp)]
theorem chG_tf (h1 : alwB z fl k 1 = true) (h2 : alwB z fl k 2 = false) : chG s z v z' v' t fl k = 1 := by unfold chG; rw [if_neg (by rw [h2]; simp), if_pos h1]
theorem chG_ft (h1 : alwB z fl k 1 = false) (h2 : alwB z fl k 2 = true) : chG s z v z' v' t fl k = 2 := by unfold chG; rw [if_pos ⟨h2, Or.inl h1⟩]
theorem chG_tt2 (h2 : alwB z fl k 2 = true) (h : bestV s z v z' v' 1 t < bestV s z v z' v' 2 t) : chG s z v z' v' t fl k = 2 := by unfold chG; rw [if_pos ⟨h2, Or.inr h⟩]
theorem chG_tt1 (h1 : alwB z fl k 1 = true) (h : ¬ bestV s z v z' v' 1 t < bestV s z v z' v' 2 t) : chG s z v z' v' t fl k = 1 := by unfold chG; rw [if_neg (by rw [h1]; simp; omega), if_pos h1]
end
theorem five_old {w : World} {b : Nat} {c0 c1 c2 : Value} {T : TypeId} (h : w.heap[b]? = some (.cells #[c0, c1, c2] T (0, 0))) : w.cell? ⟨b, 0, none⟩ = some c0 ∧ w.cell? ⟨b, 1, none⟩ = some c1 ∧ w.cell? ⟨b, 2, none⟩ = some c2 := three_old' h

set_option maxRecDepth 100000 in
set_option maxHeartbeats 4000000 in
theorem rChoose_whl (a : Option Addr) (n c : Nat) (s : RulesMath.Set) (z v z' v' t fl k : Int) (w : World) (h : Ints w a n s.rs) (hE : whlE s z v z' v' t k ≠ 0) : Calls Try.prog 16 #[setV a n c s, .agg #[.int .i64 z, .int .i64 v], .agg #[.int .i64 z', .int .i64 v'], .int .i64 t, .int .i64 fl, .int .u8 k] w (ChPost s z v z' v' t fl k w) := by
  have HL := Lib.hid h
  have HE := Lib.hid hE
  have hne : (whlE s z v z' v' t k != 0) = true := by simp [hE]
  clear h hE
  unfold setV
  go_enter Try.func16, Try.ntmps16
  go_wp2_with fail
  have hK0 : RfK w (setC a n c s) z v z' v' ((((w.alloc (.cells (setC a n c s) 34)).alloc (.cells #[.int .i64 z, .int .i64 v] 26)).alloc (.cells #[.int .i64 z', .int .i64 v'] 26)).alloc (.cells #[.int .u8 0, .int .i64 0, .bool false] 30)) :=
    ⟨block_alloc (block_alloc (block_alloc (block_new _ _ rfl))), block_alloc (block_alloc (block_new _ _ (by simp))), block_alloc (block_new _ _ (by simp)), (((below_alloc _ _).alloc (by simp) _).alloc (by simp; omega) _).alloc (by simp; omega) _⟩
  have hR0 : ((((w.alloc (.cells (setC a n c s) 34)).alloc (.cells #[.int .i64 z, .int .i64 v] 26)).alloc (.cells #[.int .i64 z', .int .i64 v'] 26)).alloc (.cells #[.int .u8 0, .int .i64 0, .bool false] 30)).heap[w.heap.size + 3]? = some (.cells #[.int .u8 0, .int .i64 0, .bool false] 30 (0, 0)) := block_new _ _ (by simp)
  have HK0 := Lib.hid (And.intro hK0 hR0)
  clear hK0 hR0
  refine (rwrong_call a n c s z v z' v' t k _ (HL.out.below HK0.out.1.2.2.2)).mono ?_
  rintro e w1 ⟨rfl, hb1⟩
  have HK := Lib.hid (And.intro (HK0.out.1.keep hb1) (keepO hb1 HK0.out.2))
  clear hb1 HK0
  go_wp2_with (refine wpList_store_new rfl 30 (.tmp 12) (.tmp 26) rfl (w.heap.size + 3) #[.int .u8 0, .int .i64 0, .bool false] rfl rfl 30 _ HK.out.2 (by kernel_rfl) rfl (by simp [Value.oneCell']) ?_; intro w8 H8)
  refine bodyPost_ret (v := .tuple #[.agg #[.int .u8 0, .int .i64 0, .bool false], .int .i64 (whlE s z v z' v' t k)]) ?_ rfl (chPost_err (chE_whl HE.out) HE.out (HK.out.1.only H8.out.2 (by omega)).2.2.2)
  obtain ⟨r0, r1, r2⟩ := three_old' H8.out.1
  simp [results, Try.f16, go_sem, r0, r1, r2]
set_option maxRecDepth 100000 in
set_option maxHeartbeats 8000000 in
theorem rChoose_ff (a : Option Addr) (n c : Nat) (s : RulesMath.Set) (z v z' v' t fl k : Int) (w : World) (h : Ints w a n s.rs) (hE : whlE s z v z' v' t k = 0) (hu : alwB z fl k 1 = false) (hd : alwB z fl k 2 = false) : Calls Try.prog 16 #[setV a n c s, .agg #[.int .i64 z, .int .i64 v], .agg #[.int .i64 z', .int .i64 v'], .int .i64 t, .int .i64 fl, .int .u8 k] w (ChPost s z v z' v' t fl k w) := by
  have HL := Lib.hid h
  have HE := Lib.hid hE
  have HU := Lib.hid hu
  have HD := Lib.hid hd
  have hz := whlE_zero hE
  have HO := Lib.hid (scOk_of hz.1 ⟨hz.2.1, hz.2.2.1⟩)
  clear h hE hu hd hz
  unfold setV
  go_enter Try.func16, Try.ntmps16
  go_wp2_with fail
  have hK0 : RfK w (setC a n c s) z v z' v' ((((w.alloc (.cells (setC a n c s) 34)).alloc (.cells #[.int .i64 z, .int .i64 v] 26)).alloc (.cells #[.int .i64 z', .int .i64 v'] 26)).alloc (.cells #[.int .u8 0, .int .i64 0, .bool false] 30)) :=
    ⟨block_alloc (block_alloc (block_alloc (block_new _ _ rfl))), block_alloc (block_alloc (block_new _ _ (by simp))), block_alloc (block_new _ _ (by simp)), (((below_alloc _ _).alloc (by simp) _).alloc (by simp; omega) _).alloc (by simp; omega) _⟩
  have hR0 : ((((w.alloc (.cells (setC a n c s) 34)).alloc (.cells #[.int .i64 z, .int .i64 v] 26)).alloc (.cells #[.int .i64 z', .int .i64 v'] 26)).alloc (.cells #[.int .u8 0, .int .i64 0, .bool false] 30)).heap[w.heap.size + 3]? = some (.cells #[.int .u8 0, .int .i64 0, .bool false] 30 (0, 0)) := block_new _ _ (by simp)
  have HK0 := Lib.hid (And.intro hK0 hR0)
  clear hK0 hR0
  refine (rwrong_call a n c s z v z' v' t k _ (HL.out.below HK0.out.1.2.2.2)).mono ?_
  rintro e w1 ⟨rfl, hb1⟩
  have HK := Lib.hid (And.intro (HK0.out.1.keep hb1) (keepO hb1 HK0.out.2))
  clear hb1 HK0
  rw [HE.out]
  go_upto_region 4 with fail
  go_cut [15, 16] (fun x15 x16 wx => x15 = .bool false ∧ x16 = .bool false ∧ RfK w (setC a n c s) z v z' v' wx ∧ wx.heap[w.heap.size + 3]? = some (.cells #[.int .u8 0, .int .i64 0, .bool false] 30 (0, 0)))
  case first =>
    have K : RfK w (setC a n c s) z v z' v' w1.drew := HK.out.1.keep (Below.refl _ _).drew
    have R : w1.drew.heap[w.heap.size + 3]? = some (.cells #[.int .u8 0, .int .i64 0, .bool false] 30 (0, 0)) := HK.out.2
    go_region_held3 (fun w' => w'.cell? ⟨w.heap.size + 1, 0, none⟩ = some (.int .i64 z) ∧ w'.cell? ⟨w.heap.size + 1, 1, none⟩ = some (.int .i64 v)) (exact ⟨(two_old K.2.1).1, (two_old K.2.1).2.1⟩)
      ((go_at_call 40; refine (rallowed_call z v fl k _ _ (by first | exact Or.inl rfl | exact Or.inr rfl)).mono ?_; rintro e w3 ⟨rfl, hb3⟩; (first | rw [HU.out] | rw [HD.out]); replace K := K.keep hb3; replace R := keepO hb3 R; clear hb3))
    all_goals go_wp2_with fail
    all_goals go_meet
    all_goals exact ⟨rfl, rfl, K, R⟩
  case rest =>
    obtain ⟨rfl, rfl, hK, hR⟩ := hcut
    have HK2 := Lib.hid (And.intro hK hR)
    clear hK hR HK
    have HG := Lib.hid (chG_ff (s := s) (z := z) (v := v) (z' := z') (v' := v') (t := t) HU.out HD.out)
    go_wp2_with (refine wpList_store_new rfl 30 (.tmp 12) (.tmp 42) rfl (w.heap.size + 3) #[.int .u8 0, .int .i64 0, .bool false] rfl rfl 30 _ HK2.out.2 (by kernel_rfl) rfl (by simp [Value.oneCell']) ?_; intro w8 H8)
    refine bodyPost_ret (v := .tuple #[.agg #[.int .u8 0, .int .i64 0, .bool false], .int .i64 (9)]) ?_ rfl (chPost_err (chE_none HE.out HG.out) (by decide) (HK2.out.1.only H8.out.2 (by omega)).2.2.2)
    obtain ⟨r0, r1, r2⟩ := three_old' H8.out.1
    simp [results, Try.f16, go_sem, r0, r1, r2]
set_option maxRecDepth 100000 in
set_option maxHeartbeats 8000000 in
theorem rChoose_tf (a : Option Addr) (n c : Nat) (s : RulesMath.Set) (z v z' v' t fl k : Int) (w : World) (h : Ints w a n s.rs) (hE : whlE s z v z' v' t k = 0) (hu : alwB z fl k 1 = true) (hd : alwB z fl k 2 = false) : Calls Try.prog 16 #[setV a n c s, .agg #[.int .i64 z, .int .i64 v], .agg #[.int .i64 z', .int .i64 v'], .int .i64 t, .int .i64 fl, .int .u8 k] w (ChPost s z v z' v' t fl k w) := by
  have HL := Lib.hid h
  have HE := Lib.hid hE
  have HU := Lib.hid hu
  have HD := Lib.hid hd
  have hz := whlE_zero hE
  have HO := Lib.hid (scOk_of hz.1 ⟨hz.2.1, hz.2.2.1⟩)
  clear h hE hu hd hz
  unfold setV
  go_enter Try.func16, Try.ntmps16
  go_wp2_with fail
  have hK0 : RfK w (setC a n c s) z v z' v' ((((w.alloc (.cells (setC a n c s) 34)).alloc (.cells #[.int .i64 z, .int .i64 v] 26)).alloc (.cells #[.int .i64 z', .int .i64 v'] 26)).alloc (.cells #[.int .u8 0, .int .i64 0, .bool false] 30)) :=
    ⟨block_alloc (block_alloc (block_alloc (block_new _ _ rfl))), block_alloc (block_alloc (block_new _ _ (by simp))), block_alloc (block_new _ _ (by simp)), (((below_alloc _ _).alloc (by simp) _).alloc (by simp; omega) _).alloc (by simp; omega) _⟩
  have hR0 : ((((w.alloc (.cells (setC a n c s) 34)).alloc (.cells #[.int .i64 z, .int .i64 v] 26)).alloc (.cells #[.int .i64 z', .int .i64 v'] 26)).alloc (.cells #[.int .u8 0, .int .i64 0, .bool false] 30)).heap[w.heap.size + 3]? = some (.cells #[.int .u8 0, .int .i64 0, .bool false] 30 (0, 0)) := block_new _ _ (by simp)
  have HK0 := Lib.hid (And.intro hK0 hR0)
  clear hK0 hR0
  refine (rwrong_call a n c s z v z' v' t k _ (HL.out.below HK0.out.1.2.2.2)).mono ?_
  rintro e w1 ⟨rfl, hb1⟩
  have HK := Lib.hid (And.intro (HK0.out.1.keep hb1) (keepO hb1 HK0.out.2))
  clear hb1 HK0
  rw [HE.out]
  go_upto_region 4 with fail
  go_cut [15, 16] (fun x15 x16 wx => x15 = .bool true ∧ x16 = .bool false ∧ RfK w (setC a n c s) z v z' v' wx ∧ wx.heap[w.heap.size + 3]? = some (.cells #[.int .u8 0, .int .i64 0, .bool false] 30 (0, 0)))
  case first =>
    have K : RfK w (setC a n c s) z v z' v' w1.drew := HK.out.1.keep (Below.refl _ _).drew
    have R : w1.drew.heap[w.heap.size + 3]? = some (.cells #[.int .u8 0, .int .i64 0, .bool false] 30 (0, 0)) := HK.out.2
    go_region_held3 (fun w' => w'.cell? ⟨w.heap.size + 1, 0, none⟩ = some (.int .i64 z) ∧ w'.cell? ⟨w.heap.size + 1, 1, none⟩ = some (.int .i64 v)) (exact ⟨(two_old K.2.1).1, (two_old K.2.1).2.1⟩)
      ((go_at_call 40; refine (rallowed_call z v fl k _ _ (by first | exact Or.inl rfl | exact Or.inr rfl)).mono ?_; rintro e w3 ⟨rfl, hb3⟩; (first | rw [HU.out] | rw [HD.out]); replace K := K.keep hb3; replace R := keepO hb3 R; clear hb3))
    all_goals go_wp2_with fail
    all_goals go_meet
    all_goals exact ⟨rfl, rfl, K, R⟩
  case rest =>
    obtain ⟨rfl, rfl, hK, hR⟩ := hcut
    have HK2 := Lib.hid (And.intro hK hR)
    clear hK hR HK
    have HG := Lib.hid (chG_tf (s := s) (z := z) (v := v) (z' := z') (v' := v') (t := t) HU.out HD.out)
    go_wp2_with fail
    go_upto_region 8 with fail
    go_cut [60] (fun tv wx => tv = .bool false ∧ RfK w (setC a n c s) z v z' v' wx ∧ wx.heap[w.heap.size + 3]? = some (.cells #[.int .u8 0, .int .i64 0, .bool false] 30 (0, 0)))
    case first =>
      go_quiet (fail)
      go_wp2_with fail
      go_meet
      exact ⟨rfl, HK2.out.1.keep (below_drewN (Below.refl _ _) _), HK2.out.2⟩
    case rest =>
      obtain ⟨rfl, hK, hR⟩ := hcut
      have HK3 := Lib.hid (And.intro hK hR)
      clear hK hR HK2
      obtain ⟨y0, y1, y2, y3⟩ := four_cells HK3.out.1.1
      obtain ⟨p0, p1, _, _⟩ := two_old HK3.out.1.2.1
      obtain ⟨q0, q1, _, _⟩ := two_old HK3.out.1.2.2.1
      go_wp2_with fail
      refine (renough_call a n c s z v z' v' t 1 _ (HL.out.below HK3.out.1.2.2.2) HO.out (by decide)).mono ?_; rintro e w5 ⟨rfl, hb5⟩
      have HK5 := Lib.hid (And.intro (HK3.out.1.keep hb5) (keepO hb5 HK3.out.2))
      clear hb5 y0 y1 y2 y3 p0 p1 q0 q1
      go_wp2_with (refine wpList_store_new rfl 30 (.tmp 12) (.tmp 66) rfl (w.heap.size + 3) #[.int .u8 (enA s z v z' v' 1 t).s, .int .i64 (enA s z v z' v' 1 t).r, .bool (enA s z v z' v' 1 t).k] rfl rfl 30 _ HK5.out.2 (by kernel_rfl) rfl (by simp [Value.oneCell']) ?_; intro w8 H8)
      refine bodyPost_ret (v := .tuple #[.agg #[.int .u8 (enA s z v z' v' 1 t).s, .int .i64 (enA s z v z' v' 1 t).r, .bool (enA s z v z' v' 1 t).k], .int .i64 (0)]) ?_ rfl (chPost_ok HE.out HG.out (by decide) (HK5.out.1.only H8.out.2 (by omega)).2.2.2)
      obtain ⟨r0, r1, r2⟩ := three_old' H8.out.1
      simp [results, Try.f16, go_sem, r0, r1, r2]
set_option maxRecDepth 100000 in
set_option maxHeartbeats 8000000 in
theorem rChoose_ft (a : Option Addr) (n c : Nat) (s : RulesMath.Set) (z v z' v' t fl k : Int) (w : World) (h : Ints w a n s.rs) (hE : whlE s z v z' v' t k = 0) (hu : alwB z fl k 1 = false) (hd : alwB z fl k 2 = true) : Calls Try.prog 16 #[setV a n c s, .agg #[.int .i64 z, .int .i64 v], .agg #[.int .i64 z', .int .i64 v'], .int .i64 t, .int .i64 fl, .int .u8 k] w (ChPost s z v z' v' t fl k w) := by
  have HL := Lib.hid h
  have HE := Lib.hid hE
  have HU := Lib.hid hu
  have HD := Lib.hid hd
  have hz := whlE_zero hE
  have HO := Lib.hid (scOk_of hz.1 ⟨hz.2.1, hz.2.2.1⟩)
  clear h hE hu hd hz
  unfold setV
  go_enter Try.func16, Try.ntmps16
  go_wp2_with fail
  have hK0 : RfK w (setC a n c s) z v z' v' ((((w.alloc (.cells (setC a n c s) 34)).alloc (.cells #[.int .i64 z, .int .i64 v] 26)).alloc (.cells #[.int .i64 z', .int .i64 v'] 26)).alloc (.cells #[.int .u8 0, .int .i64 0, .bool false] 30)) :=
    ⟨block_alloc (block_alloc (block_alloc (block_new _ _ rfl))), block_alloc (block_alloc (block_new _ _ (by simp))), block_alloc (block_new _ _ (by simp)), (((below_alloc _ _).alloc (by simp) _).alloc (by simp; omega) _).alloc (by simp; omega) _⟩
  have hR0 : ((((w.alloc (.cells (setC a n c s) 34)).alloc (.cells #[.int .i64 z, .int .i64 v] 26)).alloc (.cells #[.int .i64 z', .int .i64 v'] 26)).alloc (.cells #[.int .u8 0, .int .i64 0, .bool false] 30)).heap[w.heap.size + 3]? = some (.cells #[.int .u8 0, .int .i64 0, .bool false] 30 (0, 0)) := block_new _ _ (by simp)
  have HK0 := Lib.hid (And.intro hK0 hR0)
  clear hK0 hR0
  refine (rwrong_call a n c s z v z' v' t k _ (HL.out.below HK0.out.1.2.2.2)).mono ?_
  rintro e w1 ⟨rfl, hb1⟩
  have HK := Lib.hid (And.intro (HK0.out.1.keep hb1) (keepO hb1 HK0.out.2))
  clear hb1 HK0
  rw [HE.out]
  go_upto_region 4 with fail
  go_cut [15, 16] (fun x15 x16 wx => x15 = .bool false ∧ x16 = .bool true ∧ RfK w (setC a n c s) z v z' v' wx ∧ wx.heap[w.heap.size + 3]? = some (.cells #[.int .u8 0, .int .i64 0, .bool false] 30 (0, 0)))
  case first =>
    have K : RfK w (setC a n c s) z v z' v' w1.drew := HK.out.1.keep (Below.refl _ _).drew
    have R : w1.drew.heap[w.heap.size + 3]? = some (.cells #[.int .u8 0, .int .i64 0, .bool false] 30 (0, 0)) := HK.out.2
    go_region_held3 (fun w' => w'.cell? ⟨w.heap.size + 1, 0, none⟩ = some (.int .i64 z) ∧ w'.cell? ⟨w.heap.size + 1, 1, none⟩ = some (.int .i64 v)) (exact ⟨(two_old K.2.1).1, (two_old K.2.1).2.1⟩)
      ((go_at_call 40; refine (rallowed_call z v fl k _ _ (by first | exact Or.inl rfl | exact Or.inr rfl)).mono ?_; rintro e w3 ⟨rfl, hb3⟩; (first | rw [HU.out] | rw [HD.out]); replace K := K.keep hb3; replace R := keepO hb3 R; clear hb3))
    all_goals go_wp2_with fail
    all_goals go_meet
    all_goals exact ⟨rfl, rfl, K, R⟩
  case rest =>
    obtain ⟨rfl, rfl, hK, hR⟩ := hcut
    have HK2 := Lib.hid (And.intro hK hR)
    clear hK hR HK
    have HG := Lib.hid (chG_ft (s := s) (z := z) (v := v) (z' := z') (v' := v') (t := t) HU.out HD.out)
    go_wp2_with fail
    go_upto_region 8 with fail
    go_cut [60] (fun tv wx => tv = .bool true ∧ RfK w (setC a n c s) z v z' v' wx ∧ wx.heap[w.heap.size + 3]? = some (.cells #[.int .u8 0, .int .i64 0, .bool false] 30 (0, 0)))
    case first =>
      go_quiet (fail)
      go_wp2_with fail
      go_meet
      exact ⟨rfl, HK2.out.1.keep (below_drewN (Below.refl _ _) _), HK2.out.2⟩
    case rest =>
      obtain ⟨rfl, hK, hR⟩ := hcut
      have HK3 := Lib.hid (And.intro hK hR)
      clear hK hR HK2
      obtain ⟨y0, y1, y2, y3⟩ := four_cells HK3.out.1.1
      obtain ⟨p0, p1, _, _⟩ := two_old HK3.out.1.2.1
      obtain ⟨q0, q1, _, _⟩ := two_old HK3.out.1.2.2.1
      go_wp2_with fail
      refine (renough_call a n c s z v z' v' t 2 _ (HL.out.below HK3.out.1.2.2.2) HO.out (by decide)).mono ?_; rintro e w5 ⟨rfl, hb5⟩
      have HK5 := Lib.hid (And.intro (HK3.out.1.keep hb5) (keepO hb5 HK3.out.2))
      clear hb5 y0 y1 y2 y3 p0 p1 q0 q1
      go_wp2_with (refine wpList_store_new rfl 30 (.tmp 12) (.tmp 66) rfl (w.heap.size + 3) #[.int .u8 (enA s z v z' v' 2 t).s, .int .i64 (enA s z v z' v' 2 t).r, .bool (enA s z v z' v' 2 t).k] rfl rfl 30 _ HK5.out.2 (by kernel_rfl) rfl (by simp [Value.oneCell']) ?_; intro w8 H8)
      refine bodyPost_ret (v := .tuple #[.agg #[.int .u8 (enA s z v z' v' 2 t).s, .int .i64 (enA s z v z' v' 2 t).r, .bool (enA s z v z' v' 2 t).k], .int .i64 (0)]) ?_ rfl (chPost_ok HE.out HG.out (by decide) (HK5.out.1.only H8.out.2 (by omega)).2.2.2)
      obtain ⟨r0, r1, r2⟩ := three_old' H8.out.1
      simp [results, Try.f16, go_sem, r0, r1, r2]
set_option maxRecDepth 100000 in
set_option maxHeartbeats 8000000 in
theorem rChoose_tt (a : Option Addr) (n c : Nat) (s : RulesMath.Set) (z v z' v' t fl k : Int) (w : World) (h : Ints w a n s.rs) (hE : whlE s z v z' v' t k = 0) (hu : alwB z fl k 1 = true) (hd : alwB z fl k 2 = true) : Calls Try.prog 16 #[setV a n c s, .agg #[.int .i64 z, .int .i64 v], .agg #[.int .i64 z', .int .i64 v'], .int .i64 t, .int .i64 fl, .int .u8 k] w (ChPost s z v z' v' t fl k w) := by
  have HL := Lib.hid h
  have HE := Lib.hid hE
  have HU := Lib.hid hu
  have HD := Lib.hid hd
  have hz := whlE_zero hE
  have HO := Lib.hid (scOk_of hz.1 ⟨hz.2.1, hz.2.2.1⟩)
  clear h hE hu hd hz
  unfold setV
  go_enter Try.func16, Try.ntmps16
  go_wp2_with fail
  have hK0 : RfK w (setC a n c s) z v z' v' ((((w.alloc (.cells (setC a n c s) 34)).alloc (.cells #[.int .i64 z, .int .i64 v] 26)).alloc (.cells #[.int .i64 z', .int .i64 v'] 26)).alloc (.cells #[.int .u8 0, .int .i64 0, .bool false] 30)) :=
    ⟨block_alloc (block_alloc (block_alloc (block_new _ _ rfl))), block_alloc (block_alloc (block_new _ _ (by simp))), block_alloc (block_new _ _ (by simp)), (((below_alloc _ _).alloc (by simp) _).alloc (by simp; omega) _).alloc (by simp; omega) _⟩
  have hR0 : ((((w.alloc (.cells (setC a n c s) 34)).alloc (.cells #[.int .i64 z, .int .i64 v] 26)).alloc (.cells #[.int .i64 z', .int .i64 v'] 26)).alloc (.cells #[.int .u8 0, .int .i64 0, .bool false] 30)).heap[w.heap.size + 3]? = some (.cells #[.int .u8 0, .int .i64 0, .bool false] 30 (0, 0)) := block_new _ _ (by simp)
  have HK0 := Lib.hid (And.intro hK0 hR0)
  clear hK0 hR0
  refine (rwrong_call a n c s z v z' v' t k _ (HL.out.below HK0.out.1.2.2.2)).mono ?_
  rintro e w1 ⟨rfl, hb1⟩
  have HK := Lib.hid (And.intro (HK0.out.1.keep hb1) (keepO hb1 HK0.out.2))
  clear hb1 HK0
  rw [HE.out]
  go_upto_region 4 with fail
  go_cut [15, 16] (fun x15 x16 wx => x15 = .bool true ∧ x16 = .bool true ∧ RfK w (setC a n c s) z v z' v' wx ∧ wx.heap[w.heap.size + 3]? = some (.cells #[.int .u8 0, .int .i64 0, .bool false] 30 (0, 0)))
  case first =>
    have K : RfK w (setC a n c s) z v z' v' w1.drew := HK.out.1.keep (Below.refl _ _).drew
    have R : w1.drew.heap[w.heap.size + 3]? = some (.cells #[.int .u8 0, .int .i64 0, .bool false] 30 (0, 0)) := HK.out.2
    go_region_held3 (fun w' => w'.cell? ⟨w.heap.size + 1, 0, none⟩ = some (.int .i64 z) ∧ w'.cell? ⟨w.heap.size + 1, 1, none⟩ = some (.int .i64 v)) (exact ⟨(two_old K.2.1).1, (two_old K.2.1).2.1⟩)
      ((go_at_call 40; refine (rallowed_call z v fl k _ _ (by first | exact Or.inl rfl | exact Or.inr rfl)).mono ?_; rintro e w3 ⟨rfl, hb3⟩; (first | rw [HU.out] | rw [HD.out]); replace K := K.keep hb3; replace R := keepO hb3 R; clear hb3))
    all_goals go_wp2_with fail
    all_goals go_meet
    all_goals exact ⟨rfl, rfl, K, R⟩
  case rest =>
    obtain ⟨rfl, rfl, hK, hR⟩ := hcut
    have HK2 := Lib.hid (And.intro hK hR)
    clear hK hR HK
    generalize hb1v : bestV s z v z' v' 1 t = B1 at *
    generalize hb2v : bestV s z v z' v' 2 t = B2 at *
    have HBV := Lib.hid (And.intro hb1v hb2v)
    clear hb1v hb2v
    go_upto_region 8 with fail
    go_cut [60] (fun tv wx => tv = .bool (decide (B1 < B2)) ∧ RfK w (setC a n c s) z v z' v' wx ∧ wx.heap[w.heap.size + 3]? = some (.cells #[.int .u8 0, .int .i64 0, .bool false] 30 (0, 0)))
    case first =>
      have K : RfK w (setC a n c s) z v z' v' wc.drew := HK2.out.1.keep (Below.refl _ _).drew
      have R : wc.drew.heap[w.heap.size + 3]? = some (.cells #[.int .u8 0, .int .i64 0, .bool false] 30 (0, 0)) := HK2.out.2
      go_region_held3 (fun w' => (w'.cell? ⟨w.heap.size, 0, none⟩ = some (.slice a n c) ∧ w'.cell? ⟨w.heap.size, 1, none⟩ = some (.int .i64 s.alim) ∧ w'.cell? ⟨w.heap.size, 2, none⟩ = some (.int .i64 s.d) ∧ w'.cell? ⟨w.heap.size, 3, none⟩ = some (.int .i64 s.pl)) ∧ (w'.cell? ⟨w.heap.size + 1, 0, none⟩ = some (.int .i64 z) ∧ w'.cell? ⟨w.heap.size + 1, 1, none⟩ = some (.int .i64 v)) ∧ (w'.cell? ⟨w.heap.size + 1 + 1, 0, none⟩ = some (.int .i64 z') ∧ w'.cell? ⟨w.heap.size + 1 + 1, 1, none⟩ = some (.int .i64 v'))) (exact ⟨four_cells K.1, ⟨(two_old K.2.1).1, (two_old K.2.1).2.1⟩, ⟨(two_old K.2.2.1).1, (two_old K.2.2.1).2.1⟩⟩)
        ((go_at_call 41; refine (rbest_call a n c s z v z' v' t _ _ (HL.out.below K.2.2.2) HO.out (by first | exact Or.inl rfl | exact Or.inr rfl)).mono ?_; rintro e w3 ⟨rfl, hb3⟩; (first | rw [HBV.out.1] | rw [HBV.out.2]); replace K := K.keep hb3; replace R := keepO hb3 R; clear hb3))
      all_goals go_wp2_with fail
      all_goals go_meet
      all_goals exact ⟨rfl, K, R⟩
    case rest =>
      obtain ⟨rfl, hK, hR⟩ := hcut
      have HK3 := Lib.hid (And.intro hK hR)
      clear hK hR HK2
      by_cases hlt : B1 < B2
      · have HG := Lib.hid (chG_tt2 (s := s) (z := z) (v := v) (z' := z') (v' := v') (t := t) HD.out (by rw [HBV.out.1, HBV.out.2]; exact hlt))
        rw [decide_eq_true hlt]
        clear hlt
        obtain ⟨y0, y1, y2, y3⟩ := four_cells HK3.out.1.1
        obtain ⟨p0, p1, _, _⟩ := two_old HK3.out.1.2.1
        obtain ⟨q0, q1, _, _⟩ := two_old HK3.out.1.2.2.1
        go_wp2_with fail
        refine (renough_call a n c s z v z' v' t 2 _ (HL.out.below HK3.out.1.2.2.2) HO.out (by decide)).mono ?_; rintro e w5 ⟨rfl, hb5⟩
        have HK5 := Lib.hid (And.intro (HK3.out.1.keep hb5) (keepO hb5 HK3.out.2))
        clear hb5 y0 y1 y2 y3 p0 p1 q0 q1
        go_wp2_with (refine wpList_store_new rfl 30 (.tmp 12) (.tmp 66) rfl (w.heap.size + 3) #[.int .u8 (enA s z v z' v' 2 t).s, .int .i64 (enA s z v z' v' 2 t).r, .bool (enA s z v z' v' 2 t).k] rfl rfl 30 _ HK5.out.2 (by kernel_rfl) rfl (by simp [Value.oneCell']) ?_; intro w8 H8)
        refine bodyPost_ret (v := .tuple #[.agg #[.int .u8 (enA s z v z' v' 2 t).s, .int .i64 (enA s z v z' v' 2 t).r, .bool (enA s z v z' v' 2 t).k], .int .i64 (0)]) ?_ rfl (chPost_ok HE.out HG.out (by decide) (HK5.out.1.only H8.out.2 (by omega)).2.2.2)
        obtain ⟨r0, r1, r2⟩ := three_old' H8.out.1
        simp [results, Try.f16, go_sem, r0, r1, r2]
      · have HG := Lib.hid (chG_tt1 (s := s) (z := z) (v := v) (z' := z') (v' := v') (t := t) HU.out (by rw [HBV.out.1, HBV.out.2]; exact hlt))
        rw [decide_eq_false hlt]
        clear hlt
        obtain ⟨y0, y1, y2, y3⟩ := four_cells HK3.out.1.1
        obtain ⟨p0, p1, _, _⟩ := two_old HK3.out.1.2.1
        obtain ⟨q0, q1, _, _⟩ := two_old HK3.out.1.2.2.1
        go_wp2_with fail
        refine (renough_call a n c s z v z' v' t 1 _ (HL.out.below HK3.out.1.2.2.2) HO.out (by decide)).mono ?_; rintro e w5 ⟨rfl, hb5⟩
        have HK5 := Lib.hid (And.intro (HK3.out.1.keep hb5) (keepO hb5 HK3.out.2))
        clear hb5 y0 y1 y2 y3 p0 p1 q0 q1
        go_wp2_with (refine wpList_store_new rfl 30 (.tmp 12) (.tmp 66) rfl (w.heap.size + 3) #[.int .u8 (enA s z v z' v' 1 t).s, .int .i64 (enA s z v z' v' 1 t).r, .bool (enA s z v z' v' 1 t).k] rfl rfl 30 _ HK5.out.2 (by kernel_rfl) rfl (by simp [Value.oneCell']) ?_; intro w8 H8)
        refine bodyPost_ret (v := .tuple #[.agg #[.int .u8 (enA s z v z' v' 1 t).s, .int .i64 (enA s z v z' v' 1 t).r, .bool (enA s z v z' v' 1 t).k], .int .i64 (0)]) ?_ rfl (chPost_ok HE.out HG.out (by decide) (HK5.out.1.only H8.out.2 (by omega)).2.2.2)
        obtain ⟨r0, r1, r2⟩ := three_old' H8.out.1
        simp [results, Try.f16, go_sem, r0, r1, r2]
theorem rChoose_call (a : Option Addr) (n c : Nat) (s : RulesMath.Set) (z v z' v' t fl k : Int) (w : World) (h : Ints w a n s.rs) : Calls Try.prog 16 #[setV a n c s, .agg #[.int .i64 z, .int .i64 v], .agg #[.int .i64 z', .int .i64 v'], .int .i64 t, .int .i64 fl, .int .u8 k] w (ChPost s z v z' v' t fl k w) := by
  by_cases hE : whlE s z v z' v' t k = 0
  · cases hu : alwB z fl k 1 <;> cases hd : alwB z fl k 2
    · exact rChoose_ff a n c s z v z' v' t fl k w h hE hu hd
    · exact rChoose_ft a n c s z v z' v' t fl k w h hE hu hd
    · exact rChoose_tf a n c s z v z' v' t fl k w h hE hu hd
    · exact rChoose_tt a n c s z v z' v' t fl k w h hE hu hd
  · exact rChoose_whl a n c s z v z' v' t fl k w h hE
end Go.Proofs.Ytfgalaalopkclaa
