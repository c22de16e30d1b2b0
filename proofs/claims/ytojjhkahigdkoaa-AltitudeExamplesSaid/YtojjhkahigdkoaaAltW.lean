/-
  Layer 18 (altitude): the program's Best, where Spread has an error; Best whole.
-/
import Derived.Test.YtojjhkahigdkoaaAltN
namespace Go.Proofs.Ytojjhkahigdkoaa
open Go.RowKit AltMath MyHeap MyCopy MyOwn

set_option maxRecDepth 100000 in
set_option maxHeartbeats 4000000 in
theorem pBest_no (aL aH : Option Addr) (nL nH cL cH : Nat) (lo hi : List Int) (w : World) (hL : Ints w aL nL lo) (hH : Ints w aH nH hi) (hE : spE lo hi ≠ 0) :
    Calls Try.prog 30 #[bdV aL nL cL aH nH cH] w (BePost lo hi w) := by
  have d1 : (spE lo hi != 0) = true := bne_iff_ne.2 hE
  have HE := Lib.hid (show beP lo hi = (0, 0) from if_neg hE)
  have H := Lib.hid (And.intro hL hH)
  have B := Lib.hid (And.intro ((below_alloc w (.cells (bdC aL nL cL aH nH cH) 24)).alloc (by simp) (.cells #[.int .i64 0, .int .i64 0] 40)) (block_new (w.alloc (.cells (bdC aL nL cL aH nH cH) 24)) (.cells #[.int .i64 0, .int .i64 0] 40) (n := w.heap.size + 1) (by simp)))
  clear hL hH hE
  unfold bdV
  unfold bdC at *
  go_enter Try.func30, Try.ntmps30
  go_wp2_with fail
  refine (pSpread_call aL aH nL nH cL cH lo hi _ (H.out.1.below B.out.1) (H.out.2.below B.out.1)).mono ?_; rintro e w1 ⟨rfl, hb⟩
  replace B := Lib.hid (And.intro (B.out.1.trans (hb.mono B.out.1.size)) (keepO hb B.out.2))
  obtain ⟨p0, p1, q0, q1⟩ := two_facts B.out.2
  have hlt := lt_of_block B.out.2
  unfold exC
  clear hb
  go_wp2_with fail
  have hO : Only (w.heap.size + 1) w1 ((w1.setCell ⟨w.heap.size + 1, 0, none⟩ (.int .i64 0)).setCell ⟨w.heap.size + 1, 1, none⟩ (.int .i64 0)) := ((Only.refl _ _).setCell 0 _).setCell 1 _
  have hx := block_alloc (o' := .cells #[.int .i64 (spX lo hi).low, .int .i64 (spX lo hi).high, .int .i64 (spX lo hi).slow, .int .i64 (spX lo hi).fast] 48) (block_setCell (i := 1) (v := .int .i64 0) (block_setCell (i := 0) (v := .int .i64 0) B.out.2))
  have r0 := cell_of_block (i := 0) (v := .int .i64 0) hx rfl
  have r1 := cell_of_block (i := 1) (v := .int .i64 0) hx rfl
  have hB := B.out.1.trans (hO.below (by omega) B.out.1.size)
  refine bodyPost_ret (v := .tuple #[.agg #[.int .i64 0, .int .i64 0], .int .i64 (spE lo hi)]) ?_ rfl ⟨by rw [HE.out], hB.alloc hB.size _⟩
  simp [results, Try.f30, go_sem, r0, r1]
theorem sp_zero {lo hi : List Int} (h : spE lo hi = 0) : chB lo hi = 0 := by
  apply Decidable.byContradiction
  intro hc
  rw [(sp_ch hc).1] at h
  exact hc h
theorem pBest_call (aL aH : Option Addr) (nL nH cL cH : Nat) (lo hi : List Int) (w : World) (hL : Ints w aL nL lo) (hH : Ints w aH nH hi) :
    Calls Try.prog 30 #[bdV aL nL cL aH nH cH] w (BePost lo hi w) := by
  by_cases hE : spE lo hi = 0
  · obtain ⟨e1, e2, -⟩ := chB_ok (sp_zero hE)
    obtain rfl : nL = 201 := by rw [← hL.len]; exact e1
    obtain rfl : nH = 201 := by rw [← hH.len]; exact e2
    obtain ⟨b1, o1, rfl, -⟩ := ints_at hL (k := 0) (by decide)
    obtain ⟨b2, o2, rfl, -⟩ := ints_at hH (k := 0) (by decide)
    exact pBest_ok b1 o1 b2 o2 cL cH lo hi w hE (sp_zero hE) hL hH
  · exact pBest_no aL aH nL nH cL cH lo hi w hL hH hE
end Go.Proofs.Ytojjhkahigdkoaa
