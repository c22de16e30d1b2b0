/-
  TrkC
-/
import Derived.Test.YtikjjpjekchcjaaPb22
namespace Go.Proofs.Ytikjjpjekchcjaa
open Go.RowKit TrkMath MyHeap MyOwn
theorem mul_bd2 {a d A B : Int} (h1 : 0 ≤ a) (h2 : a ≤ A) (h3 : -B ≤ d) (h4 : d ≤ B) : -(A * B) ≤ a * d ∧ a * d ≤ A * B := by
 have hA : 0 ≤ A := by omega
 have hB : 0 ≤ B := by omega
 have a1 : a * d ≤ A * B := by
  rcases Int.lt_or_le d 0 with h | h
  ·have : a * d ≤ 0 := Int.mul_nonpos_of_nonneg_of_nonpos h1 (by omega)
   have : 0 ≤ A * B := Int.mul_nonneg hA hB
   omega
  ·exact Int.mul_le_mul h2 h4 h hA
 have a2 : a * -d ≤ A * B := by
  rcases Int.lt_or_le (-d) 0 with h | h
  ·have : a * -d ≤ 0 := Int.mul_nonpos_of_nonneg_of_nonpos h1 (by omega)
   have : 0 ≤ A * B := Int.mul_nonneg hA hB
   omega
  ·exact Int.mul_le_mul h2 (by omega) h hA
 rw [Int.mul_neg] at a2
 omega
theorem upE_ch {x : Rg} {r c : Int} (h : rgE x ≠ 0) : upE x r c = rgE x ∧ upX x r c = rg0 := by
 have e : upE x r c = rgE x := if_pos h
 exact ⟨e, if_neg (by rw [e]; exact h)⟩
theorem upE_arg {x : Rg} {r c : Int} (h : rgE x = 0) (hc : r < 0 ∨ 8192 < r ∨ c < 1 ∨ 16 < c) : upE x r c = 1 ∧ upX x r c = rg0 := by
 have e : upE x r c = 1 := by unfold upE; rw [if_neg (by rw [h]; decide), if_pos hc]
 exact ⟨e, if_neg (by rw [e]; decide)⟩
theorem up_ok {x : Rg} {r c N P D : Int} (h : rgE x = 0) (hc : ¬ (r < 0 ∨ 8192 < r ∨ c < 1 ∨ 16 < c)) (hN : min (x.n + 1) 8 = N) (hP : x.r + c * x.v = P) (hD : 256 * r - P = D) :
    upE x r c = 0 ∧ upX x r c = ⟨lim (P + rnd (2 * (2 * N - 1) * D) (N * (N + 1))) 0 2097152, lim (x.v + rnd (6 * D) (N * (N + 1) * c)) (-16384) 16384, min (x.n + 1) 1000⟩ := by
 have e : upE x r c = 0 := by unfold upE; rw [if_neg (by rw [h]; decide), if_neg hc]
 refine ⟨e, ?_⟩
 unfold upX upN upD
 rw [if_pos e, hN, hP, hD]
theorem rg_stored {w W : World} {b : Nat} {a0 a1 a2 : Value} (h : Below w.heap.size w W) (hb : W.heap[b]? = some (.cells #[a0, a1, a2] 42 (0, 0))) (hle : w.heap.size ≤ b) (x y z : Int) : Below w.heap.size w (((W.setCell ⟨b, 0, none⟩ (.int .i64 x)).setCell ⟨b, 1, none⟩ (.int .i64 y)).setCell ⟨b, 2, none⟩ (.int .i64 z)) ∧
    (((W.setCell ⟨b, 0, none⟩ (.int .i64 x)).setCell ⟨b, 1, none⟩ (.int .i64 y)).setCell ⟨b, 2, none⟩ (.int .i64 z)).heap[b]? = some (.cells #[.int .i64 x, .int .i64 y, .int .i64 z] 42 (0, 0)) := by
 have o : Only b W (((W.setCell ⟨b, 0, none⟩ (.int .i64 x)).setCell ⟨b, 1, none⟩ (.int .i64 y)).setCell ⟨b, 2, none⟩ (.int .i64 z)) := (((Only.refl _ _).setCell _ _).setCell _ _).setCell _ _
 refine ⟨h.trans (o.below hle h.size), ?_⟩
 have h1 := block_setCell (i := 2) (v := .int .i64 z) (block_setCell (i := 1) (v := .int .i64 y) (block_setCell (i := 0) (v := .int .i64 x) hb))
 simpa using h1
theorem rnd_bd {p q B : Int} (hq : 1 ≤ q) (h1 : -B ≤ 2 * p + q ∧ 2 * p + q ≤ B) (h2 : -B ≤ 2 * p - q ∧ 2 * p - q ≤ B) : -B ≤ rnd p q ∧ rnd p q ≤ B := by
 by_cases hp : p < 0
 ·rw [rnd_neg hp]
  exact tdiv_le (by omega) (by omega) (by omega)
 ·unfold rnd
  rw [if_neg hp]
  exact tdiv_le (by omega) h1.1 h1.2
set_option maxRecDepth 100000 in
set_option maxHeartbeats 8000000 in
theorem pUpdate_bad (x : Rg) (r c : Int) (w : World) (h : rgE x ≠ 0 ∨ (r < 0 ∨ 8192 < r ∨ c < 1 ∨ 16 < c)) : Calls Try.prog 60 #[rgV x, .int .i64 r, .int .i64 c] w (RgPost (upX x r c) (upE x r c) w) := by
 have HB := Lib.hid (below_alloc w (.cells #[.int .i64 x.r, .int .i64 x.v, .int .i64 x.n] 42))
 have HB2 := Lib.hid (HB.out.alloc HB.out.size (.cells #[.int .i64 0, .int .i64 0, .int .i64 0] 42))
 have HX0 := Lib.hid (block_alloc (o' := .cells #[.int .i64 0, .int .i64 0, .int .i64 0] 42) (block_new w (.cells #[.int .i64 x.r, .int .i64 x.v, .int .i64 x.n] 42 (0, 0)) rfl))
 have HR0 := Lib.hid (block_new (w.alloc (.cells #[.int .i64 x.r, .int .i64 x.v, .int .i64 x.n] 42)) (.cells #[.int .i64 0, .int .i64 0, .int .i64 0] 42 (0, 0)) (n := w.heap.size + 1) (by simp))
 by_cases hE : rgE x = 0
 ·have hc : r < 0 ∨ 8192 < r ∨ c < 1 ∨ 16 < c := by
   rcases h with q | q
   ·exact absurd hE q
   ·exact q
  have HE := Lib.hid hE
  have HX := Lib.hid (upE_arg hE hc)
  have HC := Lib.hid hc
  unfold rgV
  clear hE h hc
  go_enter Try.func60, Try.ntmps60
  go_wp2_with fail
  refine (pRgCheck_call x _).mono ?_; rintro e w1 ⟨rfl, hb⟩
  rw [HE.out]
  have K := Lib.hid (And.intro (HB2.out.trans (hb.mono HB2.out.size)) (And.intro (keepO hb HR0.out) (keepO hb HX0.out)))
  have r0 : w1.cell? ⟨w.heap.size + 1, 0, none⟩ = some (.int .i64 0) := cell_of_block K.out.2.1 rfl
  have r1 : w1.cell? ⟨w.heap.size + 1, 1, none⟩ = some (.int .i64 0) := cell_of_block K.out.2.1 rfl
  have r2 : w1.cell? ⟨w.heap.size + 1, 2, none⟩ = some (.int .i64 0) := cell_of_block K.out.2.1 rfl
  have f0 : w1.frozen? ⟨w.heap.size + 1, 0, none⟩ = false := free_of_block K.out.2.1
  have f1 : w1.frozen? ⟨w.heap.size + 1, 1, none⟩ = false := free_of_block K.out.2.1
  have f2 : w1.frozen? ⟨w.heap.size + 1, 2, none⟩ = false := free_of_block K.out.2.1
  have rl := lt_of_block K.out.2.1
  have KS := Lib.hid (rg_stored K.out.1 K.out.2.1 (Nat.le_succ _) 0 0 0)
  clear hb
  by_cases h1 : r < 0
  ·go_wp2_with fail
   have s0 := cell_of_block (i := 0) KS.out.2 rfl
   have s1 := cell_of_block (i := 1) KS.out.2 rfl
   have s2 := cell_of_block (i := 2) KS.out.2 rfl
   refine bodyPost_ret (v := .tuple #[.agg #[.int .i64 0, .int .i64 0, .int .i64 0], .int .i64 1]) ?_ rfl (rgPost_of (x := ⟨0, 0, 0⟩) HX.out.2 HX.out.1 KS.out.1)
   simp [results, Try.f60, go_sem, s0, s1, s2]
  ·by_cases h2 : 8192 < r
   ·go_wp2_with fail
    have s0 := cell_of_block (i := 0) KS.out.2 rfl
    have s1 := cell_of_block (i := 1) KS.out.2 rfl
    have s2 := cell_of_block (i := 2) KS.out.2 rfl
    refine bodyPost_ret (v := .tuple #[.agg #[.int .i64 0, .int .i64 0, .int .i64 0], .int .i64 1]) ?_ rfl (rgPost_of (x := ⟨0, 0, 0⟩) HX.out.2 HX.out.1 KS.out.1)
    simp [results, Try.f60, go_sem, s0, s1, s2]
   ·by_cases h3 : c < 1
    ·go_wp2_with fail
     have s0 := cell_of_block (i := 0) KS.out.2 rfl
     have s1 := cell_of_block (i := 1) KS.out.2 rfl
     have s2 := cell_of_block (i := 2) KS.out.2 rfl
     refine bodyPost_ret (v := .tuple #[.agg #[.int .i64 0, .int .i64 0, .int .i64 0], .int .i64 1]) ?_ rfl (rgPost_of (x := ⟨0, 0, 0⟩) HX.out.2 HX.out.1 KS.out.1)
     simp [results, Try.f60, go_sem, s0, s1, s2]
    ·have h4 : 16 < c := by have := HC.out; omega
     go_wp2_with fail
     have s0 := cell_of_block (i := 0) KS.out.2 rfl
     have s1 := cell_of_block (i := 1) KS.out.2 rfl
     have s2 := cell_of_block (i := 2) KS.out.2 rfl
     refine bodyPost_ret (v := .tuple #[.agg #[.int .i64 0, .int .i64 0, .int .i64 0], .int .i64 1]) ?_ rfl (rgPost_of (x := ⟨0, 0, 0⟩) HX.out.2 HX.out.1 KS.out.1)
     simp [results, Try.f60, go_sem, s0, s1, s2]
 ·have hne : (rgE x != 0) = true := by rw [bne_iff_ne]; exact hE
  have HX := Lib.hid (upE_ch (r := r) (c := c) hE)
  obtain ⟨E, hE2⟩ : ∃ E, rgE x = E := ⟨_, rfl⟩
  have HE := Lib.hid hE2
  rw [hE2] at hne
  unfold rgV
  clear hE hE2 h
  go_enter Try.func60, Try.ntmps60
  go_wp2_with fail
  refine (pRgCheck_call x _).mono ?_; rintro e w1 ⟨rfl, hb⟩
  rw [HE.out]
  have K := Lib.hid (And.intro (HB2.out.trans (hb.mono HB2.out.size)) (And.intro (keepO hb HR0.out) (keepO hb HX0.out)))
  have r0 : w1.cell? ⟨w.heap.size + 1, 0, none⟩ = some (.int .i64 0) := cell_of_block K.out.2.1 rfl
  have r1 : w1.cell? ⟨w.heap.size + 1, 1, none⟩ = some (.int .i64 0) := cell_of_block K.out.2.1 rfl
  have r2 : w1.cell? ⟨w.heap.size + 1, 2, none⟩ = some (.int .i64 0) := cell_of_block K.out.2.1 rfl
  have f0 : w1.frozen? ⟨w.heap.size + 1, 0, none⟩ = false := free_of_block K.out.2.1
  have f1 : w1.frozen? ⟨w.heap.size + 1, 1, none⟩ = false := free_of_block K.out.2.1
  have f2 : w1.frozen? ⟨w.heap.size + 1, 2, none⟩ = false := free_of_block K.out.2.1
  have rl := lt_of_block K.out.2.1
  have KS := Lib.hid (rg_stored K.out.1 K.out.2.1 (Nat.le_succ _) 0 0 0)
  clear hb
  go_wp2_with fail
  have s0 := cell_of_block (i := 0) KS.out.2 rfl
  have s1 := cell_of_block (i := 1) KS.out.2 rfl
  have s2 := cell_of_block (i := 2) KS.out.2 rfl
  refine bodyPost_ret (v := .tuple #[.agg #[.int .i64 0, .int .i64 0, .int .i64 0], .int .i64 E]) ?_ rfl (rgPost_of (x := ⟨0, 0, 0⟩) HX.out.2 (HX.out.1.trans HE.out) KS.out.1)
  simp [results, Try.f60, go_sem, s0, s1, s2]
end Go.Proofs.Ytikjjpjekchcjaa
