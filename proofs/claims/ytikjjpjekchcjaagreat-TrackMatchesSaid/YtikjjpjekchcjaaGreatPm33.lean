/-
  TrkD
-/
import Derived.Test.YtikjjpjekchcjaaGreatPm32
set_option linter.all false
set_option maxRecDepth 100000
set_option maxHeartbeats 64000000
namespace Go.Proofs.YtikjjpjekchcjaaGreat
open Go.RowKit TrkMath MyHeap MyOwn
theorem rUpdate_a (x : Rg) (r c N1 : Int) (w : World) (h : rgE x = 0) (hc : ¬ (r < 0 ∨ 8192 < r ∨ c < 1 ∨ 16 < c)) (hN1 : x.n + 1 = N1) (h8 : 8 < N1) (h1000 : ¬ 1000 < N1) : Calls Tryz.prog 70 #[rgV x, .int .i64 r, .int .i64 c] w (RgPost (upX x r c) (upE x r c) w) := by
 have HB := qh (aC w (.cells #[.int .i64 x.r, .int .i64 x.v, .int .i64 x.n] 50))
 have HB2 := qh (HB.out.alloc HB.out.size (.cells #[.int .i64 0, .int .i64 0, .int .i64 0] 50))
 have HX0 := qh (aG (o' := .cells #[.int .i64 0, .int .i64 0, .int .i64 0] 50) (aI w (.cells #[.int .i64 x.r, .int .i64 x.v, .int .i64 x.n] 50 (0, 0)) rfl))
 have HR0 := qh (aI (w.alloc (.cells #[.int .i64 x.r, .int .i64 x.v, .int .i64 x.n] 50)) (.cells #[.int .i64 0, .int .i64 0, .int .i64 0] 50 (0, 0)) (n := w.heap.size + 1) (by simp))
 have HE := qh h
 have hz := eR h
 have hm := jP (c := c) (v := x.v) (by omega) (by omega) hz.2.2.1 hz.2.2.2.1
 have w0' : IntKind.i64.wrap (x.n + 1) = N1 := by rw [hN1]; exact IntWalk.i64_in _ (by omega)
 obtain ⟨M, hM⟩ : ∃ M, c * x.v = M := ⟨_, rfl⟩
 have w1' : IntKind.i64.wrap (c * x.v) = M := by rw [hM]; exact IntWalk.i64_in _ (by omega)
 rw [hM] at hm
 obtain ⟨P, hP⟩ : ∃ P, x.r + M = P := ⟨_, rfl⟩
 have w2' : IntKind.i64.wrap (x.r + M) = P := by rw [hP]; exact IntWalk.i64_in _ (by omega)
 have w3' : IntKind.i64.wrap (256 * r) = 256 * r := IntWalk.i64_in _ (by omega)
 obtain ⟨D, hD⟩ : ∃ D, 256 * r - P = D := ⟨_, rfl⟩
 have w4' : IntKind.i64.wrap (256 * r - P) = D := by rw [hD]; exact IntWalk.i64_in _ (by omega)
 have hd : -2400000 ≤ D ∧ D ≤ 2400000 := by omega
 have k16 : IntKind.i64.wrap 16 = 16 := IntWalk.i64_in _ (by omega)
 have k15 : IntKind.i64.wrap 15 = 15 := IntWalk.i64_in _ (by omega)
 have k30 : IntKind.i64.wrap 30 = 30 := IntWalk.i64_in _ (by omega)
 have k9 : IntKind.i64.wrap 9 = 9 := IntWalk.i64_in _ (by omega)
 have k72 : IntKind.i64.wrap 72 = 72 := IntWalk.i64_in _ (by omega)
 have hg := dK (a := 30) (d := D) (A := 30) (B := 2400000) (by omega) (by omega) hd.1 hd.2
 obtain ⟨G, hG⟩ : ∃ G, 30 * D = G := ⟨_, rfl⟩
 have g4 : IntKind.i64.wrap (30 * D) = G := by rw [hG]; exact IntWalk.i64_in _ (by omega)
 have hqc := dK (a := 72) (d := c) (A := 72) (B := 16) (by omega) (by omega) (by omega) (by omega)
 have hqc1 : 0 < 72 * c := Int.mul_pos (by omega) (by omega)
 obtain ⟨Qc, hQc⟩ : ∃ y, 72 * c = y := ⟨_, rfl⟩
 have g7 : IntKind.i64.wrap (72 * c) = Qc := by rw [hQc]; exact IntWalk.i64_in _ (by omega)
 have g8 : IntKind.i64.wrap (6 * D) = 6 * D := IntWalk.i64_in _ (by omega)
 rw [hG] at hg
 rw [hQc] at hqc hqc1
 have HU := qh (up_ok (N := 8) (P := P) (D := D) h hc (by rw [hN1]; omega) (by rw [hM]; exact hP) hD)
 have hr1 := fR (p := G) (q := 72) (B := 300000000) (by omega) (by omega) (by omega)
 have hr2 := fR (p := 6 * D) (q := Qc) (B := 300000000) (by omega) (by omega) (by omega)
 obtain ⟨R1, hR1⟩ : ∃ R, rnd G (72) = R := ⟨_, rfl⟩
 obtain ⟨R2, hR2⟩ : ∃ R, rnd (6 * D) Qc = R := ⟨_, rfl⟩
 rw [hR1] at hr1
 rw [hR2] at hr2
 have g9 : IntKind.i64.wrap (P + R1) = P + R1 := IntWalk.i64_in _ (by omega)
 have g10 : IntKind.i64.wrap (x.v + R2) = x.v + R2 := IntWalk.i64_in _ (by omega)
 obtain ⟨L1, hL1⟩ : ∃ y, lim (P + R1) 0 2097152 = y := ⟨_, rfl⟩
 obtain ⟨L2, hL2⟩ : ∃ y, lim (x.v + R2) (-16384) 16384 = y := ⟨_, rfl⟩
 have HV := qh (show upX x r c = ⟨L1, L2, N1⟩ from by
  rw [HU.out.2]
  have e1 : 2 * (2 * 8 - 1) * D = G := by omega
  have e2 : (8 : Int) * (8 + 1) = 72 := by decide
  have e3 : min (x.n + 1) 1000 = N1 := by omega
  rw [e1, e2, e3, hQc, hR1, hR2, hL1, hL2])
 have HR := qh (And.intro hR1 (And.intro hR2 (And.intro hL1 hL2)))
 have HC1 := qh (show ∀ W : World, Calls Tryz.prog 98 #[.int .i64 G, .int .i64 (72)] W (NPost R1 W) from fun W => by
  have h := e9 G (72) W (by omega) (by omega) (by omega) (by omega)
  rw [hR1] at h
  exact h)
 have HC2 := qh (show ∀ W : World, Calls Tryz.prog 98 #[.int .i64 (6 * D), .int .i64 Qc] W (NPost R2 W) from fun W => by
  have h := e9 (6 * D) Qc W (by omega) (by omega) (by omega) (by omega)
  rw [hR2] at h
  exact h)
 have HC3 := qh (show ∀ W : World, Calls Tryz.prog 96 #[.int .i64 (P + R1), .int .i64 0, .int .i64 2097152] W (NPost L1 W) from fun W => by
  have h := cM (P + R1) 0 2097152 W
  rw [hL1] at h
  exact h)
 have HC4 := qh (show ∀ W : World, Calls Tryz.prog 96 #[.int .i64 (x.v + R2), .int .i64 (-16384), .int .i64 16384] W (NPost L2 W) from fun W => by
  have h := cM (x.v + R2) (-16384) 16384 W
  rw [hL2] at h
  exact h)
 have HBd := qh (And.intro hg (And.intro hqc hqc1))
 have hc1 : ¬ r < 0 := by omega
 have hc2 : ¬ 8192 < r := by omega
 have hc3 : ¬ c < 1 := by omega
 have hc4 : ¬ 16 < c := by omega
 have HDd := qh hd
 unfold rgV
 clear h hz hm hM hP hD hg hG hqc hqc1 hQc hr1 hr2 hR1 hR2 hL1 hL2 hN1 hc hd
 go_enter Tryz.func70, Tryz.ntmps70
 go_wp2_with fail
 refine (bE x _).mono ?_; rintro e w1 ⟨rfl, hb⟩
 rw [HE.out]
 have K := qh (And.intro (HB2.out.trans (hb.mono HB2.out.size)) (And.intro (aN hb HR0.out) (aN hb HX0.out)))
 have r0 : w1.cell? ⟨w.heap.size + 1, 0, none⟩ = some (.int .i64 0) := aA K.out.2.1 rfl
 have r1 : w1.cell? ⟨w.heap.size + 1, 1, none⟩ = some (.int .i64 0) := aA K.out.2.1 rfl
 have r2 : w1.cell? ⟨w.heap.size + 1, 2, none⟩ = some (.int .i64 0) := aA K.out.2.1 rfl
 have f0 : w1.frozen? ⟨w.heap.size + 1, 0, none⟩ = false := aF K.out.2.1
 have f1 : w1.frozen? ⟨w.heap.size + 1, 1, none⟩ = false := aF K.out.2.1
 have f2 : w1.frozen? ⟨w.heap.size + 1, 2, none⟩ = false := aF K.out.2.1
 have rl := aB K.out.2.1
 have y0 : w1.cell? ⟨w.heap.size, 0, none⟩ = some (.int .i64 x.r) := aA K.out.2.2 rfl
 have y1 : w1.cell? ⟨w.heap.size, 1, none⟩ = some (.int .i64 x.v) := aA K.out.2.2 rfl
 have y2 : w1.cell? ⟨w.heap.size, 2, none⟩ = some (.int .i64 x.n) := aA K.out.2.2 rfl
 have yl := aB K.out.2.2
 clear hb
 go_wp2_with fail
 have HY := qh (And.intro y1 y2)
 have HQ0 := qh (And.intro r0 (And.intro r1 (And.intro r2 (And.intro f0 (And.intro f1 f2)))))
 clear y0 y1 y2 r0 r1 r2 f0 f1 f2
 have KD := qh (show Below w1.heap.size w1 w1.drew from aM (Below.refl _ _) 1)
 go_region_held3 (fun w' => w'.cell? ⟨w.heap.size, 1, none⟩ = some (.int .i64 x.v) ∧ w'.cell? ⟨w.heap.size, 2, none⟩ = some (.int .i64 x.n)) (first | exact ⟨aS KD.out HY.out.1, aS KD.out HY.out.2⟩ | exact ⟨gF (aS KD.out HY.out.1) (Nat.ne_of_lt (Nat.lt_succ_self _)), gF (aS KD.out HY.out.2) (Nat.ne_of_lt (Nat.lt_succ_self _))⟩)
  (first
   | (go_at_call 98; first | (have hm := HM1.out; refine (HC2.out _).mono ?_; rintro e w5 ⟨rfl, hb⟩; replace KD := qh (KD.out.trans (hb.mono KD.out.size)); clear hb hm) | (refine (HC1.out _).mono ?_; rintro e w5 ⟨rfl, hb⟩; replace KD := qh (KD.out.trans (hb.mono KD.out.size)); clear hb; have HM1 := qh trivial))
   | (go_at_call 96; first | (have hm := HM2.out; refine (HC4.out _).mono ?_; rintro e w5 ⟨rfl, hb⟩; replace KD := qh (KD.out.trans (hb.mono KD.out.size)); clear hb hm; have q0 := aS KD.out HQ0.out.1; have q1 := aS KD.out HQ0.out.2.1; have q2 := aS KD.out HQ0.out.2.2.1; have k0 := jY KD.out HQ0.out.1 HQ0.out.2.2.2.1; have k1 := jY KD.out HQ0.out.2.1 HQ0.out.2.2.2.2.1; have k2 := jY KD.out HQ0.out.2.2.1 HQ0.out.2.2.2.2.2; have kl := Nat.lt_of_lt_of_le rl KD.out.size) | (refine (HC3.out _).mono ?_; rintro e w5 ⟨rfl, hb⟩; replace KD := qh (KD.out.trans (hb.mono KD.out.size)); clear hb; have HM2 := qh trivial)))
 all_goals
  go_wp2_with fail
  have KS := qh (dD (K.out.1.trans (KD.out.mono K.out.1.size)) (aN KD.out K.out.2.1) (Nat.le_succ _) L1 L2 N1)
  have s0 := aA (i := 0) KS.out.2 rfl
  have s1 := aA (i := 1) KS.out.2 rfl
  have s2 := aA (i := 2) KS.out.2 rfl
  refine bodyPost_ret (v := .tuple #[.agg #[.int .i64 L1, .int .i64 L2, .int .i64 N1], .int .i64 0]) ?_ rfl (bM (x := ⟨L1, L2, N1⟩) HV.out HU.out.1 KS.out.1)
  simp [results, Tryz.f70, go_sem, s0, s1, s2]
theorem rUpdate_am (x : Rg) (r c N1 : Int) (w : World) (h : rgE x = 0) (hc : ¬ (r < 0 ∨ 8192 < r ∨ c < 1 ∨ 16 < c)) (hN1 : x.n + 1 = N1) (h8 : 8 < N1) (h1000 : 1000 < N1) : Calls Tryz.prog 70 #[rgV x, .int .i64 r, .int .i64 c] w (RgPost (upX x r c) (upE x r c) w) := by
 have HB := qh (aC w (.cells #[.int .i64 x.r, .int .i64 x.v, .int .i64 x.n] 50))
 have HB2 := qh (HB.out.alloc HB.out.size (.cells #[.int .i64 0, .int .i64 0, .int .i64 0] 50))
 have HX0 := qh (aG (o' := .cells #[.int .i64 0, .int .i64 0, .int .i64 0] 50) (aI w (.cells #[.int .i64 x.r, .int .i64 x.v, .int .i64 x.n] 50 (0, 0)) rfl))
 have HR0 := qh (aI (w.alloc (.cells #[.int .i64 x.r, .int .i64 x.v, .int .i64 x.n] 50)) (.cells #[.int .i64 0, .int .i64 0, .int .i64 0] 50 (0, 0)) (n := w.heap.size + 1) (by simp))
 have HE := qh h
 have hz := eR h
 have hm := jP (c := c) (v := x.v) (by omega) (by omega) hz.2.2.1 hz.2.2.2.1
 have w0' : IntKind.i64.wrap (x.n + 1) = N1 := by rw [hN1]; exact IntWalk.i64_in _ (by omega)
 obtain ⟨M, hM⟩ : ∃ M, c * x.v = M := ⟨_, rfl⟩
 have w1' : IntKind.i64.wrap (c * x.v) = M := by rw [hM]; exact IntWalk.i64_in _ (by omega)
 rw [hM] at hm
 obtain ⟨P, hP⟩ : ∃ P, x.r + M = P := ⟨_, rfl⟩
 have w2' : IntKind.i64.wrap (x.r + M) = P := by rw [hP]; exact IntWalk.i64_in _ (by omega)
 have w3' : IntKind.i64.wrap (256 * r) = 256 * r := IntWalk.i64_in _ (by omega)
 obtain ⟨D, hD⟩ : ∃ D, 256 * r - P = D := ⟨_, rfl⟩
 have w4' : IntKind.i64.wrap (256 * r - P) = D := by rw [hD]; exact IntWalk.i64_in _ (by omega)
 have hd : -2400000 ≤ D ∧ D ≤ 2400000 := by omega
 have k16 : IntKind.i64.wrap 16 = 16 := IntWalk.i64_in _ (by omega)
 have k15 : IntKind.i64.wrap 15 = 15 := IntWalk.i64_in _ (by omega)
 have k30 : IntKind.i64.wrap 30 = 30 := IntWalk.i64_in _ (by omega)
 have k9 : IntKind.i64.wrap 9 = 9 := IntWalk.i64_in _ (by omega)
 have k72 : IntKind.i64.wrap 72 = 72 := IntWalk.i64_in _ (by omega)
 have hg := dK (a := 30) (d := D) (A := 30) (B := 2400000) (by omega) (by omega) hd.1 hd.2
 obtain ⟨G, hG⟩ : ∃ G, 30 * D = G := ⟨_, rfl⟩
 have g4 : IntKind.i64.wrap (30 * D) = G := by rw [hG]; exact IntWalk.i64_in _ (by omega)
 have hqc := dK (a := 72) (d := c) (A := 72) (B := 16) (by omega) (by omega) (by omega) (by omega)
 have hqc1 : 0 < 72 * c := Int.mul_pos (by omega) (by omega)
 obtain ⟨Qc, hQc⟩ : ∃ y, 72 * c = y := ⟨_, rfl⟩
 have g7 : IntKind.i64.wrap (72 * c) = Qc := by rw [hQc]; exact IntWalk.i64_in _ (by omega)
 have g8 : IntKind.i64.wrap (6 * D) = 6 * D := IntWalk.i64_in _ (by omega)
 rw [hG] at hg
 rw [hQc] at hqc hqc1
 have HU := qh (up_ok (N := 8) (P := P) (D := D) h hc (by rw [hN1]; omega) (by rw [hM]; exact hP) hD)
 have hr1 := fR (p := G) (q := 72) (B := 300000000) (by omega) (by omega) (by omega)
 have hr2 := fR (p := 6 * D) (q := Qc) (B := 300000000) (by omega) (by omega) (by omega)
 obtain ⟨R1, hR1⟩ : ∃ R, rnd G (72) = R := ⟨_, rfl⟩
 obtain ⟨R2, hR2⟩ : ∃ R, rnd (6 * D) Qc = R := ⟨_, rfl⟩
 rw [hR1] at hr1
 rw [hR2] at hr2
 have g9 : IntKind.i64.wrap (P + R1) = P + R1 := IntWalk.i64_in _ (by omega)
 have g10 : IntKind.i64.wrap (x.v + R2) = x.v + R2 := IntWalk.i64_in _ (by omega)
 obtain ⟨L1, hL1⟩ : ∃ y, lim (P + R1) 0 2097152 = y := ⟨_, rfl⟩
 obtain ⟨L2, hL2⟩ : ∃ y, lim (x.v + R2) (-16384) 16384 = y := ⟨_, rfl⟩
 have HV := qh (show upX x r c = ⟨L1, L2, 1000⟩ from by
  rw [HU.out.2]
  have e1 : 2 * (2 * 8 - 1) * D = G := by omega
  have e2 : (8 : Int) * (8 + 1) = 72 := by decide
  have e3 : min (x.n + 1) 1000 = 1000 := by omega
  rw [e1, e2, e3, hQc, hR1, hR2, hL1, hL2])
 have HR := qh (And.intro hR1 (And.intro hR2 (And.intro hL1 hL2)))
 have HC1 := qh (show ∀ W : World, Calls Tryz.prog 98 #[.int .i64 G, .int .i64 (72)] W (NPost R1 W) from fun W => by
  have h := e9 G (72) W (by omega) (by omega) (by omega) (by omega)
  rw [hR1] at h
  exact h)
 have HC2 := qh (show ∀ W : World, Calls Tryz.prog 98 #[.int .i64 (6 * D), .int .i64 Qc] W (NPost R2 W) from fun W => by
  have h := e9 (6 * D) Qc W (by omega) (by omega) (by omega) (by omega)
  rw [hR2] at h
  exact h)
 have HC3 := qh (show ∀ W : World, Calls Tryz.prog 96 #[.int .i64 (P + R1), .int .i64 0, .int .i64 2097152] W (NPost L1 W) from fun W => by
  have h := cM (P + R1) 0 2097152 W
  rw [hL1] at h
  exact h)
 have HC4 := qh (show ∀ W : World, Calls Tryz.prog 96 #[.int .i64 (x.v + R2), .int .i64 (-16384), .int .i64 16384] W (NPost L2 W) from fun W => by
  have h := cM (x.v + R2) (-16384) 16384 W
  rw [hL2] at h
  exact h)
 have HBd := qh (And.intro hg (And.intro hqc hqc1))
 have hc1 : ¬ r < 0 := by omega
 have hc2 : ¬ 8192 < r := by omega
 have hc3 : ¬ c < 1 := by omega
 have hc4 : ¬ 16 < c := by omega
 have HDd := qh hd
 unfold rgV
 clear h hz hm hM hP hD hg hG hqc hqc1 hQc hr1 hr2 hR1 hR2 hL1 hL2 hN1 hc hd
 go_enter Tryz.func70, Tryz.ntmps70
 go_wp2_with fail
 refine (bE x _).mono ?_; rintro e w1 ⟨rfl, hb⟩
 rw [HE.out]
 have K := qh (And.intro (HB2.out.trans (hb.mono HB2.out.size)) (And.intro (aN hb HR0.out) (aN hb HX0.out)))
 have r0 : w1.cell? ⟨w.heap.size + 1, 0, none⟩ = some (.int .i64 0) := aA K.out.2.1 rfl
 have r1 : w1.cell? ⟨w.heap.size + 1, 1, none⟩ = some (.int .i64 0) := aA K.out.2.1 rfl
 have r2 : w1.cell? ⟨w.heap.size + 1, 2, none⟩ = some (.int .i64 0) := aA K.out.2.1 rfl
 have f0 : w1.frozen? ⟨w.heap.size + 1, 0, none⟩ = false := aF K.out.2.1
 have f1 : w1.frozen? ⟨w.heap.size + 1, 1, none⟩ = false := aF K.out.2.1
 have f2 : w1.frozen? ⟨w.heap.size + 1, 2, none⟩ = false := aF K.out.2.1
 have rl := aB K.out.2.1
 have y0 : w1.cell? ⟨w.heap.size, 0, none⟩ = some (.int .i64 x.r) := aA K.out.2.2 rfl
 have y1 : w1.cell? ⟨w.heap.size, 1, none⟩ = some (.int .i64 x.v) := aA K.out.2.2 rfl
 have y2 : w1.cell? ⟨w.heap.size, 2, none⟩ = some (.int .i64 x.n) := aA K.out.2.2 rfl
 have yl := aB K.out.2.2
 clear hb
 go_wp2_with fail
 have HY := qh (And.intro y1 y2)
 have HQ0 := qh (And.intro r0 (And.intro r1 (And.intro r2 (And.intro f0 (And.intro f1 f2)))))
 clear y0 y1 y2 r0 r1 r2 f0 f1 f2
 have KD := qh (show Below w1.heap.size w1 w1.drew from aM (Below.refl _ _) 1)
 go_region_held3 (fun w' => w'.cell? ⟨w.heap.size, 1, none⟩ = some (.int .i64 x.v) ∧ w'.cell? ⟨w.heap.size, 2, none⟩ = some (.int .i64 x.n)) (first | exact ⟨aS KD.out HY.out.1, aS KD.out HY.out.2⟩ | exact ⟨gF (aS KD.out HY.out.1) (Nat.ne_of_lt (Nat.lt_succ_self _)), gF (aS KD.out HY.out.2) (Nat.ne_of_lt (Nat.lt_succ_self _))⟩)
  (first
   | (go_at_call 98; first | (have hm := HM1.out; refine (HC2.out _).mono ?_; rintro e w5 ⟨rfl, hb⟩; replace KD := qh (KD.out.trans (hb.mono KD.out.size)); clear hb hm) | (refine (HC1.out _).mono ?_; rintro e w5 ⟨rfl, hb⟩; replace KD := qh (KD.out.trans (hb.mono KD.out.size)); clear hb; have HM1 := qh trivial))
   | (go_at_call 96; first | (have hm := HM2.out; refine (HC4.out _).mono ?_; rintro e w5 ⟨rfl, hb⟩; replace KD := qh (KD.out.trans (hb.mono KD.out.size)); clear hb hm; have q0 := aS KD.out HQ0.out.1; have q1 := aS KD.out HQ0.out.2.1; have q2 := aS KD.out HQ0.out.2.2.1; have k0 := jY KD.out HQ0.out.1 HQ0.out.2.2.2.1; have k1 := jY KD.out HQ0.out.2.1 HQ0.out.2.2.2.2.1; have k2 := jY KD.out HQ0.out.2.2.1 HQ0.out.2.2.2.2.2; have kl := Nat.lt_of_lt_of_le rl KD.out.size) | (refine (HC3.out _).mono ?_; rintro e w5 ⟨rfl, hb⟩; replace KD := qh (KD.out.trans (hb.mono KD.out.size)); clear hb; have HM2 := qh trivial)))
 all_goals
  go_wp2_with fail
  have KS := qh (dD (K.out.1.trans (KD.out.mono K.out.1.size)) (aN KD.out K.out.2.1) (Nat.le_succ _) L1 L2 1000)
  have s0 := aA (i := 0) KS.out.2 rfl
  have s1 := aA (i := 1) KS.out.2 rfl
  have s2 := aA (i := 2) KS.out.2 rfl
  refine bodyPost_ret (v := .tuple #[.agg #[.int .i64 L1, .int .i64 L2, .int .i64 1000], .int .i64 0]) ?_ rfl (bM (x := ⟨L1, L2, 1000⟩) HV.out HU.out.1 KS.out.1)
  simp [results, Tryz.f70, go_sem, s0, s1, s2]
theorem rUpdate_b (x : Rg) (r c N1 : Int) (w : World) (h : rgE x = 0) (hc : ¬ (r < 0 ∨ 8192 < r ∨ c < 1 ∨ 16 < c)) (hN1 : x.n + 1 = N1) (h8 : ¬ 8 < N1) (_h1000 : ¬ 1000 < N1) : Calls Tryz.prog 70 #[rgV x, .int .i64 r, .int .i64 c] w (RgPost (upX x r c) (upE x r c) w) := by
 have HB := qh (aC w (.cells #[.int .i64 x.r, .int .i64 x.v, .int .i64 x.n] 50))
 have HB2 := qh (HB.out.alloc HB.out.size (.cells #[.int .i64 0, .int .i64 0, .int .i64 0] 50))
 have HX0 := qh (aG (o' := .cells #[.int .i64 0, .int .i64 0, .int .i64 0] 50) (aI w (.cells #[.int .i64 x.r, .int .i64 x.v, .int .i64 x.n] 50 (0, 0)) rfl))
 have HR0 := qh (aI (w.alloc (.cells #[.int .i64 x.r, .int .i64 x.v, .int .i64 x.n] 50)) (.cells #[.int .i64 0, .int .i64 0, .int .i64 0] 50 (0, 0)) (n := w.heap.size + 1) (by simp))
 have HE := qh h
 have hz := eR h
 have hm := jP (c := c) (v := x.v) (by omega) (by omega) hz.2.2.1 hz.2.2.2.1
 have w0' : IntKind.i64.wrap (x.n + 1) = N1 := by rw [hN1]; exact IntWalk.i64_in _ (by omega)
 obtain ⟨M, hM⟩ : ∃ M, c * x.v = M := ⟨_, rfl⟩
 have w1' : IntKind.i64.wrap (c * x.v) = M := by rw [hM]; exact IntWalk.i64_in _ (by omega)
 rw [hM] at hm
 obtain ⟨P, hP⟩ : ∃ P, x.r + M = P := ⟨_, rfl⟩
 have w2' : IntKind.i64.wrap (x.r + M) = P := by rw [hP]; exact IntWalk.i64_in _ (by omega)
 have w3' : IntKind.i64.wrap (256 * r) = 256 * r := IntWalk.i64_in _ (by omega)
 obtain ⟨D, hD⟩ : ∃ D, 256 * r - P = D := ⟨_, rfl⟩
 have w4' : IntKind.i64.wrap (256 * r - P) = D := by rw [hD]; exact IntWalk.i64_in _ (by omega)
 have hd : -2400000 ≤ D ∧ D ≤ 2400000 := by omega
 have g1 : IntKind.i64.wrap (2 * N1) = 2 * N1 := IntWalk.i64_in _ (by omega)
 have g2 : IntKind.i64.wrap (2 * N1 - 1) = 2 * N1 - 1 := IntWalk.i64_in _ (by omega)
 have g3 : IntKind.i64.wrap (2 * (2 * N1 - 1)) = 2 * (2 * N1 - 1) := IntWalk.i64_in _ (by omega)
 have g5 : IntKind.i64.wrap (N1 + 1) = N1 + 1 := IntWalk.i64_in _ (by omega)
 have hq := dK (a := N1) (d := N1 + 1) (A := 8) (B := 9) (by omega) (by omega) (by omega) (by omega)
 have hq1 : 0 < N1 * (N1 + 1) := Int.mul_pos (by omega) (by omega)
 obtain ⟨Q, hQ⟩ : ∃ Q, N1 * (N1 + 1) = Q := ⟨_, rfl⟩
 have g6 : IntKind.i64.wrap (N1 * (N1 + 1)) = Q := by rw [hQ]; exact IntWalk.i64_in _ (by omega)
 rw [hQ] at hq hq1
 have hg := dK (a := 2 * (2 * N1 - 1)) (d := D) (A := 30) (B := 2400000) (by omega) (by omega) hd.1 hd.2
 obtain ⟨G, hG⟩ : ∃ G, 2 * (2 * N1 - 1) * D = G := ⟨_, rfl⟩
 have g4 : IntKind.i64.wrap (2 * (2 * N1 - 1) * D) = G := by rw [hG]; exact IntWalk.i64_in _ (by omega)
 have hqc := dK (a := Q) (d := c) (A := 72) (B := 16) (by omega) (by omega) (by omega) (by omega)
 have hqc1 : 0 < Q * c := Int.mul_pos (by omega) (by omega)
 obtain ⟨Qc, hQc⟩ : ∃ y, Q * c = y := ⟨_, rfl⟩
 have g7 : IntKind.i64.wrap (Q * c) = Qc := by rw [hQc]; exact IntWalk.i64_in _ (by omega)
 have g8 : IntKind.i64.wrap (6 * D) = 6 * D := IntWalk.i64_in _ (by omega)
 rw [hG] at hg
 rw [hQc] at hqc hqc1
 have HU := qh (up_ok (N := N1) (P := P) (D := D) h hc (by rw [hN1]; omega) (by rw [hM]; exact hP) hD)
 have hr1 := fR (p := G) (q := Q) (B := 300000000) (by omega) (by omega) (by omega)
 have hr2 := fR (p := 6 * D) (q := Qc) (B := 300000000) (by omega) (by omega) (by omega)
 obtain ⟨R1, hR1⟩ : ∃ R, rnd G (Q) = R := ⟨_, rfl⟩
 obtain ⟨R2, hR2⟩ : ∃ R, rnd (6 * D) Qc = R := ⟨_, rfl⟩
 rw [hR1] at hr1
 rw [hR2] at hr2
 have g9 : IntKind.i64.wrap (P + R1) = P + R1 := IntWalk.i64_in _ (by omega)
 have g10 : IntKind.i64.wrap (x.v + R2) = x.v + R2 := IntWalk.i64_in _ (by omega)
 obtain ⟨L1, hL1⟩ : ∃ y, lim (P + R1) 0 2097152 = y := ⟨_, rfl⟩
 obtain ⟨L2, hL2⟩ : ∃ y, lim (x.v + R2) (-16384) 16384 = y := ⟨_, rfl⟩
 have HV := qh (show upX x r c = ⟨L1, L2, N1⟩ from by
  rw [HU.out.2]
  have e1 : 2 * (2 * N1 - 1) * D = G := hG
  have e2 : (N1 : Int) * (N1 + 1) = Q := hQ
  have e3 : min (x.n + 1) 1000 = N1 := by omega
  rw [e1, e2, e3, hQc, hR1, hR2, hL1, hL2])
 have HR := qh (And.intro hR1 (And.intro hR2 (And.intro hL1 hL2)))
 have HC1 := qh (show ∀ W : World, Calls Tryz.prog 98 #[.int .i64 G, .int .i64 (Q)] W (NPost R1 W) from fun W => by
  have h := e9 G (Q) W (by omega) (by omega) (by omega) (by omega)
  rw [hR1] at h
  exact h)
 have HC2 := qh (show ∀ W : World, Calls Tryz.prog 98 #[.int .i64 (6 * D), .int .i64 Qc] W (NPost R2 W) from fun W => by
  have h := e9 (6 * D) Qc W (by omega) (by omega) (by omega) (by omega)
  rw [hR2] at h
  exact h)
 have HC3 := qh (show ∀ W : World, Calls Tryz.prog 96 #[.int .i64 (P + R1), .int .i64 0, .int .i64 2097152] W (NPost L1 W) from fun W => by
  have h := cM (P + R1) 0 2097152 W
  rw [hL1] at h
  exact h)
 have HC4 := qh (show ∀ W : World, Calls Tryz.prog 96 #[.int .i64 (x.v + R2), .int .i64 (-16384), .int .i64 16384] W (NPost L2 W) from fun W => by
  have h := cM (x.v + R2) (-16384) 16384 W
  rw [hL2] at h
  exact h)
 have HBd := qh (And.intro hg (And.intro hqc hqc1))
 have hc1 : ¬ r < 0 := by omega
 have hc2 : ¬ 8192 < r := by omega
 have hc3 : ¬ c < 1 := by omega
 have hc4 : ¬ 16 < c := by omega
 have HDd := qh hd
 have HQb := qh (And.intro hq hq1)
 unfold rgV
 clear h hz hm hM hP hD hg hG hqc hqc1 hQc hr1 hr2 hR1 hR2 hL1 hL2 hN1 hc hd hq hq1 hQ
 go_enter Tryz.func70, Tryz.ntmps70
 go_wp2_with fail
 refine (bE x _).mono ?_; rintro e w1 ⟨rfl, hb⟩
 rw [HE.out]
 have K := qh (And.intro (HB2.out.trans (hb.mono HB2.out.size)) (And.intro (aN hb HR0.out) (aN hb HX0.out)))
 have r0 : w1.cell? ⟨w.heap.size + 1, 0, none⟩ = some (.int .i64 0) := aA K.out.2.1 rfl
 have r1 : w1.cell? ⟨w.heap.size + 1, 1, none⟩ = some (.int .i64 0) := aA K.out.2.1 rfl
 have r2 : w1.cell? ⟨w.heap.size + 1, 2, none⟩ = some (.int .i64 0) := aA K.out.2.1 rfl
 have f0 : w1.frozen? ⟨w.heap.size + 1, 0, none⟩ = false := aF K.out.2.1
 have f1 : w1.frozen? ⟨w.heap.size + 1, 1, none⟩ = false := aF K.out.2.1
 have f2 : w1.frozen? ⟨w.heap.size + 1, 2, none⟩ = false := aF K.out.2.1
 have rl := aB K.out.2.1
 have y0 : w1.cell? ⟨w.heap.size, 0, none⟩ = some (.int .i64 x.r) := aA K.out.2.2 rfl
 have y1 : w1.cell? ⟨w.heap.size, 1, none⟩ = some (.int .i64 x.v) := aA K.out.2.2 rfl
 have y2 : w1.cell? ⟨w.heap.size, 2, none⟩ = some (.int .i64 x.n) := aA K.out.2.2 rfl
 have yl := aB K.out.2.2
 clear hb
 go_wp2_with fail
 have HY := qh (And.intro y1 y2)
 have HQ0 := qh (And.intro r0 (And.intro r1 (And.intro r2 (And.intro f0 (And.intro f1 f2)))))
 clear y0 y1 y2 r0 r1 r2 f0 f1 f2
 have KD := qh (show Below w1.heap.size w1 w1.drew from aM (Below.refl _ _) 1)
 go_region_held3 (fun w' => w'.cell? ⟨w.heap.size, 1, none⟩ = some (.int .i64 x.v) ∧ w'.cell? ⟨w.heap.size, 2, none⟩ = some (.int .i64 x.n)) (first | exact ⟨aS KD.out HY.out.1, aS KD.out HY.out.2⟩ | exact ⟨gF (aS KD.out HY.out.1) (Nat.ne_of_lt (Nat.lt_succ_self _)), gF (aS KD.out HY.out.2) (Nat.ne_of_lt (Nat.lt_succ_self _))⟩)
  (first
   | (go_at_call 98; first | (have hm := HM1.out; refine (HC2.out _).mono ?_; rintro e w5 ⟨rfl, hb⟩; replace KD := qh (KD.out.trans (hb.mono KD.out.size)); clear hb hm) | (refine (HC1.out _).mono ?_; rintro e w5 ⟨rfl, hb⟩; replace KD := qh (KD.out.trans (hb.mono KD.out.size)); clear hb; have HM1 := qh trivial))
   | (go_at_call 96; first | (have hm := HM2.out; refine (HC4.out _).mono ?_; rintro e w5 ⟨rfl, hb⟩; replace KD := qh (KD.out.trans (hb.mono KD.out.size)); clear hb hm; have q0 := aS KD.out HQ0.out.1; have q1 := aS KD.out HQ0.out.2.1; have q2 := aS KD.out HQ0.out.2.2.1; have k0 := jY KD.out HQ0.out.1 HQ0.out.2.2.2.1; have k1 := jY KD.out HQ0.out.2.1 HQ0.out.2.2.2.2.1; have k2 := jY KD.out HQ0.out.2.2.1 HQ0.out.2.2.2.2.2; have kl := Nat.lt_of_lt_of_le rl KD.out.size) | (refine (HC3.out _).mono ?_; rintro e w5 ⟨rfl, hb⟩; replace KD := qh (KD.out.trans (hb.mono KD.out.size)); clear hb; have HM2 := qh trivial)))
 all_goals
  go_wp2_with fail
  have KS := qh (dD (K.out.1.trans (KD.out.mono K.out.1.size)) (aN KD.out K.out.2.1) (Nat.le_succ _) L1 L2 N1)
  have s0 := aA (i := 0) KS.out.2 rfl
  have s1 := aA (i := 1) KS.out.2 rfl
  have s2 := aA (i := 2) KS.out.2 rfl
  refine bodyPost_ret (v := .tuple #[.agg #[.int .i64 L1, .int .i64 L2, .int .i64 N1], .int .i64 0]) ?_ rfl (bM (x := ⟨L1, L2, N1⟩) HV.out HU.out.1 KS.out.1)
  simp [results, Tryz.f70, go_sem, s0, s1, s2]
theorem oK (x : Rg) (r c : Int) (w : World) : Calls Tryz.prog 70 #[rgV x, .int .i64 r, .int .i64 c] w (RgPost (upX x r c) (upE x r c) w) := by
 by_cases h : rgE x = 0
 ·by_cases hc : r < 0 ∨ 8192 < r ∨ c < 1 ∨ 16 < c
  ·exact kT x r c w (Or.inr hc)
  by_cases h8 : 8 < x.n + 1
  ·by_cases h1000 : 1000 < x.n + 1
   ·exact rUpdate_am x r c _ w h hc rfl h8 h1000
   exact rUpdate_a x r c _ w h hc rfl h8 h1000
  exact rUpdate_b x r c _ w h hc rfl h8 (by omega)
 exact kT x r c w (Or.inl h)
end Go.Proofs.YtikjjpjekchcjaaGreat
