/-
  TrkE
-/
import Derived.Test.YtikjjpjekchcjaaGreatPm32
set_option linter.all false
set_option maxRecDepth 100000
set_option maxHeartbeats 64000000
namespace Go.Proofs.YtikjjpjekchcjaaGreat
open Go.RowKit TrkMath MyHeap MyOwn
theorem rg_st0 {w W : World} {x y z : Value} {cs : Array Value} (h : Below w.heap.size w W) (h1 : W.heap[w.heap.size + 1]? = some (.cells cs 50 (0, 0))) (h2 : W.heap[w.heap.size]? = some (.cells #[x, y, z] 50 (0, 0))) (v : Int) : Below w.heap.size w (W.setCell ⟨w.heap.size, 0, none⟩ (.int .i64 v)) ∧ (W.setCell ⟨w.heap.size, 0, none⟩ (.int .i64 v)).heap[w.heap.size + 1]? = some (.cells cs 50 (0, 0)) ∧ (W.setCell ⟨w.heap.size, 0, none⟩ (.int .i64 v)).heap[w.heap.size]? = some (.cells #[.int .i64 v, y, z] 50 (0, 0)) := by
 have o : Only w.heap.size W (W.setCell ⟨w.heap.size, 0, none⟩ (.int .i64 v)) := (Only.refl _ _).setCell _ _
 exact ⟨h.trans (o.below (Nat.le_refl _) h.size), o.keeps h1 (Nat.succ_ne_self _), by simpa using aD (i := 0) (v := .int .i64 v) h2⟩
theorem rg_st1 {w W : World} {x y z : Value} {cs : Array Value} (h : Below w.heap.size w W) (h1 : W.heap[w.heap.size + 1]? = some (.cells cs 50 (0, 0))) (h2 : W.heap[w.heap.size]? = some (.cells #[x, y, z] 50 (0, 0))) (v : Int) : Below w.heap.size w (W.setCell ⟨w.heap.size, 1, none⟩ (.int .i64 v)) ∧ (W.setCell ⟨w.heap.size, 1, none⟩ (.int .i64 v)).heap[w.heap.size + 1]? = some (.cells cs 50 (0, 0)) ∧ (W.setCell ⟨w.heap.size, 1, none⟩ (.int .i64 v)).heap[w.heap.size]? = some (.cells #[x, .int .i64 v, z] 50 (0, 0)) := by
 have o : Only w.heap.size W (W.setCell ⟨w.heap.size, 1, none⟩ (.int .i64 v)) := (Only.refl _ _).setCell _ _
 exact ⟨h.trans (o.below (Nat.le_refl _) h.size), o.keeps h1 (Nat.succ_ne_self _), by simpa using aD (i := 1) (v := .int .i64 v) h2⟩
theorem rg_st2 {w W : World} {x y z : Value} {cs : Array Value} (h : Below w.heap.size w W) (h1 : W.heap[w.heap.size + 1]? = some (.cells cs 50 (0, 0))) (h2 : W.heap[w.heap.size]? = some (.cells #[x, y, z] 50 (0, 0))) (v : Int) : Below w.heap.size w (W.setCell ⟨w.heap.size, 2, none⟩ (.int .i64 v)) ∧ (W.setCell ⟨w.heap.size, 2, none⟩ (.int .i64 v)).heap[w.heap.size + 1]? = some (.cells cs 50 (0, 0)) ∧ (W.setCell ⟨w.heap.size, 2, none⟩ (.int .i64 v)).heap[w.heap.size]? = some (.cells #[x, y, .int .i64 v] 50 (0, 0)) := by
 have o : Only w.heap.size W (W.setCell ⟨w.heap.size, 2, none⟩ (.int .i64 v)) := (Only.refl _ _).setCell _ _
 exact ⟨h.trans (o.below (Nat.le_refl _) h.size), o.keeps h1 (Nat.succ_ne_self _), by simpa using aD (i := 2) (v := .int .i64 v) h2⟩
theorem mM {w W : World} (h : Below w.heap.size w W) (lo hi : Int) : Below w.heap.size w ((W.alloc (.cells #[.int .i64 lo] 3)).alloc (.cells #[.int .i64 hi] 3)) ∧ ((W.alloc (.cells #[.int .i64 lo] 3)).alloc (.cells #[.int .i64 hi] 3)).cell? ⟨W.heap.size, 0, none⟩ = some (.int .i64 lo) ∧ ((W.alloc (.cells #[.int .i64 lo] 3)).alloc (.cells #[.int .i64 hi] 3)).cell? ⟨W.heap.size + 1, 0, none⟩ = some (.int .i64 hi) :=
 ⟨h.trans ((eN W lo hi).mono h.size), eM W lo hi⟩
theorem pUpdate_a (x : Rg) (r c N1 : Int) (w : World) (h : rgE x = 0) (hc : ¬ (r < 0 ∨ 8192 < r ∨ c < 1 ∨ 16 < c)) (hN1 : x.n + 1 = N1) (h8 : 8 < N1) (h1000 : ¬ 1000 < N1) : Calls Tryz.prog 57 #[rgV x, .int .i64 r, .int .i64 c] w (RgPost (upX x r c) (upE x r c) w) := by
 have HB := qh (aC w (.cells #[.int .i64 x.r, .int .i64 x.v, .int .i64 x.n] 50))
 have HB2 := qh (HB.out.alloc HB.out.size (.cells #[.int .i64 0, .int .i64 0, .int .i64 0] 50))
 have HX0 := qh (aG (o' := .cells #[.int .i64 0, .int .i64 0, .int .i64 0] 50) (aI w (.cells #[.int .i64 x.r, .int .i64 x.v, .int .i64 x.n] 50 (0, 0)) rfl))
 have HR0 := qh (aI (w.alloc (.cells #[.int .i64 x.r, .int .i64 x.v, .int .i64 x.n] 50)) (.cells #[.int .i64 0, .int .i64 0, .int .i64 0] 50 (0, 0)) (n := w.heap.size + 1) (by simp))
 have HE := qh h
 have hz := eR h
 have hm := jP (c := c) (v := x.v) (by omega) (by omega) hz.2.2.1 hz.2.2.2.1
 have w0' : IntKind.i64.wrap (x.n + 1) = N1 := by rw [hN1]; exact IntWalk.i64_in _ (by omega)
 obtain ⟨M, hM⟩ : ∃ M, c * x.v = M := ⟨_, rfl⟩
 have w1' : IntKind.i64.wrap (c * x.v) = M := by rw [hM]; exact IntWalk.i64_in _ (by omega)
 rw [hM] at hm
 obtain ⟨P, hP⟩ : ∃ P, x.r + M = P := ⟨_, rfl⟩
 have w2' : IntKind.i64.wrap (x.r + M) = P := by rw [hP]; exact IntWalk.i64_in _ (by omega)
 have w3' : IntKind.i64.wrap (256 * r) = 256 * r := IntWalk.i64_in _ (by omega)
 obtain ⟨D, hD⟩ : ∃ D, 256 * r - P = D := ⟨_, rfl⟩
 have w4' : IntKind.i64.wrap (256 * r - P) = D := by rw [hD]; exact IntWalk.i64_in _ (by omega)
 have hd : -2400000 ≤ D ∧ D ≤ 2400000 := by omega
 have k16 : IntKind.i64.wrap 16 = 16 := IntWalk.i64_in _ (by omega)
 have k15 : IntKind.i64.wrap 15 = 15 := IntWalk.i64_in _ (by omega)
 have k30 : IntKind.i64.wrap 30 = 30 := IntWalk.i64_in _ (by omega)
 have k9 : IntKind.i64.wrap 9 = 9 := IntWalk.i64_in _ (by omega)
 have k72 : IntKind.i64.wrap 72 = 72 := IntWalk.i64_in _ (by omega)
 have hg := dK (a := 30) (d := D) (A := 30) (B := 2400000) (by omega) (by omega) hd.1 hd.2
 obtain ⟨G, hG⟩ : ∃ G, 30 * D = G := ⟨_, rfl⟩
 have g4 : IntKind.i64.wrap (30 * D) = G := by rw [hG]; exact IntWalk.i64_in _ (by omega)
 have hqc := dK (a := 72) (d := c) (A := 72) (B := 16) (by omega) (by omega) (by omega) (by omega)
 have hqc1 : 0 < 72 * c := Int.mul_pos (by omega) (by omega)
 obtain ⟨Qc, hQc⟩ : ∃ y, 72 * c = y := ⟨_, rfl⟩
 have g7 : IntKind.i64.wrap (72 * c) = Qc := by rw [hQc]; exact IntWalk.i64_in _ (by omega)
 have g8 : IntKind.i64.wrap (6 * D) = 6 * D := IntWalk.i64_in _ (by omega)
 rw [hG] at hg
 rw [hQc] at hqc hqc1
 have HU := qh (up_ok (N := 8) (P := P) (D := D) h hc (by rw [hN1]; omega) (by rw [hM]; exact hP) hD)
 have hr1 := fR (p := G) (q := 72) (B := 300000000) (by omega) (by omega) (by omega)
 have hr2 := fR (p := 6 * D) (q := Qc) (B := 300000000) (by omega) (by omega) (by omega)
 obtain ⟨R1, hR1⟩ : ∃ R, rnd G (72) = R := ⟨_, rfl⟩
 obtain ⟨R2, hR2⟩ : ∃ R, rnd (6 * D) Qc = R := ⟨_, rfl⟩
 rw [hR1] at hr1
 rw [hR2] at hr2
 have g9 : IntKind.i64.wrap (P + R1) = P + R1 := IntWalk.i64_in _ (by omega)
 have g10 : IntKind.i64.wrap (x.v + R2) = x.v + R2 := IntWalk.i64_in _ (by omega)
 obtain ⟨L1, hL1⟩ : ∃ y, lim (P + R1) 0 2097152 = y := ⟨_, rfl⟩
 obtain ⟨L2, hL2⟩ : ∃ y, lim (x.v + R2) (-16384) 16384 = y := ⟨_, rfl⟩
 have HV := qh (show upX x r c = ⟨L1, L2, N1⟩ from by
  rw [HU.out.2]
  have e1 : 2 * (2 * 8 - 1) * D = G := by omega
  have e2 : (8 : Int) * (8 + 1) = 72 := by decide
  have e3 : min (x.n + 1) 1000 = N1 := by omega
  rw [e1, e2, e3, hQc, hR1, hR2, hL1, hL2])
 have HR := qh (And.intro hR1 (And.intro hR2 (And.intro hL1 hL2)))
 have HC1 := qh (show ∀ W : World, Calls Tryz.prog 92 #[.int .i64 G, .int .i64 (72)] W (NPost R1 W) from fun W => by
  have h := fB G (72) W (by omega) (by omega) (by omega) (by omega)
  rw [hR1] at h
  exact h)
 have HC2 := qh (show ∀ W : World, Calls Tryz.prog 92 #[.int .i64 (6 * D), .int .i64 Qc] W (NPost R2 W) from fun W => by
  have h := fB (6 * D) Qc W (by omega) (by omega) (by omega) (by omega)
  rw [hR2] at h
  exact h)
 have HBd := qh (And.intro hg (And.intro hqc hqc1))
 have hc1 : ¬ r < 0 := by omega
 have hc2 : ¬ 8192 < r := by omega
 have hc3 : ¬ c < 1 := by omega
 have hc4 : ¬ 16 < c := by omega
 have HDd := qh hd
 unfold rgV
 clear h hz hm hM hP hD hg hG hqc hqc1 hQc hr1 hr2 hR1 hR2 hL1 hL2 hN1 hc hd
 go_enter Tryz.func57, Tryz.ntmps57
 go_wp2_with fail
 refine (bG x _).mono ?_; rintro e w1 ⟨rfl, hb⟩
 rw [HE.out]
 have K := qh (And.intro (HB2.out.trans (hb.mono HB2.out.size)) (And.intro (aN hb HR0.out) (aN hb HX0.out)))
 have r0 : w1.cell? ⟨w.heap.size + 1, 0, none⟩ = some (.int .i64 0) := aA K.out.2.1 rfl
 have r1 : w1.cell? ⟨w.heap.size + 1, 1, none⟩ = some (.int .i64 0) := aA K.out.2.1 rfl
 have r2 : w1.cell? ⟨w.heap.size + 1, 2, none⟩ = some (.int .i64 0) := aA K.out.2.1 rfl
 have f0 : w1.frozen? ⟨w.heap.size + 1, 0, none⟩ = false := aF K.out.2.1
 have f1 : w1.frozen? ⟨w.heap.size + 1, 1, none⟩ = false := aF K.out.2.1
 have f2 : w1.frozen? ⟨w.heap.size + 1, 2, none⟩ = false := aF K.out.2.1
 have rl := aB K.out.2.1
 have y0 : w1.cell? ⟨w.heap.size, 0, none⟩ = some (.int .i64 x.r) := aA K.out.2.2 rfl
 have y1 : w1.cell? ⟨w.heap.size, 1, none⟩ = some (.int .i64 x.v) := aA K.out.2.2 rfl
 have y2 : w1.cell? ⟨w.heap.size, 2, none⟩ = some (.int .i64 x.n) := aA K.out.2.2 rfl
 have yl := aB K.out.2.2
 have x0 : w1.frozen? ⟨w.heap.size, 0, none⟩ = false := aF K.out.2.2
 have HRC := qh (And.intro r0 (And.intro r1 (And.intro r2 (And.intro f0 (And.intro f1 f2)))))
 clear hb r0 r1 r2 f0 f1 f2 y0 y1 y2 yl x0 rl
 have y0 : w1.cell? ⟨w.heap.size, 0, none⟩ = some (.int .i64 x.r) := aA K.out.2.2 rfl
 have y1 : w1.cell? ⟨w.heap.size, 1, none⟩ = some (.int .i64 x.v) := aA K.out.2.2 rfl
 have y2 : w1.cell? ⟨w.heap.size, 2, none⟩ = some (.int .i64 x.n) := aA K.out.2.2 rfl
 have yl := aB K.out.2.2
 go_wp2_with fail
 refine (dS 0 2097152 _).mono ?_; rintro e w2 ⟨rfl, rfl⟩
 have HP := qh (And.intro (eM w1 0 2097152) (eN w1 0 2097152))
 clear y0 y1 y2 yl
 go_wp2_with fail
 refine (HC1.out _).mono ?_; rintro e w3 ⟨rfl, hb⟩
 have KD := qh (And.intro (HP.out.2.trans (hb.mono HP.out.2.size)) (And.intro (aS hb HP.out.1.1) (aS hb HP.out.1.2)))
 clear hb
 go_wp2_with fail
 refine (dG (P + R1) 0 2097152 _ _ _ KD.out.2.1 KD.out.2.2).mono ?_; rintro e w4 ⟨rfl, hb⟩
 rw [HR.out.2.2.1]
 have K4 := qh (And.intro (K.out.1.trans ((KD.out.1.trans (hb.mono KD.out.1.size)).mono K.out.1.size)) (And.intro (aN (KD.out.1.trans (hb.mono KD.out.1.size)) K.out.2.1) (aN (KD.out.1.trans (hb.mono KD.out.1.size)) K.out.2.2)))
 have y0 : w4.cell? ⟨w.heap.size, 0, none⟩ = some (.int .i64 x.r) := aA K4.out.2.2 rfl
 have x0 : w4.frozen? ⟨w.heap.size, 0, none⟩ = false := aF K4.out.2.2
 have yl := aB K4.out.2.2
 have K5 := qh (rg_st0 K4.out.1 K4.out.2.1 K4.out.2.2 L1)
 clear hb KD
 go_wp2_with fail
 generalize w4.setCell ⟨w.heap.size, 0, none⟩ (.int .i64 L1) = w5 at *
 clear y0 x0 yl K4
 have HY := qh (show w5.cell? ⟨w.heap.size, 1, none⟩ = some (.int .i64 x.v) ∧ w5.frozen? ⟨w.heap.size, 1, none⟩ = false ∧ w.heap.size < w5.heap.size from ⟨aA K5.out.2.2 rfl, aF K5.out.2.2, aB K5.out.2.2⟩)
 have KD := qh (show Below w5.heap.size w5 w5.drew from aM (Below.refl _ _) 1)
 have HW := qh (Nat.le_refl w.heap.size)
 refine MyHeldE.start (fun W => W.cell? ⟨w.heap.size, 1, none⟩ = some (.int .i64 x.v)) [15] (by kernel_rfl) ?_
 have hHeld := aS KD.out HY.out.1
 refine MyHeldE.tk 1 ?_
 refine MyHeldE.tk 2 ?_
 refine MyHeldE.tk 3 ?_
 refine MyHeldE.tk 4 ?_
 refine MyHeldE.tk 5 ?_
 refine MyHeldE.tk 6 ?_
 refine MyHeldE.tk 7 ?_
 refine MyHeldE.tk 8 ?_
 refine MyHeldE.tk 9 ?_
 refine MyHeldE.tk 10 ?_
 refine MyHeldE.ready (rs := [0]) (by kernel_rfl) (by simp) ?_
 refine (MyHeldE.next 0 (MyHeld.at_rfl rfl) (fun Kq hKq => ?_) MyHeldE.All.nil)
 go_simp
 go_at_call 91
 refine (dS _ _ _).mono ?_; rintro e w6 ⟨rfl, rfl⟩
 have PP := qh (mM KD.out (-16384) 16384)
 replace KD := qh PP.out.1
 replace PP := qh PP.out.2
 have hHeld2 := (aS KD.out HY.out.1)
 refine hKq.out _ _ (fun _ => hHeld2) ?_
 clear hKq Kq hHeld
 have hHeld := hHeld2
 clear hHeld2
 try simp only [Act.put, List.setIfInBounds_toArray, List.set_cons_zero, List.set_cons_succ]
 refine MyHeldE.ready (rs := [11]) (by kernel_rfl) (by simp) ?_
 refine (MyHeldE.next 11 (MyHeld.at_rfl rfl) (fun Kq hKq => ?_) MyHeldE.All.nil)
 go_simp
 go_at_call 92
 refine (HC2.out _).mono ?_; rintro e w7 ⟨rfl, hb⟩
 replace PP := qh (And.intro (aS hb PP.out.1) (aS hb PP.out.2))
 replace KD := qh (KD.out.trans (hb.mono KD.out.size))
 clear hb
 have hHeld2 := (aS KD.out HY.out.1)
 refine hKq.out _ _ (fun _ => hHeld2) ?_
 clear hKq Kq hHeld
 have hHeld := hHeld2
 clear hHeld2
 try simp only [Act.put, List.setIfInBounds_toArray, List.set_cons_zero, List.set_cons_succ]
 refine MyHeldE.tk 12 ?_
 refine MyHeldE.ready (rs := [13]) (by kernel_rfl) (by simp) ?_
 refine (MyHeldE.next 13 (MyHeld.at_rfl rfl) (fun Kq hKq => ?_) MyHeldE.All.nil)
 go_simp
 go_at_call 102
 refine (dG (x.v + R2) (-16384) 16384 _ _ _ PP.out.1 PP.out.2).mono ?_; rintro e w8 ⟨rfl, hb⟩
 rw [HR.out.2.2.2]
 replace KD := qh (KD.out.trans (hb.mono KD.out.size))
 clear hb
 have hHeld2 := (aS KD.out HY.out.1)
 refine hKq.out _ _ (fun _ => hHeld2) ?_
 clear hKq Kq hHeld
 have hHeld := hHeld2
 clear hHeld2
 try simp only [Act.put, List.setIfInBounds_toArray, List.set_cons_zero, List.set_cons_succ]
 refine MyHeldE.tk 14 ?_
 have x1 := jY KD.out HY.out.1 HY.out.2.1
 have yl := Nat.lt_of_lt_of_le HY.out.2.2 KD.out.size
 refine MyHeldE.ready (rs := [15]) (by kernel_rfl) (by simp) ?_
 refine (MyHeldE.next 15 (MyHeld.at_rfl rfl) (fun Kq hKq => ?_) MyHeldE.All.nil)
 go_simp
 refine hKq.out _ _ (fun e => by cases e) ?_
 clear hKq Kq
 try simp only [Act.put, List.setIfInBounds_toArray, List.set_cons_zero, List.set_cons_succ]
 refine MyHeldE.done (by kernel_rfl) ?_ _
 have K6 := qh (rg_st1 (K5.out.1.trans (KD.out.mono K5.out.1.size)) (aN KD.out K5.out.2.1) (aN KD.out K5.out.2.2) L2)
 clear hHeld x1 yl KD PP
 generalize w8.setCell ⟨w.heap.size, 1, none⟩ (.int .i64 L2) = w9 at *
 have y0 : w9.cell? ⟨w.heap.size, 0, none⟩ = some (.int .i64 L1) := aA K6.out.2.2 rfl
 have y1 : w9.cell? ⟨w.heap.size, 1, none⟩ = some (.int .i64 L2) := aA K6.out.2.2 rfl
 have y2 : w9.cell? ⟨w.heap.size, 2, none⟩ = some (.int .i64 x.n) := aA K6.out.2.2 rfl
 have x2 : w9.frozen? ⟨w.heap.size, 2, none⟩ = false := aF K6.out.2.2
 have yl := aB K6.out.2.2
 have r0 : w9.cell? ⟨w.heap.size + 1, 0, none⟩ = some (.int .i64 0) := aA K6.out.2.1 rfl
 have r1 : w9.cell? ⟨w.heap.size + 1, 1, none⟩ = some (.int .i64 0) := aA K6.out.2.1 rfl
 have r2 : w9.cell? ⟨w.heap.size + 1, 2, none⟩ = some (.int .i64 0) := aA K6.out.2.1 rfl
 have f0 : w9.frozen? ⟨w.heap.size + 1, 0, none⟩ = false := aF K6.out.2.1
 have f1 : w9.frozen? ⟨w.heap.size + 1, 1, none⟩ = false := aF K6.out.2.1
 have f2 : w9.frozen? ⟨w.heap.size + 1, 2, none⟩ = false := aF K6.out.2.1
 have rl := aB K6.out.2.1
 have K7 := qh (rg_st2 K6.out.1 K6.out.2.1 K6.out.2.2 (N1))
 have KS := qh (dD K7.out.1 K7.out.2.1 (Nat.le_succ _) L1 L2 (N1))
 clear K6 K7 HY
 go_wp2_with fail
 have s0 := aA (i := 0) KS.out.2 rfl
 have s1 := aA (i := 1) KS.out.2 rfl
 have s2 := aA (i := 2) KS.out.2 rfl
 refine bodyPost_ret (v := .tuple #[.agg #[.int .i64 L1, .int .i64 L2, .int .i64 N1], .int .i64 0]) ?_ rfl (bM (x := ⟨L1, L2, N1⟩) HV.out HU.out.1 KS.out.1)
 simp [results, Tryz.f57, go_sem, s0, s1, s2]
theorem pUpdate_am (x : Rg) (r c N1 : Int) (w : World) (h : rgE x = 0) (hc : ¬ (r < 0 ∨ 8192 < r ∨ c < 1 ∨ 16 < c)) (hN1 : x.n + 1 = N1) (h8 : 8 < N1) (h1000 : 1000 < N1) : Calls Tryz.prog 57 #[rgV x, .int .i64 r, .int .i64 c] w (RgPost (upX x r c) (upE x r c) w) := by
 have HB := qh (aC w (.cells #[.int .i64 x.r, .int .i64 x.v, .int .i64 x.n] 50))
 have HB2 := qh (HB.out.alloc HB.out.size (.cells #[.int .i64 0, .int .i64 0, .int .i64 0] 50))
 have HX0 := qh (aG (o' := .cells #[.int .i64 0, .int .i64 0, .int .i64 0] 50) (aI w (.cells #[.int .i64 x.r, .int .i64 x.v, .int .i64 x.n] 50 (0, 0)) rfl))
 have HR0 := qh (aI (w.alloc (.cells #[.int .i64 x.r, .int .i64 x.v, .int .i64 x.n] 50)) (.cells #[.int .i64 0, .int .i64 0, .int .i64 0] 50 (0, 0)) (n := w.heap.size + 1) (by simp))
 have HE := qh h
 have hz := eR h
 have hm := jP (c := c) (v := x.v) (by omega) (by omega) hz.2.2.1 hz.2.2.2.1
 have w0' : IntKind.i64.wrap (x.n + 1) = N1 := by rw [hN1]; exact IntWalk.i64_in _ (by omega)
 obtain ⟨M, hM⟩ : ∃ M, c * x.v = M := ⟨_, rfl⟩
 have w1' : IntKind.i64.wrap (c * x.v) = M := by rw [hM]; exact IntWalk.i64_in _ (by omega)
 rw [hM] at hm
 obtain ⟨P, hP⟩ : ∃ P, x.r + M = P := ⟨_, rfl⟩
 have w2' : IntKind.i64.wrap (x.r + M) = P := by rw [hP]; exact IntWalk.i64_in _ (by omega)
 have w3' : IntKind.i64.wrap (256 * r) = 256 * r := IntWalk.i64_in _ (by omega)
 obtain ⟨D, hD⟩ : ∃ D, 256 * r - P = D := ⟨_, rfl⟩
 have w4' : IntKind.i64.wrap (256 * r - P) = D := by rw [hD]; exact IntWalk.i64_in _ (by omega)
 have hd : -2400000 ≤ D ∧ D ≤ 2400000 := by omega
 have k16 : IntKind.i64.wrap 16 = 16 := IntWalk.i64_in _ (by omega)
 have k15 : IntKind.i64.wrap 15 = 15 := IntWalk.i64_in _ (by omega)
 have k30 : IntKind.i64.wrap 30 = 30 := IntWalk.i64_in _ (by omega)
 have k9 : IntKind.i64.wrap 9 = 9 := IntWalk.i64_in _ (by omega)
 have k72 : IntKind.i64.wrap 72 = 72 := IntWalk.i64_in _ (by omega)
 have hg := dK (a := 30) (d := D) (A := 30) (B := 2400000) (by omega) (by omega) hd.1 hd.2
 obtain ⟨G, hG⟩ : ∃ G, 30 * D = G := ⟨_, rfl⟩
 have g4 : IntKind.i64.wrap (30 * D) = G := by rw [hG]; exact IntWalk.i64_in _ (by omega)
 have hqc := dK (a := 72) (d := c) (A := 72) (B := 16) (by omega) (by omega) (by omega) (by omega)
 have hqc1 : 0 < 72 * c := Int.mul_pos (by omega) (by omega)
 obtain ⟨Qc, hQc⟩ : ∃ y, 72 * c = y := ⟨_, rfl⟩
 have g7 : IntKind.i64.wrap (72 * c) = Qc := by rw [hQc]; exact IntWalk.i64_in _ (by omega)
 have g8 : IntKind.i64.wrap (6 * D) = 6 * D := IntWalk.i64_in _ (by omega)
 rw [hG] at hg
 rw [hQc] at hqc hqc1
 have HU := qh (up_ok (N := 8) (P := P) (D := D) h hc (by rw [hN1]; omega) (by rw [hM]; exact hP) hD)
 have hr1 := fR (p := G) (q := 72) (B := 300000000) (by omega) (by omega) (by omega)
 have hr2 := fR (p := 6 * D) (q := Qc) (B := 300000000) (by omega) (by omega) (by omega)
 obtain ⟨R1, hR1⟩ : ∃ R, rnd G (72) = R := ⟨_, rfl⟩
 obtain ⟨R2, hR2⟩ : ∃ R, rnd (6 * D) Qc = R := ⟨_, rfl⟩
 rw [hR1] at hr1
 rw [hR2] at hr2
 have g9 : IntKind.i64.wrap (P + R1) = P + R1 := IntWalk.i64_in _ (by omega)
 have g10 : IntKind.i64.wrap (x.v + R2) = x.v + R2 := IntWalk.i64_in _ (by omega)
 obtain ⟨L1, hL1⟩ : ∃ y, lim (P + R1) 0 2097152 = y := ⟨_, rfl⟩
 obtain ⟨L2, hL2⟩ : ∃ y, lim (x.v + R2) (-16384) 16384 = y := ⟨_, rfl⟩
 have HV := qh (show upX x r c = ⟨L1, L2, 1000⟩ from by
  rw [HU.out.2]
  have e1 : 2 * (2 * 8 - 1) * D = G := by omega
  have e2 : (8 : Int) * (8 + 1) = 72 := by decide
  have e3 : min (x.n + 1) 1000 = 1000 := by omega
  rw [e1, e2, e3, hQc, hR1, hR2, hL1, hL2])
 have HR := qh (And.intro hR1 (And.intro hR2 (And.intro hL1 hL2)))
 have HC1 := qh (show ∀ W : World, Calls Tryz.prog 92 #[.int .i64 G, .int .i64 (72)] W (NPost R1 W) from fun W => by
  have h := fB G (72) W (by omega) (by omega) (by omega) (by omega)
  rw [hR1] at h
  exact h)
 have HC2 := qh (show ∀ W : World, Calls Tryz.prog 92 #[.int .i64 (6 * D), .int .i64 Qc] W (NPost R2 W) from fun W => by
  have h := fB (6 * D) Qc W (by omega) (by omega) (by omega) (by omega)
  rw [hR2] at h
  exact h)
 have HBd := qh (And.intro hg (And.intro hqc hqc1))
 have hc1 : ¬ r < 0 := by omega
 have hc2 : ¬ 8192 < r := by omega
 have hc3 : ¬ c < 1 := by omega
 have hc4 : ¬ 16 < c := by omega
 have HDd := qh hd
 unfold rgV
 clear h hz hm hM hP hD hg hG hqc hqc1 hQc hr1 hr2 hR1 hR2 hL1 hL2 hN1 hc hd
 go_enter Tryz.func57, Tryz.ntmps57
 go_wp2_with fail
 refine (bG x _).mono ?_; rintro e w1 ⟨rfl, hb⟩
 rw [HE.out]
 have K := qh (And.intro (HB2.out.trans (hb.mono HB2.out.size)) (And.intro (aN hb HR0.out) (aN hb HX0.out)))
 have r0 : w1.cell? ⟨w.heap.size + 1, 0, none⟩ = some (.int .i64 0) := aA K.out.2.1 rfl
 have r1 : w1.cell? ⟨w.heap.size + 1, 1, none⟩ = some (.int .i64 0) := aA K.out.2.1 rfl
 have r2 : w1.cell? ⟨w.heap.size + 1, 2, none⟩ = some (.int .i64 0) := aA K.out.2.1 rfl
 have f0 : w1.frozen? ⟨w.heap.size + 1, 0, none⟩ = false := aF K.out.2.1
 have f1 : w1.frozen? ⟨w.heap.size + 1, 1, none⟩ = false := aF K.out.2.1
 have f2 : w1.frozen? ⟨w.heap.size + 1, 2, none⟩ = false := aF K.out.2.1
 have rl := aB K.out.2.1
 have y0 : w1.cell? ⟨w.heap.size, 0, none⟩ = some (.int .i64 x.r) := aA K.out.2.2 rfl
 have y1 : w1.cell? ⟨w.heap.size, 1, none⟩ = some (.int .i64 x.v) := aA K.out.2.2 rfl
 have y2 : w1.cell? ⟨w.heap.size, 2, none⟩ = some (.int .i64 x.n) := aA K.out.2.2 rfl
 have yl := aB K.out.2.2
 have x0 : w1.frozen? ⟨w.heap.size, 0, none⟩ = false := aF K.out.2.2
 have HRC := qh (And.intro r0 (And.intro r1 (And.intro r2 (And.intro f0 (And.intro f1 f2)))))
 clear hb r0 r1 r2 f0 f1 f2 y0 y1 y2 yl x0 rl
 have y0 : w1.cell? ⟨w.heap.size, 0, none⟩ = some (.int .i64 x.r) := aA K.out.2.2 rfl
 have y1 : w1.cell? ⟨w.heap.size, 1, none⟩ = some (.int .i64 x.v) := aA K.out.2.2 rfl
 have y2 : w1.cell? ⟨w.heap.size, 2, none⟩ = some (.int .i64 x.n) := aA K.out.2.2 rfl
 have yl := aB K.out.2.2
 go_wp2_with fail
 refine (dS 0 2097152 _).mono ?_; rintro e w2 ⟨rfl, rfl⟩
 have HP := qh (And.intro (eM w1 0 2097152) (eN w1 0 2097152))
 clear y0 y1 y2 yl
 go_wp2_with fail
 refine (HC1.out _).mono ?_; rintro e w3 ⟨rfl, hb⟩
 have KD := qh (And.intro (HP.out.2.trans (hb.mono HP.out.2.size)) (And.intro (aS hb HP.out.1.1) (aS hb HP.out.1.2)))
 clear hb
 go_wp2_with fail
 refine (dG (P + R1) 0 2097152 _ _ _ KD.out.2.1 KD.out.2.2).mono ?_; rintro e w4 ⟨rfl, hb⟩
 rw [HR.out.2.2.1]
 have K4 := qh (And.intro (K.out.1.trans ((KD.out.1.trans (hb.mono KD.out.1.size)).mono K.out.1.size)) (And.intro (aN (KD.out.1.trans (hb.mono KD.out.1.size)) K.out.2.1) (aN (KD.out.1.trans (hb.mono KD.out.1.size)) K.out.2.2)))
 have y0 : w4.cell? ⟨w.heap.size, 0, none⟩ = some (.int .i64 x.r) := aA K4.out.2.2 rfl
 have x0 : w4.frozen? ⟨w.heap.size, 0, none⟩ = false := aF K4.out.2.2
 have yl := aB K4.out.2.2
 have K5 := qh (rg_st0 K4.out.1 K4.out.2.1 K4.out.2.2 L1)
 clear hb KD
 go_wp2_with fail
 generalize w4.setCell ⟨w.heap.size, 0, none⟩ (.int .i64 L1) = w5 at *
 clear y0 x0 yl K4
 have HY := qh (show w5.cell? ⟨w.heap.size, 1, none⟩ = some (.int .i64 x.v) ∧ w5.frozen? ⟨w.heap.size, 1, none⟩ = false ∧ w.heap.size < w5.heap.size from ⟨aA K5.out.2.2 rfl, aF K5.out.2.2, aB K5.out.2.2⟩)
 have KD := qh (show Below w5.heap.size w5 w5.drew from aM (Below.refl _ _) 1)
 have HW := qh (Nat.le_refl w.heap.size)
 refine MyHeldE.start (fun W => W.cell? ⟨w.heap.size, 1, none⟩ = some (.int .i64 x.v)) [15] (by kernel_rfl) ?_
 have hHeld := aS KD.out HY.out.1
 refine MyHeldE.tk 1 ?_
 refine MyHeldE.tk 2 ?_
 refine MyHeldE.tk 3 ?_
 refine MyHeldE.tk 4 ?_
 refine MyHeldE.tk 5 ?_
 refine MyHeldE.tk 6 ?_
 refine MyHeldE.tk 7 ?_
 refine MyHeldE.tk 8 ?_
 refine MyHeldE.tk 9 ?_
 refine MyHeldE.tk 10 ?_
 refine MyHeldE.ready (rs := [0]) (by kernel_rfl) (by simp) ?_
 refine (MyHeldE.next 0 (MyHeld.at_rfl rfl) (fun Kq hKq => ?_) MyHeldE.All.nil)
 go_simp
 go_at_call 91
 refine (dS _ _ _).mono ?_; rintro e w6 ⟨rfl, rfl⟩
 have PP := qh (mM KD.out (-16384) 16384)
 replace KD := qh PP.out.1
 replace PP := qh PP.out.2
 have hHeld2 := (aS KD.out HY.out.1)
 refine hKq.out _ _ (fun _ => hHeld2) ?_
 clear hKq Kq hHeld
 have hHeld := hHeld2
 clear hHeld2
 try simp only [Act.put, List.setIfInBounds_toArray, List.set_cons_zero, List.set_cons_succ]
 refine MyHeldE.ready (rs := [11]) (by kernel_rfl) (by simp) ?_
 refine (MyHeldE.next 11 (MyHeld.at_rfl rfl) (fun Kq hKq => ?_) MyHeldE.All.nil)
 go_simp
 go_at_call 92
 refine (HC2.out _).mono ?_; rintro e w7 ⟨rfl, hb⟩
 replace PP := qh (And.intro (aS hb PP.out.1) (aS hb PP.out.2))
 replace KD := qh (KD.out.trans (hb.mono KD.out.size))
 clear hb
 have hHeld2 := (aS KD.out HY.out.1)
 refine hKq.out _ _ (fun _ => hHeld2) ?_
 clear hKq Kq hHeld
 have hHeld := hHeld2
 clear hHeld2
 try simp only [Act.put, List.setIfInBounds_toArray, List.set_cons_zero, List.set_cons_succ]
 refine MyHeldE.tk 12 ?_
 refine MyHeldE.ready (rs := [13]) (by kernel_rfl) (by simp) ?_
 refine (MyHeldE.next 13 (MyHeld.at_rfl rfl) (fun Kq hKq => ?_) MyHeldE.All.nil)
 go_simp
 go_at_call 102
 refine (dG (x.v + R2) (-16384) 16384 _ _ _ PP.out.1 PP.out.2).mono ?_; rintro e w8 ⟨rfl, hb⟩
 rw [HR.out.2.2.2]
 replace KD := qh (KD.out.trans (hb.mono KD.out.size))
 clear hb
 have hHeld2 := (aS KD.out HY.out.1)
 refine hKq.out _ _ (fun _ => hHeld2) ?_
 clear hKq Kq hHeld
 have hHeld := hHeld2
 clear hHeld2
 try simp only [Act.put, List.setIfInBounds_toArray, List.set_cons_zero, List.set_cons_succ]
 refine MyHeldE.tk 14 ?_
 have x1 := jY KD.out HY.out.1 HY.out.2.1
 have yl := Nat.lt_of_lt_of_le HY.out.2.2 KD.out.size
 refine MyHeldE.ready (rs := [15]) (by kernel_rfl) (by simp) ?_
 refine (MyHeldE.next 15 (MyHeld.at_rfl rfl) (fun Kq hKq => ?_) MyHeldE.All.nil)
 go_simp
 refine hKq.out _ _ (fun e => by cases e) ?_
 clear hKq Kq
 try simp only [Act.put, List.setIfInBounds_toArray, List.set_cons_zero, List.set_cons_succ]
 refine MyHeldE.done (by kernel_rfl) ?_ _
 have K6 := qh (rg_st1 (K5.out.1.trans (KD.out.mono K5.out.1.size)) (aN KD.out K5.out.2.1) (aN KD.out K5.out.2.2) L2)
 clear hHeld x1 yl KD PP
 generalize w8.setCell ⟨w.heap.size, 1, none⟩ (.int .i64 L2) = w9 at *
 have y0 : w9.cell? ⟨w.heap.size, 0, none⟩ = some (.int .i64 L1) := aA K6.out.2.2 rfl
 have y1 : w9.cell? ⟨w.heap.size, 1, none⟩ = some (.int .i64 L2) := aA K6.out.2.2 rfl
 have y2 : w9.cell? ⟨w.heap.size, 2, none⟩ = some (.int .i64 x.n) := aA K6.out.2.2 rfl
 have x2 : w9.frozen? ⟨w.heap.size, 2, none⟩ = false := aF K6.out.2.2
 have yl := aB K6.out.2.2
 have r0 : w9.cell? ⟨w.heap.size + 1, 0, none⟩ = some (.int .i64 0) := aA K6.out.2.1 rfl
 have r1 : w9.cell? ⟨w.heap.size + 1, 1, none⟩ = some (.int .i64 0) := aA K6.out.2.1 rfl
 have r2 : w9.cell? ⟨w.heap.size + 1, 2, none⟩ = some (.int .i64 0) := aA K6.out.2.1 rfl
 have f0 : w9.frozen? ⟨w.heap.size + 1, 0, none⟩ = false := aF K6.out.2.1
 have f1 : w9.frozen? ⟨w.heap.size + 1, 1, none⟩ = false := aF K6.out.2.1
 have f2 : w9.frozen? ⟨w.heap.size + 1, 2, none⟩ = false := aF K6.out.2.1
 have rl := aB K6.out.2.1
 have K7 := qh (rg_st2 K6.out.1 K6.out.2.1 K6.out.2.2 (1000))
 have KS := qh (dD K7.out.1 K7.out.2.1 (Nat.le_succ _) L1 L2 (1000))
 clear K6 K7 HY
 go_wp2_with fail
 have s0 := aA (i := 0) KS.out.2 rfl
 have s1 := aA (i := 1) KS.out.2 rfl
 have s2 := aA (i := 2) KS.out.2 rfl
 refine bodyPost_ret (v := .tuple #[.agg #[.int .i64 L1, .int .i64 L2, .int .i64 1000], .int .i64 0]) ?_ rfl (bM (x := ⟨L1, L2, 1000⟩) HV.out HU.out.1 KS.out.1)
 simp [results, Tryz.f57, go_sem, s0, s1, s2]
theorem pUpdate_b (x : Rg) (r c N1 : Int) (w : World) (h : rgE x = 0) (hc : ¬ (r < 0 ∨ 8192 < r ∨ c < 1 ∨ 16 < c)) (hN1 : x.n + 1 = N1) (h8 : ¬ 8 < N1) (_h1000 : ¬ 1000 < N1) : Calls Tryz.prog 57 #[rgV x, .int .i64 r, .int .i64 c] w (RgPost (upX x r c) (upE x r c) w) := by
 have HB := qh (aC w (.cells #[.int .i64 x.r, .int .i64 x.v, .int .i64 x.n] 50))
 have HB2 := qh (HB.out.alloc HB.out.size (.cells #[.int .i64 0, .int .i64 0, .int .i64 0] 50))
 have HX0 := qh (aG (o' := .cells #[.int .i64 0, .int .i64 0, .int .i64 0] 50) (aI w (.cells #[.int .i64 x.r, .int .i64 x.v, .int .i64 x.n] 50 (0, 0)) rfl))
 have HR0 := qh (aI (w.alloc (.cells #[.int .i64 x.r, .int .i64 x.v, .int .i64 x.n] 50)) (.cells #[.int .i64 0, .int .i64 0, .int .i64 0] 50 (0, 0)) (n := w.heap.size + 1) (by simp))
 have HE := qh h
 have hz := eR h
 have hm := jP (c := c) (v := x.v) (by omega) (by omega) hz.2.2.1 hz.2.2.2.1
 have w0' : IntKind.i64.wrap (x.n + 1) = N1 := by rw [hN1]; exact IntWalk.i64_in _ (by omega)
 obtain ⟨M, hM⟩ : ∃ M, c * x.v = M := ⟨_, rfl⟩
 have w1' : IntKind.i64.wrap (c * x.v) = M := by rw [hM]; exact IntWalk.i64_in _ (by omega)
 rw [hM] at hm
 obtain ⟨P, hP⟩ : ∃ P, x.r + M = P := ⟨_, rfl⟩
 have w2' : IntKind.i64.wrap (x.r + M) = P := by rw [hP]; exact IntWalk.i64_in _ (by omega)
 have w3' : IntKind.i64.wrap (256 * r) = 256 * r := IntWalk.i64_in _ (by omega)
 obtain ⟨D, hD⟩ : ∃ D, 256 * r - P = D := ⟨_, rfl⟩
 have w4' : IntKind.i64.wrap (256 * r - P) = D := by rw [hD]; exact IntWalk.i64_in _ (by omega)
 have hd : -2400000 ≤ D ∧ D ≤ 2400000 := by omega
 have g1 : IntKind.i64.wrap (2 * N1) = 2 * N1 := IntWalk.i64_in _ (by omega)
 have g2 : IntKind.i64.wrap (2 * N1 - 1) = 2 * N1 - 1 := IntWalk.i64_in _ (by omega)
 have g3 : IntKind.i64.wrap (2 * (2 * N1 - 1)) = 2 * (2 * N1 - 1) := IntWalk.i64_in _ (by omega)
 have g5 : IntKind.i64.wrap (N1 + 1) = N1 + 1 := IntWalk.i64_in _ (by omega)
 have hq := dK (a := N1) (d := N1 + 1) (A := 8) (B := 9) (by omega) (by omega) (by omega) (by omega)
 have hq1 : 0 < N1 * (N1 + 1) := Int.mul_pos (by omega) (by omega)
 obtain ⟨Q, hQ⟩ : ∃ Q, N1 * (N1 + 1) = Q := ⟨_, rfl⟩
 have g6 : IntKind.i64.wrap (N1 * (N1 + 1)) = Q := by rw [hQ]; exact IntWalk.i64_in _ (by omega)
 rw [hQ] at hq hq1
 have hg := dK (a := 2 * (2 * N1 - 1)) (d := D) (A := 30) (B := 2400000) (by omega) (by omega) hd.1 hd.2
 obtain ⟨G, hG⟩ : ∃ G, 2 * (2 * N1 - 1) * D = G := ⟨_, rfl⟩
 have g4 : IntKind.i64.wrap (2 * (2 * N1 - 1) * D) = G := by rw [hG]; exact IntWalk.i64_in _ (by omega)
 have hqc := dK (a := Q) (d := c) (A := 72) (B := 16) (by omega) (by omega) (by omega) (by omega)
 have hqc1 : 0 < Q * c := Int.mul_pos (by omega) (by omega)
 obtain ⟨Qc, hQc⟩ : ∃ y, Q * c = y := ⟨_, rfl⟩
 have g7 : IntKind.i64.wrap (Q * c) = Qc := by rw [hQc]; exact IntWalk.i64_in _ (by omega)
 have g8 : IntKind.i64.wrap (6 * D) = 6 * D := IntWalk.i64_in _ (by omega)
 rw [hG] at hg
 rw [hQc] at hqc hqc1
 have HU := qh (up_ok (N := N1) (P := P) (D := D) h hc (by rw [hN1]; omega) (by rw [hM]; exact hP) hD)
 have hr1 := fR (p := G) (q := Q) (B := 300000000) (by omega) (by omega) (by omega)
 have hr2 := fR (p := 6 * D) (q := Qc) (B := 300000000) (by omega) (by omega) (by omega)
 obtain ⟨R1, hR1⟩ : ∃ R, rnd G (Q) = R := ⟨_, rfl⟩
 obtain ⟨R2, hR2⟩ : ∃ R, rnd (6 * D) Qc = R := ⟨_, rfl⟩
 rw [hR1] at hr1
 rw [hR2] at hr2
 have g9 : IntKind.i64.wrap (P + R1) = P + R1 := IntWalk.i64_in _ (by omega)
 have g10 : IntKind.i64.wrap (x.v + R2) = x.v + R2 := IntWalk.i64_in _ (by omega)
 obtain ⟨L1, hL1⟩ : ∃ y, lim (P + R1) 0 2097152 = y := ⟨_, rfl⟩
 obtain ⟨L2, hL2⟩ : ∃ y, lim (x.v + R2) (-16384) 16384 = y := ⟨_, rfl⟩
 have HV := qh (show upX x r c = ⟨L1, L2, N1⟩ from by
  rw [HU.out.2]
  have e1 : 2 * (2 * N1 - 1) * D = G := hG
  have e2 : (N1 : Int) * (N1 + 1) = Q := hQ
  have e3 : min (x.n + 1) 1000 = N1 := by omega
  rw [e1, e2, e3, hQc, hR1, hR2, hL1, hL2])
 have HR := qh (And.intro hR1 (And.intro hR2 (And.intro hL1 hL2)))
 have HC1 := qh (show ∀ W : World, Calls Tryz.prog 92 #[.int .i64 G, .int .i64 (Q)] W (NPost R1 W) from fun W => by
  have h := fB G (Q) W (by omega) (by omega) (by omega) (by omega)
  rw [hR1] at h
  exact h)
 have HC2 := qh (show ∀ W : World, Calls Tryz.prog 92 #[.int .i64 (6 * D), .int .i64 Qc] W (NPost R2 W) from fun W => by
  have h := fB (6 * D) Qc W (by omega) (by omega) (by omega) (by omega)
  rw [hR2] at h
  exact h)
 have HBd := qh (And.intro hg (And.intro hqc hqc1))
 have hc1 : ¬ r < 0 := by omega
 have hc2 : ¬ 8192 < r := by omega
 have hc3 : ¬ c < 1 := by omega
 have hc4 : ¬ 16 < c := by omega
 have HDd := qh hd
 have HQb := qh (And.intro hq hq1)
 unfold rgV
 clear h hz hm hM hP hD hg hG hqc hqc1 hQc hr1 hr2 hR1 hR2 hL1 hL2 hN1 hc hd hq hq1 hQ
 go_enter Tryz.func57, Tryz.ntmps57
 go_wp2_with fail
 refine (bG x _).mono ?_; rintro e w1 ⟨rfl, hb⟩
 rw [HE.out]
 have K := qh (And.intro (HB2.out.trans (hb.mono HB2.out.size)) (And.intro (aN hb HR0.out) (aN hb HX0.out)))
 have r0 : w1.cell? ⟨w.heap.size + 1, 0, none⟩ = some (.int .i64 0) := aA K.out.2.1 rfl
 have r1 : w1.cell? ⟨w.heap.size + 1, 1, none⟩ = some (.int .i64 0) := aA K.out.2.1 rfl
 have r2 : w1.cell? ⟨w.heap.size + 1, 2, none⟩ = some (.int .i64 0) := aA K.out.2.1 rfl
 have f0 : w1.frozen? ⟨w.heap.size + 1, 0, none⟩ = false := aF K.out.2.1
 have f1 : w1.frozen? ⟨w.heap.size + 1, 1, none⟩ = false := aF K.out.2.1
 have f2 : w1.frozen? ⟨w.heap.size + 1, 2, none⟩ = false := aF K.out.2.1
 have rl := aB K.out.2.1
 have y0 : w1.cell? ⟨w.heap.size, 0, none⟩ = some (.int .i64 x.r) := aA K.out.2.2 rfl
 have y1 : w1.cell? ⟨w.heap.size, 1, none⟩ = some (.int .i64 x.v) := aA K.out.2.2 rfl
 have y2 : w1.cell? ⟨w.heap.size, 2, none⟩ = some (.int .i64 x.n) := aA K.out.2.2 rfl
 have yl := aB K.out.2.2
 have x0 : w1.frozen? ⟨w.heap.size, 0, none⟩ = false := aF K.out.2.2
 have HRC := qh (And.intro r0 (And.intro r1 (And.intro r2 (And.intro f0 (And.intro f1 f2)))))
 clear hb r0 r1 r2 f0 f1 f2 y0 y1 y2 yl x0 rl
 have y0 : w1.cell? ⟨w.heap.size, 0, none⟩ = some (.int .i64 x.r) := aA K.out.2.2 rfl
 have y1 : w1.cell? ⟨w.heap.size, 1, none⟩ = some (.int .i64 x.v) := aA K.out.2.2 rfl
 have y2 : w1.cell? ⟨w.heap.size, 2, none⟩ = some (.int .i64 x.n) := aA K.out.2.2 rfl
 have yl := aB K.out.2.2
 go_wp2_with fail
 refine (dS 0 2097152 _).mono ?_; rintro e w2 ⟨rfl, rfl⟩
 have HP := qh (And.intro (eM w1 0 2097152) (eN w1 0 2097152))
 clear y0 y1 y2 yl
 go_wp2_with fail
 refine (HC1.out _).mono ?_; rintro e w3 ⟨rfl, hb⟩
 have KD := qh (And.intro (HP.out.2.trans (hb.mono HP.out.2.size)) (And.intro (aS hb HP.out.1.1) (aS hb HP.out.1.2)))
 clear hb
 go_wp2_with fail
 refine (dG (P + R1) 0 2097152 _ _ _ KD.out.2.1 KD.out.2.2).mono ?_; rintro e w4 ⟨rfl, hb⟩
 rw [HR.out.2.2.1]
 have K4 := qh (And.intro (K.out.1.trans ((KD.out.1.trans (hb.mono KD.out.1.size)).mono K.out.1.size)) (And.intro (aN (KD.out.1.trans (hb.mono KD.out.1.size)) K.out.2.1) (aN (KD.out.1.trans (hb.mono KD.out.1.size)) K.out.2.2)))
 have y0 : w4.cell? ⟨w.heap.size, 0, none⟩ = some (.int .i64 x.r) := aA K4.out.2.2 rfl
 have x0 : w4.frozen? ⟨w.heap.size, 0, none⟩ = false := aF K4.out.2.2
 have yl := aB K4.out.2.2
 have K5 := qh (rg_st0 K4.out.1 K4.out.2.1 K4.out.2.2 L1)
 clear hb KD
 go_wp2_with fail
 generalize w4.setCell ⟨w.heap.size, 0, none⟩ (.int .i64 L1) = w5 at *
 clear y0 x0 yl K4
 have HY := qh (show w5.cell? ⟨w.heap.size, 1, none⟩ = some (.int .i64 x.v) ∧ w5.frozen? ⟨w.heap.size, 1, none⟩ = false ∧ w.heap.size < w5.heap.size from ⟨aA K5.out.2.2 rfl, aF K5.out.2.2, aB K5.out.2.2⟩)
 have KD := qh (show Below w5.heap.size w5 w5.drew from aM (Below.refl _ _) 1)
 have HW := qh (Nat.le_refl w.heap.size)
 refine MyHeldE.start (fun W => W.cell? ⟨w.heap.size, 1, none⟩ = some (.int .i64 x.v)) [15] (by kernel_rfl) ?_
 have hHeld := aS KD.out HY.out.1
 refine MyHeldE.tk 1 ?_
 refine MyHeldE.tk 2 ?_
 refine MyHeldE.tk 3 ?_
 refine MyHeldE.tk 4 ?_
 refine MyHeldE.tk 5 ?_
 refine MyHeldE.tk 6 ?_
 refine MyHeldE.tk 7 ?_
 refine MyHeldE.tk 8 ?_
 refine MyHeldE.tk 9 ?_
 refine MyHeldE.tk 10 ?_
 refine MyHeldE.ready (rs := [0]) (by kernel_rfl) (by simp) ?_
 refine (MyHeldE.next 0 (MyHeld.at_rfl rfl) (fun Kq hKq => ?_) MyHeldE.All.nil)
 go_simp
 go_at_call 91
 refine (dS _ _ _).mono ?_; rintro e w6 ⟨rfl, rfl⟩
 have PP := qh (mM KD.out (-16384) 16384)
 replace KD := qh PP.out.1
 replace PP := qh PP.out.2
 have hHeld2 := (aS KD.out HY.out.1)
 refine hKq.out _ _ (fun _ => hHeld2) ?_
 clear hKq Kq hHeld
 have hHeld := hHeld2
 clear hHeld2
 try simp only [Act.put, List.setIfInBounds_toArray, List.set_cons_zero, List.set_cons_succ]
 refine MyHeldE.ready (rs := [11]) (by kernel_rfl) (by simp) ?_
 refine (MyHeldE.next 11 (MyHeld.at_rfl rfl) (fun Kq hKq => ?_) MyHeldE.All.nil)
 go_simp
 go_at_call 92
 refine (HC2.out _).mono ?_; rintro e w7 ⟨rfl, hb⟩
 replace PP := qh (And.intro (aS hb PP.out.1) (aS hb PP.out.2))
 replace KD := qh (KD.out.trans (hb.mono KD.out.size))
 clear hb
 have hHeld2 := (aS KD.out HY.out.1)
 refine hKq.out _ _ (fun _ => hHeld2) ?_
 clear hKq Kq hHeld
 have hHeld := hHeld2
 clear hHeld2
 try simp only [Act.put, List.setIfInBounds_toArray, List.set_cons_zero, List.set_cons_succ]
 refine MyHeldE.tk 12 ?_
 refine MyHeldE.ready (rs := [13]) (by kernel_rfl) (by simp) ?_
 refine (MyHeldE.next 13 (MyHeld.at_rfl rfl) (fun Kq hKq => ?_) MyHeldE.All.nil)
 go_simp
 go_at_call 102
 refine (dG (x.v + R2) (-16384) 16384 _ _ _ PP.out.1 PP.out.2).mono ?_; rintro e w8 ⟨rfl, hb⟩
 rw [HR.out.2.2.2]
 replace KD := qh (KD.out.trans (hb.mono KD.out.size))
 clear hb
 have hHeld2 := (aS KD.out HY.out.1)
 refine hKq.out _ _ (fun _ => hHeld2) ?_
 clear hKq Kq hHeld
 have hHeld := hHeld2
 clear hHeld2
 try simp only [Act.put, List.setIfInBounds_toArray, List.set_cons_zero, List.set_cons_succ]
 refine MyHeldE.tk 14 ?_
 have x1 := jY KD.out HY.out.1 HY.out.2.1
 have yl := Nat.lt_of_lt_of_le HY.out.2.2 KD.out.size
 refine MyHeldE.ready (rs := [15]) (by kernel_rfl) (by simp) ?_
 refine (MyHeldE.next 15 (MyHeld.at_rfl rfl) (fun Kq hKq => ?_) MyHeldE.All.nil)
 go_simp
 refine hKq.out _ _ (fun e => by cases e) ?_
 clear hKq Kq
 try simp only [Act.put, List.setIfInBounds_toArray, List.set_cons_zero, List.set_cons_succ]
 refine MyHeldE.done (by kernel_rfl) ?_ _
 have K6 := qh (rg_st1 (K5.out.1.trans (KD.out.mono K5.out.1.size)) (aN KD.out K5.out.2.1) (aN KD.out K5.out.2.2) L2)
 clear hHeld x1 yl KD PP
 generalize w8.setCell ⟨w.heap.size, 1, none⟩ (.int .i64 L2) = w9 at *
 have y0 : w9.cell? ⟨w.heap.size, 0, none⟩ = some (.int .i64 L1) := aA K6.out.2.2 rfl
 have y1 : w9.cell? ⟨w.heap.size, 1, none⟩ = some (.int .i64 L2) := aA K6.out.2.2 rfl
 have y2 : w9.cell? ⟨w.heap.size, 2, none⟩ = some (.int .i64 x.n) := aA K6.out.2.2 rfl
 have x2 : w9.frozen? ⟨w.heap.size, 2, none⟩ = false := aF K6.out.2.2
 have yl := aB K6.out.2.2
 have r0 : w9.cell? ⟨w.heap.size + 1, 0, none⟩ = some (.int .i64 0) := aA K6.out.2.1 rfl
 have r1 : w9.cell? ⟨w.heap.size + 1, 1, none⟩ = some (.int .i64 0) := aA K6.out.2.1 rfl
 have r2 : w9.cell? ⟨w.heap.size + 1, 2, none⟩ = some (.int .i64 0) := aA K6.out.2.1 rfl
 have f0 : w9.frozen? ⟨w.heap.size + 1, 0, none⟩ = false := aF K6.out.2.1
 have f1 : w9.frozen? ⟨w.heap.size + 1, 1, none⟩ = false := aF K6.out.2.1
 have f2 : w9.frozen? ⟨w.heap.size + 1, 2, none⟩ = false := aF K6.out.2.1
 have rl := aB K6.out.2.1
 have K7 := qh (rg_st2 K6.out.1 K6.out.2.1 K6.out.2.2 (N1))
 have KS := qh (dD K7.out.1 K7.out.2.1 (Nat.le_succ _) L1 L2 (N1))
 clear K6 K7 HY
 go_wp2_with fail
 have s0 := aA (i := 0) KS.out.2 rfl
 have s1 := aA (i := 1) KS.out.2 rfl
 have s2 := aA (i := 2) KS.out.2 rfl
 refine bodyPost_ret (v := .tuple #[.agg #[.int .i64 L1, .int .i64 L2, .int .i64 N1], .int .i64 0]) ?_ rfl (bM (x := ⟨L1, L2, N1⟩) HV.out HU.out.1 KS.out.1)
 simp [results, Tryz.f57, go_sem, s0, s1, s2]
theorem oM (x : Rg) (r c : Int) (w : World) : Calls Tryz.prog 57 #[rgV x, .int .i64 r, .int .i64 c] w (RgPost (upX x r c) (upE x r c) w) := by
 by_cases h : rgE x = 0
 ·by_cases hc : r < 0 ∨ 8192 < r ∨ c < 1 ∨ 16 < c
  ·exact kU x r c w (Or.inr hc)
  by_cases h8 : 8 < x.n + 1
  ·by_cases h1000 : 1000 < x.n + 1
   ·exact pUpdate_am x r c _ w h hc rfl h8 h1000
   exact pUpdate_a x r c _ w h hc rfl h8 h1000
  exact pUpdate_b x r c _ w h hc rfl h8 (by omega)
 exact kU x r c w (Or.inl h)
end Go.Proofs.YtikjjpjekchcjaaGreat
