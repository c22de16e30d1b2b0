/-
  TrkJ, PtAltL
-/
import Derived.Test.YtikjjpjekchcjaaGreatPm23
set_option linter.all false
set_option maxRecDepth 100000
set_option maxHeartbeats 64000000
section
namespace Go.Proofs.YtikjjpjekchcjaaGreat
open Go.RowKit TrkMath MyHeap MyOwn
theorem lim_bd (n : Int) : 0 ≤ lim n 0 2097152 ∧ lim n 0 2097152 ≤ 2097152 := by unfold lim; omega
theorem prV_bd (x : Rg) (c : Int) : 0 ≤ prV x c ∧ prV x c ≤ 2097152 := by
 unfold prV
 split
 ·exact lim_bd _
 decide
structure CoK (w : World) (r : Nat) (p : Par) (now next : Int) (tV pV lV eV : Value) (q : TB) (y : Pl) (W : World) : Prop where
 B : Below w.heap.size w W
 T : W.heap[w.heap.size]? = some (.cells (tkC q) 55 (0, 0))
 Y : W.heap[w.heap.size + 1]? = some (.cells #[.int .i64 y.r, .int .i64 y.code, .int .i64 y.addr] 63 (0, 0))
 R : RunAt r p now next tV pV lV eV W
theorem CoK.keep {w : World} {r : Nat} {p : Par} {now next : Int} {tV pV lV eV : Value} {q : TB} {y : Pl} {W W' : World} (h : CoK w r p now next tV pV lV eV q y W) (hb : Below W.heap.size W W') : CoK w r p now next tV pV lV eV q y W' :=
 ⟨h.B.trans (hb.mono h.B.size), aN hb h.T, aN hb h.Y, h.R.below hb⟩
theorem CoK.new {w : World} {r : Nat} {p : Par} {now next : Int} {tV pV lV eV : Value} (q : TB) (y : Pl) (h : RunAt r p now next tV pV lV eV w) : CoK w r p now next tV pV lV eV q y ((w.alloc (.cells (tkC q) 55)).alloc (.cells #[.int .i64 y.r, .int .i64 y.code, .int .i64 y.addr] 63)) :=
 ⟨(aC w _).alloc (by simp) _, aG (aI w _ rfl), aI _ _ (by simp), (h.below (aC _ _)).below (aC _ _)⟩
theorem cB {w : World} {b : Nat} {T : TypeId} {x y z : Value} {fr : Nat × Nat} (h : w.heap[b]? = some (.cells #[x, y, z] T fr)) : w.cell? ⟨b, 0, none⟩ = some x ∧ w.cell? ⟨b, 1, none⟩ = some y ∧ w.cell? ⟨b, 2, none⟩ = some z :=
 ⟨aA h rfl, aA h rfl, aA h rfl⟩
theorem cost_call (r g n c : Nat) (p : Par) (now next : Int) (tV eV : Value) (pa : Option Addr) (pn pc : Nat) (P : List Pl) (LV : List Lv) (t : Tk) (s : Bs) (k : Nat) (w : World) (hR : RunAt r p now next tV (.slice pa pn pc) (.slice (some ⟨g, 0, none⟩) n c) eV w) (hPl : Pls w pa pn P) (hL : LvAt g LV w) (hn : LV.length = n) (hk : k < n) (hkp : k < pn) (hl : LvOk (gl LV k)) (hT : TkOk p t) (hPar : ParOk p) (hy : ¬ plBad (gp P k)) (hI : BdI w (t, s)) :
    Calls Tryz.prog 55 #[.pointer (some ⟨r, 0, none⟩), tkV (t, s), .int .i64 (k : Int)] w (NPost (costV p t (gp P k) (gl LV k)) w) := by
 obtain ⟨b, off, rfl, q0, q1, q2⟩ := fS hPl hkp
 have gq := World.block_lt_of_cell? _ _ q0
 obtain ⟨⟨A, S⟩, hA⟩ : ∃ l, gl LV k = l := ⟨_, rfl⟩
 obtain ⟨⟨yr, yc, ya⟩, hY⟩ : ∃ y, gp P k = y := ⟨_, rfl⟩
 rw [hY] at q0 q1 q2 hy ⊢
 have HA := qh hA
 have HPb := qh hPl.bound
 simp only [] at q0 q1 q2
 have hyr : 0 ≤ yr ∧ yr ≤ 8192 := Decidable.not_not.1 (fun e => hy (Or.inl e))
 have HX := qh (And.intro hL (And.intro hn (And.intro hk (And.intro hl (And.intro hT (And.intro hPar hI))))))
 have hmis := hT.mis
 have hgate := hPar.1
 have hmost := hPar.2.2.1
 have K := qh (CoK.new (t, s) ⟨yr, yc, ya⟩ hR)
 obtain ⟨-, -, -, -, -, -, -, r7, -, -⟩ := hR.cells
 have rl := hR.lt
 have hk0 : (0 : Int) ≤ (k : Int) := by omega
 have hk1 : (k : Int) < (pn : Int) := by omega
 obtain ⟨pv, hpv⟩ : ∃ v, prV t.rg (t.misses + 1) = v := ⟨_, rfl⟩
 have hpb := prV_bd t.rg (t.misses + 1)
 rw [hpv] at hpb
 obtain ⟨D, hD⟩ : ∃ D, 256 * yr - pv = D := ⟨_, rfl⟩
 obtain ⟨V, hV⟩ : ∃ V, max D (-D) = V := ⟨_, rfl⟩
 have hVb : 0 ≤ V ∧ V ≤ 2097152 := by omega
 have HV := qh (show offV t ⟨yr, yc, ya⟩ = V from by unfold offV; rw [hpv]; dsimp only; rw [hD, hV])
 have w1' : IntKind.i64.wrap (t.misses + 1) = t.misses + 1 := IntWalk.i64_in _ (by omega)
 have w2' : IntKind.i64.wrap (256 * yr) = 256 * yr := IntWalk.i64_in _ (by omega)
 have w3' : IntKind.i64.wrap (256 * yr - pv) = D := by rw [hD]; exact IntWalk.i64_in _ (by omega)
 have w4' : IntKind.i64.wrap (-D) = -D := IntWalk.i64_in _ (by omega)
 have w5' : IntKind.i64.wrap (256 * p.gate) = 256 * p.gate := IntWalk.i64_in _ (by omega)
 have w6' : IntKind.i64.wrap (V + 65536) = V + 65536 := IntWalk.i64_in _ (by omega)
 have HPV := qh hpv
 obtain ⟨id, addr, rg, lo, hi, hits, misses, firm⟩ := t
 obtain ⟨aL, nL, cL, aH, nH, cH⟩ := s
 have hVc : (D < -D → V = -D) ∧ (¬ D < -D → V = D) := by omega
 clear hA hY hPl hn hl hT hPar hy hI hL hR hpv hD hV hmis hmost hpb hyr
 unfold tkV tkC
 unfold tkC at K
 simp only [] at K HPV HV w1' ⊢
 by_cases hs : D < -D
 ·obtain rfl := hVc.1 hs
  clear hVc
  by_cases ha : 0 ≤ addr
  ·by_cases hya : 0 ≤ ya
   ·have HBo := qh (show bothB ⟨id, addr, rg, lo, hi, hits, misses, firm⟩ ⟨yr, yc, ya⟩ from ⟨ha, hya⟩)
    by_cases hf : 256 * p.gate < -D
    ·have HC := qh (show costV p ⟨id, addr, rg, lo, hi, hits, misses, firm⟩ ⟨yr, yc, ya⟩ (gl LV k) = -1 from bU (Or.inl (by rw [HV.out]; exact hf)))
     go_enter Tryz.func55, Tryz.ntmps55
     go_wp2_with fail
     refine (bI rg (misses + 1) _).mono ?_; rintro e w1 ⟨rfl, hb⟩
     rw [HPV.out]
     replace K := qh (K.out.keep hb)
     clear hb r7 rl q0 q1 q2 gq
     obtain ⟨z0, z1, z2, z3, z4, z5, z6, z7, z8, z9⟩ := TkAt.block' (q := (⟨id, addr, rg, lo, hi, hits, misses, firm⟩, ⟨aL, nL, cL, aH, nH, cH⟩)) K.out.T
     simp only [] at z0 z1 z2 z3 z4 z5 z6 z7 z8 z9
     obtain ⟨y0, y1, y2⟩ := cB K.out.Y
     simp only [] at y0 y1 y2
     have zl := aB K.out.T
     have yl := aB K.out.Y
     obtain ⟨r0, r1, r2, r3, r4, r5, r6, r7, r8, r9⟩ := K.out.R.cells
     have rl := K.out.R.lt
     go_wp2_with fail
     go_ret
     exact aJ HC.out.symm K.out.B
    by_cases hne : addr = ya
    ·subst hne
     have HF := qh (show ¬ farB p ⟨id, addr, rg, lo, hi, hits, misses, firm⟩ ⟨yr, yc, addr⟩ from fun e => by
      rcases e with e | e
      ·rw [HV.out] at e; exact hf e
      exact e.2 rfl)
     go_enter Tryz.func55, Tryz.ntmps55
     go_wp2_with fail
     refine (bI rg (misses + 1) _).mono ?_; rintro e w1 ⟨rfl, hb⟩
     rw [HPV.out]
     replace K := qh (K.out.keep hb)
     clear hb r7 rl q0 q1 q2 gq
     obtain ⟨z0, z1, z2, z3, z4, z5, z6, z7, z8, z9⟩ := TkAt.block' (q := (⟨id, addr, rg, lo, hi, hits, misses, firm⟩, ⟨aL, nL, cL, aH, nH, cH⟩)) K.out.T
     simp only [] at z0 z1 z2 z3 z4 z5 z6 z7 z8 z9
     obtain ⟨y0, y1, y2⟩ := cB K.out.Y
     simp only [] at y0 y1 y2
     have zl := aB K.out.T
     have yl := aB K.out.Y
     obtain ⟨r0, r1, r2, r3, r4, r5, r6, r7, r8, r9⟩ := K.out.R.cells
     have rl := K.out.R.lt
     go_wp2_with fail
     cases he : emptyB (meaL lo hi (gl LV k)) (meaH lo hi (gl LV k)) with
     | true =>
      have HEM := qh he
      have HC := qh (bV (l := gl LV k) HF.out he)
      clear he
      refine (bN r g n c p now next _ _ _ LV ⟨id, addr, rg, lo, hi, hits, misses, firm⟩ ⟨aL, nL, cL, aH, nH, cH⟩ k _ K.out.R (HX.out.1.below K.out.B) HX.out.2.1 HX.out.2.2.1 HX.out.2.2.2.1 HX.out.2.2.2.2.1.ch (HX.out.2.2.2.2.2.2.below K.out.B)).mono ?_; rintro e w2 ⟨⟨a1, n1, c1, a2, n2, c2⟩, rfl, hb, -⟩
      replace K := qh (K.out.keep hb)
      clear hb
      rw [HEM.out]
      unfold bdV'
      simp only []
      have HC2 := qh (K.out.keep (aC _ (.cells #[.slice a1 n1 c1, .slice a2 n2 c2] 53)))
      go_wp2_with fail
      go_ret
      exact aJ HC.out.symm HC2.out.B
     | false =>
      have HEM := qh he
      have HC := qh (gR (l := gl LV k) HF.out he HBo.out)
      clear he
      refine (bN r g n c p now next _ _ _ LV ⟨id, addr, rg, lo, hi, hits, misses, firm⟩ ⟨aL, nL, cL, aH, nH, cH⟩ k _ K.out.R (HX.out.1.below K.out.B) HX.out.2.1 HX.out.2.2.1 HX.out.2.2.2.1 HX.out.2.2.2.2.1.ch (HX.out.2.2.2.2.2.2.below K.out.B)).mono ?_; rintro e w2 ⟨⟨a1, n1, c1, a2, n2, c2⟩, rfl, hb, -⟩
      replace K := qh (K.out.keep hb)
      clear hb
      rw [HEM.out]
      unfold bdV'
      simp only []
      have HC2 := qh (K.out.keep (aC _ (.cells #[.slice a1 n1 c1, .slice a2 n2 c2] 53)))
      go_wp2_with fail
      go_ret
      exact aJ (by rw [HC.out, HV.out]) HC2.out.B
    have hnb : (addr != ya) = true := bne_iff_ne.2 hne
    have HC := qh (show costV p ⟨id, addr, rg, lo, hi, hits, misses, firm⟩ ⟨yr, yc, ya⟩ (gl LV k) = -1 from bU (Or.inr ⟨HBo.out, hne⟩))
    go_enter Tryz.func55, Tryz.ntmps55
    go_wp2_with fail
    refine (bI rg (misses + 1) _).mono ?_; rintro e w1 ⟨rfl, hb⟩
    rw [HPV.out]
    replace K := qh (K.out.keep hb)
    clear hb r7 rl q0 q1 q2 gq
    obtain ⟨z0, z1, z2, z3, z4, z5, z6, z7, z8, z9⟩ := TkAt.block' (q := (⟨id, addr, rg, lo, hi, hits, misses, firm⟩, ⟨aL, nL, cL, aH, nH, cH⟩)) K.out.T
    simp only [] at z0 z1 z2 z3 z4 z5 z6 z7 z8 z9
    obtain ⟨y0, y1, y2⟩ := cB K.out.Y
    simp only [] at y0 y1 y2
    have zl := aB K.out.T
    have yl := aB K.out.Y
    obtain ⟨r0, r1, r2, r3, r4, r5, r6, r7, r8, r9⟩ := K.out.R.cells
    have rl := K.out.R.lt
    go_wp2_with fail
    go_ret
    exact aJ HC.out.symm K.out.B
   have HBo := qh (show ¬ bothB ⟨id, addr, rg, lo, hi, hits, misses, firm⟩ ⟨yr, yc, ya⟩ from fun e => hya e.2)
   by_cases hf : 256 * p.gate < -D
   ·have HC := qh (show costV p ⟨id, addr, rg, lo, hi, hits, misses, firm⟩ ⟨yr, yc, ya⟩ (gl LV k) = -1 from bU (Or.inl (by rw [HV.out]; exact hf)))
    go_enter Tryz.func55, Tryz.ntmps55
    go_wp2_with fail
    refine (bI rg (misses + 1) _).mono ?_; rintro e w1 ⟨rfl, hb⟩
    rw [HPV.out]
    replace K := qh (K.out.keep hb)
    clear hb r7 rl q0 q1 q2 gq
    obtain ⟨z0, z1, z2, z3, z4, z5, z6, z7, z8, z9⟩ := TkAt.block' (q := (⟨id, addr, rg, lo, hi, hits, misses, firm⟩, ⟨aL, nL, cL, aH, nH, cH⟩)) K.out.T
    simp only [] at z0 z1 z2 z3 z4 z5 z6 z7 z8 z9
    obtain ⟨y0, y1, y2⟩ := cB K.out.Y
    simp only [] at y0 y1 y2
    have zl := aB K.out.T
    have yl := aB K.out.Y
    obtain ⟨r0, r1, r2, r3, r4, r5, r6, r7, r8, r9⟩ := K.out.R.cells
    have rl := K.out.R.lt
    go_wp2_with fail
    go_ret
    exact aJ HC.out.symm K.out.B
   have HF := qh (show ¬ farB p ⟨id, addr, rg, lo, hi, hits, misses, firm⟩ ⟨yr, yc, ya⟩ from fun e => by
    rcases e with e | e
    ·rw [HV.out] at e; exact hf e
    exact HBo.out e.1)
   go_enter Tryz.func55, Tryz.ntmps55
   go_wp2_with fail
   refine (bI rg (misses + 1) _).mono ?_; rintro e w1 ⟨rfl, hb⟩
   rw [HPV.out]
   replace K := qh (K.out.keep hb)
   clear hb r7 rl q0 q1 q2 gq
   obtain ⟨z0, z1, z2, z3, z4, z5, z6, z7, z8, z9⟩ := TkAt.block' (q := (⟨id, addr, rg, lo, hi, hits, misses, firm⟩, ⟨aL, nL, cL, aH, nH, cH⟩)) K.out.T
   simp only [] at z0 z1 z2 z3 z4 z5 z6 z7 z8 z9
   obtain ⟨y0, y1, y2⟩ := cB K.out.Y
   simp only [] at y0 y1 y2
   have zl := aB K.out.T
   have yl := aB K.out.Y
   obtain ⟨r0, r1, r2, r3, r4, r5, r6, r7, r8, r9⟩ := K.out.R.cells
   have rl := K.out.R.lt
   go_wp2_with fail
   cases he : emptyB (meaL lo hi (gl LV k)) (meaH lo hi (gl LV k)) with
   | true =>
    have HEM := qh he
    have HC := qh (bV (l := gl LV k) HF.out he)
    clear he
    refine (bN r g n c p now next _ _ _ LV ⟨id, addr, rg, lo, hi, hits, misses, firm⟩ ⟨aL, nL, cL, aH, nH, cH⟩ k _ K.out.R (HX.out.1.below K.out.B) HX.out.2.1 HX.out.2.2.1 HX.out.2.2.2.1 HX.out.2.2.2.2.1.ch (HX.out.2.2.2.2.2.2.below K.out.B)).mono ?_; rintro e w2 ⟨⟨a1, n1, c1, a2, n2, c2⟩, rfl, hb, -⟩
    replace K := qh (K.out.keep hb)
    clear hb
    rw [HEM.out]
    unfold bdV'
    simp only []
    have HC2 := qh (K.out.keep (aC _ (.cells #[.slice a1 n1 c1, .slice a2 n2 c2] 53)))
    go_wp2_with fail
    go_ret
    exact aJ HC.out.symm HC2.out.B
   | false =>
    have HEM := qh he
    have HC := qh (dO (l := gl LV k) HF.out he HBo.out)
    clear he
    refine (bN r g n c p now next _ _ _ LV ⟨id, addr, rg, lo, hi, hits, misses, firm⟩ ⟨aL, nL, cL, aH, nH, cH⟩ k _ K.out.R (HX.out.1.below K.out.B) HX.out.2.1 HX.out.2.2.1 HX.out.2.2.2.1 HX.out.2.2.2.2.1.ch (HX.out.2.2.2.2.2.2.below K.out.B)).mono ?_; rintro e w2 ⟨⟨a1, n1, c1, a2, n2, c2⟩, rfl, hb, -⟩
    replace K := qh (K.out.keep hb)
    clear hb
    rw [HEM.out]
    unfold bdV'
    simp only []
    have HC2 := qh (K.out.keep (aC _ (.cells #[.slice a1 n1 c1, .slice a2 n2 c2] 53)))
    go_wp2_with fail
    go_ret
    exact aJ (by rw [HC.out, HV.out]) HC2.out.B
  have HBo := qh (show ¬ bothB ⟨id, addr, rg, lo, hi, hits, misses, firm⟩ ⟨yr, yc, ya⟩ from fun e => ha e.1)
  by_cases hf : 256 * p.gate < -D
  ·have HC := qh (show costV p ⟨id, addr, rg, lo, hi, hits, misses, firm⟩ ⟨yr, yc, ya⟩ (gl LV k) = -1 from bU (Or.inl (by rw [HV.out]; exact hf)))
   go_enter Tryz.func55, Tryz.ntmps55
   go_wp2_with fail
   refine (bI rg (misses + 1) _).mono ?_; rintro e w1 ⟨rfl, hb⟩
   rw [HPV.out]
   replace K := qh (K.out.keep hb)
   clear hb r7 rl q0 q1 q2 gq
   obtain ⟨z0, z1, z2, z3, z4, z5, z6, z7, z8, z9⟩ := TkAt.block' (q := (⟨id, addr, rg, lo, hi, hits, misses, firm⟩, ⟨aL, nL, cL, aH, nH, cH⟩)) K.out.T
   simp only [] at z0 z1 z2 z3 z4 z5 z6 z7 z8 z9
   obtain ⟨y0, y1, y2⟩ := cB K.out.Y
   simp only [] at y0 y1 y2
   have zl := aB K.out.T
   have yl := aB K.out.Y
   obtain ⟨r0, r1, r2, r3, r4, r5, r6, r7, r8, r9⟩ := K.out.R.cells
   have rl := K.out.R.lt
   go_wp2_with fail
   go_ret
   exact aJ HC.out.symm K.out.B
  have HF := qh (show ¬ farB p ⟨id, addr, rg, lo, hi, hits, misses, firm⟩ ⟨yr, yc, ya⟩ from fun e => by
   rcases e with e | e
   ·rw [HV.out] at e; exact hf e
   exact HBo.out e.1)
  go_enter Tryz.func55, Tryz.ntmps55
  go_wp2_with fail
  refine (bI rg (misses + 1) _).mono ?_; rintro e w1 ⟨rfl, hb⟩
  rw [HPV.out]
  replace K := qh (K.out.keep hb)
  clear hb r7 rl q0 q1 q2 gq
  obtain ⟨z0, z1, z2, z3, z4, z5, z6, z7, z8, z9⟩ := TkAt.block' (q := (⟨id, addr, rg, lo, hi, hits, misses, firm⟩, ⟨aL, nL, cL, aH, nH, cH⟩)) K.out.T
  simp only [] at z0 z1 z2 z3 z4 z5 z6 z7 z8 z9
  obtain ⟨y0, y1, y2⟩ := cB K.out.Y
  simp only [] at y0 y1 y2
  have zl := aB K.out.T
  have yl := aB K.out.Y
  obtain ⟨r0, r1, r2, r3, r4, r5, r6, r7, r8, r9⟩ := K.out.R.cells
  have rl := K.out.R.lt
  go_wp2_with fail
  cases he : emptyB (meaL lo hi (gl LV k)) (meaH lo hi (gl LV k)) with
  | true =>
   have HEM := qh he
   have HC := qh (bV (l := gl LV k) HF.out he)
   clear he
   refine (bN r g n c p now next _ _ _ LV ⟨id, addr, rg, lo, hi, hits, misses, firm⟩ ⟨aL, nL, cL, aH, nH, cH⟩ k _ K.out.R (HX.out.1.below K.out.B) HX.out.2.1 HX.out.2.2.1 HX.out.2.2.2.1 HX.out.2.2.2.2.1.ch (HX.out.2.2.2.2.2.2.below K.out.B)).mono ?_; rintro e w2 ⟨⟨a1, n1, c1, a2, n2, c2⟩, rfl, hb, -⟩
   replace K := qh (K.out.keep hb)
   clear hb
   rw [HEM.out]
   unfold bdV'
   simp only []
   have HC2 := qh (K.out.keep (aC _ (.cells #[.slice a1 n1 c1, .slice a2 n2 c2] 53)))
   go_wp2_with fail
   go_ret
   exact aJ HC.out.symm HC2.out.B
  | false =>
   have HEM := qh he
   have HC := qh (dO (l := gl LV k) HF.out he HBo.out)
   clear he
   refine (bN r g n c p now next _ _ _ LV ⟨id, addr, rg, lo, hi, hits, misses, firm⟩ ⟨aL, nL, cL, aH, nH, cH⟩ k _ K.out.R (HX.out.1.below K.out.B) HX.out.2.1 HX.out.2.2.1 HX.out.2.2.2.1 HX.out.2.2.2.2.1.ch (HX.out.2.2.2.2.2.2.below K.out.B)).mono ?_; rintro e w2 ⟨⟨a1, n1, c1, a2, n2, c2⟩, rfl, hb, -⟩
   replace K := qh (K.out.keep hb)
   clear hb
   rw [HEM.out]
   unfold bdV'
   simp only []
   have HC2 := qh (K.out.keep (aC _ (.cells #[.slice a1 n1 c1, .slice a2 n2 c2] 53)))
   go_wp2_with fail
   go_ret
   exact aJ (by rw [HC.out, HV.out]) HC2.out.B
 obtain rfl := hVc.2 hs
 clear hVc
 by_cases ha : 0 ≤ addr
 ·by_cases hya : 0 ≤ ya
  ·have HBo := qh (show bothB ⟨id, addr, rg, lo, hi, hits, misses, firm⟩ ⟨yr, yc, ya⟩ from ⟨ha, hya⟩)
   by_cases hf : 256 * p.gate < V
   ·have HC := qh (show costV p ⟨id, addr, rg, lo, hi, hits, misses, firm⟩ ⟨yr, yc, ya⟩ (gl LV k) = -1 from bU (Or.inl (by rw [HV.out]; exact hf)))
    go_enter Tryz.func55, Tryz.ntmps55
    go_wp2_with fail
    refine (bI rg (misses + 1) _).mono ?_; rintro e w1 ⟨rfl, hb⟩
    rw [HPV.out]
    replace K := qh (K.out.keep hb)
    clear hb r7 rl q0 q1 q2 gq
    obtain ⟨z0, z1, z2, z3, z4, z5, z6, z7, z8, z9⟩ := TkAt.block' (q := (⟨id, addr, rg, lo, hi, hits, misses, firm⟩, ⟨aL, nL, cL, aH, nH, cH⟩)) K.out.T
    simp only [] at z0 z1 z2 z3 z4 z5 z6 z7 z8 z9
    obtain ⟨y0, y1, y2⟩ := cB K.out.Y
    simp only [] at y0 y1 y2
    have zl := aB K.out.T
    have yl := aB K.out.Y
    obtain ⟨r0, r1, r2, r3, r4, r5, r6, r7, r8, r9⟩ := K.out.R.cells
    have rl := K.out.R.lt
    go_wp2_with fail
    go_ret
    exact aJ HC.out.symm K.out.B
   by_cases hne : addr = ya
   ·subst hne
    have HF := qh (show ¬ farB p ⟨id, addr, rg, lo, hi, hits, misses, firm⟩ ⟨yr, yc, addr⟩ from fun e => by
     rcases e with e | e
     ·rw [HV.out] at e; exact hf e
     exact e.2 rfl)
    go_enter Tryz.func55, Tryz.ntmps55
    go_wp2_with fail
    refine (bI rg (misses + 1) _).mono ?_; rintro e w1 ⟨rfl, hb⟩
    rw [HPV.out]
    replace K := qh (K.out.keep hb)
    clear hb r7 rl q0 q1 q2 gq
    obtain ⟨z0, z1, z2, z3, z4, z5, z6, z7, z8, z9⟩ := TkAt.block' (q := (⟨id, addr, rg, lo, hi, hits, misses, firm⟩, ⟨aL, nL, cL, aH, nH, cH⟩)) K.out.T
    simp only [] at z0 z1 z2 z3 z4 z5 z6 z7 z8 z9
    obtain ⟨y0, y1, y2⟩ := cB K.out.Y
    simp only [] at y0 y1 y2
    have zl := aB K.out.T
    have yl := aB K.out.Y
    obtain ⟨r0, r1, r2, r3, r4, r5, r6, r7, r8, r9⟩ := K.out.R.cells
    have rl := K.out.R.lt
    go_wp2_with fail
    cases he : emptyB (meaL lo hi (gl LV k)) (meaH lo hi (gl LV k)) with
    | true =>
     have HEM := qh he
     have HC := qh (bV (l := gl LV k) HF.out he)
     clear he
     refine (bN r g n c p now next _ _ _ LV ⟨id, addr, rg, lo, hi, hits, misses, firm⟩ ⟨aL, nL, cL, aH, nH, cH⟩ k _ K.out.R (HX.out.1.below K.out.B) HX.out.2.1 HX.out.2.2.1 HX.out.2.2.2.1 HX.out.2.2.2.2.1.ch (HX.out.2.2.2.2.2.2.below K.out.B)).mono ?_; rintro e w2 ⟨⟨a1, n1, c1, a2, n2, c2⟩, rfl, hb, -⟩
     replace K := qh (K.out.keep hb)
     clear hb
     rw [HEM.out]
     unfold bdV'
     simp only []
     have HC2 := qh (K.out.keep (aC _ (.cells #[.slice a1 n1 c1, .slice a2 n2 c2] 53)))
     go_wp2_with fail
     go_ret
     exact aJ HC.out.symm HC2.out.B
    | false =>
     have HEM := qh he
     have HC := qh (gR (l := gl LV k) HF.out he HBo.out)
     clear he
     refine (bN r g n c p now next _ _ _ LV ⟨id, addr, rg, lo, hi, hits, misses, firm⟩ ⟨aL, nL, cL, aH, nH, cH⟩ k _ K.out.R (HX.out.1.below K.out.B) HX.out.2.1 HX.out.2.2.1 HX.out.2.2.2.1 HX.out.2.2.2.2.1.ch (HX.out.2.2.2.2.2.2.below K.out.B)).mono ?_; rintro e w2 ⟨⟨a1, n1, c1, a2, n2, c2⟩, rfl, hb, -⟩
     replace K := qh (K.out.keep hb)
     clear hb
     rw [HEM.out]
     unfold bdV'
     simp only []
     have HC2 := qh (K.out.keep (aC _ (.cells #[.slice a1 n1 c1, .slice a2 n2 c2] 53)))
     go_wp2_with fail
     go_ret
     exact aJ (by rw [HC.out, HV.out]) HC2.out.B
   have hnb : (addr != ya) = true := bne_iff_ne.2 hne
   have HC := qh (show costV p ⟨id, addr, rg, lo, hi, hits, misses, firm⟩ ⟨yr, yc, ya⟩ (gl LV k) = -1 from bU (Or.inr ⟨HBo.out, hne⟩))
   go_enter Tryz.func55, Tryz.ntmps55
   go_wp2_with fail
   refine (bI rg (misses + 1) _).mono ?_; rintro e w1 ⟨rfl, hb⟩
   rw [HPV.out]
   replace K := qh (K.out.keep hb)
   clear hb r7 rl q0 q1 q2 gq
   obtain ⟨z0, z1, z2, z3, z4, z5, z6, z7, z8, z9⟩ := TkAt.block' (q := (⟨id, addr, rg, lo, hi, hits, misses, firm⟩, ⟨aL, nL, cL, aH, nH, cH⟩)) K.out.T
   simp only [] at z0 z1 z2 z3 z4 z5 z6 z7 z8 z9
   obtain ⟨y0, y1, y2⟩ := cB K.out.Y
   simp only [] at y0 y1 y2
   have zl := aB K.out.T
   have yl := aB K.out.Y
   obtain ⟨r0, r1, r2, r3, r4, r5, r6, r7, r8, r9⟩ := K.out.R.cells
   have rl := K.out.R.lt
   go_wp2_with fail
   go_ret
   exact aJ HC.out.symm K.out.B
  have HBo := qh (show ¬ bothB ⟨id, addr, rg, lo, hi, hits, misses, firm⟩ ⟨yr, yc, ya⟩ from fun e => hya e.2)
  by_cases hf : 256 * p.gate < V
  ·have HC := qh (show costV p ⟨id, addr, rg, lo, hi, hits, misses, firm⟩ ⟨yr, yc, ya⟩ (gl LV k) = -1 from bU (Or.inl (by rw [HV.out]; exact hf)))
   go_enter Tryz.func55, Tryz.ntmps55
   go_wp2_with fail
   refine (bI rg (misses + 1) _).mono ?_; rintro e w1 ⟨rfl, hb⟩
   rw [HPV.out]
   replace K := qh (K.out.keep hb)
   clear hb r7 rl q0 q1 q2 gq
   obtain ⟨z0, z1, z2, z3, z4, z5, z6, z7, z8, z9⟩ := TkAt.block' (q := (⟨id, addr, rg, lo, hi, hits, misses, firm⟩, ⟨aL, nL, cL, aH, nH, cH⟩)) K.out.T
   simp only [] at z0 z1 z2 z3 z4 z5 z6 z7 z8 z9
   obtain ⟨y0, y1, y2⟩ := cB K.out.Y
   simp only [] at y0 y1 y2
   have zl := aB K.out.T
   have yl := aB K.out.Y
   obtain ⟨r0, r1, r2, r3, r4, r5, r6, r7, r8, r9⟩ := K.out.R.cells
   have rl := K.out.R.lt
   go_wp2_with fail
   go_ret
   exact aJ HC.out.symm K.out.B
  have HF := qh (show ¬ farB p ⟨id, addr, rg, lo, hi, hits, misses, firm⟩ ⟨yr, yc, ya⟩ from fun e => by
   rcases e with e | e
   ·rw [HV.out] at e; exact hf e
   exact HBo.out e.1)
  go_enter Tryz.func55, Tryz.ntmps55
  go_wp2_with fail
  refine (bI rg (misses + 1) _).mono ?_; rintro e w1 ⟨rfl, hb⟩
  rw [HPV.out]
  replace K := qh (K.out.keep hb)
  clear hb r7 rl q0 q1 q2 gq
  obtain ⟨z0, z1, z2, z3, z4, z5, z6, z7, z8, z9⟩ := TkAt.block' (q := (⟨id, addr, rg, lo, hi, hits, misses, firm⟩, ⟨aL, nL, cL, aH, nH, cH⟩)) K.out.T
  simp only [] at z0 z1 z2 z3 z4 z5 z6 z7 z8 z9
  obtain ⟨y0, y1, y2⟩ := cB K.out.Y
  simp only [] at y0 y1 y2
  have zl := aB K.out.T
  have yl := aB K.out.Y
  obtain ⟨r0, r1, r2, r3, r4, r5, r6, r7, r8, r9⟩ := K.out.R.cells
  have rl := K.out.R.lt
  go_wp2_with fail
  cases he : emptyB (meaL lo hi (gl LV k)) (meaH lo hi (gl LV k)) with
  | true =>
   have HEM := qh he
   have HC := qh (bV (l := gl LV k) HF.out he)
   clear he
   refine (bN r g n c p now next _ _ _ LV ⟨id, addr, rg, lo, hi, hits, misses, firm⟩ ⟨aL, nL, cL, aH, nH, cH⟩ k _ K.out.R (HX.out.1.below K.out.B) HX.out.2.1 HX.out.2.2.1 HX.out.2.2.2.1 HX.out.2.2.2.2.1.ch (HX.out.2.2.2.2.2.2.below K.out.B)).mono ?_; rintro e w2 ⟨⟨a1, n1, c1, a2, n2, c2⟩, rfl, hb, -⟩
   replace K := qh (K.out.keep hb)
   clear hb
   rw [HEM.out]
   unfold bdV'
   simp only []
   have HC2 := qh (K.out.keep (aC _ (.cells #[.slice a1 n1 c1, .slice a2 n2 c2] 53)))
   go_wp2_with fail
   go_ret
   exact aJ HC.out.symm HC2.out.B
  | false =>
   have HEM := qh he
   have HC := qh (dO (l := gl LV k) HF.out he HBo.out)
   clear he
   refine (bN r g n c p now next _ _ _ LV ⟨id, addr, rg, lo, hi, hits, misses, firm⟩ ⟨aL, nL, cL, aH, nH, cH⟩ k _ K.out.R (HX.out.1.below K.out.B) HX.out.2.1 HX.out.2.2.1 HX.out.2.2.2.1 HX.out.2.2.2.2.1.ch (HX.out.2.2.2.2.2.2.below K.out.B)).mono ?_; rintro e w2 ⟨⟨a1, n1, c1, a2, n2, c2⟩, rfl, hb, -⟩
   replace K := qh (K.out.keep hb)
   clear hb
   rw [HEM.out]
   unfold bdV'
   simp only []
   have HC2 := qh (K.out.keep (aC _ (.cells #[.slice a1 n1 c1, .slice a2 n2 c2] 53)))
   go_wp2_with fail
   go_ret
   exact aJ (by rw [HC.out, HV.out]) HC2.out.B
 have HBo := qh (show ¬ bothB ⟨id, addr, rg, lo, hi, hits, misses, firm⟩ ⟨yr, yc, ya⟩ from fun e => ha e.1)
 by_cases hf : 256 * p.gate < V
 ·have HC := qh (show costV p ⟨id, addr, rg, lo, hi, hits, misses, firm⟩ ⟨yr, yc, ya⟩ (gl LV k) = -1 from bU (Or.inl (by rw [HV.out]; exact hf)))
  go_enter Tryz.func55, Tryz.ntmps55
  go_wp2_with fail
  refine (bI rg (misses + 1) _).mono ?_; rintro e w1 ⟨rfl, hb⟩
  rw [HPV.out]
  replace K := qh (K.out.keep hb)
  clear hb r7 rl q0 q1 q2 gq
  obtain ⟨z0, z1, z2, z3, z4, z5, z6, z7, z8, z9⟩ := TkAt.block' (q := (⟨id, addr, rg, lo, hi, hits, misses, firm⟩, ⟨aL, nL, cL, aH, nH, cH⟩)) K.out.T
  simp only [] at z0 z1 z2 z3 z4 z5 z6 z7 z8 z9
  obtain ⟨y0, y1, y2⟩ := cB K.out.Y
  simp only [] at y0 y1 y2
  have zl := aB K.out.T
  have yl := aB K.out.Y
  obtain ⟨r0, r1, r2, r3, r4, r5, r6, r7, r8, r9⟩ := K.out.R.cells
  have rl := K.out.R.lt
  go_wp2_with fail
  go_ret
  exact aJ HC.out.symm K.out.B
 have HF := qh (show ¬ farB p ⟨id, addr, rg, lo, hi, hits, misses, firm⟩ ⟨yr, yc, ya⟩ from fun e => by
  rcases e with e | e
  ·rw [HV.out] at e; exact hf e
  exact HBo.out e.1)
 go_enter Tryz.func55, Tryz.ntmps55
 go_wp2_with fail
 refine (bI rg (misses + 1) _).mono ?_; rintro e w1 ⟨rfl, hb⟩
 rw [HPV.out]
 replace K := qh (K.out.keep hb)
 clear hb r7 rl q0 q1 q2 gq
 obtain ⟨z0, z1, z2, z3, z4, z5, z6, z7, z8, z9⟩ := TkAt.block' (q := (⟨id, addr, rg, lo, hi, hits, misses, firm⟩, ⟨aL, nL, cL, aH, nH, cH⟩)) K.out.T
 simp only [] at z0 z1 z2 z3 z4 z5 z6 z7 z8 z9
 obtain ⟨y0, y1, y2⟩ := cB K.out.Y
 simp only [] at y0 y1 y2
 have zl := aB K.out.T
 have yl := aB K.out.Y
 obtain ⟨r0, r1, r2, r3, r4, r5, r6, r7, r8, r9⟩ := K.out.R.cells
 have rl := K.out.R.lt
 go_wp2_with fail
 cases he : emptyB (meaL lo hi (gl LV k)) (meaH lo hi (gl LV k)) with
 | true =>
  have HEM := qh he
  have HC := qh (bV (l := gl LV k) HF.out he)
  clear he
  refine (bN r g n c p now next _ _ _ LV ⟨id, addr, rg, lo, hi, hits, misses, firm⟩ ⟨aL, nL, cL, aH, nH, cH⟩ k _ K.out.R (HX.out.1.below K.out.B) HX.out.2.1 HX.out.2.2.1 HX.out.2.2.2.1 HX.out.2.2.2.2.1.ch (HX.out.2.2.2.2.2.2.below K.out.B)).mono ?_; rintro e w2 ⟨⟨a1, n1, c1, a2, n2, c2⟩, rfl, hb, -⟩
  replace K := qh (K.out.keep hb)
  clear hb
  rw [HEM.out]
  unfold bdV'
  simp only []
  have HC2 := qh (K.out.keep (aC _ (.cells #[.slice a1 n1 c1, .slice a2 n2 c2] 53)))
  go_wp2_with fail
  go_ret
  exact aJ HC.out.symm HC2.out.B
 | false =>
  have HEM := qh he
  have HC := qh (dO (l := gl LV k) HF.out he HBo.out)
  clear he
  refine (bN r g n c p now next _ _ _ LV ⟨id, addr, rg, lo, hi, hits, misses, firm⟩ ⟨aL, nL, cL, aH, nH, cH⟩ k _ K.out.R (HX.out.1.below K.out.B) HX.out.2.1 HX.out.2.2.1 HX.out.2.2.2.1 HX.out.2.2.2.2.1.ch (HX.out.2.2.2.2.2.2.below K.out.B)).mono ?_; rintro e w2 ⟨⟨a1, n1, c1, a2, n2, c2⟩, rfl, hb, -⟩
  replace K := qh (K.out.keep hb)
  clear hb
  rw [HEM.out]
  unfold bdV'
  simp only []
  have HC2 := qh (K.out.keep (aC _ (.cells #[.slice a1 n1 c1, .slice a2 n2 c2] 53)))
  go_wp2_with fail
  go_ret
  exact aJ (by rw [HC.out, HV.out]) HC2.out.B
end Go.Proofs.YtikjjpjekchcjaaGreat
end
section
namespace Go.Proofs.YtikjjpjekchcjaaGreat.Alt
open Go.RowKit Go.Shelf AltMath MyHeap MyCopy MyOwn
def SeW (w : World) (aL : Option Addr) (nL cL : Nat) (aH : Option Addr) (nH cH : Nat) (pl : Int) : World := ((w.alloc (.cells #[.slice aL nL cL, .slice aH nH cH] 53)).alloc (.cells #[.int .i64 pl] 3)).alloc (.cells #[.slice none 0 0, .slice none 0 0] 53)
structure SeK (w : World) (aL : Option Addr) (nL cL : Nat) (aH : Option Addr) (nH cH : Nat) (pl : Int) (W : World) : Prop where
 B : Below w.heap.size w W
 X : W.heap[w.heap.size]? = some (.cells (bdC aL nL cL aH nH cH) 53 (0, 0))
 a : W.heap[w.heap.size + 1]? = some (.cells #[.int .i64 pl] 3 (0, 0))
 R : W.heap[w.heap.size + 1 + 1]? = some (.cells #[.slice none 0 0, .slice none 0 0] 53 (0, 0))
theorem SeK.new (w : World) (aL : Option Addr) (nL cL : Nat) (aH : Option Addr) (nH cH : Nat) (pl : Int) : SeK w aL nL cL aH nH cH pl (SeW w aL nL cL aH nH cH pl) :=
 ⟨((aC w _).alloc (by simp) _).alloc (by simp; omega) _, aG (aG (aI _ _ rfl)), aG (aI _ _ (by simp)), aI _ _ (by simp)⟩
theorem SeK.keep {w W W' : World} {aL : Option Addr} {nL cL : Nat} {aH : Option Addr} {nH cH : Nat} {pl : Int} (h : SeK w aL nL cL aH nH cH pl W) (hb : Below W.heap.size W W') : SeK w aL nL cL aH nH cH pl W' := ⟨h.B.trans (hb.mono h.B.size), aN hb h.X, aN hb h.a, aN hb h.R⟩
theorem pStep_call (aL aH : Option Addr) (nL nH cL cH : Nat) (lo hi : List Int) (pl : Int) (w : World) (hL : Ints w aL nL lo) (hH : Ints w aH nH hi) :
    Calls Tryz.prog 54 #[bdV aL nL cL aH nH cH, .int .i64 pl] w (BOPost (stE lo hi pl) (loK (stF lo hi pl.toNat) 201) (hiK (stF lo hi pl.toNat) 201) w) := by
 have H := qh (And.intro hL hH)
 have K := qh (SeK.new w aL nL cL aH nH cH pl)
 clear hL hH
 unfold SeW at K
 unfold bdV
 by_cases hE : chB lo hi = 0
 ·by_cases hp : pl < 0 ∨ 32 < pl
  ·have HE := qh (And.intro hE hp)
   clear hE
   by_cases hp0 : pl < 0
   all_goals
    have hp1 : pl < 0 ∨ 32 < pl := hp
    clear hp
    try (replace hp1 : 32 < pl := by omega)
    go_enter Tryz.func54, Tryz.ntmps54
    go_wp2_with fail
    refine (bZ aL aH nL nH cL cH lo hi _ (H.out.1.below K.out.B) (H.out.2.below K.out.B)).mono ?_; rintro e w1 ⟨rfl, hb⟩
    replace K := qh (K.out.keep hb)
    rw [HE.out.1]
    have p0 := aA (i := 0) K.out.a rfl
    obtain ⟨d0, d1, g0, g1⟩ := two_facts K.out.R
    clear hb
    go_wp2_with fail
    have hx := aD (i := 1) (v := .slice none 0 0) (aD (i := 0) (v := .slice none 0 0) K.out.R)
    have hO : Only (w.heap.size + 1 + 1) w1 ((w1.setCell ⟨w.heap.size + 1 + 1, 0, none⟩ (.slice none 0 0)).setCell ⟨w.heap.size + 1 + 1, 1, none⟩ (.slice none 0 0)) := ((Only.refl _ _).setCell 0 _).setCell 1 _
    have r0 := aA (i := 0) (v := .slice none 0 0) hx rfl
    have r1 := aA (i := 1) (v := .slice none 0 0) hx rfl
    refine bodyPost_ret (v := .tuple #[.agg #[.slice none 0 0, .slice none 0 0], .int .i64 1]) ?_ rfl (iK (stE_no HE.out.1 HE.out.2) (by decide) (K.out.B.trans (hO.below (by omega) K.out.B.size)))
    simp [results, Tryz.f54, go_sem, r0, r1]
  obtain ⟨P, rfl⟩ : ∃ P : Nat, pl = (P : Int) := ⟨pl.toNat, by omega⟩
  have hP0 : (0 : Int) ≤ (P : Int) := by omega
  have hP1 : (P : Int) ≤ 32 := by omega
  obtain ⟨e1, e2, e3⟩ := chB_ok hE
  obtain rfl : nL = 201 := by rw [← H.out.1.len]; exact e1
  obtain rfl : nH = 201 := by rw [← H.out.2.len]; exact e2
  obtain ⟨b1, o1, rfl, -⟩ := ints_at H.out.1 (k := 0) (by decide)
  obtain ⟨b2, o2, rfl, -⟩ := ints_at H.out.2 (k := 0) (by decide)
  have HE := qh (And.intro hE e3)
  clear hE hp e1 e2 e3
  go_enter Tryz.func54, Tryz.ntmps54
  go_wp2_with fail
  refine (bZ (some ⟨b1, o1, none⟩) (some ⟨b2, o2, none⟩) 201 201 cL cH lo hi _ (H.out.1.below K.out.B) (H.out.2.below K.out.B)).mono ?_; rintro e w1 ⟨rfl, hb⟩
  replace K := qh (K.out.keep hb)
  rw [HE.out.1]
  have p0 := aA (i := 0) K.out.a rfl
  clear hb
  go_wp2_with fail
  refine (kM (stF lo hi P) 85 #[.pointer (some ⟨w.heap.size, 0, none⟩), .pointer (some ⟨w.heap.size + 1, 0, none⟩)] w1 (enters_of Tryz.func85 (by kernel_rfl) rfl)
   (fun V hV i hi1 => step1_call b1 o1 b2 o2 cL cH lo hi P w.heap.size (w.heap.size + 1) i V hi1 (by omega) HE.out.2 (H.out.1.below (K.out.keep hV).B) (H.out.2.below (K.out.keep hV).B) (K.out.keep hV).X (aA (K.out.keep hV).a rfl))).mono ?_
  rintro e w3 ⟨vL, vH, rfl, hT, hB⟩
  obtain ⟨aP, nP, cP, rfl⟩ := aZ hT.L
  obtain ⟨aQ, nQ, cQ, rfl⟩ := aZ hT.H
  obtain ⟨d0, d1, g0, g1⟩ := two_facts (aN hB K.out.R)
  have HT := qh (And.intro hT hB)
  clear hT hB p0
  go_wp2_with fail
  obtain ⟨hT9, hB9, r0, r1⟩ := mG (R := w.heap.size + 1 + 1) (by omega) K.out.R K.out.B HT.out.1 HT.out.2
  have hE0 : stE lo hi (P : Int) = 0 := stE_ok HE.out.1 (by omega)
  refine bodyPost_ret (v := .tuple #[.agg #[.slice aP nP cP, .slice aQ nQ cQ], .int .i64 0]) ?_ rfl ⟨_, _, by rw [hE0], fun _ => hT9, fun e => absurd hE0 e, hB9⟩
  simp [results, Tryz.f54, go_sem, r0, r1]
 have d1 : (chB lo hi != 0) = true := bne_iff_ne.2 hE
 have HE := qh hE
 clear hE
 go_enter Tryz.func54, Tryz.ntmps54
 go_wp2_with fail
 refine (bZ aL aH nL nH cL cH lo hi _ (H.out.1.below K.out.B) (H.out.2.below K.out.B)).mono ?_; rintro e w1 ⟨rfl, hb⟩
 replace K := qh (K.out.keep hb)
 obtain ⟨c0, c1, g0, g1⟩ := two_facts K.out.R
 clear hb
 go_wp2_with fail
 have hx := aD (i := 1) (v := .slice none 0 0) (aD (i := 0) (v := .slice none 0 0) K.out.R)
 have hO : Only (w.heap.size + 1 + 1) w1 ((w1.setCell ⟨w.heap.size + 1 + 1, 0, none⟩ (.slice none 0 0)).setCell ⟨w.heap.size + 1 + 1, 1, none⟩ (.slice none 0 0)) := ((Only.refl _ _).setCell 0 _).setCell 1 _
 have r0 := aA (i := 0) (v := .slice none 0 0) hx rfl
 have r1 := aA (i := 1) (v := .slice none 0 0) hx rfl
 refine bodyPost_ret (v := .tuple #[.agg #[.slice none 0 0, .slice none 0 0], .int .i64 (chB lo hi)]) ?_ rfl (iK (stE_ch HE.out) HE.out (K.out.B.trans (hO.below (by omega) K.out.B.size)))
 simp [results, Tryz.f54, go_sem, r0, r1]
end Go.Proofs.YtikjjpjekchcjaaGreat.Alt
end
