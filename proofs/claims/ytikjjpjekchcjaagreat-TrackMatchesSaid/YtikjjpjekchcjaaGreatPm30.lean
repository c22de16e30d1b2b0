/-
  TrkRb
-/
import Derived.Test.YtikjjpjekchcjaaGreatPm29
set_option linter.all false
set_option maxRecDepth 100000
set_option maxHeartbeats 64000000
namespace Go.Proofs.YtikjjpjekchcjaaGreat
open Go.RowKit TrkMath MyHeap MyOwn
structure Kp (w W : World) (l : List (Nat × Obj)) : Prop where
 B : Below w.heap.size w W
 H : ∀ x ∈ l, W.heap[x.1]? = some x.2
theorem Kp.below {w W W' : World} {l : List (Nat × Obj)} (h : Kp w W l) (hb : Below W.heap.size W W') : Kp w W' l := ⟨h.B.trans (hb.mono h.B.size), fun x hx => aN hb (h.H x hx)⟩
theorem Kp.nil (w : World) : Kp w w [] := ⟨Below.refl _ _, fun x hx => by cases hx⟩
theorem Kp.alloc {w W : World} {l : List (Nat × Obj)} (h : Kp w W l) (cs : Array Value) (T : TypeId) : Kp w (W.alloc (.cells cs T)) ((W.heap.size, .cells cs T (0, 0)) :: l) :=
 ⟨h.B.alloc h.B.size _, fun x hx => by
  rcases List.mem_cons.1 hx with e | hx
  ·subst e; exact aI _ _ rfl
  exact aG (h.H x hx)⟩
theorem cJ {w : World} {b : Nat} {T : TypeId} {x y z : Value} {fr : Nat × Nat} (h : w.heap[b]? = some (.cells #[x, y, z] T fr)) : w.cell? ⟨b, 0, none⟩ = some x ∧ w.cell? ⟨b, 1, none⟩ = some y ∧ w.cell? ⟨b, 2, none⟩ = some z := ⟨aA h rfl, aA h rfl, aA h rfl⟩
theorem eP {w : World} {b : Nat} {T : TypeId} {x y z u : Value} {fr : Nat × Nat} (h : w.heap[b]? = some (.cells #[x, y, z, u] T fr)) : w.cell? ⟨b, 0, none⟩ = some x ∧ w.cell? ⟨b, 1, none⟩ = some y ∧ w.cell? ⟨b, 2, none⟩ = some z ∧ w.cell? ⟨b, 3, none⟩ = some u := ⟨aA h rfl, aA h rfl, aA h rfl, aA h rfl⟩
theorem prV_bd' (x : Rg) (c : Int) : 0 ≤ prV x c ∧ prV x c ≤ 2097152 := by
 unfold prV
 split
 ·unfold lim; omega
 decide
theorem rcost_call (p : Par) (t : Tk) (s : Bs) (y : Pl) (w : World) (hP : ParOk p) (hT : TkOk p t) (hy : plE y = 0) (hI : BdI w (t, s)) :
    Calls Tryz.prog 33 #[parV p, tkV (t, s), plV y] w (NPost (costV p t y (lvOf y)) w) := by
 obtain ⟨yr, yc, ya⟩ := y
 have hyb : 0 ≤ yr ∧ yr ≤ 8192 := Decidable.not_not.1 (fun e => (fL hy).1 (Or.inl e))
 have hmis := hT.mis
 have hgate := hP.1
 have hmost := hP.2.2.1
 obtain ⟨pv, hpv⟩ : ∃ v, prV t.rg (t.misses + 1) = v := ⟨_, rfl⟩
 have hpb := prV_bd' t.rg (t.misses + 1)
 rw [hpv] at hpb
 obtain ⟨D, hD⟩ : ∃ D, 256 * yr - pv = D := ⟨_, rfl⟩
 obtain ⟨V, hV⟩ : ∃ V, max D (-D) = V := ⟨_, rfl⟩
 have hVb : 0 ≤ V ∧ V ≤ 2097152 := by omega
 have HV := qh (show offV t ⟨yr, yc, ya⟩ = V from by unfold offV; rw [hpv]; dsimp only; rw [hD, hV])
 have w1' : IntKind.i64.wrap (t.misses + 1) = t.misses + 1 := IntWalk.i64_in _ (by omega)
 have w2' : IntKind.i64.wrap (256 * yr) = 256 * yr := IntWalk.i64_in _ (by omega)
 have w3' : IntKind.i64.wrap (256 * yr - pv) = D := by rw [hD]; exact IntWalk.i64_in _ (by omega)
 have w4' : IntKind.i64.wrap (pv - 256 * yr) = -D := by rw [show pv - 256 * yr = -D by omega]; exact IntWalk.i64_in _ (by omega)
 have w5' : IntKind.i64.wrap (256 * p.gate) = 256 * p.gate := IntWalk.i64_in _ (by omega)
 have w6' : IntKind.i64.wrap (V + 65536) = V + 65536 := IntWalk.i64_in _ (by omega)
 have HPV := qh hpv
 have HI := qh hI
 have HY := qh hy
 have HCh := qh hT.ch
 have HVc := qh (show (D < -D → V = -D) ∧ (¬ D < -D → V = D) by omega)
 obtain ⟨id, addr, rg, lo, hi, hits, misses, firm⟩ := t
 obtain ⟨aL, nL, cL, aH, nH, cH⟩ := s
 have K := qh ((((Kp.nil w).alloc #[.int .i64 p.gate, .int .i64 p.need, .int .i64 p.most, .int .i64 p.pull] 36).alloc #[.int .i64 id, .int .i64 addr, .int .i64 rg.r, .int .i64 rg.v, .int .i64 rg.n, .slice aL nL cL, .slice aH nH cH, .int .i64 hits, .int .i64 misses, .bool firm] 55).alloc #[.int .i64 yr, .int .i64 yc, .int .i64 ya] 63)
 clear hT hP hy hI hpv hD hV hmis hmost hpb hyb
 unfold tkV tkC plV parV
 simp only [] at HPV HV w1' HCh ⊢
 go_enter Tryz.func33, Tryz.ntmps33
 go_wp2_with fail
 obtain ⟨b0, hb0⟩ : ∃ b, b = w.heap.size := ⟨_, rfl⟩
 obtain ⟨b1, hb1⟩ : ∃ b, b = w.heap.size + 1 := ⟨_, rfl⟩
 obtain ⟨b2, hb2⟩ : ∃ b, b = w.heap.size + 1 + 1 := ⟨_, rfl⟩
 replace K := qh (show Kp w (((w.alloc (.cells #[.int .i64 p.gate, .int .i64 p.need, .int .i64 p.most, .int .i64 p.pull] 36)).alloc (.cells #[.int .i64 id, .int .i64 addr, .int .i64 rg.r, .int .i64 rg.v, .int .i64 rg.n, .slice aL nL cL, .slice aH nH cH, .int .i64 hits, .int .i64 misses, .bool firm] 55)).alloc (.cells #[.int .i64 yr, .int .i64 yc, .int .i64 ya] 63)) [(b2, .cells #[.int .i64 yr, .int .i64 yc, .int .i64 ya] 63 (0, 0)), (b1, .cells #[.int .i64 id, .int .i64 addr, .int .i64 rg.r, .int .i64 rg.v, .int .i64 rg.n, .slice aL nL cL, .slice aH nH cH, .int .i64 hits, .int .i64 misses, .bool firm] 55 (0, 0)), (b0, .cells #[.int .i64 p.gate, .int .i64 p.need, .int .i64 p.most, .int .i64 p.pull] 36 (0, 0))] from by
  have h := K.out
  simp only [World.size_alloc] at h
  rw [hb0, hb1, hb2]
  exact h)
 rw [← hb2, ← hb1, ← hb0]
 generalize (((w.alloc (.cells #[.int .i64 p.gate, .int .i64 p.need, .int .i64 p.most, .int .i64 p.pull] 36)).alloc (.cells #[.int .i64 id, .int .i64 addr, .int .i64 rg.r, .int .i64 rg.v, .int .i64 rg.n, .slice aL nL cL, .slice aH nH cH, .int .i64 hits, .int .i64 misses, .bool firm] 55)).alloc (.cells #[.int .i64 yr, .int .i64 yc, .int .i64 ya] 63)) = wa at *
 clear hb0 hb1 hb2
 refine (mY rg (misses + 1) _).mono ?_; rintro e w1 ⟨rfl, hb⟩
 rw [HPV.out]
 replace K := qh (K.out.below hb)
 clear hb
 obtain ⟨y0, y1, y2⟩ := cJ (K.out.H _ List.mem_cons_self)
 have yl := aB (K.out.H _ List.mem_cons_self)
 obtain ⟨z0, z1, z2, z3, z4, z5, z6, z7, z8, z9⟩ := TkAt.block' (q := (⟨id, addr, rg, lo, hi, hits, misses, firm⟩, ⟨aL, nL, cL, aH, nH, cH⟩)) (K.out.H _ (List.mem_cons_of_mem _ List.mem_cons_self))
 simp only [] at z0 z1 z2 z3 z4 z5 z6 z7 z8 z9
 have zl := aB (K.out.H _ (List.mem_cons_of_mem _ List.mem_cons_self))
 obtain ⟨g0, g1, g2, g3⟩ := eP (K.out.H _ (List.mem_cons_of_mem _ (List.mem_cons_of_mem _ List.mem_cons_self)))
 have gl := aB (K.out.H _ (List.mem_cons_of_mem _ (List.mem_cons_of_mem _ List.mem_cons_self)))
 by_cases hs : D < -D
 ·obtain rfl := HVc.out.1 (by omega)
  clear HVc
  by_cases ha : 0 ≤ addr
  ·by_cases hya : 0 ≤ ya
   ·have HBo := qh (show bothB ⟨id, addr, rg, lo, hi, hits, misses, firm⟩ ⟨yr, yc, ya⟩ from ⟨ha, hya⟩)
    by_cases hf : 256 * p.gate < -D
    ·have HC := qh (show costV p ⟨id, addr, rg, lo, hi, hits, misses, firm⟩ ⟨yr, yc, ya⟩ (lvOf ⟨yr, yc, ya⟩) = -1 from bU (Or.inl (by rw [HV.out]; exact hf)))
     go_wp2_with fail
     go_ret
     exact aJ HC.out.symm K.out.B
    by_cases hne : addr = ya
    ·have hnb : (addr != ya) = false := by rw [hne]; exact bne_self_eq_false _
     have HF := qh (show ¬ farB p ⟨id, addr, rg, lo, hi, hits, misses, firm⟩ ⟨yr, yc, ya⟩ from fun e => by
      rcases e with e | e
      ·rw [HV.out] at e; exact hf e
      exact e.2 hne)
     clear hne
     go_wp2_with fail
     cases he : emptyB (meaL lo hi (lvOf ⟨yr, yc, ya⟩)) (meaH lo hi (lvOf ⟨yr, yc, ya⟩)) with
     | true =>
      have HEM := qh (show Alt.emB (meaL lo hi (lvOf ⟨yr, yc, ya⟩)) (meaH lo hi (lvOf ⟨yr, yc, ya⟩)) = true from he)
      have HC := qh (bV (l := lvOf ⟨yr, yc, ya⟩) HF.out he)
      clear he
      refine (bF ⟨id, addr, rg, lo, hi, hits, misses, firm⟩ ⟨aL, nL, cL, aH, nH, cH⟩ ⟨yr, yc, ya⟩ _ HY.out HCh.out (HI.out.below K.out.B)).mono ?_; rintro e w2 ⟨⟨a1, n1, c1, a2, n2, c2⟩, rfl, hb, hI2, -⟩
      replace K := qh (K.out.below hb)
      clear hb
      clear y0 y1 y2 yl z0 z1 z2 z3 z4 z5 z6 z7 z8 z9 zl g0 g1 g2 g3 gl
      have hcE := Alt.rEmpty_call a1 a2 n1 n2 c1 c2 _ _ w2 hI2.L hI2.H
      rw [HEM.out] at hcE
      unfold Alt.bdV at hcE
      unfold bdV'
      simp only []
      go_wp2_with fail
      refine hcE.mono ?_; rintro e w3 ⟨rfl, hb⟩
      replace K := qh (K.out.below hb)
      clear hb hcE hI2
      go_wp2_with fail
      go_ret
      exact aJ HC.out.symm K.out.B
     | false =>
      have HEM := qh (show Alt.emB (meaL lo hi (lvOf ⟨yr, yc, ya⟩)) (meaH lo hi (lvOf ⟨yr, yc, ya⟩)) = false from he)
      have HC := qh (gR (l := lvOf ⟨yr, yc, ya⟩) HF.out he HBo.out)
      clear he
      refine (bF ⟨id, addr, rg, lo, hi, hits, misses, firm⟩ ⟨aL, nL, cL, aH, nH, cH⟩ ⟨yr, yc, ya⟩ _ HY.out HCh.out (HI.out.below K.out.B)).mono ?_; rintro e w2 ⟨⟨a1, n1, c1, a2, n2, c2⟩, rfl, hb, hI2, -⟩
      replace K := qh (K.out.below hb)
      clear hb
      clear y0 y1 y2 yl z0 z1 z2 z3 z4 z5 z6 z7 z8 z9 zl g0 g1 g2 g3 gl
      have hcE := Alt.rEmpty_call a1 a2 n1 n2 c1 c2 _ _ w2 hI2.L hI2.H
      rw [HEM.out] at hcE
      unfold Alt.bdV at hcE
      unfold bdV'
      simp only []
      go_wp2_with fail
      refine hcE.mono ?_; rintro e w3 ⟨rfl, hb⟩
      replace K := qh (K.out.below hb)
      clear hb hcE hI2
      go_wp2_with fail
      go_ret
      exact aJ (by rw [HC.out, HV.out]) K.out.B
    have hnb : (addr != ya) = true := bne_iff_ne.2 hne
    have HC := qh (show costV p ⟨id, addr, rg, lo, hi, hits, misses, firm⟩ ⟨yr, yc, ya⟩ (lvOf ⟨yr, yc, ya⟩) = -1 from bU (Or.inr ⟨HBo.out, hne⟩))
    go_wp2_with fail
    go_ret
    exact aJ HC.out.symm K.out.B
   have HBo := qh (show ¬ bothB ⟨id, addr, rg, lo, hi, hits, misses, firm⟩ ⟨yr, yc, ya⟩ from fun e => hya e.2)
   by_cases hf : 256 * p.gate < -D
   ·have HC := qh (show costV p ⟨id, addr, rg, lo, hi, hits, misses, firm⟩ ⟨yr, yc, ya⟩ (lvOf ⟨yr, yc, ya⟩) = -1 from bU (Or.inl (by rw [HV.out]; exact hf)))
    go_wp2_with fail
    go_ret
    exact aJ HC.out.symm K.out.B
   have HF := qh (show ¬ farB p ⟨id, addr, rg, lo, hi, hits, misses, firm⟩ ⟨yr, yc, ya⟩ from fun e => by
    rcases e with e | e
    ·rw [HV.out] at e; exact hf e
    exact HBo.out e.1)
   go_wp2_with fail
   cases he : emptyB (meaL lo hi (lvOf ⟨yr, yc, ya⟩)) (meaH lo hi (lvOf ⟨yr, yc, ya⟩)) with
   | true =>
    have HEM := qh (show Alt.emB (meaL lo hi (lvOf ⟨yr, yc, ya⟩)) (meaH lo hi (lvOf ⟨yr, yc, ya⟩)) = true from he)
    have HC := qh (bV (l := lvOf ⟨yr, yc, ya⟩) HF.out he)
    clear he
    refine (bF ⟨id, addr, rg, lo, hi, hits, misses, firm⟩ ⟨aL, nL, cL, aH, nH, cH⟩ ⟨yr, yc, ya⟩ _ HY.out HCh.out (HI.out.below K.out.B)).mono ?_; rintro e w2 ⟨⟨a1, n1, c1, a2, n2, c2⟩, rfl, hb, hI2, -⟩
    replace K := qh (K.out.below hb)
    clear hb
    clear y0 y1 y2 yl z0 z1 z2 z3 z4 z5 z6 z7 z8 z9 zl g0 g1 g2 g3 gl
    have hcE := Alt.rEmpty_call a1 a2 n1 n2 c1 c2 _ _ w2 hI2.L hI2.H
    rw [HEM.out] at hcE
    unfold Alt.bdV at hcE
    unfold bdV'
    simp only []
    go_wp2_with fail
    refine hcE.mono ?_; rintro e w3 ⟨rfl, hb⟩
    replace K := qh (K.out.below hb)
    clear hb hcE hI2
    go_wp2_with fail
    go_ret
    exact aJ HC.out.symm K.out.B
   | false =>
    have HEM := qh (show Alt.emB (meaL lo hi (lvOf ⟨yr, yc, ya⟩)) (meaH lo hi (lvOf ⟨yr, yc, ya⟩)) = false from he)
    have HC := qh (dO (l := lvOf ⟨yr, yc, ya⟩) HF.out he HBo.out)
    clear he
    refine (bF ⟨id, addr, rg, lo, hi, hits, misses, firm⟩ ⟨aL, nL, cL, aH, nH, cH⟩ ⟨yr, yc, ya⟩ _ HY.out HCh.out (HI.out.below K.out.B)).mono ?_; rintro e w2 ⟨⟨a1, n1, c1, a2, n2, c2⟩, rfl, hb, hI2, -⟩
    replace K := qh (K.out.below hb)
    clear hb
    clear y0 y1 y2 yl z0 z1 z2 z3 z4 z5 z6 z7 z8 z9 zl g0 g1 g2 g3 gl
    have hcE := Alt.rEmpty_call a1 a2 n1 n2 c1 c2 _ _ w2 hI2.L hI2.H
    rw [HEM.out] at hcE
    unfold Alt.bdV at hcE
    unfold bdV'
    simp only []
    go_wp2_with fail
    refine hcE.mono ?_; rintro e w3 ⟨rfl, hb⟩
    replace K := qh (K.out.below hb)
    clear hb hcE hI2
    go_wp2_with fail
    go_ret
    exact aJ (by rw [HC.out, HV.out]) K.out.B
  have HBo := qh (show ¬ bothB ⟨id, addr, rg, lo, hi, hits, misses, firm⟩ ⟨yr, yc, ya⟩ from fun e => ha e.1)
  by_cases hf : 256 * p.gate < -D
  ·have HC := qh (show costV p ⟨id, addr, rg, lo, hi, hits, misses, firm⟩ ⟨yr, yc, ya⟩ (lvOf ⟨yr, yc, ya⟩) = -1 from bU (Or.inl (by rw [HV.out]; exact hf)))
   go_wp2_with fail
   go_ret
   exact aJ HC.out.symm K.out.B
  have HF := qh (show ¬ farB p ⟨id, addr, rg, lo, hi, hits, misses, firm⟩ ⟨yr, yc, ya⟩ from fun e => by
   rcases e with e | e
   ·rw [HV.out] at e; exact hf e
   exact HBo.out e.1)
  go_wp2_with fail
  cases he : emptyB (meaL lo hi (lvOf ⟨yr, yc, ya⟩)) (meaH lo hi (lvOf ⟨yr, yc, ya⟩)) with
  | true =>
   have HEM := qh (show Alt.emB (meaL lo hi (lvOf ⟨yr, yc, ya⟩)) (meaH lo hi (lvOf ⟨yr, yc, ya⟩)) = true from he)
   have HC := qh (bV (l := lvOf ⟨yr, yc, ya⟩) HF.out he)
   clear he
   refine (bF ⟨id, addr, rg, lo, hi, hits, misses, firm⟩ ⟨aL, nL, cL, aH, nH, cH⟩ ⟨yr, yc, ya⟩ _ HY.out HCh.out (HI.out.below K.out.B)).mono ?_; rintro e w2 ⟨⟨a1, n1, c1, a2, n2, c2⟩, rfl, hb, hI2, -⟩
   replace K := qh (K.out.below hb)
   clear hb
   clear y0 y1 y2 yl z0 z1 z2 z3 z4 z5 z6 z7 z8 z9 zl g0 g1 g2 g3 gl
   have hcE := Alt.rEmpty_call a1 a2 n1 n2 c1 c2 _ _ w2 hI2.L hI2.H
   rw [HEM.out] at hcE
   unfold Alt.bdV at hcE
   unfold bdV'
   simp only []
   go_wp2_with fail
   refine hcE.mono ?_; rintro e w3 ⟨rfl, hb⟩
   replace K := qh (K.out.below hb)
   clear hb hcE hI2
   go_wp2_with fail
   go_ret
   exact aJ HC.out.symm K.out.B
  | false =>
   have HEM := qh (show Alt.emB (meaL lo hi (lvOf ⟨yr, yc, ya⟩)) (meaH lo hi (lvOf ⟨yr, yc, ya⟩)) = false from he)
   have HC := qh (dO (l := lvOf ⟨yr, yc, ya⟩) HF.out he HBo.out)
   clear he
   refine (bF ⟨id, addr, rg, lo, hi, hits, misses, firm⟩ ⟨aL, nL, cL, aH, nH, cH⟩ ⟨yr, yc, ya⟩ _ HY.out HCh.out (HI.out.below K.out.B)).mono ?_; rintro e w2 ⟨⟨a1, n1, c1, a2, n2, c2⟩, rfl, hb, hI2, -⟩
   replace K := qh (K.out.below hb)
   clear hb
   clear y0 y1 y2 yl z0 z1 z2 z3 z4 z5 z6 z7 z8 z9 zl g0 g1 g2 g3 gl
   have hcE := Alt.rEmpty_call a1 a2 n1 n2 c1 c2 _ _ w2 hI2.L hI2.H
   rw [HEM.out] at hcE
   unfold Alt.bdV at hcE
   unfold bdV'
   simp only []
   go_wp2_with fail
   refine hcE.mono ?_; rintro e w3 ⟨rfl, hb⟩
   replace K := qh (K.out.below hb)
   clear hb hcE hI2
   go_wp2_with fail
   go_ret
   exact aJ (by rw [HC.out, HV.out]) K.out.B
 obtain rfl := HVc.out.2 (by omega)
 clear HVc
 by_cases ha : 0 ≤ addr
 ·by_cases hya : 0 ≤ ya
  ·have HBo := qh (show bothB ⟨id, addr, rg, lo, hi, hits, misses, firm⟩ ⟨yr, yc, ya⟩ from ⟨ha, hya⟩)
   by_cases hf : 256 * p.gate < V
   ·have HC := qh (show costV p ⟨id, addr, rg, lo, hi, hits, misses, firm⟩ ⟨yr, yc, ya⟩ (lvOf ⟨yr, yc, ya⟩) = -1 from bU (Or.inl (by rw [HV.out]; exact hf)))
    go_wp2_with fail
    go_ret
    exact aJ HC.out.symm K.out.B
   by_cases hne : addr = ya
   ·have hnb : (addr != ya) = false := by rw [hne]; exact bne_self_eq_false _
    have HF := qh (show ¬ farB p ⟨id, addr, rg, lo, hi, hits, misses, firm⟩ ⟨yr, yc, ya⟩ from fun e => by
     rcases e with e | e
     ·rw [HV.out] at e; exact hf e
     exact e.2 hne)
    clear hne
    go_wp2_with fail
    cases he : emptyB (meaL lo hi (lvOf ⟨yr, yc, ya⟩)) (meaH lo hi (lvOf ⟨yr, yc, ya⟩)) with
    | true =>
     have HEM := qh (show Alt.emB (meaL lo hi (lvOf ⟨yr, yc, ya⟩)) (meaH lo hi (lvOf ⟨yr, yc, ya⟩)) = true from he)
     have HC := qh (bV (l := lvOf ⟨yr, yc, ya⟩) HF.out he)
     clear he
     refine (bF ⟨id, addr, rg, lo, hi, hits, misses, firm⟩ ⟨aL, nL, cL, aH, nH, cH⟩ ⟨yr, yc, ya⟩ _ HY.out HCh.out (HI.out.below K.out.B)).mono ?_; rintro e w2 ⟨⟨a1, n1, c1, a2, n2, c2⟩, rfl, hb, hI2, -⟩
     replace K := qh (K.out.below hb)
     clear hb
     clear y0 y1 y2 yl z0 z1 z2 z3 z4 z5 z6 z7 z8 z9 zl g0 g1 g2 g3 gl
     have hcE := Alt.rEmpty_call a1 a2 n1 n2 c1 c2 _ _ w2 hI2.L hI2.H
     rw [HEM.out] at hcE
     unfold Alt.bdV at hcE
     unfold bdV'
     simp only []
     go_wp2_with fail
     refine hcE.mono ?_; rintro e w3 ⟨rfl, hb⟩
     replace K := qh (K.out.below hb)
     clear hb hcE hI2
     go_wp2_with fail
     go_ret
     exact aJ HC.out.symm K.out.B
    | false =>
     have HEM := qh (show Alt.emB (meaL lo hi (lvOf ⟨yr, yc, ya⟩)) (meaH lo hi (lvOf ⟨yr, yc, ya⟩)) = false from he)
     have HC := qh (gR (l := lvOf ⟨yr, yc, ya⟩) HF.out he HBo.out)
     clear he
     refine (bF ⟨id, addr, rg, lo, hi, hits, misses, firm⟩ ⟨aL, nL, cL, aH, nH, cH⟩ ⟨yr, yc, ya⟩ _ HY.out HCh.out (HI.out.below K.out.B)).mono ?_; rintro e w2 ⟨⟨a1, n1, c1, a2, n2, c2⟩, rfl, hb, hI2, -⟩
     replace K := qh (K.out.below hb)
     clear hb
     clear y0 y1 y2 yl z0 z1 z2 z3 z4 z5 z6 z7 z8 z9 zl g0 g1 g2 g3 gl
     have hcE := Alt.rEmpty_call a1 a2 n1 n2 c1 c2 _ _ w2 hI2.L hI2.H
     rw [HEM.out] at hcE
     unfold Alt.bdV at hcE
     unfold bdV'
     simp only []
     go_wp2_with fail
     refine hcE.mono ?_; rintro e w3 ⟨rfl, hb⟩
     replace K := qh (K.out.below hb)
     clear hb hcE hI2
     go_wp2_with fail
     go_ret
     exact aJ (by rw [HC.out, HV.out]) K.out.B
   have hnb : (addr != ya) = true := bne_iff_ne.2 hne
   have HC := qh (show costV p ⟨id, addr, rg, lo, hi, hits, misses, firm⟩ ⟨yr, yc, ya⟩ (lvOf ⟨yr, yc, ya⟩) = -1 from bU (Or.inr ⟨HBo.out, hne⟩))
   go_wp2_with fail
   go_ret
   exact aJ HC.out.symm K.out.B
  have HBo := qh (show ¬ bothB ⟨id, addr, rg, lo, hi, hits, misses, firm⟩ ⟨yr, yc, ya⟩ from fun e => hya e.2)
  by_cases hf : 256 * p.gate < V
  ·have HC := qh (show costV p ⟨id, addr, rg, lo, hi, hits, misses, firm⟩ ⟨yr, yc, ya⟩ (lvOf ⟨yr, yc, ya⟩) = -1 from bU (Or.inl (by rw [HV.out]; exact hf)))
   go_wp2_with fail
   go_ret
   exact aJ HC.out.symm K.out.B
  have HF := qh (show ¬ farB p ⟨id, addr, rg, lo, hi, hits, misses, firm⟩ ⟨yr, yc, ya⟩ from fun e => by
   rcases e with e | e
   ·rw [HV.out] at e; exact hf e
   exact HBo.out e.1)
  go_wp2_with fail
  cases he : emptyB (meaL lo hi (lvOf ⟨yr, yc, ya⟩)) (meaH lo hi (lvOf ⟨yr, yc, ya⟩)) with
  | true =>
   have HEM := qh (show Alt.emB (meaL lo hi (lvOf ⟨yr, yc, ya⟩)) (meaH lo hi (lvOf ⟨yr, yc, ya⟩)) = true from he)
   have HC := qh (bV (l := lvOf ⟨yr, yc, ya⟩) HF.out he)
   clear he
   refine (bF ⟨id, addr, rg, lo, hi, hits, misses, firm⟩ ⟨aL, nL, cL, aH, nH, cH⟩ ⟨yr, yc, ya⟩ _ HY.out HCh.out (HI.out.below K.out.B)).mono ?_; rintro e w2 ⟨⟨a1, n1, c1, a2, n2, c2⟩, rfl, hb, hI2, -⟩
   replace K := qh (K.out.below hb)
   clear hb
   clear y0 y1 y2 yl z0 z1 z2 z3 z4 z5 z6 z7 z8 z9 zl g0 g1 g2 g3 gl
   have hcE := Alt.rEmpty_call a1 a2 n1 n2 c1 c2 _ _ w2 hI2.L hI2.H
   rw [HEM.out] at hcE
   unfold Alt.bdV at hcE
   unfold bdV'
   simp only []
   go_wp2_with fail
   refine hcE.mono ?_; rintro e w3 ⟨rfl, hb⟩
   replace K := qh (K.out.below hb)
   clear hb hcE hI2
   go_wp2_with fail
   go_ret
   exact aJ HC.out.symm K.out.B
  | false =>
   have HEM := qh (show Alt.emB (meaL lo hi (lvOf ⟨yr, yc, ya⟩)) (meaH lo hi (lvOf ⟨yr, yc, ya⟩)) = false from he)
   have HC := qh (dO (l := lvOf ⟨yr, yc, ya⟩) HF.out he HBo.out)
   clear he
   refine (bF ⟨id, addr, rg, lo, hi, hits, misses, firm⟩ ⟨aL, nL, cL, aH, nH, cH⟩ ⟨yr, yc, ya⟩ _ HY.out HCh.out (HI.out.below K.out.B)).mono ?_; rintro e w2 ⟨⟨a1, n1, c1, a2, n2, c2⟩, rfl, hb, hI2, -⟩
   replace K := qh (K.out.below hb)
   clear hb
   clear y0 y1 y2 yl z0 z1 z2 z3 z4 z5 z6 z7 z8 z9 zl g0 g1 g2 g3 gl
   have hcE := Alt.rEmpty_call a1 a2 n1 n2 c1 c2 _ _ w2 hI2.L hI2.H
   rw [HEM.out] at hcE
   unfold Alt.bdV at hcE
   unfold bdV'
   simp only []
   go_wp2_with fail
   refine hcE.mono ?_; rintro e w3 ⟨rfl, hb⟩
   replace K := qh (K.out.below hb)
   clear hb hcE hI2
   go_wp2_with fail
   go_ret
   exact aJ (by rw [HC.out, HV.out]) K.out.B
 have HBo := qh (show ¬ bothB ⟨id, addr, rg, lo, hi, hits, misses, firm⟩ ⟨yr, yc, ya⟩ from fun e => ha e.1)
 by_cases hf : 256 * p.gate < V
 ·have HC := qh (show costV p ⟨id, addr, rg, lo, hi, hits, misses, firm⟩ ⟨yr, yc, ya⟩ (lvOf ⟨yr, yc, ya⟩) = -1 from bU (Or.inl (by rw [HV.out]; exact hf)))
  go_wp2_with fail
  go_ret
  exact aJ HC.out.symm K.out.B
 have HF := qh (show ¬ farB p ⟨id, addr, rg, lo, hi, hits, misses, firm⟩ ⟨yr, yc, ya⟩ from fun e => by
  rcases e with e | e
  ·rw [HV.out] at e; exact hf e
  exact HBo.out e.1)
 go_wp2_with fail
 cases he : emptyB (meaL lo hi (lvOf ⟨yr, yc, ya⟩)) (meaH lo hi (lvOf ⟨yr, yc, ya⟩)) with
 | true =>
  have HEM := qh (show Alt.emB (meaL lo hi (lvOf ⟨yr, yc, ya⟩)) (meaH lo hi (lvOf ⟨yr, yc, ya⟩)) = true from he)
  have HC := qh (bV (l := lvOf ⟨yr, yc, ya⟩) HF.out he)
  clear he
  refine (bF ⟨id, addr, rg, lo, hi, hits, misses, firm⟩ ⟨aL, nL, cL, aH, nH, cH⟩ ⟨yr, yc, ya⟩ _ HY.out HCh.out (HI.out.below K.out.B)).mono ?_; rintro e w2 ⟨⟨a1, n1, c1, a2, n2, c2⟩, rfl, hb, hI2, -⟩
  replace K := qh (K.out.below hb)
  clear hb
  clear y0 y1 y2 yl z0 z1 z2 z3 z4 z5 z6 z7 z8 z9 zl g0 g1 g2 g3 gl
  have hcE := Alt.rEmpty_call a1 a2 n1 n2 c1 c2 _ _ w2 hI2.L hI2.H
  rw [HEM.out] at hcE
  unfold Alt.bdV at hcE
  unfold bdV'
  simp only []
  go_wp2_with fail
  refine hcE.mono ?_; rintro e w3 ⟨rfl, hb⟩
  replace K := qh (K.out.below hb)
  clear hb hcE hI2
  go_wp2_with fail
  go_ret
  exact aJ HC.out.symm K.out.B
 | false =>
  have HEM := qh (show Alt.emB (meaL lo hi (lvOf ⟨yr, yc, ya⟩)) (meaH lo hi (lvOf ⟨yr, yc, ya⟩)) = false from he)
  have HC := qh (dO (l := lvOf ⟨yr, yc, ya⟩) HF.out he HBo.out)
  clear he
  refine (bF ⟨id, addr, rg, lo, hi, hits, misses, firm⟩ ⟨aL, nL, cL, aH, nH, cH⟩ ⟨yr, yc, ya⟩ _ HY.out HCh.out (HI.out.below K.out.B)).mono ?_; rintro e w2 ⟨⟨a1, n1, c1, a2, n2, c2⟩, rfl, hb, hI2, -⟩
  replace K := qh (K.out.below hb)
  clear hb
  clear y0 y1 y2 yl z0 z1 z2 z3 z4 z5 z6 z7 z8 z9 zl g0 g1 g2 g3 gl
  have hcE := Alt.rEmpty_call a1 a2 n1 n2 c1 c2 _ _ w2 hI2.L hI2.H
  rw [HEM.out] at hcE
  unfold Alt.bdV at hcE
  unfold bdV'
  simp only []
  go_wp2_with fail
  refine hcE.mono ?_; rintro e w3 ⟨rfl, hb⟩
  replace K := qh (K.out.below hb)
  clear hb hcE hI2
  go_wp2_with fail
  go_ret
  exact aJ (by rw [HC.out, HV.out]) K.out.B
end Go.Proofs.YtikjjpjekchcjaaGreat
