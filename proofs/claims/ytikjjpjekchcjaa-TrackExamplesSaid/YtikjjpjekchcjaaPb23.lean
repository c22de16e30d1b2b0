/-
  TrkJ
-/
import Derived.Test.YtikjjpjekchcjaaPb10
import Derived.Test.YtikjjpjekchcjaaPb15
import Derived.Test.YtikjjpjekchcjaaPb22
import Derived.Test.YtikjjpjekchcjaaPb11
namespace Go.Proofs.Ytikjjpjekchcjaa
open Go.RowKit TrkMath MyHeap MyOwn
theorem lim_bd (n : Int) : 0 ≤ lim n 0 2097152 ∧ lim n 0 2097152 ≤ 2097152 := by unfold lim; omega
theorem prV_bd (x : Rg) (c : Int) : 0 ≤ prV x c ∧ prV x c ≤ 2097152 := by
 unfold prV
 split
 ·exact lim_bd _
 ·decide
structure CoK (w : World) (r : Nat) (p : Par) (now next : Int) (tV pV lV eV : Value) (q : TB) (y : Pl) (W : World) : Prop where
 B : Below w.heap.size w W
 T : W.heap[w.heap.size]? = some (.cells (tkC q) 46 (0, 0))
 Y : W.heap[w.heap.size + 1]? = some (.cells #[.int .i64 y.r, .int .i64 y.code, .int .i64 y.addr] 40 (0, 0))
 R : RunAt r p now next tV pV lV eV W
theorem CoK.keep {w : World} {r : Nat} {p : Par} {now next : Int} {tV pV lV eV : Value} {q : TB} {y : Pl} {W W' : World} (h : CoK w r p now next tV pV lV eV q y W) (hb : Below W.heap.size W W') : CoK w r p now next tV pV lV eV q y W' :=
 ⟨h.B.trans (hb.mono h.B.size), keepO hb h.T, keepO hb h.Y, h.R.below hb⟩
theorem CoK.new {w : World} {r : Nat} {p : Par} {now next : Int} {tV pV lV eV : Value} (q : TB) (y : Pl) (h : RunAt r p now next tV pV lV eV w) : CoK w r p now next tV pV lV eV q y ((w.alloc (.cells (tkC q) 46)).alloc (.cells #[.int .i64 y.r, .int .i64 y.code, .int .i64 y.addr] 40)) :=
 ⟨(below_alloc w _).alloc (by simp) _, block_alloc (block_new w _ rfl), block_new _ _ (by simp), (h.below (below_alloc _ _)).below (below_alloc _ _)⟩
theorem pl_cells {w : World} {b : Nat} {T : TypeId} {x y z : Value} {fr : Nat × Nat} (h : w.heap[b]? = some (.cells #[x, y, z] T fr)) : w.cell? ⟨b, 0, none⟩ = some x ∧ w.cell? ⟨b, 1, none⟩ = some y ∧ w.cell? ⟨b, 2, none⟩ = some z :=
 ⟨cell_of_block h rfl, cell_of_block h rfl, cell_of_block h rfl⟩
set_option maxRecDepth 100000 in
set_option maxHeartbeats 16000000 in
theorem cost_call (r g n c : Nat) (p : Par) (now next : Int) (tV eV : Value) (pa : Option Addr) (pn pc : Nat) (P : List Pl) (LV : List Lv) (t : Tk) (s : Bs) (k : Nat) (w : World) (hR : RunAt r p now next tV (.slice pa pn pc) (.slice (some ⟨g, 0, none⟩) n c) eV w) (hPl : Pls w pa pn P) (hL : LvAt g LV w) (hn : LV.length = n) (hk : k < n) (hkp : k < pn) (hl : LvOk (gl LV k)) (hT : TkOk p t) (hPar : ParOk p) (hy : ¬ plBad (gp P k)) (hI : BdI w (t, s)) :
    Calls Try.prog 58 #[.pointer (some ⟨r, 0, none⟩), tkV (t, s), .int .i64 (k : Int)] w (NPost (costV p t (gp P k) (gl LV k)) w) := by
 obtain ⟨b, off, rfl, q0, q1, q2⟩ := pls_at hPl hkp
 have gq := World.block_lt_of_cell? _ _ q0
 obtain ⟨⟨A, S⟩, hA⟩ : ∃ l, gl LV k = l := ⟨_, rfl⟩
 obtain ⟨⟨yr, yc, ya⟩, hY⟩ : ∃ y, gp P k = y := ⟨_, rfl⟩
 rw [hY] at q0 q1 q2 hy ⊢
 have HA := Lib.hid hA
 have HPb := Lib.hid hPl.bound
 simp only [] at q0 q1 q2
 have hyr : 0 ≤ yr ∧ yr ≤ 8192 := Decidable.not_not.1 (fun e => hy (Or.inl e))
 have HX := Lib.hid (And.intro hL (And.intro hn (And.intro hk (And.intro hl (And.intro hT (And.intro hPar hI))))))
 have hmis := hT.mis
 have hgate := hPar.1
 have hmost := hPar.2.2.1
 have K := Lib.hid (CoK.new (t, s) ⟨yr, yc, ya⟩ hR)
 obtain ⟨-, -, -, -, -, -, -, r7, -, -⟩ := hR.cells
 have rl := hR.lt
 have hk0 : (0 : Int) ≤ (k : Int) := by omega
 have hk1 : (k : Int) < (pn : Int) := by omega
 obtain ⟨pv, hpv⟩ : ∃ v, prV t.rg (t.misses + 1) = v := ⟨_, rfl⟩
 have hpb := prV_bd t.rg (t.misses + 1)
 rw [hpv] at hpb
 obtain ⟨D, hD⟩ : ∃ D, 256 * yr - pv = D := ⟨_, rfl⟩
 obtain ⟨V, hV⟩ : ∃ V, max D (-D) = V := ⟨_, rfl⟩
 have hVb : 0 ≤ V ∧ V ≤ 2097152 := by omega
 have HV := Lib.hid (show offV t ⟨yr, yc, ya⟩ = V from by unfold offV; rw [hpv]; dsimp only; rw [hD, hV])
 have w1' : IntKind.i64.wrap (t.misses + 1) = t.misses + 1 := IntWalk.i64_in _ (by omega)
 have w2' : IntKind.i64.wrap (256 * yr) = 256 * yr := IntWalk.i64_in _ (by omega)
 have w3' : IntKind.i64.wrap (256 * yr - pv) = D := by rw [hD]; exact IntWalk.i64_in _ (by omega)
 have w4' : IntKind.i64.wrap (-D) = -D := IntWalk.i64_in _ (by omega)
 have w5' : IntKind.i64.wrap (256 * p.gate) = 256 * p.gate := IntWalk.i64_in _ (by omega)
 have w6' : IntKind.i64.wrap (V + 65536) = V + 65536 := IntWalk.i64_in _ (by omega)
 have HPV := Lib.hid hpv
 obtain ⟨id, addr, rg, lo, hi, hits, misses, firm⟩ := t
 obtain ⟨aL, nL, cL, aH, nH, cH⟩ := s
 have hVc : (D < -D → V = -D) ∧ (¬ D < -D → V = D) := by omega
 clear hA hY hPl hn hl hT hPar hy hI hL hR hpv hD hV hmis hmost hpb hyr
 unfold tkV tkC
 unfold tkC at K
 simp only [] at K HPV HV w1' ⊢
 by_cases hs : D < -D
 ·obtain rfl := hVc.1 hs
  clear hVc
  by_cases ha : 0 ≤ addr
  ·by_cases hya : 0 ≤ ya
   ·have HBo := Lib.hid (show bothB ⟨id, addr, rg, lo, hi, hits, misses, firm⟩ ⟨yr, yc, ya⟩ from ⟨ha, hya⟩)
    by_cases hf : 256 * p.gate < -D
    ·have HC := Lib.hid (show costV p ⟨id, addr, rg, lo, hi, hits, misses, firm⟩ ⟨yr, yc, ya⟩ (gl LV k) = -1 from costV_far (Or.inl (by rw [HV.out]; exact hf)))
     go_enter Try.func58, Try.ntmps58
     go_wp2_with fail
     refine (pPredict_call rg (misses + 1) _).mono ?_; rintro e w1 ⟨rfl, hb⟩
     rw [HPV.out]
     replace K := Lib.hid (K.out.keep hb)
     clear hb r7 rl q0 q1 q2 gq
     obtain ⟨z0, z1, z2, z3, z4, z5, z6, z7, z8, z9⟩ := TkAt.block' (q := (⟨id, addr, rg, lo, hi, hits, misses, firm⟩, ⟨aL, nL, cL, aH, nH, cH⟩)) K.out.T
     simp only [] at z0 z1 z2 z3 z4 z5 z6 z7 z8 z9
     obtain ⟨y0, y1, y2⟩ := pl_cells K.out.Y
     simp only [] at y0 y1 y2
     have zl := lt_of_block K.out.T
     have yl := lt_of_block K.out.Y
     obtain ⟨r0, r1, r2, r3, r4, r5, r6, r7, r8, r9⟩ := K.out.R.cells
     have rl := K.out.R.lt
     go_wp2_with fail
     go_ret
     exact nPost_of HC.out.symm K.out.B
    ·by_cases hne : addr = ya
     ·subst hne
      have HF := Lib.hid (show ¬ farB p ⟨id, addr, rg, lo, hi, hits, misses, firm⟩ ⟨yr, yc, addr⟩ from fun e => by
       rcases e with e | e
       ·rw [HV.out] at e; exact hf e
       ·exact e.2 rfl)
      go_enter Try.func58, Try.ntmps58
      go_wp2_with fail
      refine (pPredict_call rg (misses + 1) _).mono ?_; rintro e w1 ⟨rfl, hb⟩
      rw [HPV.out]
      replace K := Lib.hid (K.out.keep hb)
      clear hb r7 rl q0 q1 q2 gq
      obtain ⟨z0, z1, z2, z3, z4, z5, z6, z7, z8, z9⟩ := TkAt.block' (q := (⟨id, addr, rg, lo, hi, hits, misses, firm⟩, ⟨aL, nL, cL, aH, nH, cH⟩)) K.out.T
      simp only [] at z0 z1 z2 z3 z4 z5 z6 z7 z8 z9
      obtain ⟨y0, y1, y2⟩ := pl_cells K.out.Y
      simp only [] at y0 y1 y2
      have zl := lt_of_block K.out.T
      have yl := lt_of_block K.out.Y
      obtain ⟨r0, r1, r2, r3, r4, r5, r6, r7, r8, r9⟩ := K.out.R.cells
      have rl := K.out.R.lt
      go_wp2_with fail
      cases he : emptyB (meaL lo hi (gl LV k)) (meaH lo hi (gl LV k)) with
      | true =>
       have HEM := Lib.hid he
       have HC := Lib.hid (costV_none (l := gl LV k) HF.out he)
       clear he
       refine (measure_call r g n c p now next _ _ _ LV ⟨id, addr, rg, lo, hi, hits, misses, firm⟩ ⟨aL, nL, cL, aH, nH, cH⟩ k _ K.out.R (HX.out.1.below K.out.B) HX.out.2.1 HX.out.2.2.1 HX.out.2.2.2.1 HX.out.2.2.2.2.1.ch (HX.out.2.2.2.2.2.2.below K.out.B)).mono ?_; rintro e w2 ⟨⟨a1, n1, c1, a2, n2, c2⟩, rfl, hb, -⟩
       replace K := Lib.hid (K.out.keep hb)
       clear hb
       rw [HEM.out]
       unfold bdV'
       simp only []
       have HC2 := Lib.hid (K.out.keep (below_alloc _ (.cells #[.slice a1 n1 c1, .slice a2 n2 c2] 44)))
       go_wp2_with fail
       go_ret
       exact nPost_of HC.out.symm HC2.out.B
      | false =>
       have HEM := Lib.hid he
       have HC := Lib.hid (costV_both (l := gl LV k) HF.out he HBo.out)
       clear he
       refine (measure_call r g n c p now next _ _ _ LV ⟨id, addr, rg, lo, hi, hits, misses, firm⟩ ⟨aL, nL, cL, aH, nH, cH⟩ k _ K.out.R (HX.out.1.below K.out.B) HX.out.2.1 HX.out.2.2.1 HX.out.2.2.2.1 HX.out.2.2.2.2.1.ch (HX.out.2.2.2.2.2.2.below K.out.B)).mono ?_; rintro e w2 ⟨⟨a1, n1, c1, a2, n2, c2⟩, rfl, hb, -⟩
       replace K := Lib.hid (K.out.keep hb)
       clear hb
       rw [HEM.out]
       unfold bdV'
       simp only []
       have HC2 := Lib.hid (K.out.keep (below_alloc _ (.cells #[.slice a1 n1 c1, .slice a2 n2 c2] 44)))
       go_wp2_with fail
       go_ret
       exact nPost_of (by rw [HC.out, HV.out]) HC2.out.B
     ·have hnb : (addr != ya) = true := bne_iff_ne.2 hne
      have HC := Lib.hid (show costV p ⟨id, addr, rg, lo, hi, hits, misses, firm⟩ ⟨yr, yc, ya⟩ (gl LV k) = -1 from costV_far (Or.inr ⟨HBo.out, hne⟩))
      go_enter Try.func58, Try.ntmps58
      go_wp2_with fail
      refine (pPredict_call rg (misses + 1) _).mono ?_; rintro e w1 ⟨rfl, hb⟩
      rw [HPV.out]
      replace K := Lib.hid (K.out.keep hb)
      clear hb r7 rl q0 q1 q2 gq
      obtain ⟨z0, z1, z2, z3, z4, z5, z6, z7, z8, z9⟩ := TkAt.block' (q := (⟨id, addr, rg, lo, hi, hits, misses, firm⟩, ⟨aL, nL, cL, aH, nH, cH⟩)) K.out.T
      simp only [] at z0 z1 z2 z3 z4 z5 z6 z7 z8 z9
      obtain ⟨y0, y1, y2⟩ := pl_cells K.out.Y
      simp only [] at y0 y1 y2
      have zl := lt_of_block K.out.T
      have yl := lt_of_block K.out.Y
      obtain ⟨r0, r1, r2, r3, r4, r5, r6, r7, r8, r9⟩ := K.out.R.cells
      have rl := K.out.R.lt
      go_wp2_with fail
      go_ret
      exact nPost_of HC.out.symm K.out.B
   ·have HBo := Lib.hid (show ¬ bothB ⟨id, addr, rg, lo, hi, hits, misses, firm⟩ ⟨yr, yc, ya⟩ from fun e => hya e.2)
    by_cases hf : 256 * p.gate < -D
    ·have HC := Lib.hid (show costV p ⟨id, addr, rg, lo, hi, hits, misses, firm⟩ ⟨yr, yc, ya⟩ (gl LV k) = -1 from costV_far (Or.inl (by rw [HV.out]; exact hf)))
     go_enter Try.func58, Try.ntmps58
     go_wp2_with fail
     refine (pPredict_call rg (misses + 1) _).mono ?_; rintro e w1 ⟨rfl, hb⟩
     rw [HPV.out]
     replace K := Lib.hid (K.out.keep hb)
     clear hb r7 rl q0 q1 q2 gq
     obtain ⟨z0, z1, z2, z3, z4, z5, z6, z7, z8, z9⟩ := TkAt.block' (q := (⟨id, addr, rg, lo, hi, hits, misses, firm⟩, ⟨aL, nL, cL, aH, nH, cH⟩)) K.out.T
     simp only [] at z0 z1 z2 z3 z4 z5 z6 z7 z8 z9
     obtain ⟨y0, y1, y2⟩ := pl_cells K.out.Y
     simp only [] at y0 y1 y2
     have zl := lt_of_block K.out.T
     have yl := lt_of_block K.out.Y
     obtain ⟨r0, r1, r2, r3, r4, r5, r6, r7, r8, r9⟩ := K.out.R.cells
     have rl := K.out.R.lt
     go_wp2_with fail
     go_ret
     exact nPost_of HC.out.symm K.out.B
    ·have HF := Lib.hid (show ¬ farB p ⟨id, addr, rg, lo, hi, hits, misses, firm⟩ ⟨yr, yc, ya⟩ from fun e => by
      rcases e with e | e
      ·rw [HV.out] at e; exact hf e
      ·exact HBo.out e.1)
     go_enter Try.func58, Try.ntmps58
     go_wp2_with fail
     refine (pPredict_call rg (misses + 1) _).mono ?_; rintro e w1 ⟨rfl, hb⟩
     rw [HPV.out]
     replace K := Lib.hid (K.out.keep hb)
     clear hb r7 rl q0 q1 q2 gq
     obtain ⟨z0, z1, z2, z3, z4, z5, z6, z7, z8, z9⟩ := TkAt.block' (q := (⟨id, addr, rg, lo, hi, hits, misses, firm⟩, ⟨aL, nL, cL, aH, nH, cH⟩)) K.out.T
     simp only [] at z0 z1 z2 z3 z4 z5 z6 z7 z8 z9
     obtain ⟨y0, y1, y2⟩ := pl_cells K.out.Y
     simp only [] at y0 y1 y2
     have zl := lt_of_block K.out.T
     have yl := lt_of_block K.out.Y
     obtain ⟨r0, r1, r2, r3, r4, r5, r6, r7, r8, r9⟩ := K.out.R.cells
     have rl := K.out.R.lt
     go_wp2_with fail
     cases he : emptyB (meaL lo hi (gl LV k)) (meaH lo hi (gl LV k)) with
     | true =>
      have HEM := Lib.hid he
      have HC := Lib.hid (costV_none (l := gl LV k) HF.out he)
      clear he
      refine (measure_call r g n c p now next _ _ _ LV ⟨id, addr, rg, lo, hi, hits, misses, firm⟩ ⟨aL, nL, cL, aH, nH, cH⟩ k _ K.out.R (HX.out.1.below K.out.B) HX.out.2.1 HX.out.2.2.1 HX.out.2.2.2.1 HX.out.2.2.2.2.1.ch (HX.out.2.2.2.2.2.2.below K.out.B)).mono ?_; rintro e w2 ⟨⟨a1, n1, c1, a2, n2, c2⟩, rfl, hb, -⟩
      replace K := Lib.hid (K.out.keep hb)
      clear hb
      rw [HEM.out]
      unfold bdV'
      simp only []
      have HC2 := Lib.hid (K.out.keep (below_alloc _ (.cells #[.slice a1 n1 c1, .slice a2 n2 c2] 44)))
      go_wp2_with fail
      go_ret
      exact nPost_of HC.out.symm HC2.out.B
     | false =>
      have HEM := Lib.hid he
      have HC := Lib.hid (costV_one (l := gl LV k) HF.out he HBo.out)
      clear he
      refine (measure_call r g n c p now next _ _ _ LV ⟨id, addr, rg, lo, hi, hits, misses, firm⟩ ⟨aL, nL, cL, aH, nH, cH⟩ k _ K.out.R (HX.out.1.below K.out.B) HX.out.2.1 HX.out.2.2.1 HX.out.2.2.2.1 HX.out.2.2.2.2.1.ch (HX.out.2.2.2.2.2.2.below K.out.B)).mono ?_; rintro e w2 ⟨⟨a1, n1, c1, a2, n2, c2⟩, rfl, hb, -⟩
      replace K := Lib.hid (K.out.keep hb)
      clear hb
      rw [HEM.out]
      unfold bdV'
      simp only []
      have HC2 := Lib.hid (K.out.keep (below_alloc _ (.cells #[.slice a1 n1 c1, .slice a2 n2 c2] 44)))
      go_wp2_with fail
      go_ret
      exact nPost_of (by rw [HC.out, HV.out]) HC2.out.B
  ·have HBo := Lib.hid (show ¬ bothB ⟨id, addr, rg, lo, hi, hits, misses, firm⟩ ⟨yr, yc, ya⟩ from fun e => ha e.1)
   by_cases hf : 256 * p.gate < -D
   ·have HC := Lib.hid (show costV p ⟨id, addr, rg, lo, hi, hits, misses, firm⟩ ⟨yr, yc, ya⟩ (gl LV k) = -1 from costV_far (Or.inl (by rw [HV.out]; exact hf)))
    go_enter Try.func58, Try.ntmps58
    go_wp2_with fail
    refine (pPredict_call rg (misses + 1) _).mono ?_; rintro e w1 ⟨rfl, hb⟩
    rw [HPV.out]
    replace K := Lib.hid (K.out.keep hb)
    clear hb r7 rl q0 q1 q2 gq
    obtain ⟨z0, z1, z2, z3, z4, z5, z6, z7, z8, z9⟩ := TkAt.block' (q := (⟨id, addr, rg, lo, hi, hits, misses, firm⟩, ⟨aL, nL, cL, aH, nH, cH⟩)) K.out.T
    simp only [] at z0 z1 z2 z3 z4 z5 z6 z7 z8 z9
    obtain ⟨y0, y1, y2⟩ := pl_cells K.out.Y
    simp only [] at y0 y1 y2
    have zl := lt_of_block K.out.T
    have yl := lt_of_block K.out.Y
    obtain ⟨r0, r1, r2, r3, r4, r5, r6, r7, r8, r9⟩ := K.out.R.cells
    have rl := K.out.R.lt
    go_wp2_with fail
    go_ret
    exact nPost_of HC.out.symm K.out.B
   ·have HF := Lib.hid (show ¬ farB p ⟨id, addr, rg, lo, hi, hits, misses, firm⟩ ⟨yr, yc, ya⟩ from fun e => by
     rcases e with e | e
     ·rw [HV.out] at e; exact hf e
     ·exact HBo.out e.1)
    go_enter Try.func58, Try.ntmps58
    go_wp2_with fail
    refine (pPredict_call rg (misses + 1) _).mono ?_; rintro e w1 ⟨rfl, hb⟩
    rw [HPV.out]
    replace K := Lib.hid (K.out.keep hb)
    clear hb r7 rl q0 q1 q2 gq
    obtain ⟨z0, z1, z2, z3, z4, z5, z6, z7, z8, z9⟩ := TkAt.block' (q := (⟨id, addr, rg, lo, hi, hits, misses, firm⟩, ⟨aL, nL, cL, aH, nH, cH⟩)) K.out.T
    simp only [] at z0 z1 z2 z3 z4 z5 z6 z7 z8 z9
    obtain ⟨y0, y1, y2⟩ := pl_cells K.out.Y
    simp only [] at y0 y1 y2
    have zl := lt_of_block K.out.T
    have yl := lt_of_block K.out.Y
    obtain ⟨r0, r1, r2, r3, r4, r5, r6, r7, r8, r9⟩ := K.out.R.cells
    have rl := K.out.R.lt
    go_wp2_with fail
    cases he : emptyB (meaL lo hi (gl LV k)) (meaH lo hi (gl LV k)) with
    | true =>
     have HEM := Lib.hid he
     have HC := Lib.hid (costV_none (l := gl LV k) HF.out he)
     clear he
     refine (measure_call r g n c p now next _ _ _ LV ⟨id, addr, rg, lo, hi, hits, misses, firm⟩ ⟨aL, nL, cL, aH, nH, cH⟩ k _ K.out.R (HX.out.1.below K.out.B) HX.out.2.1 HX.out.2.2.1 HX.out.2.2.2.1 HX.out.2.2.2.2.1.ch (HX.out.2.2.2.2.2.2.below K.out.B)).mono ?_; rintro e w2 ⟨⟨a1, n1, c1, a2, n2, c2⟩, rfl, hb, -⟩
     replace K := Lib.hid (K.out.keep hb)
     clear hb
     rw [HEM.out]
     unfold bdV'
     simp only []
     have HC2 := Lib.hid (K.out.keep (below_alloc _ (.cells #[.slice a1 n1 c1, .slice a2 n2 c2] 44)))
     go_wp2_with fail
     go_ret
     exact nPost_of HC.out.symm HC2.out.B
    | false =>
     have HEM := Lib.hid he
     have HC := Lib.hid (costV_one (l := gl LV k) HF.out he HBo.out)
     clear he
     refine (measure_call r g n c p now next _ _ _ LV ⟨id, addr, rg, lo, hi, hits, misses, firm⟩ ⟨aL, nL, cL, aH, nH, cH⟩ k _ K.out.R (HX.out.1.below K.out.B) HX.out.2.1 HX.out.2.2.1 HX.out.2.2.2.1 HX.out.2.2.2.2.1.ch (HX.out.2.2.2.2.2.2.below K.out.B)).mono ?_; rintro e w2 ⟨⟨a1, n1, c1, a2, n2, c2⟩, rfl, hb, -⟩
     replace K := Lib.hid (K.out.keep hb)
     clear hb
     rw [HEM.out]
     unfold bdV'
     simp only []
     have HC2 := Lib.hid (K.out.keep (below_alloc _ (.cells #[.slice a1 n1 c1, .slice a2 n2 c2] 44)))
     go_wp2_with fail
     go_ret
     exact nPost_of (by rw [HC.out, HV.out]) HC2.out.B
 ·obtain rfl := hVc.2 hs
  clear hVc
  by_cases ha : 0 ≤ addr
  ·by_cases hya : 0 ≤ ya
   ·have HBo := Lib.hid (show bothB ⟨id, addr, rg, lo, hi, hits, misses, firm⟩ ⟨yr, yc, ya⟩ from ⟨ha, hya⟩)
    by_cases hf : 256 * p.gate < V
    ·have HC := Lib.hid (show costV p ⟨id, addr, rg, lo, hi, hits, misses, firm⟩ ⟨yr, yc, ya⟩ (gl LV k) = -1 from costV_far (Or.inl (by rw [HV.out]; exact hf)))
     go_enter Try.func58, Try.ntmps58
     go_wp2_with fail
     refine (pPredict_call rg (misses + 1) _).mono ?_; rintro e w1 ⟨rfl, hb⟩
     rw [HPV.out]
     replace K := Lib.hid (K.out.keep hb)
     clear hb r7 rl q0 q1 q2 gq
     obtain ⟨z0, z1, z2, z3, z4, z5, z6, z7, z8, z9⟩ := TkAt.block' (q := (⟨id, addr, rg, lo, hi, hits, misses, firm⟩, ⟨aL, nL, cL, aH, nH, cH⟩)) K.out.T
     simp only [] at z0 z1 z2 z3 z4 z5 z6 z7 z8 z9
     obtain ⟨y0, y1, y2⟩ := pl_cells K.out.Y
     simp only [] at y0 y1 y2
     have zl := lt_of_block K.out.T
     have yl := lt_of_block K.out.Y
     obtain ⟨r0, r1, r2, r3, r4, r5, r6, r7, r8, r9⟩ := K.out.R.cells
     have rl := K.out.R.lt
     go_wp2_with fail
     go_ret
     exact nPost_of HC.out.symm K.out.B
    ·by_cases hne : addr = ya
     ·subst hne
      have HF := Lib.hid (show ¬ farB p ⟨id, addr, rg, lo, hi, hits, misses, firm⟩ ⟨yr, yc, addr⟩ from fun e => by
       rcases e with e | e
       ·rw [HV.out] at e; exact hf e
       ·exact e.2 rfl)
      go_enter Try.func58, Try.ntmps58
      go_wp2_with fail
      refine (pPredict_call rg (misses + 1) _).mono ?_; rintro e w1 ⟨rfl, hb⟩
      rw [HPV.out]
      replace K := Lib.hid (K.out.keep hb)
      clear hb r7 rl q0 q1 q2 gq
      obtain ⟨z0, z1, z2, z3, z4, z5, z6, z7, z8, z9⟩ := TkAt.block' (q := (⟨id, addr, rg, lo, hi, hits, misses, firm⟩, ⟨aL, nL, cL, aH, nH, cH⟩)) K.out.T
      simp only [] at z0 z1 z2 z3 z4 z5 z6 z7 z8 z9
      obtain ⟨y0, y1, y2⟩ := pl_cells K.out.Y
      simp only [] at y0 y1 y2
      have zl := lt_of_block K.out.T
      have yl := lt_of_block K.out.Y
      obtain ⟨r0, r1, r2, r3, r4, r5, r6, r7, r8, r9⟩ := K.out.R.cells
      have rl := K.out.R.lt
      go_wp2_with fail
      cases he : emptyB (meaL lo hi (gl LV k)) (meaH lo hi (gl LV k)) with
      | true =>
       have HEM := Lib.hid he
       have HC := Lib.hid (costV_none (l := gl LV k) HF.out he)
       clear he
       refine (measure_call r g n c p now next _ _ _ LV ⟨id, addr, rg, lo, hi, hits, misses, firm⟩ ⟨aL, nL, cL, aH, nH, cH⟩ k _ K.out.R (HX.out.1.below K.out.B) HX.out.2.1 HX.out.2.2.1 HX.out.2.2.2.1 HX.out.2.2.2.2.1.ch (HX.out.2.2.2.2.2.2.below K.out.B)).mono ?_; rintro e w2 ⟨⟨a1, n1, c1, a2, n2, c2⟩, rfl, hb, -⟩
       replace K := Lib.hid (K.out.keep hb)
       clear hb
       rw [HEM.out]
       unfold bdV'
       simp only []
       have HC2 := Lib.hid (K.out.keep (below_alloc _ (.cells #[.slice a1 n1 c1, .slice a2 n2 c2] 44)))
       go_wp2_with fail
       go_ret
       exact nPost_of HC.out.symm HC2.out.B
      | false =>
       have HEM := Lib.hid he
       have HC := Lib.hid (costV_both (l := gl LV k) HF.out he HBo.out)
       clear he
       refine (measure_call r g n c p now next _ _ _ LV ⟨id, addr, rg, lo, hi, hits, misses, firm⟩ ⟨aL, nL, cL, aH, nH, cH⟩ k _ K.out.R (HX.out.1.below K.out.B) HX.out.2.1 HX.out.2.2.1 HX.out.2.2.2.1 HX.out.2.2.2.2.1.ch (HX.out.2.2.2.2.2.2.below K.out.B)).mono ?_; rintro e w2 ⟨⟨a1, n1, c1, a2, n2, c2⟩, rfl, hb, -⟩
       replace K := Lib.hid (K.out.keep hb)
       clear hb
       rw [HEM.out]
       unfold bdV'
       simp only []
       have HC2 := Lib.hid (K.out.keep (below_alloc _ (.cells #[.slice a1 n1 c1, .slice a2 n2 c2] 44)))
       go_wp2_with fail
       go_ret
       exact nPost_of (by rw [HC.out, HV.out]) HC2.out.B
     ·have hnb : (addr != ya) = true := bne_iff_ne.2 hne
      have HC := Lib.hid (show costV p ⟨id, addr, rg, lo, hi, hits, misses, firm⟩ ⟨yr, yc, ya⟩ (gl LV k) = -1 from costV_far (Or.inr ⟨HBo.out, hne⟩))
      go_enter Try.func58, Try.ntmps58
      go_wp2_with fail
      refine (pPredict_call rg (misses + 1) _).mono ?_; rintro e w1 ⟨rfl, hb⟩
      rw [HPV.out]
      replace K := Lib.hid (K.out.keep hb)
      clear hb r7 rl q0 q1 q2 gq
      obtain ⟨z0, z1, z2, z3, z4, z5, z6, z7, z8, z9⟩ := TkAt.block' (q := (⟨id, addr, rg, lo, hi, hits, misses, firm⟩, ⟨aL, nL, cL, aH, nH, cH⟩)) K.out.T
      simp only [] at z0 z1 z2 z3 z4 z5 z6 z7 z8 z9
      obtain ⟨y0, y1, y2⟩ := pl_cells K.out.Y
      simp only [] at y0 y1 y2
      have zl := lt_of_block K.out.T
      have yl := lt_of_block K.out.Y
      obtain ⟨r0, r1, r2, r3, r4, r5, r6, r7, r8, r9⟩ := K.out.R.cells
      have rl := K.out.R.lt
      go_wp2_with fail
      go_ret
      exact nPost_of HC.out.symm K.out.B
   ·have HBo := Lib.hid (show ¬ bothB ⟨id, addr, rg, lo, hi, hits, misses, firm⟩ ⟨yr, yc, ya⟩ from fun e => hya e.2)
    by_cases hf : 256 * p.gate < V
    ·have HC := Lib.hid (show costV p ⟨id, addr, rg, lo, hi, hits, misses, firm⟩ ⟨yr, yc, ya⟩ (gl LV k) = -1 from costV_far (Or.inl (by rw [HV.out]; exact hf)))
     go_enter Try.func58, Try.ntmps58
     go_wp2_with fail
     refine (pPredict_call rg (misses + 1) _).mono ?_; rintro e w1 ⟨rfl, hb⟩
     rw [HPV.out]
     replace K := Lib.hid (K.out.keep hb)
     clear hb r7 rl q0 q1 q2 gq
     obtain ⟨z0, z1, z2, z3, z4, z5, z6, z7, z8, z9⟩ := TkAt.block' (q := (⟨id, addr, rg, lo, hi, hits, misses, firm⟩, ⟨aL, nL, cL, aH, nH, cH⟩)) K.out.T
     simp only [] at z0 z1 z2 z3 z4 z5 z6 z7 z8 z9
     obtain ⟨y0, y1, y2⟩ := pl_cells K.out.Y
     simp only [] at y0 y1 y2
     have zl := lt_of_block K.out.T
     have yl := lt_of_block K.out.Y
     obtain ⟨r0, r1, r2, r3, r4, r5, r6, r7, r8, r9⟩ := K.out.R.cells
     have rl := K.out.R.lt
     go_wp2_with fail
     go_ret
     exact nPost_of HC.out.symm K.out.B
    ·have HF := Lib.hid (show ¬ farB p ⟨id, addr, rg, lo, hi, hits, misses, firm⟩ ⟨yr, yc, ya⟩ from fun e => by
      rcases e with e | e
      ·rw [HV.out] at e; exact hf e
      ·exact HBo.out e.1)
     go_enter Try.func58, Try.ntmps58
     go_wp2_with fail
     refine (pPredict_call rg (misses + 1) _).mono ?_; rintro e w1 ⟨rfl, hb⟩
     rw [HPV.out]
     replace K := Lib.hid (K.out.keep hb)
     clear hb r7 rl q0 q1 q2 gq
     obtain ⟨z0, z1, z2, z3, z4, z5, z6, z7, z8, z9⟩ := TkAt.block' (q := (⟨id, addr, rg, lo, hi, hits, misses, firm⟩, ⟨aL, nL, cL, aH, nH, cH⟩)) K.out.T
     simp only [] at z0 z1 z2 z3 z4 z5 z6 z7 z8 z9
     obtain ⟨y0, y1, y2⟩ := pl_cells K.out.Y
     simp only [] at y0 y1 y2
     have zl := lt_of_block K.out.T
     have yl := lt_of_block K.out.Y
     obtain ⟨r0, r1, r2, r3, r4, r5, r6, r7, r8, r9⟩ := K.out.R.cells
     have rl := K.out.R.lt
     go_wp2_with fail
     cases he : emptyB (meaL lo hi (gl LV k)) (meaH lo hi (gl LV k)) with
     | true =>
      have HEM := Lib.hid he
      have HC := Lib.hid (costV_none (l := gl LV k) HF.out he)
      clear he
      refine (measure_call r g n c p now next _ _ _ LV ⟨id, addr, rg, lo, hi, hits, misses, firm⟩ ⟨aL, nL, cL, aH, nH, cH⟩ k _ K.out.R (HX.out.1.below K.out.B) HX.out.2.1 HX.out.2.2.1 HX.out.2.2.2.1 HX.out.2.2.2.2.1.ch (HX.out.2.2.2.2.2.2.below K.out.B)).mono ?_; rintro e w2 ⟨⟨a1, n1, c1, a2, n2, c2⟩, rfl, hb, -⟩
      replace K := Lib.hid (K.out.keep hb)
      clear hb
      rw [HEM.out]
      unfold bdV'
      simp only []
      have HC2 := Lib.hid (K.out.keep (below_alloc _ (.cells #[.slice a1 n1 c1, .slice a2 n2 c2] 44)))
      go_wp2_with fail
      go_ret
      exact nPost_of HC.out.symm HC2.out.B
     | false =>
      have HEM := Lib.hid he
      have HC := Lib.hid (costV_one (l := gl LV k) HF.out he HBo.out)
      clear he
      refine (measure_call r g n c p now next _ _ _ LV ⟨id, addr, rg, lo, hi, hits, misses, firm⟩ ⟨aL, nL, cL, aH, nH, cH⟩ k _ K.out.R (HX.out.1.below K.out.B) HX.out.2.1 HX.out.2.2.1 HX.out.2.2.2.1 HX.out.2.2.2.2.1.ch (HX.out.2.2.2.2.2.2.below K.out.B)).mono ?_; rintro e w2 ⟨⟨a1, n1, c1, a2, n2, c2⟩, rfl, hb, -⟩
      replace K := Lib.hid (K.out.keep hb)
      clear hb
      rw [HEM.out]
      unfold bdV'
      simp only []
      have HC2 := Lib.hid (K.out.keep (below_alloc _ (.cells #[.slice a1 n1 c1, .slice a2 n2 c2] 44)))
      go_wp2_with fail
      go_ret
      exact nPost_of (by rw [HC.out, HV.out]) HC2.out.B
  ·have HBo := Lib.hid (show ¬ bothB ⟨id, addr, rg, lo, hi, hits, misses, firm⟩ ⟨yr, yc, ya⟩ from fun e => ha e.1)
   by_cases hf : 256 * p.gate < V
   ·have HC := Lib.hid (show costV p ⟨id, addr, rg, lo, hi, hits, misses, firm⟩ ⟨yr, yc, ya⟩ (gl LV k) = -1 from costV_far (Or.inl (by rw [HV.out]; exact hf)))
    go_enter Try.func58, Try.ntmps58
    go_wp2_with fail
    refine (pPredict_call rg (misses + 1) _).mono ?_; rintro e w1 ⟨rfl, hb⟩
    rw [HPV.out]
    replace K := Lib.hid (K.out.keep hb)
    clear hb r7 rl q0 q1 q2 gq
    obtain ⟨z0, z1, z2, z3, z4, z5, z6, z7, z8, z9⟩ := TkAt.block' (q := (⟨id, addr, rg, lo, hi, hits, misses, firm⟩, ⟨aL, nL, cL, aH, nH, cH⟩)) K.out.T
    simp only [] at z0 z1 z2 z3 z4 z5 z6 z7 z8 z9
    obtain ⟨y0, y1, y2⟩ := pl_cells K.out.Y
    simp only [] at y0 y1 y2
    have zl := lt_of_block K.out.T
    have yl := lt_of_block K.out.Y
    obtain ⟨r0, r1, r2, r3, r4, r5, r6, r7, r8, r9⟩ := K.out.R.cells
    have rl := K.out.R.lt
    go_wp2_with fail
    go_ret
    exact nPost_of HC.out.symm K.out.B
   ·have HF := Lib.hid (show ¬ farB p ⟨id, addr, rg, lo, hi, hits, misses, firm⟩ ⟨yr, yc, ya⟩ from fun e => by
     rcases e with e | e
     ·rw [HV.out] at e; exact hf e
     ·exact HBo.out e.1)
    go_enter Try.func58, Try.ntmps58
    go_wp2_with fail
    refine (pPredict_call rg (misses + 1) _).mono ?_; rintro e w1 ⟨rfl, hb⟩
    rw [HPV.out]
    replace K := Lib.hid (K.out.keep hb)
    clear hb r7 rl q0 q1 q2 gq
    obtain ⟨z0, z1, z2, z3, z4, z5, z6, z7, z8, z9⟩ := TkAt.block' (q := (⟨id, addr, rg, lo, hi, hits, misses, firm⟩, ⟨aL, nL, cL, aH, nH, cH⟩)) K.out.T
    simp only [] at z0 z1 z2 z3 z4 z5 z6 z7 z8 z9
    obtain ⟨y0, y1, y2⟩ := pl_cells K.out.Y
    simp only [] at y0 y1 y2
    have zl := lt_of_block K.out.T
    have yl := lt_of_block K.out.Y
    obtain ⟨r0, r1, r2, r3, r4, r5, r6, r7, r8, r9⟩ := K.out.R.cells
    have rl := K.out.R.lt
    go_wp2_with fail
    cases he : emptyB (meaL lo hi (gl LV k)) (meaH lo hi (gl LV k)) with
    | true =>
     have HEM := Lib.hid he
     have HC := Lib.hid (costV_none (l := gl LV k) HF.out he)
     clear he
     refine (measure_call r g n c p now next _ _ _ LV ⟨id, addr, rg, lo, hi, hits, misses, firm⟩ ⟨aL, nL, cL, aH, nH, cH⟩ k _ K.out.R (HX.out.1.below K.out.B) HX.out.2.1 HX.out.2.2.1 HX.out.2.2.2.1 HX.out.2.2.2.2.1.ch (HX.out.2.2.2.2.2.2.below K.out.B)).mono ?_; rintro e w2 ⟨⟨a1, n1, c1, a2, n2, c2⟩, rfl, hb, -⟩
     replace K := Lib.hid (K.out.keep hb)
     clear hb
     rw [HEM.out]
     unfold bdV'
     simp only []
     have HC2 := Lib.hid (K.out.keep (below_alloc _ (.cells #[.slice a1 n1 c1, .slice a2 n2 c2] 44)))
     go_wp2_with fail
     go_ret
     exact nPost_of HC.out.symm HC2.out.B
    | false =>
     have HEM := Lib.hid he
     have HC := Lib.hid (costV_one (l := gl LV k) HF.out he HBo.out)
     clear he
     refine (measure_call r g n c p now next _ _ _ LV ⟨id, addr, rg, lo, hi, hits, misses, firm⟩ ⟨aL, nL, cL, aH, nH, cH⟩ k _ K.out.R (HX.out.1.below K.out.B) HX.out.2.1 HX.out.2.2.1 HX.out.2.2.2.1 HX.out.2.2.2.2.1.ch (HX.out.2.2.2.2.2.2.below K.out.B)).mono ?_; rintro e w2 ⟨⟨a1, n1, c1, a2, n2, c2⟩, rfl, hb, -⟩
     replace K := Lib.hid (K.out.keep hb)
     clear hb
     rw [HEM.out]
     unfold bdV'
     simp only []
     have HC2 := Lib.hid (K.out.keep (below_alloc _ (.cells #[.slice a1 n1 c1, .slice a2 n2 c2] 44)))
     go_wp2_with fail
     go_ret
     exact nPost_of (by rw [HC.out, HV.out]) HC2.out.B
end Go.Proofs.Ytikjjpjekchcjaa
