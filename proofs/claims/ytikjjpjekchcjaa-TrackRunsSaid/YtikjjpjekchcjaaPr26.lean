/-
  TrkB, TrkJ
-/
import Derived.Test.YtikjjpjekchcjaaPr11
import Derived.Test.YtikjjpjekchcjaaPr13
import Derived.Test.YtikjjpjekchcjaaPr18
import Derived.Test.YtikjjpjekchcjaaPr14
import Derived.Test.YtikjjpjekchcjaaPr1
set_option linter.all false
set_option maxRecDepth 100000
set_option maxHeartbeats 64000000
section
namespace Go.Proofs.Ytikjjpjekchcjaa
open Go.RowKit TrkMath MyHeap MyOwn
def N2Post (a b : Int) (w : World) (e : Ending) (w' : World) : Prop := e = .returned (.tuple #[.int .i64 a, .int .i64 b]) ∧ Below w.heap.size w w'
theorem n2Post_of {a b a' b' : Int} {w w' : World} (h1 : a' = a) (h2 : b' = b) (hB : Below w.heap.size w w') : N2Post a' b' w (.returned (.tuple #[.int .i64 a, .int .i64 b])) w' := by subst h1; subst h2; exact ⟨rfl, hB⟩
theorem prE_ch {x : Rg} {c : Int} (h : rgE x ≠ 0) : prE x c = rgE x ∧ prV x c = 0 := by
 have e : prE x c = rgE x := if_pos h
 exact ⟨e, if_neg (by rw [e]; exact h)⟩
theorem prE_arg {x : Rg} {c : Int} (h : rgE x = 0) (hc : c < 0 ∨ 16 < c) : prE x c = 1 ∧ prV x c = 0 := by
 have e : prE x c = 1 := by unfold prE; rw [if_neg (by rw [h]; decide), if_pos hc]
 exact ⟨e, if_neg (by rw [e]; decide)⟩
theorem prE_ok {x : Rg} {c : Int} (h : rgE x = 0) (hc : ¬ (c < 0 ∨ 16 < c)) : prE x c = 0 ∧ prV x c = lim (x.r + c * x.v) 0 2097152 := by
 have e : prE x c = 0 := by unfold prE; rw [if_neg (by rw [h]; decide), if_neg hc]
 exact ⟨e, if_pos e⟩
theorem mul_bd {c v : Int} (h1 : 0 ≤ c) (h2 : c ≤ 16) (h3 : -16384 ≤ v) (h4 : v ≤ 16384) : -262144 ≤ c * v ∧ c * v ≤ 262144 := by
 have a1 : c * v ≤ 16 * 16384 := by
  rcases Int.lt_or_le v 0 with h | h
  ·have : c * v ≤ 0 := Int.mul_nonpos_of_nonneg_of_nonpos h1 (by omega)
   omega
  exact Int.mul_le_mul h2 h4 h (by decide)
 have a2 : c * -v ≤ 16 * 16384 := by
  rcases Int.lt_or_le (-v) 0 with h | h
  ·have : c * -v ≤ 0 := Int.mul_nonpos_of_nonneg_of_nonpos h1 (by omega)
   omega
  exact Int.mul_le_mul h2 (by omega) h (by decide)
 rw [Int.mul_neg] at a2
 omega
theorem limit_below (w : World) (lo hi : Int) : Below w.heap.size w ((w.alloc (.cells #[.int .i64 lo] 3)).alloc (.cells #[.int .i64 hi] 3)) := by
 have h := below_alloc w (.cells #[.int .i64 lo] 3)
 exact h.alloc h.size _
theorem limit_cells (w : World) (lo hi : Int) : ((w.alloc (.cells #[.int .i64 lo] 3)).alloc (.cells #[.int .i64 hi] 3)).cell? ⟨w.heap.size, 0, none⟩ = some (.int .i64 lo) ∧ ((w.alloc (.cells #[.int .i64 lo] 3)).alloc (.cells #[.int .i64 hi] 3)).cell? ⟨w.heap.size + 1, 0, none⟩ = some (.int .i64 hi) :=
 ⟨cell_of_block (block_alloc (block_new w (.cells #[.int .i64 lo] 3 (0, 0)) rfl)) rfl, cell_of_block (block_new (w.alloc (.cells #[.int .i64 lo] 3)) (.cells #[.int .i64 hi] 3 (0, 0)) (by simp)) rfl⟩
theorem rPredict_call (x : Rg) (c : Int) (w : World) : Calls Try.prog 70 #[rgV x, .int .i64 c] w (N2Post (prV x c) (prE x c) w) := by
 have HB := qh (below_alloc w (.cells #[.int .i64 x.r, .int .i64 x.v, .int .i64 x.n] 42))
 have HX0 := qh (block_new w (.cells #[.int .i64 x.r, .int .i64 x.v, .int .i64 x.n] 42 (0, 0)) rfl)
 by_cases hE : rgE x = 0
 ·have HE := qh hE
  have hz := rgE_zero hE
  unfold rgV
  clear hE
  go_enter Try.func70, Try.ntmps70
  go_wp2_with fail
  refine (rRgCheck_call x _).mono ?_; rintro e w1 ⟨rfl, hb⟩
  rw [HE.out]
  have K := qh (And.intro (HB.out.trans (hb.mono HB.out.size)) (keepO hb HX0.out))
  clear hb
  by_cases h1 : c < 0
  ·have HR := qh (prE_arg HE.out (Or.inl h1))
   go_wp2_with fail
   go_ret2
   exact n2Post_of HR.out.2 HR.out.1 K.out.1
  by_cases h2 : 16 < c
  ·have HR := qh (prE_arg HE.out (Or.inr h2))
   go_wp2_with fail
   go_ret2
   exact n2Post_of HR.out.2 HR.out.1 K.out.1
  have HR := qh (prE_ok (c := c) HE.out (by omega))
  have y0 : w1.cell? ⟨w.heap.size, 0, none⟩ = some (.int .i64 x.r) := cell_of_block K.out.2 rfl
  have y1 : w1.cell? ⟨w.heap.size, 1, none⟩ = some (.int .i64 x.v) := cell_of_block K.out.2 rfl
  have yl := lt_of_block K.out.2
  have hm := mul_bd (c := c) (v := x.v) (by omega) (by omega) hz.2.2.1 hz.2.2.2.1
  obtain ⟨M, hM⟩ : ∃ M, c * x.v = M := ⟨_, rfl⟩
  have HM := qh hM
  have w1' : IntKind.i64.wrap (c * x.v) = M := by rw [hM]; exact IntWalk.i64_in _ (by omega)
  have w2' : IntKind.i64.wrap (x.r + M) = x.r + M := IntWalk.i64_in _ (by omega)
  have v1' : wrap64 (c * x.v) = M := by rw [hM]; unfold wrap64; omega
  clear hM hm
  go_wp2_with fail
  refine (limited_call _ _ _ _).mono ?_; rintro e w2 ⟨rfl, hb⟩
  have HL := qh (show prV x c = lim (x.r + M) 0 2097152 from by rw [HR.out.2, HM.out])
  obtain ⟨R, hR⟩ : ∃ R, lim (x.r + M) 0 2097152 = R := ⟨_, rfl⟩
  rw [hR] at HL ⊢
  clear hR
  go_wp2_with fail
  go_ret2
  exact n2Post_of HL.out HR.out.1 (K.out.1.trans (hb.mono K.out.1.size))
 have hne : (rgE x != 0) = true := by rw [bne_iff_ne]; exact hE
 have HR := qh (prE_ch (c := c) hE)
 obtain ⟨E, hE2⟩ : ∃ E, rgE x = E := ⟨_, rfl⟩
 have HE := qh hE2
 rw [hE2] at hne
 unfold rgV
 clear hE hE2
 go_enter Try.func70, Try.ntmps70
 go_wp2_with fail
 refine (rRgCheck_call x _).mono ?_; rintro e w1 ⟨rfl, hb⟩
 rw [HE.out]
 go_wp2_with fail
 go_ret2
 exact n2Post_of HR.out.2 (by rw [HR.out.1, HE.out]) (HB.out.trans (hb.mono HB.out.size))
theorem pPredict_call (x : Rg) (c : Int) (w : World) : Calls Try.prog 86 #[rgV x, .int .i64 c] w (N2Post (prV x c) (prE x c) w) := by
 have HB := qh (below_alloc w (.cells #[.int .i64 x.r, .int .i64 x.v, .int .i64 x.n] 42))
 have HX0 := qh (block_new w (.cells #[.int .i64 x.r, .int .i64 x.v, .int .i64 x.n] 42 (0, 0)) rfl)
 by_cases hE : rgE x = 0
 ·have HE := qh hE
  have hz := rgE_zero hE
  unfold rgV
  clear hE
  go_enter Try.func86, Try.ntmps86
  go_wp2_with fail
  refine (pRgCheck_call x _).mono ?_; rintro e w1 ⟨rfl, hb⟩
  rw [HE.out]
  have K := qh (And.intro (HB.out.trans (hb.mono HB.out.size)) (keepO hb HX0.out))
  clear hb
  by_cases h1 : c < 0
  ·have HR := qh (prE_arg HE.out (Or.inl h1))
   go_wp2_with fail
   go_ret2
   exact n2Post_of HR.out.2 HR.out.1 K.out.1
  by_cases h2 : 16 < c
  ·have HR := qh (prE_arg HE.out (Or.inr h2))
   go_wp2_with fail
   go_ret2
   exact n2Post_of HR.out.2 HR.out.1 K.out.1
  have HR := qh (prE_ok (c := c) HE.out (by omega))
  have HY := qh (show w1.cell? ⟨w.heap.size, 0, none⟩ = some (.int .i64 x.r) ∧ w1.cell? ⟨w.heap.size, 1, none⟩ = some (.int .i64 x.v) from ⟨cell_of_block K.out.2 rfl, cell_of_block K.out.2 rfl⟩)
  have yl := lt_of_block K.out.2
  have hm := mul_bd (c := c) (v := x.v) (by omega) (by omega) hz.2.2.1 hz.2.2.2.1
  obtain ⟨M, hM⟩ : ∃ M, c * x.v = M := ⟨_, rfl⟩
  have HM := qh hM
  have w1' : IntKind.i64.wrap (c * x.v) = M := by rw [hM]; exact IntWalk.i64_in _ (by omega)
  have w2' : IntKind.i64.wrap (x.r + M) = x.r + M := IntWalk.i64_in _ (by omega)
  have HL := qh (show prV x c = lim (x.r + M) 0 2097152 from by rw [HR.out.2, HM.out])
  clear hM hm
  go_wp2_with fail
  have KD := qh (show Below w1.heap.size w1 w1.drew from below_drewN (Below.refl _ _) 1)
  go_region_held3 (fun w' => w'.cell? ⟨w.heap.size, 0, none⟩ = some (.int .i64 x.r) ∧ w'.cell? ⟨w.heap.size, 1, none⟩ = some (.int .i64 x.v)) (exact ⟨keep1 KD.out HY.out.1, keep1 KD.out HY.out.2⟩)
   (first
    | (go_at_call 89; refine (limit_call _ _ _).mono ?_; rintro e w5 ⟨rfl, rfl⟩; have PP := limit_cells w1.drew 0 2097152; replace KD := qh (KD.out.trans ((limit_below w1.drew 0 2097152).mono KD.out.size)))
    | (go_at_call 98; refine (limit1_call (x.r + M) 0 2097152 _ _ _ PP.1 PP.2).mono ?_; rintro e w6 ⟨rfl, hb⟩; replace KD := qh (KD.out.trans (hb.mono KD.out.size)); clear hb))
  all_goals
   go_wp2_with fail
   go_ret2
   exact n2Post_of HL.out HR.out.1 (K.out.1.trans (KD.out.mono K.out.1.size))
 have hne : (rgE x != 0) = true := by rw [bne_iff_ne]; exact hE
 have HR := qh (prE_ch (c := c) hE)
 obtain ⟨E, hE2⟩ : ∃ E, rgE x = E := ⟨_, rfl⟩
 have HE := qh hE2
 rw [hE2] at hne
 unfold rgV
 clear hE hE2
 go_enter Try.func86, Try.ntmps86
 go_wp2_with fail
 refine (pRgCheck_call x _).mono ?_; rintro e w1 ⟨rfl, hb⟩
 rw [HE.out]
 go_wp2_with fail
 go_ret2
 exact n2Post_of HR.out.2 (by rw [HR.out.1, HE.out]) (HB.out.trans (hb.mono HB.out.size))
end Go.Proofs.Ytikjjpjekchcjaa
end
section
namespace Go.Proofs.Ytikjjpjekchcjaa
open Go.RowKit TrkMath MyHeap MyOwn
theorem lim_bd (n : Int) : 0 ≤ lim n 0 2097152 ∧ lim n 0 2097152 ≤ 2097152 := by unfold lim; omega
theorem prV_bd (x : Rg) (c : Int) : 0 ≤ prV x c ∧ prV x c ≤ 2097152 := by
 unfold prV
 split
 ·exact lim_bd _
 decide
structure CoK (w : World) (r : Nat) (p : Par) (now next : Int) (tV pV lV eV : Value) (q : TB) (y : Pl) (W : World) : Prop where
 B : Below w.heap.size w W
 T : W.heap[w.heap.size]? = some (.cells (tkC q) 46 (0, 0))
 Y : W.heap[w.heap.size + 1]? = some (.cells #[.int .i64 y.r, .int .i64 y.code, .int .i64 y.addr] 40 (0, 0))
 R : RunAt r p now next tV pV lV eV W
theorem CoK.keep {w : World} {r : Nat} {p : Par} {now next : Int} {tV pV lV eV : Value} {q : TB} {y : Pl} {W W' : World} (h : CoK w r p now next tV pV lV eV q y W) (hb : Below W.heap.size W W') : CoK w r p now next tV pV lV eV q y W' :=
 ⟨h.B.trans (hb.mono h.B.size), keepO hb h.T, keepO hb h.Y, h.R.below hb⟩
theorem CoK.new {w : World} {r : Nat} {p : Par} {now next : Int} {tV pV lV eV : Value} (q : TB) (y : Pl) (h : RunAt r p now next tV pV lV eV w) : CoK w r p now next tV pV lV eV q y ((w.alloc (.cells (tkC q) 46)).alloc (.cells #[.int .i64 y.r, .int .i64 y.code, .int .i64 y.addr] 40)) :=
 ⟨(below_alloc w _).alloc (by simp) _, block_alloc (block_new w _ rfl), block_new _ _ (by simp), (h.below (below_alloc _ _)).below (below_alloc _ _)⟩
theorem pl_cells {w : World} {b : Nat} {T : TypeId} {x y z : Value} {fr : Nat × Nat} (h : w.heap[b]? = some (.cells #[x, y, z] T fr)) : w.cell? ⟨b, 0, none⟩ = some x ∧ w.cell? ⟨b, 1, none⟩ = some y ∧ w.cell? ⟨b, 2, none⟩ = some z :=
 ⟨cell_of_block h rfl, cell_of_block h rfl, cell_of_block h rfl⟩
theorem cost_call (r g n c : Nat) (p : Par) (now next : Int) (tV eV : Value) (pa : Option Addr) (pn pc : Nat) (P : List Pl) (LV : List Lv) (t : Tk) (s : Bs) (k : Nat) (w : World) (hR : RunAt r p now next tV (.slice pa pn pc) (.slice (some ⟨g, 0, none⟩) n c) eV w) (hPl : Pls w pa pn P) (hL : LvAt g LV w) (hn : LV.length = n) (hk : k < n) (hkp : k < pn) (hl : LvOk (gl LV k)) (hT : TkOk p t) (hPar : ParOk p) (hy : ¬ plBad (gp P k)) (hI : BdI w (t, s)) :
    Calls Try.prog 58 #[.pointer (some ⟨r, 0, none⟩), tkV (t, s), .int .i64 (k : Int)] w (NPost (costV p t (gp P k) (gl LV k)) w) := by
 obtain ⟨b, off, rfl, q0, q1, q2⟩ := pls_at hPl hkp
 have gq := World.block_lt_of_cell? _ _ q0
 obtain ⟨⟨A, S⟩, hA⟩ : ∃ l, gl LV k = l := ⟨_, rfl⟩
 obtain ⟨⟨yr, yc, ya⟩, hY⟩ : ∃ y, gp P k = y := ⟨_, rfl⟩
 rw [hY] at q0 q1 q2 hy ⊢
 have HA := qh hA
 have HPb := qh hPl.bound
 simp only [] at q0 q1 q2
 have hyr : 0 ≤ yr ∧ yr ≤ 8192 := Decidable.not_not.1 (fun e => hy (Or.inl e))
 have HX := qh (And.intro hL (And.intro hn (And.intro hk (And.intro hl (And.intro hT (And.intro hPar hI))))))
 have hmis := hT.mis
 have hgate := hPar.1
 have hmost := hPar.2.2.1
 have K := qh (CoK.new (t, s) ⟨yr, yc, ya⟩ hR)
 obtain ⟨-, -, -, -, -, -, -, r7, -, -⟩ := hR.cells
 have rl := hR.lt
 have hk0 : (0 : Int) ≤ (k : Int) := by omega
 have hk1 : (k : Int) < (pn : Int) := by omega
 obtain ⟨pv, hpv⟩ : ∃ v, prV t.rg (t.misses + 1) = v := ⟨_, rfl⟩
 have hpb := prV_bd t.rg (t.misses + 1)
 rw [hpv] at hpb
 obtain ⟨D, hD⟩ : ∃ D, 256 * yr - pv = D := ⟨_, rfl⟩
 obtain ⟨V, hV⟩ : ∃ V, max D (-D) = V := ⟨_, rfl⟩
 have hVb : 0 ≤ V ∧ V ≤ 2097152 := by omega
 have HV := qh (show offV t ⟨yr, yc, ya⟩ = V from by unfold offV; rw [hpv]; dsimp only; rw [hD, hV])
 have w1' : IntKind.i64.wrap (t.misses + 1) = t.misses + 1 := IntWalk.i64_in _ (by omega)
 have w2' : IntKind.i64.wrap (256 * yr) = 256 * yr := IntWalk.i64_in _ (by omega)
 have w3' : IntKind.i64.wrap (256 * yr - pv) = D := by rw [hD]; exact IntWalk.i64_in _ (by omega)
 have w4' : IntKind.i64.wrap (-D) = -D := IntWalk.i64_in _ (by omega)
 have w5' : IntKind.i64.wrap (256 * p.gate) = 256 * p.gate := IntWalk.i64_in _ (by omega)
 have w6' : IntKind.i64.wrap (V + 65536) = V + 65536 := IntWalk.i64_in _ (by omega)
 have HPV := qh hpv
 obtain ⟨id, addr, rg, lo, hi, hits, misses, firm⟩ := t
 obtain ⟨aL, nL, cL, aH, nH, cH⟩ := s
 have hVc : (D < -D → V = -D) ∧ (¬ D < -D → V = D) := by omega
 clear hA hY hPl hn hl hT hPar hy hI hL hR hpv hD hV hmis hmost hpb hyr
 unfold tkV tkC
 unfold tkC at K
 simp only [] at K HPV HV w1' ⊢
 by_cases hs : D < -D
 ·obtain rfl := hVc.1 hs
  clear hVc
  by_cases ha : 0 ≤ addr
  ·by_cases hya : 0 ≤ ya
   ·have HBo := qh (show bothB ⟨id, addr, rg, lo, hi, hits, misses, firm⟩ ⟨yr, yc, ya⟩ from ⟨ha, hya⟩)
    by_cases hf : 256 * p.gate < -D
    ·have HC := qh (show costV p ⟨id, addr, rg, lo, hi, hits, misses, firm⟩ ⟨yr, yc, ya⟩ (gl LV k) = -1 from costV_far (Or.inl (by rw [HV.out]; exact hf)))
     go_enter Try.func58, Try.ntmps58
     go_wp2_with fail
     refine (pPredict_call rg (misses + 1) _).mono ?_; rintro e w1 ⟨rfl, hb⟩
     rw [HPV.out]
     replace K := qh (K.out.keep hb)
     clear hb r7 rl q0 q1 q2 gq
     obtain ⟨z0, z1, z2, z3, z4, z5, z6, z7, z8, z9⟩ := TkAt.block' (q := (⟨id, addr, rg, lo, hi, hits, misses, firm⟩, ⟨aL, nL, cL, aH, nH, cH⟩)) K.out.T
     simp only [] at z0 z1 z2 z3 z4 z5 z6 z7 z8 z9
     obtain ⟨y0, y1, y2⟩ := pl_cells K.out.Y
     simp only [] at y0 y1 y2
     have zl := lt_of_block K.out.T
     have yl := lt_of_block K.out.Y
     obtain ⟨r0, r1, r2, r3, r4, r5, r6, r7, r8, r9⟩ := K.out.R.cells
     have rl := K.out.R.lt
     go_wp2_with fail
     go_ret
     exact nPost_of HC.out.symm K.out.B
    by_cases hne : addr = ya
    ·subst hne
     have HF := qh (show ¬ farB p ⟨id, addr, rg, lo, hi, hits, misses, firm⟩ ⟨yr, yc, addr⟩ from fun e => by
      rcases e with e | e
      ·rw [HV.out] at e; exact hf e
      exact e.2 rfl)
     go_enter Try.func58, Try.ntmps58
     go_wp2_with fail
     refine (pPredict_call rg (misses + 1) _).mono ?_; rintro e w1 ⟨rfl, hb⟩
     rw [HPV.out]
     replace K := qh (K.out.keep hb)
     clear hb r7 rl q0 q1 q2 gq
     obtain ⟨z0, z1, z2, z3, z4, z5, z6, z7, z8, z9⟩ := TkAt.block' (q := (⟨id, addr, rg, lo, hi, hits, misses, firm⟩, ⟨aL, nL, cL, aH, nH, cH⟩)) K.out.T
     simp only [] at z0 z1 z2 z3 z4 z5 z6 z7 z8 z9
     obtain ⟨y0, y1, y2⟩ := pl_cells K.out.Y
     simp only [] at y0 y1 y2
     have zl := lt_of_block K.out.T
     have yl := lt_of_block K.out.Y
     obtain ⟨r0, r1, r2, r3, r4, r5, r6, r7, r8, r9⟩ := K.out.R.cells
     have rl := K.out.R.lt
     go_wp2_with fail
     cases he : emptyB (meaL lo hi (gl LV k)) (meaH lo hi (gl LV k)) with
     | true =>
      have HEM := qh he
      have HC := qh (costV_none (l := gl LV k) HF.out he)
      clear he
      refine (measure_call r g n c p now next _ _ _ LV ⟨id, addr, rg, lo, hi, hits, misses, firm⟩ ⟨aL, nL, cL, aH, nH, cH⟩ k _ K.out.R (HX.out.1.below K.out.B) HX.out.2.1 HX.out.2.2.1 HX.out.2.2.2.1 HX.out.2.2.2.2.1.ch (HX.out.2.2.2.2.2.2.below K.out.B)).mono ?_; rintro e w2 ⟨⟨a1, n1, c1, a2, n2, c2⟩, rfl, hb, -⟩
      replace K := qh (K.out.keep hb)
      clear hb
      rw [HEM.out]
      unfold bdV'
      simp only []
      have HC2 := qh (K.out.keep (below_alloc _ (.cells #[.slice a1 n1 c1, .slice a2 n2 c2] 44)))
      go_wp2_with fail
      go_ret
      exact nPost_of HC.out.symm HC2.out.B
     | false =>
      have HEM := qh he
      have HC := qh (costV_both (l := gl LV k) HF.out he HBo.out)
      clear he
      refine (measure_call r g n c p now next _ _ _ LV ⟨id, addr, rg, lo, hi, hits, misses, firm⟩ ⟨aL, nL, cL, aH, nH, cH⟩ k _ K.out.R (HX.out.1.below K.out.B) HX.out.2.1 HX.out.2.2.1 HX.out.2.2.2.1 HX.out.2.2.2.2.1.ch (HX.out.2.2.2.2.2.2.below K.out.B)).mono ?_; rintro e w2 ⟨⟨a1, n1, c1, a2, n2, c2⟩, rfl, hb, -⟩
      replace K := qh (K.out.keep hb)
      clear hb
      rw [HEM.out]
      unfold bdV'
      simp only []
      have HC2 := qh (K.out.keep (below_alloc _ (.cells #[.slice a1 n1 c1, .slice a2 n2 c2] 44)))
      go_wp2_with fail
      go_ret
      exact nPost_of (by rw [HC.out, HV.out]) HC2.out.B
    have hnb : (addr != ya) = true := bne_iff_ne.2 hne
    have HC := qh (show costV p ⟨id, addr, rg, lo, hi, hits, misses, firm⟩ ⟨yr, yc, ya⟩ (gl LV k) = -1 from costV_far (Or.inr ⟨HBo.out, hne⟩))
    go_enter Try.func58, Try.ntmps58
    go_wp2_with fail
    refine (pPredict_call rg (misses + 1) _).mono ?_; rintro e w1 ⟨rfl, hb⟩
    rw [HPV.out]
    replace K := qh (K.out.keep hb)
    clear hb r7 rl q0 q1 q2 gq
    obtain ⟨z0, z1, z2, z3, z4, z5, z6, z7, z8, z9⟩ := TkAt.block' (q := (⟨id, addr, rg, lo, hi, hits, misses, firm⟩, ⟨aL, nL, cL, aH, nH, cH⟩)) K.out.T
    simp only [] at z0 z1 z2 z3 z4 z5 z6 z7 z8 z9
    obtain ⟨y0, y1, y2⟩ := pl_cells K.out.Y
    simp only [] at y0 y1 y2
    have zl := lt_of_block K.out.T
    have yl := lt_of_block K.out.Y
    obtain ⟨r0, r1, r2, r3, r4, r5, r6, r7, r8, r9⟩ := K.out.R.cells
    have rl := K.out.R.lt
    go_wp2_with fail
    go_ret
    exact nPost_of HC.out.symm K.out.B
   have HBo := qh (show ¬ bothB ⟨id, addr, rg, lo, hi, hits, misses, firm⟩ ⟨yr, yc, ya⟩ from fun e => hya e.2)
   by_cases hf : 256 * p.gate < -D
   ·have HC := qh (show costV p ⟨id, addr, rg, lo, hi, hits, misses, firm⟩ ⟨yr, yc, ya⟩ (gl LV k) = -1 from costV_far (Or.inl (by rw [HV.out]; exact hf)))
    go_enter Try.func58, Try.ntmps58
    go_wp2_with fail
    refine (pPredict_call rg (misses + 1) _).mono ?_; rintro e w1 ⟨rfl, hb⟩
    rw [HPV.out]
    replace K := qh (K.out.keep hb)
    clear hb r7 rl q0 q1 q2 gq
    obtain ⟨z0, z1, z2, z3, z4, z5, z6, z7, z8, z9⟩ := TkAt.block' (q := (⟨id, addr, rg, lo, hi, hits, misses, firm⟩, ⟨aL, nL, cL, aH, nH, cH⟩)) K.out.T
    simp only [] at z0 z1 z2 z3 z4 z5 z6 z7 z8 z9
    obtain ⟨y0, y1, y2⟩ := pl_cells K.out.Y
    simp only [] at y0 y1 y2
    have zl := lt_of_block K.out.T
    have yl := lt_of_block K.out.Y
    obtain ⟨r0, r1, r2, r3, r4, r5, r6, r7, r8, r9⟩ := K.out.R.cells
    have rl := K.out.R.lt
    go_wp2_with fail
    go_ret
    exact nPost_of HC.out.symm K.out.B
   have HF := qh (show ¬ farB p ⟨id, addr, rg, lo, hi, hits, misses, firm⟩ ⟨yr, yc, ya⟩ from fun e => by
    rcases e with e | e
    ·rw [HV.out] at e; exact hf e
    exact HBo.out e.1)
   go_enter Try.func58, Try.ntmps58
   go_wp2_with fail
   refine (pPredict_call rg (misses + 1) _).mono ?_; rintro e w1 ⟨rfl, hb⟩
   rw [HPV.out]
   replace K := qh (K.out.keep hb)
   clear hb r7 rl q0 q1 q2 gq
   obtain ⟨z0, z1, z2, z3, z4, z5, z6, z7, z8, z9⟩ := TkAt.block' (q := (⟨id, addr, rg, lo, hi, hits, misses, firm⟩, ⟨aL, nL, cL, aH, nH, cH⟩)) K.out.T
   simp only [] at z0 z1 z2 z3 z4 z5 z6 z7 z8 z9
   obtain ⟨y0, y1, y2⟩ := pl_cells K.out.Y
   simp only [] at y0 y1 y2
   have zl := lt_of_block K.out.T
   have yl := lt_of_block K.out.Y
   obtain ⟨r0, r1, r2, r3, r4, r5, r6, r7, r8, r9⟩ := K.out.R.cells
   have rl := K.out.R.lt
   go_wp2_with fail
   cases he : emptyB (meaL lo hi (gl LV k)) (meaH lo hi (gl LV k)) with
   | true =>
    have HEM := qh he
    have HC := qh (costV_none (l := gl LV k) HF.out he)
    clear he
    refine (measure_call r g n c p now next _ _ _ LV ⟨id, addr, rg, lo, hi, hits, misses, firm⟩ ⟨aL, nL, cL, aH, nH, cH⟩ k _ K.out.R (HX.out.1.below K.out.B) HX.out.2.1 HX.out.2.2.1 HX.out.2.2.2.1 HX.out.2.2.2.2.1.ch (HX.out.2.2.2.2.2.2.below K.out.B)).mono ?_; rintro e w2 ⟨⟨a1, n1, c1, a2, n2, c2⟩, rfl, hb, -⟩
    replace K := qh (K.out.keep hb)
    clear hb
    rw [HEM.out]
    unfold bdV'
    simp only []
    have HC2 := qh (K.out.keep (below_alloc _ (.cells #[.slice a1 n1 c1, .slice a2 n2 c2] 44)))
    go_wp2_with fail
    go_ret
    exact nPost_of HC.out.symm HC2.out.B
   | false =>
    have HEM := qh he
    have HC := qh (costV_one (l := gl LV k) HF.out he HBo.out)
    clear he
    refine (measure_call r g n c p now next _ _ _ LV ⟨id, addr, rg, lo, hi, hits, misses, firm⟩ ⟨aL, nL, cL, aH, nH, cH⟩ k _ K.out.R (HX.out.1.below K.out.B) HX.out.2.1 HX.out.2.2.1 HX.out.2.2.2.1 HX.out.2.2.2.2.1.ch (HX.out.2.2.2.2.2.2.below K.out.B)).mono ?_; rintro e w2 ⟨⟨a1, n1, c1, a2, n2, c2⟩, rfl, hb, -⟩
    replace K := qh (K.out.keep hb)
    clear hb
    rw [HEM.out]
    unfold bdV'
    simp only []
    have HC2 := qh (K.out.keep (below_alloc _ (.cells #[.slice a1 n1 c1, .slice a2 n2 c2] 44)))
    go_wp2_with fail
    go_ret
    exact nPost_of (by rw [HC.out, HV.out]) HC2.out.B
  have HBo := qh (show ¬ bothB ⟨id, addr, rg, lo, hi, hits, misses, firm⟩ ⟨yr, yc, ya⟩ from fun e => ha e.1)
  by_cases hf : 256 * p.gate < -D
  ·have HC := qh (show costV p ⟨id, addr, rg, lo, hi, hits, misses, firm⟩ ⟨yr, yc, ya⟩ (gl LV k) = -1 from costV_far (Or.inl (by rw [HV.out]; exact hf)))
   go_enter Try.func58, Try.ntmps58
   go_wp2_with fail
   refine (pPredict_call rg (misses + 1) _).mono ?_; rintro e w1 ⟨rfl, hb⟩
   rw [HPV.out]
   replace K := qh (K.out.keep hb)
   clear hb r7 rl q0 q1 q2 gq
   obtain ⟨z0, z1, z2, z3, z4, z5, z6, z7, z8, z9⟩ := TkAt.block' (q := (⟨id, addr, rg, lo, hi, hits, misses, firm⟩, ⟨aL, nL, cL, aH, nH, cH⟩)) K.out.T
   simp only [] at z0 z1 z2 z3 z4 z5 z6 z7 z8 z9
   obtain ⟨y0, y1, y2⟩ := pl_cells K.out.Y
   simp only [] at y0 y1 y2
   have zl := lt_of_block K.out.T
   have yl := lt_of_block K.out.Y
   obtain ⟨r0, r1, r2, r3, r4, r5, r6, r7, r8, r9⟩ := K.out.R.cells
   have rl := K.out.R.lt
   go_wp2_with fail
   go_ret
   exact nPost_of HC.out.symm K.out.B
  have HF := qh (show ¬ farB p ⟨id, addr, rg, lo, hi, hits, misses, firm⟩ ⟨yr, yc, ya⟩ from fun e => by
   rcases e with e | e
   ·rw [HV.out] at e; exact hf e
   exact HBo.out e.1)
  go_enter Try.func58, Try.ntmps58
  go_wp2_with fail
  refine (pPredict_call rg (misses + 1) _).mono ?_; rintro e w1 ⟨rfl, hb⟩
  rw [HPV.out]
  replace K := qh (K.out.keep hb)
  clear hb r7 rl q0 q1 q2 gq
  obtain ⟨z0, z1, z2, z3, z4, z5, z6, z7, z8, z9⟩ := TkAt.block' (q := (⟨id, addr, rg, lo, hi, hits, misses, firm⟩, ⟨aL, nL, cL, aH, nH, cH⟩)) K.out.T
  simp only [] at z0 z1 z2 z3 z4 z5 z6 z7 z8 z9
  obtain ⟨y0, y1, y2⟩ := pl_cells K.out.Y
  simp only [] at y0 y1 y2
  have zl := lt_of_block K.out.T
  have yl := lt_of_block K.out.Y
  obtain ⟨r0, r1, r2, r3, r4, r5, r6, r7, r8, r9⟩ := K.out.R.cells
  have rl := K.out.R.lt
  go_wp2_with fail
  cases he : emptyB (meaL lo hi (gl LV k)) (meaH lo hi (gl LV k)) with
  | true =>
   have HEM := qh he
   have HC := qh (costV_none (l := gl LV k) HF.out he)
   clear he
   refine (measure_call r g n c p now next _ _ _ LV ⟨id, addr, rg, lo, hi, hits, misses, firm⟩ ⟨aL, nL, cL, aH, nH, cH⟩ k _ K.out.R (HX.out.1.below K.out.B) HX.out.2.1 HX.out.2.2.1 HX.out.2.2.2.1 HX.out.2.2.2.2.1.ch (HX.out.2.2.2.2.2.2.below K.out.B)).mono ?_; rintro e w2 ⟨⟨a1, n1, c1, a2, n2, c2⟩, rfl, hb, -⟩
   replace K := qh (K.out.keep hb)
   clear hb
   rw [HEM.out]
   unfold bdV'
   simp only []
   have HC2 := qh (K.out.keep (below_alloc _ (.cells #[.slice a1 n1 c1, .slice a2 n2 c2] 44)))
   go_wp2_with fail
   go_ret
   exact nPost_of HC.out.symm HC2.out.B
  | false =>
   have HEM := qh he
   have HC := qh (costV_one (l := gl LV k) HF.out he HBo.out)
   clear he
   refine (measure_call r g n c p now next _ _ _ LV ⟨id, addr, rg, lo, hi, hits, misses, firm⟩ ⟨aL, nL, cL, aH, nH, cH⟩ k _ K.out.R (HX.out.1.below K.out.B) HX.out.2.1 HX.out.2.2.1 HX.out.2.2.2.1 HX.out.2.2.2.2.1.ch (HX.out.2.2.2.2.2.2.below K.out.B)).mono ?_; rintro e w2 ⟨⟨a1, n1, c1, a2, n2, c2⟩, rfl, hb, -⟩
   replace K := qh (K.out.keep hb)
   clear hb
   rw [HEM.out]
   unfold bdV'
   simp only []
   have HC2 := qh (K.out.keep (below_alloc _ (.cells #[.slice a1 n1 c1, .slice a2 n2 c2] 44)))
   go_wp2_with fail
   go_ret
   exact nPost_of (by rw [HC.out, HV.out]) HC2.out.B
 obtain rfl := hVc.2 hs
 clear hVc
 by_cases ha : 0 ≤ addr
 ·by_cases hya : 0 ≤ ya
  ·have HBo := qh (show bothB ⟨id, addr, rg, lo, hi, hits, misses, firm⟩ ⟨yr, yc, ya⟩ from ⟨ha, hya⟩)
   by_cases hf : 256 * p.gate < V
   ·have HC := qh (show costV p ⟨id, addr, rg, lo, hi, hits, misses, firm⟩ ⟨yr, yc, ya⟩ (gl LV k) = -1 from costV_far (Or.inl (by rw [HV.out]; exact hf)))
    go_enter Try.func58, Try.ntmps58
    go_wp2_with fail
    refine (pPredict_call rg (misses + 1) _).mono ?_; rintro e w1 ⟨rfl, hb⟩
    rw [HPV.out]
    replace K := qh (K.out.keep hb)
    clear hb r7 rl q0 q1 q2 gq
    obtain ⟨z0, z1, z2, z3, z4, z5, z6, z7, z8, z9⟩ := TkAt.block' (q := (⟨id, addr, rg, lo, hi, hits, misses, firm⟩, ⟨aL, nL, cL, aH, nH, cH⟩)) K.out.T
    simp only [] at z0 z1 z2 z3 z4 z5 z6 z7 z8 z9
    obtain ⟨y0, y1, y2⟩ := pl_cells K.out.Y
    simp only [] at y0 y1 y2
    have zl := lt_of_block K.out.T
    have yl := lt_of_block K.out.Y
    obtain ⟨r0, r1, r2, r3, r4, r5, r6, r7, r8, r9⟩ := K.out.R.cells
    have rl := K.out.R.lt
    go_wp2_with fail
    go_ret
    exact nPost_of HC.out.symm K.out.B
   by_cases hne : addr = ya
   ·subst hne
    have HF := qh (show ¬ farB p ⟨id, addr, rg, lo, hi, hits, misses, firm⟩ ⟨yr, yc, addr⟩ from fun e => by
     rcases e with e | e
     ·rw [HV.out] at e; exact hf e
     exact e.2 rfl)
    go_enter Try.func58, Try.ntmps58
    go_wp2_with fail
    refine (pPredict_call rg (misses + 1) _).mono ?_; rintro e w1 ⟨rfl, hb⟩
    rw [HPV.out]
    replace K := qh (K.out.keep hb)
    clear hb r7 rl q0 q1 q2 gq
    obtain ⟨z0, z1, z2, z3, z4, z5, z6, z7, z8, z9⟩ := TkAt.block' (q := (⟨id, addr, rg, lo, hi, hits, misses, firm⟩, ⟨aL, nL, cL, aH, nH, cH⟩)) K.out.T
    simp only [] at z0 z1 z2 z3 z4 z5 z6 z7 z8 z9
    obtain ⟨y0, y1, y2⟩ := pl_cells K.out.Y
    simp only [] at y0 y1 y2
    have zl := lt_of_block K.out.T
    have yl := lt_of_block K.out.Y
    obtain ⟨r0, r1, r2, r3, r4, r5, r6, r7, r8, r9⟩ := K.out.R.cells
    have rl := K.out.R.lt
    go_wp2_with fail
    cases he : emptyB (meaL lo hi (gl LV k)) (meaH lo hi (gl LV k)) with
    | true =>
     have HEM := qh he
     have HC := qh (costV_none (l := gl LV k) HF.out he)
     clear he
     refine (measure_call r g n c p now next _ _ _ LV ⟨id, addr, rg, lo, hi, hits, misses, firm⟩ ⟨aL, nL, cL, aH, nH, cH⟩ k _ K.out.R (HX.out.1.below K.out.B) HX.out.2.1 HX.out.2.2.1 HX.out.2.2.2.1 HX.out.2.2.2.2.1.ch (HX.out.2.2.2.2.2.2.below K.out.B)).mono ?_; rintro e w2 ⟨⟨a1, n1, c1, a2, n2, c2⟩, rfl, hb, -⟩
     replace K := qh (K.out.keep hb)
     clear hb
     rw [HEM.out]
     unfold bdV'
     simp only []
     have HC2 := qh (K.out.keep (below_alloc _ (.cells #[.slice a1 n1 c1, .slice a2 n2 c2] 44)))
     go_wp2_with fail
     go_ret
     exact nPost_of HC.out.symm HC2.out.B
    | false =>
     have HEM := qh he
     have HC := qh (costV_both (l := gl LV k) HF.out he HBo.out)
     clear he
     refine (measure_call r g n c p now next _ _ _ LV ⟨id, addr, rg, lo, hi, hits, misses, firm⟩ ⟨aL, nL, cL, aH, nH, cH⟩ k _ K.out.R (HX.out.1.below K.out.B) HX.out.2.1 HX.out.2.2.1 HX.out.2.2.2.1 HX.out.2.2.2.2.1.ch (HX.out.2.2.2.2.2.2.below K.out.B)).mono ?_; rintro e w2 ⟨⟨a1, n1, c1, a2, n2, c2⟩, rfl, hb, -⟩
     replace K := qh (K.out.keep hb)
     clear hb
     rw [HEM.out]
     unfold bdV'
     simp only []
     have HC2 := qh (K.out.keep (below_alloc _ (.cells #[.slice a1 n1 c1, .slice a2 n2 c2] 44)))
     go_wp2_with fail
     go_ret
     exact nPost_of (by rw [HC.out, HV.out]) HC2.out.B
   have hnb : (addr != ya) = true := bne_iff_ne.2 hne
   have HC := qh (show costV p ⟨id, addr, rg, lo, hi, hits, misses, firm⟩ ⟨yr, yc, ya⟩ (gl LV k) = -1 from costV_far (Or.inr ⟨HBo.out, hne⟩))
   go_enter Try.func58, Try.ntmps58
   go_wp2_with fail
   refine (pPredict_call rg (misses + 1) _).mono ?_; rintro e w1 ⟨rfl, hb⟩
   rw [HPV.out]
   replace K := qh (K.out.keep hb)
   clear hb r7 rl q0 q1 q2 gq
   obtain ⟨z0, z1, z2, z3, z4, z5, z6, z7, z8, z9⟩ := TkAt.block' (q := (⟨id, addr, rg, lo, hi, hits, misses, firm⟩, ⟨aL, nL, cL, aH, nH, cH⟩)) K.out.T
   simp only [] at z0 z1 z2 z3 z4 z5 z6 z7 z8 z9
   obtain ⟨y0, y1, y2⟩ := pl_cells K.out.Y
   simp only [] at y0 y1 y2
   have zl := lt_of_block K.out.T
   have yl := lt_of_block K.out.Y
   obtain ⟨r0, r1, r2, r3, r4, r5, r6, r7, r8, r9⟩ := K.out.R.cells
   have rl := K.out.R.lt
   go_wp2_with fail
   go_ret
   exact nPost_of HC.out.symm K.out.B
  have HBo := qh (show ¬ bothB ⟨id, addr, rg, lo, hi, hits, misses, firm⟩ ⟨yr, yc, ya⟩ from fun e => hya e.2)
  by_cases hf : 256 * p.gate < V
  ·have HC := qh (show costV p ⟨id, addr, rg, lo, hi, hits, misses, firm⟩ ⟨yr, yc, ya⟩ (gl LV k) = -1 from costV_far (Or.inl (by rw [HV.out]; exact hf)))
   go_enter Try.func58, Try.ntmps58
   go_wp2_with fail
   refine (pPredict_call rg (misses + 1) _).mono ?_; rintro e w1 ⟨rfl, hb⟩
   rw [HPV.out]
   replace K := qh (K.out.keep hb)
   clear hb r7 rl q0 q1 q2 gq
   obtain ⟨z0, z1, z2, z3, z4, z5, z6, z7, z8, z9⟩ := TkAt.block' (q := (⟨id, addr, rg, lo, hi, hits, misses, firm⟩, ⟨aL, nL, cL, aH, nH, cH⟩)) K.out.T
   simp only [] at z0 z1 z2 z3 z4 z5 z6 z7 z8 z9
   obtain ⟨y0, y1, y2⟩ := pl_cells K.out.Y
   simp only [] at y0 y1 y2
   have zl := lt_of_block K.out.T
   have yl := lt_of_block K.out.Y
   obtain ⟨r0, r1, r2, r3, r4, r5, r6, r7, r8, r9⟩ := K.out.R.cells
   have rl := K.out.R.lt
   go_wp2_with fail
   go_ret
   exact nPost_of HC.out.symm K.out.B
  have HF := qh (show ¬ farB p ⟨id, addr, rg, lo, hi, hits, misses, firm⟩ ⟨yr, yc, ya⟩ from fun e => by
   rcases e with e | e
   ·rw [HV.out] at e; exact hf e
   exact HBo.out e.1)
  go_enter Try.func58, Try.ntmps58
  go_wp2_with fail
  refine (pPredict_call rg (misses + 1) _).mono ?_; rintro e w1 ⟨rfl, hb⟩
  rw [HPV.out]
  replace K := qh (K.out.keep hb)
  clear hb r7 rl q0 q1 q2 gq
  obtain ⟨z0, z1, z2, z3, z4, z5, z6, z7, z8, z9⟩ := TkAt.block' (q := (⟨id, addr, rg, lo, hi, hits, misses, firm⟩, ⟨aL, nL, cL, aH, nH, cH⟩)) K.out.T
  simp only [] at z0 z1 z2 z3 z4 z5 z6 z7 z8 z9
  obtain ⟨y0, y1, y2⟩ := pl_cells K.out.Y
  simp only [] at y0 y1 y2
  have zl := lt_of_block K.out.T
  have yl := lt_of_block K.out.Y
  obtain ⟨r0, r1, r2, r3, r4, r5, r6, r7, r8, r9⟩ := K.out.R.cells
  have rl := K.out.R.lt
  go_wp2_with fail
  cases he : emptyB (meaL lo hi (gl LV k)) (meaH lo hi (gl LV k)) with
  | true =>
   have HEM := qh he
   have HC := qh (costV_none (l := gl LV k) HF.out he)
   clear he
   refine (measure_call r g n c p now next _ _ _ LV ⟨id, addr, rg, lo, hi, hits, misses, firm⟩ ⟨aL, nL, cL, aH, nH, cH⟩ k _ K.out.R (HX.out.1.below K.out.B) HX.out.2.1 HX.out.2.2.1 HX.out.2.2.2.1 HX.out.2.2.2.2.1.ch (HX.out.2.2.2.2.2.2.below K.out.B)).mono ?_; rintro e w2 ⟨⟨a1, n1, c1, a2, n2, c2⟩, rfl, hb, -⟩
   replace K := qh (K.out.keep hb)
   clear hb
   rw [HEM.out]
   unfold bdV'
   simp only []
   have HC2 := qh (K.out.keep (below_alloc _ (.cells #[.slice a1 n1 c1, .slice a2 n2 c2] 44)))
   go_wp2_with fail
   go_ret
   exact nPost_of HC.out.symm HC2.out.B
  | false =>
   have HEM := qh he
   have HC := qh (costV_one (l := gl LV k) HF.out he HBo.out)
   clear he
   refine (measure_call r g n c p now next _ _ _ LV ⟨id, addr, rg, lo, hi, hits, misses, firm⟩ ⟨aL, nL, cL, aH, nH, cH⟩ k _ K.out.R (HX.out.1.below K.out.B) HX.out.2.1 HX.out.2.2.1 HX.out.2.2.2.1 HX.out.2.2.2.2.1.ch (HX.out.2.2.2.2.2.2.below K.out.B)).mono ?_; rintro e w2 ⟨⟨a1, n1, c1, a2, n2, c2⟩, rfl, hb, -⟩
   replace K := qh (K.out.keep hb)
   clear hb
   rw [HEM.out]
   unfold bdV'
   simp only []
   have HC2 := qh (K.out.keep (below_alloc _ (.cells #[.slice a1 n1 c1, .slice a2 n2 c2] 44)))
   go_wp2_with fail
   go_ret
   exact nPost_of (by rw [HC.out, HV.out]) HC2.out.B
 have HBo := qh (show ¬ bothB ⟨id, addr, rg, lo, hi, hits, misses, firm⟩ ⟨yr, yc, ya⟩ from fun e => ha e.1)
 by_cases hf : 256 * p.gate < V
 ·have HC := qh (show costV p ⟨id, addr, rg, lo, hi, hits, misses, firm⟩ ⟨yr, yc, ya⟩ (gl LV k) = -1 from costV_far (Or.inl (by rw [HV.out]; exact hf)))
  go_enter Try.func58, Try.ntmps58
  go_wp2_with fail
  refine (pPredict_call rg (misses + 1) _).mono ?_; rintro e w1 ⟨rfl, hb⟩
  rw [HPV.out]
  replace K := qh (K.out.keep hb)
  clear hb r7 rl q0 q1 q2 gq
  obtain ⟨z0, z1, z2, z3, z4, z5, z6, z7, z8, z9⟩ := TkAt.block' (q := (⟨id, addr, rg, lo, hi, hits, misses, firm⟩, ⟨aL, nL, cL, aH, nH, cH⟩)) K.out.T
  simp only [] at z0 z1 z2 z3 z4 z5 z6 z7 z8 z9
  obtain ⟨y0, y1, y2⟩ := pl_cells K.out.Y
  simp only [] at y0 y1 y2
  have zl := lt_of_block K.out.T
  have yl := lt_of_block K.out.Y
  obtain ⟨r0, r1, r2, r3, r4, r5, r6, r7, r8, r9⟩ := K.out.R.cells
  have rl := K.out.R.lt
  go_wp2_with fail
  go_ret
  exact nPost_of HC.out.symm K.out.B
 have HF := qh (show ¬ farB p ⟨id, addr, rg, lo, hi, hits, misses, firm⟩ ⟨yr, yc, ya⟩ from fun e => by
  rcases e with e | e
  ·rw [HV.out] at e; exact hf e
  exact HBo.out e.1)
 go_enter Try.func58, Try.ntmps58
 go_wp2_with fail
 refine (pPredict_call rg (misses + 1) _).mono ?_; rintro e w1 ⟨rfl, hb⟩
 rw [HPV.out]
 replace K := qh (K.out.keep hb)
 clear hb r7 rl q0 q1 q2 gq
 obtain ⟨z0, z1, z2, z3, z4, z5, z6, z7, z8, z9⟩ := TkAt.block' (q := (⟨id, addr, rg, lo, hi, hits, misses, firm⟩, ⟨aL, nL, cL, aH, nH, cH⟩)) K.out.T
 simp only [] at z0 z1 z2 z3 z4 z5 z6 z7 z8 z9
 obtain ⟨y0, y1, y2⟩ := pl_cells K.out.Y
 simp only [] at y0 y1 y2
 have zl := lt_of_block K.out.T
 have yl := lt_of_block K.out.Y
 obtain ⟨r0, r1, r2, r3, r4, r5, r6, r7, r8, r9⟩ := K.out.R.cells
 have rl := K.out.R.lt
 go_wp2_with fail
 cases he : emptyB (meaL lo hi (gl LV k)) (meaH lo hi (gl LV k)) with
 | true =>
  have HEM := qh he
  have HC := qh (costV_none (l := gl LV k) HF.out he)
  clear he
  refine (measure_call r g n c p now next _ _ _ LV ⟨id, addr, rg, lo, hi, hits, misses, firm⟩ ⟨aL, nL, cL, aH, nH, cH⟩ k _ K.out.R (HX.out.1.below K.out.B) HX.out.2.1 HX.out.2.2.1 HX.out.2.2.2.1 HX.out.2.2.2.2.1.ch (HX.out.2.2.2.2.2.2.below K.out.B)).mono ?_; rintro e w2 ⟨⟨a1, n1, c1, a2, n2, c2⟩, rfl, hb, -⟩
  replace K := qh (K.out.keep hb)
  clear hb
  rw [HEM.out]
  unfold bdV'
  simp only []
  have HC2 := qh (K.out.keep (below_alloc _ (.cells #[.slice a1 n1 c1, .slice a2 n2 c2] 44)))
  go_wp2_with fail
  go_ret
  exact nPost_of HC.out.symm HC2.out.B
 | false =>
  have HEM := qh he
  have HC := qh (costV_one (l := gl LV k) HF.out he HBo.out)
  clear he
  refine (measure_call r g n c p now next _ _ _ LV ⟨id, addr, rg, lo, hi, hits, misses, firm⟩ ⟨aL, nL, cL, aH, nH, cH⟩ k _ K.out.R (HX.out.1.below K.out.B) HX.out.2.1 HX.out.2.2.1 HX.out.2.2.2.1 HX.out.2.2.2.2.1.ch (HX.out.2.2.2.2.2.2.below K.out.B)).mono ?_; rintro e w2 ⟨⟨a1, n1, c1, a2, n2, c2⟩, rfl, hb, -⟩
  replace K := qh (K.out.keep hb)
  clear hb
  rw [HEM.out]
  unfold bdV'
  simp only []
  have HC2 := qh (K.out.keep (below_alloc _ (.cells #[.slice a1 n1 c1, .slice a2 n2 c2] 44)))
  go_wp2_with fail
  go_ret
  exact nPost_of (by rw [HC.out, HV.out]) HC2.out.B
end Go.Proofs.Ytikjjpjekchcjaa
end
