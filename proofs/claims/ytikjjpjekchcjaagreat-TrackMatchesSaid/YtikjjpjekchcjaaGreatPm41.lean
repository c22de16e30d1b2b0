/-
  TrkR
-/
import Derived.Test.YtikjjpjekchcjaaGreatPm40
import Derived.Test.YtikjjpjekchcjaaGreatPm37
set_option linter.all false
set_option maxRecDepth 100000
set_option maxHeartbeats 64000000
namespace Go.Proofs.YtikjjpjekchcjaaGreat
open Go.RowKit TrkMath MyHeap MyOwn MyCopy GrayMath
def PlAt (P : List Pl) (k : Nat) : Prop := plsE P = plsE (P.drop k) ∧ ∀ i, i < k → plE (gp P i) = 0
theorem PlAt.next {P : List Pl} {k : Nat} (h : PlAt P k) (hk : k < P.length) (h0 : plE (gp P k) = 0) : PlAt P (k + 1) :=
 ⟨h.1.trans (plsE_go hk h0), fun i hi => by
  by_cases e : i = k
  ·subst e; exact h0
  exact h.2 i (by omega)⟩
theorem two_onlyg (W : World) (b i j : Nat) (x y : Value) : Only b W ((W.setCell ⟨b, i, none⟩ x).setCell ⟨b, j, none⟩ y) := ((Only.refl _ W).setCell i x).setCell j y
theorem RnK.setLv {base r g : Nat} {p : Par} {now next : Int} {tV pV lV eV : Value} {LV : List Lv} {E : List Ev} {w0 W W' : World} (h : RnK base r g p now next tV pV lV eV LV E w0 W) (hb : Only g W W') (LV' : List Lv) (hV : LvAt g LV' W') : RnK base r g p now next tV pV lV eV LV' E w0 W' :=
 ⟨h.B.trans (hb.below h.gb (Nat.le_trans h.bb h.B.size)), h.R.outs (Outs.of_only (X := [some g]) hb (List.mem_singleton.2 rfl)) (fun e => h.rg (Option.some.inj (List.mem_singleton.1 e))), hV, Outs.row (Outs.of_only (X := [some g]) hb (List.mem_singleton.2 rfl)) h.E (fun k e hk => by
  have := Option.some.inj (List.mem_singleton.1 hk)
  subst this
  exact h.eg e), h.rb, h.gb, h.rg, h.er, h.eg, h.bb⟩
theorem sub_xr {r g : Nat} {eV v : Value} {x : Nat} (h : some x ∈ v.ownBlock :: [eV.ownBlock]) : some x ∈ v.ownBlock :: XR r g eV := by
 rcases List.mem_cons.1 h with e | e
 ·rw [e]; exact List.mem_cons_self
 rw [List.mem_singleton.1 e]
 unfold XR
 simp
theorem oT (W : World) (b : Nat) (x0 x1 x2 x3 x4 x5 x6 : Value) : Only b W (((((((W.setCell ⟨b, 0, none⟩ x0).setCell ⟨b, 1, none⟩ x1).setCell ⟨b, 2, none⟩ x2).setCell ⟨b, 3, none⟩ x3).setCell ⟨b, 4, none⟩ x4).setCell ⟨b, 5, none⟩ x5).setCell ⟨b, 6, none⟩ x6) := (((((((Only.refl _ _).setCell _ _).setCell _ _).setCell _ _).setCell _ _).setCell _ _).setCell _ _).setCell _ _
theorem pW {p : Par} {now next : Int} {L : List Tk} (h : ckE p now next L = 0) : ParOk p ∧ (0 ≤ now ∧ now ≤ 1073741824) ∧ (0 ≤ next ∧ next ≤ 1073741824) ∧ L.length ≤ 16 ∧ ∀ t ∈ L, TkOk p t := by
 obtain ⟨h1, h2, h3⟩ := ckE_zero h
 obtain ⟨a, b, c⟩ := headOk h1
 exact ⟨a, b, c, h2, ckL_mem h3⟩
theorem iC (p : Par) (now next : Int) (a : Option Addr) (n c : Nat) (pa : Option Addr) (pn pc : Nat) (L : List TB) (P : List Pl) (w : World) (hT : Trs w a n L) (hB : ∀ k, k < n → BdI w (gt L k)) (hP : Pls w pa pn P) :
    Calls Tryz.prog 8 #[tbV p now next (.slice a n c), .slice pa pn pc] w (CyPost 48 (cyR p now next (fsts L) P) (cyW p now next (fsts L) P) (cyE p now next (fsts L) P) w) := by
 have HT := qh hT
 have HI := qh hB
 have HP := qh hP
 have HLn := qh (And.intro hT.len hP.len)
 have hbn := hT.bound
 have hbp := hP.bound
 have K := qh (show Below w.heap.size w ((w.alloc (.cells #[.int .i64 p.gate, .int .i64 p.need, .int .i64 p.most, .int .i64 p.pull, .int .i64 now, .int .i64 next, .slice a n c] 26)).alloc (.cells #[.int .i64 0, .int .i64 0, .int .i64 0, .int .i64 0, .int .i64 0, .int .i64 0, .slice none 0 0] 26)) ∧ ((w.alloc (.cells #[.int .i64 p.gate, .int .i64 p.need, .int .i64 p.most, .int .i64 p.pull, .int .i64 now, .int .i64 next, .slice a n c] 26)).alloc (.cells #[.int .i64 0, .int .i64 0, .int .i64 0, .int .i64 0, .int .i64 0, .int .i64 0, .slice none 0 0] 26)).heap[w.heap.size]? = some (.cells #[.int .i64 p.gate, .int .i64 p.need, .int .i64 p.most, .int .i64 p.pull, .int .i64 now, .int .i64 next, .slice a n c] 26 (0, 0)) ∧ ((w.alloc (.cells #[.int .i64 p.gate, .int .i64 p.need, .int .i64 p.most, .int .i64 p.pull, .int .i64 now, .int .i64 next, .slice a n c] 26)).alloc (.cells #[.int .i64 0, .int .i64 0, .int .i64 0, .int .i64 0, .int .i64 0, .int .i64 0, .slice none 0 0] 26)).heap[w.heap.size + 1]? = some (.cells #[.int .i64 0, .int .i64 0, .int .i64 0, .int .i64 0, .int .i64 0, .int .i64 0, .slice none 0 0] 26 (0, 0)) from ⟨(aC w _).alloc (by simp) _, aG (aI w _ rfl), aI _ _ (by simp)⟩)
 have hck := gD p now next a n c L
 clear hT hB hP
 unfold tbV
 unfold tbV at hck
 by_cases hE : ckE p now next (fsts L) = 0
 ·have HE := qh hE
  have HOk := qh (pW hE)
  rw [hE] at hck
  clear hE
  by_cases hnow : now = 1073741824
  ·subst hnow
   have HE1 := qh (iY (P := P) HE.out (Or.inl rfl))
   have HBd := qh (eK (P := P) (by rw [HE1.out]; decide))
   go_enter Tryz.func8, Tryz.ntmps8
   go_wp2_with fail
   refine (hck _ (HT.out.below K.out.1) (fun k hk => (HI.out k hk).below K.out.1)).mono ?_; rintro e w1 ⟨rfl, hb⟩
   replace K := qh (And.intro (K.out.1.trans (hb.mono K.out.1.size)) (And.intro (aN hb K.out.2.1) (aN hb K.out.2.2)))
   clear hb
   obtain ⟨x0, x1, x2, x3, x4, x5, x6⟩ := aK K.out.2.1
   have xl := aB K.out.2.1
   obtain ⟨q0, q1, q2, q3, q4, q5, q6⟩ := aK K.out.2.2
   obtain ⟨f0, f1, f2, f3, f4, f5, f6⟩ := bT K.out.2.2
   have ql := aB K.out.2.2
   go_wp2_with fail
   have KS := qh (bX K.out.1 K.out.2.2 (Nat.le_succ _) (.int .i64 0) (.int .i64 0) (.int .i64 0) (.int .i64 0) (.int .i64 0) (.int .i64 0) (.slice none 0 0))
   obtain ⟨s0, s1, s2, s3, s4, s5, s6⟩ := aK KS.out.2
   refine bodyPost_ret (v := .tuple #[tbV par0 0 0 (.slice none 0 0), .slice none 0 0, .int .i64 7]) ?_ rfl ?_
   ·simp [results, Tryz.f8, go_sem, s0, s1, s2, s3, s4, s5, s6, tbV, par0]
   rw [HE1.out]
   exact cU HBd.out.1 HBd.out.2 KS.out.1
  have hnb : (now == 1073741824) = false := beq_eq_false_iff_ne.2 hnow
  by_cases hnx : 1073741808 < next
  ·have HE1 := qh (iY (P := P) HE.out (Or.inr hnx))
   have HBd := qh (eK (P := P) (by rw [HE1.out]; decide))
   go_enter Tryz.func8, Tryz.ntmps8
   go_wp2_with fail
   refine (hck _ (HT.out.below K.out.1) (fun k hk => (HI.out k hk).below K.out.1)).mono ?_; rintro e w1 ⟨rfl, hb⟩
   replace K := qh (And.intro (K.out.1.trans (hb.mono K.out.1.size)) (And.intro (aN hb K.out.2.1) (aN hb K.out.2.2)))
   clear hb
   obtain ⟨x0, x1, x2, x3, x4, x5, x6⟩ := aK K.out.2.1
   have xl := aB K.out.2.1
   obtain ⟨q0, q1, q2, q3, q4, q5, q6⟩ := aK K.out.2.2
   obtain ⟨f0, f1, f2, f3, f4, f5, f6⟩ := bT K.out.2.2
   have ql := aB K.out.2.2
   go_wp2_with fail
   have KS := qh (bX K.out.1 K.out.2.2 (Nat.le_succ _) (.int .i64 0) (.int .i64 0) (.int .i64 0) (.int .i64 0) (.int .i64 0) (.int .i64 0) (.slice none 0 0))
   obtain ⟨s0, s1, s2, s3, s4, s5, s6⟩ := aK KS.out.2
   refine bodyPost_ret (v := .tuple #[tbV par0 0 0 (.slice none 0 0), .slice none 0 0, .int .i64 7]) ?_ rfl ?_
   ·simp [results, Tryz.f8, go_sem, s0, s1, s2, s3, s4, s5, s6, tbV, par0]
   rw [HE1.out]
   exact cU HBd.out.1 HBd.out.2 KS.out.1
  have HNX := qh (show ¬ (now = 1073741824 ∨ 1073741808 < next) from fun e => e.elim hnow hnx)
  by_cases hp : 16 < pn
  ·have HE1 := qh (mQ (P := P) HE.out HNX.out (by rw [HLn.out.2]; exact hp))
   have HBd := qh (eK (P := P) (by rw [HE1.out]; decide))
   have hpi : (16 : Int) < (pn : Int) := by omega
   go_enter Tryz.func8, Tryz.ntmps8
   go_wp2_with fail
   refine (hck _ (HT.out.below K.out.1) (fun k hk => (HI.out k hk).below K.out.1)).mono ?_; rintro e w1 ⟨rfl, hb⟩
   replace K := qh (And.intro (K.out.1.trans (hb.mono K.out.1.size)) (And.intro (aN hb K.out.2.1) (aN hb K.out.2.2)))
   clear hb
   obtain ⟨x0, x1, x2, x3, x4, x5, x6⟩ := aK K.out.2.1
   have xl := aB K.out.2.1
   obtain ⟨q0, q1, q2, q3, q4, q5, q6⟩ := aK K.out.2.2
   obtain ⟨f0, f1, f2, f3, f4, f5, f6⟩ := bT K.out.2.2
   have ql := aB K.out.2.2
   go_wp2_with fail
   have KS := qh (bX K.out.1 K.out.2.2 (Nat.le_succ _) (.int .i64 0) (.int .i64 0) (.int .i64 0) (.int .i64 0) (.int .i64 0) (.int .i64 0) (.slice none 0 0))
   obtain ⟨s0, s1, s2, s3, s4, s5, s6⟩ := aK KS.out.2
   refine bodyPost_ret (v := .tuple #[tbV par0 0 0 (.slice none 0 0), .slice none 0 0, .int .i64 4]) ?_ rfl ?_
   ·simp [results, Tryz.f8, go_sem, s0, s1, s2, s3, s4, s5, s6, tbV, par0]
   rw [HE1.out]
   exact cU HBd.out.1 HBd.out.2 KS.out.1
  have HE1 := qh (mA (P := P) HE.out HNX.out (by rw [HLn.out.2]; exact hp))
  have hpi : ¬ (16 : Int) < (pn : Int) := by omega
  have HN := qh (show pn ≤ 16 from by omega)
  go_enter Tryz.func8, Tryz.ntmps8
  go_wp2_with fail
  refine (hck _ (HT.out.below K.out.1) (fun k hk => (HI.out k hk).below K.out.1)).mono ?_; rintro e w1 ⟨rfl, hb⟩
  replace K := qh (And.intro (K.out.1.trans (hb.mono K.out.1.size)) (And.intro (aN hb K.out.2.1) (aN hb K.out.2.2)))
  clear hb
  obtain ⟨x0, x1, x2, x3, x4, x5, x6⟩ := aK K.out.2.1
  have xl := aB K.out.2.1
  have mkL := hmkL pn (by omega)
  go_wp2_with fail
  clear x0 x1 x2 x3 x4 x5 x6 xl
  have KD := qh (show Below w1.heap.size w1 w1.drew from aM (Below.refl _ _) 1)
  have HS := qh (aN KD.out K.out.2.1)
  refine MyHeldE.start (fun W => W.heap[w.heap.size]? = some (.cells #[.int .i64 p.gate, .int .i64 p.need, .int .i64 p.most, .int .i64 p.pull, .int .i64 now, .int .i64 next, .slice a n c] 26 (0, 0))) [] (by kernel_rfl) ?_
  have hHeld := HS.out
  refine MyHeldE.tk 0 (hy := fun w hSw => by obtain ⟨z0, z1, z2, z3, z4, z5, z6⟩ := aK hSw; go_simp; (try with_reducible rfl)) ?_
  refine MyHeldE.tk 1 ?_
  refine MyHeldE.tk 2 ?_
  refine MyHeldE.tk 3 ?_
  refine MyHeldE.ready (rs := [4]) (by kernel_rfl) (by simp) ?_
  refine (MyHeldE.next 4 (MyHeld.at_rfl rfl) (fun Kq hKq => ?_) MyHeldE.All.nil)
  go_simp
  have HBL := qh (show Below w1.heap.size w1 (w1.alloc (.cells (madeCells #[.int .i64 0, .int .i64 0] (pn * 2)) 78)).drew from KD.out.trans (aC w1.drew (.cells (madeCells #[.int .i64 0, .int .i64 0] (pn * 2)) 78)))
  have HV := qh (show LvAt w1.heap.size (LVk P 0) (w1.alloc (.cells (madeCells #[.int .i64 0, .int .i64 0] (pn * 2)) 78)).drew from lv_made P pn HLn.out.2 w1.drew)
  have hHeld2 : (w1.alloc (.cells (madeCells #[.int .i64 0, .int .i64 0] (pn * 2)) 78)).drew.heap[w.heap.size]? = some (.cells #[.int .i64 p.gate, .int .i64 p.need, .int .i64 p.most, .int .i64 p.pull, .int .i64 now, .int .i64 next, .slice a n c] 26 (0, 0)) := aN HBL.out K.out.2.1
  refine hKq.out _ _ (fun _ => hHeld2) ?_
  clear hKq Kq hHeld HS
  have hHeld := hHeld2
  clear hHeld2
  try simp only [Act.put, List.setIfInBounds_toArray, List.set_cons_zero, List.set_cons_succ]
  refine MyHeldE.tk 5 ?_
  refine MyHeldE.ready (rs := [6]) (by kernel_rfl) (by simp) ?_
  refine (MyHeldE.next 6 (MyHeld.at_rfl rfl) (fun Kq hKq => ?_) MyHeldE.All.nil)
  go_simp
  have K3 := qh (show RnK w1.heap.size (w1.heap.size + 1) w1.heap.size p now next (.slice a n c) (.slice pa pn pc) (.slice (some ⟨w1.heap.size, 0, none⟩) pn pn) (.slice none 0 0) (LVk P 0) [] w1 ((w1.alloc (.cells (madeCells #[.int .i64 0, .int .i64 0] (pn * 2)) 78)).alloc (.cells #[.int .i64 p.gate, .int .i64 p.need, .int .i64 p.most, .int .i64 p.pull, .int .i64 now, .int .i64 next, .slice a n c, .slice pa pn pc, .slice (some ⟨w1.heap.size, 0, none⟩) pn pn, .slice none 0 0] 73)).drew from
   ⟨HBL.out.trans ((aC (w1.alloc (.cells (madeCells #[.int .i64 0, .int .i64 0] (pn * 2)) 78)).drew (.cells #[.int .i64 p.gate, .int .i64 p.need, .int .i64 p.most, .int .i64 p.pull, .int .i64 now, .int .i64 next, .slice a n c, .slice pa pn pc, .slice (some ⟨w1.heap.size, 0, none⟩) pn pn, .slice none 0 0] 73)).mono (by simp)), aI (w1.alloc (.cells (madeCells #[.int .i64 0, .int .i64 0] (pn * 2)) 78)).drew (.cells #[.int .i64 p.gate, .int .i64 p.need, .int .i64 p.most, .int .i64 p.pull, .int .i64 now, .int .i64 next, .slice a n c, .slice pa pn pc, .slice (some ⟨w1.heap.size, 0, none⟩) pn pn, .slice none 0 0] 73 (0, 0)) (n := w1.heap.size + 1) (by simp), HV.out.below (aC (w1.alloc (.cells (madeCells #[.int .i64 0, .int .i64 0] (pn * 2)) 78)).drew (.cells #[.int .i64 p.gate, .int .i64 p.need, .int .i64 p.most, .int .i64 p.pull, .int .i64 now, .int .i64 next, .slice a n c, .slice pa pn pc, .slice (some ⟨w1.heap.size, 0, none⟩) pn pn, .slice none 0 0] 73)), ⟨rfl, Or.inl ⟨rfl, rfl⟩⟩, by omega, Nat.le_refl _, by omega, fun e => (by cases e), fun e => (by cases e), Nat.le_refl _⟩)
  have hHeld2 := aN (aC (w1.alloc (.cells (madeCells #[.int .i64 0, .int .i64 0] (pn * 2)) 78)).drew (.cells #[.int .i64 p.gate, .int .i64 p.need, .int .i64 p.most, .int .i64 p.pull, .int .i64 now, .int .i64 next, .slice a n c, .slice pa pn pc, .slice (some ⟨w1.heap.size, 0, none⟩) pn pn, .slice none 0 0] 73)) hHeld
  refine hKq.out _ _ (fun _ => hHeld2) ?_
  clear hKq Kq hHeld HV HBL
  have hHeld := hHeld2
  clear hHeld2
  try simp only [Act.put, List.setIfInBounds_toArray, List.set_cons_zero, List.set_cons_succ]
  refine MyHeldE.tk 7 ?_
  refine MyHeldE.done (by kernel_rfl) ?_ _
  clear hHeld KD
  generalize ((w1.alloc (.cells (madeCells #[.int .i64 0, .int .i64 0] (pn * 2)) 78)).alloc (.cells #[.int .i64 p.gate, .int .i64 p.need, .int .i64 p.most, .int .i64 p.pull, .int .i64 now, .int .i64 next, .slice a n c, .slice pa pn pc, .slice (some ⟨w1.heap.size, 0, none⟩) pn pn, .slice none 0 0] 73)).drew = w3 at *
  obtain ⟨g, hg⟩ : ∃ g, g = w1.heap.size := ⟨_, rfl⟩
  rw [← hg] at K3 ⊢
  have HGw := qh hg
  clear hg
  have HBZ := qh (show ∀ W : World, Below g w1 W → Below w.heap.size w W ∧ W.heap[w.heap.size + 1]? = some (.cells #[.int .i64 0, .int .i64 0, .int .i64 0, .int .i64 0, .int .i64 0, .int .i64 0, .slice none 0 0] 26 (0, 0)) from fun W h => ⟨K.out.1.trans (h.mono (by rw [HGw.out]; exact K.out.1.size)), aN (show Below w1.heap.size w1 W from HGw.out ▸ h) K.out.2.2⟩)
  have K1w := qh K.out
  obtain ⟨r, hr⟩ : ∃ r, r = g + 1 := ⟨_, rfl⟩
  rw [← hr] at K3 ⊢
  have HRG := qh hr
  clear hr mkL
  go_wp2_with fail
  go_loopw [5, 6, 44] (fun v5 v6 kv wr => ∃ k : Nat, k ≤ pn ∧ v5 = .slice none 0 0 ∧ v6 = .int .i64 0 ∧ kv = .int .i64 k ∧ PlAt P k ∧ RnK g r g p now next (.slice a n c) (.slice pa pn pc) (.slice (some ⟨g, 0, none⟩) pn pn) (.slice none 0 0) (LVk P k) [] w1 wr) (fun _ _ kv _ => pn - (intOf kv).toNat)
  case atStart => exact ⟨0, by omega, rfl, rfl, rfl, ⟨rfl, fun i hi => absurd hi (Nat.not_lt_zero _)⟩, K3.out⟩
  case round =>
   clear K3 K
   obtain ⟨k, hk, rfl, rfl, rfl, hA, hK⟩ := hrel
   have K := qh hK
   have HA := qh hA
   clear hK hA
   by_cases hlt : k < pn
   ·have HLt := qh hlt
    obtain ⟨b2, off2, rfl, p0, p1, p2⟩ := fS (HP.out.below (HBZ.out _ K.out.B).1) hlt
    have pl := World.block_lt_of_cell? _ _ p0
    obtain ⟨⟨yr, yc, ya⟩, hY⟩ : ∃ y, gp P k = y := ⟨_, rfl⟩
    rw [hY] at p0 p1 p2
    simp only [] at p0 p1 p2
    have HY := qh hY
    have hk0 : (0 : Int) ≤ (k : Int) := by omega
    have hk1 : (k : Int) < (pn : Int) := by omega
    have hkw : IntKind.i64.wrap ((k : Int) + 1) = ((k + 1 : Nat) : Int) := by rw [IntWalk.i64_in _ (by omega)]; omega
    have KA := qh (K.out.below (aC wr (.cells #[.int .i64 yr, .int .i64 yc, .int .i64 ya] 63)))
    have YA := qh (aI wr (.cells #[.int .i64 yr, .int .i64 yc, .int .i64 ya] 63 (0, 0)) rfl)
    clear hY hlt K
    by_cases hr : 0 ≤ yr ∧ yr ≤ 8192
    ·have HR := qh hr
     clear hr
     by_cases hc : -1 ≤ yc ∧ yc ≤ 8191
     ·have HC := qh hc
      clear hc
      by_cases ha : -1 ≤ ya ∧ ya ≤ 16777215
      ·have HAd := qh ha
       clear ha
       have HNb := qh (show ¬ plBad ⟨yr, yc, ya⟩ from fun e => by
        rcases e with e | e | e
        ·exact e HR.out
        ·exact e HC.out
        exact e HAd.out)
       by_cases hc0 : 0 ≤ yc
       ·have HC0 := qh (show (0 : Int) ≤ (⟨yr, yc, ya⟩ : Pl).code from hc0)
        obtain ⟨A, hA⟩ : ∃ x, altA yc = x := ⟨_, rfl⟩
        obtain ⟨S, hS⟩ : ∃ x, altS yc = x := ⟨_, rfl⟩
        obtain ⟨E, hE⟩ : ∃ x, altE yc = x := ⟨_, rfl⟩
        have HAS := qh (show lvOf ⟨yr, yc, ya⟩ = (A, S) from by rw [gI hc0]; dsimp only; rw [hA, hS])
        have HEy := qh (show plE ⟨yr, yc, ya⟩ = E from by rw [mI HNb.out hc0]; exact hE)
        have hal := Gry.Altitude_call yc
        rw [hA, hS, hE] at hal
        clear hA hS hE
        go_wp2_with fail
        refine (fH _ _ _ _ HR.out).mono ?_; rintro e w0 ⟨rfl, rfl⟩
        go_wp2_with fail
        refine (fH _ _ _ _ HC.out).mono ?_; rintro e w0 ⟨rfl, rfl⟩
        go_wp2_with fail
        refine (fH _ _ _ _ HAd.out).mono ?_; rintro e w0 ⟨rfl, rfl⟩
        go_wp2_with fail
        refine (hal _).mono ?_; rintro e w2 ⟨rfl, hb⟩
        replace KA := qh (KA.out.below hb)
        clear hb
        by_cases hz : E = 0
        ·subst hz
         obtain ⟨r0, r1, r2, r3, r4, r5, r6, r7, r8, r9⟩ := KA.out.R.cells
         have rl := KA.out.R.lt
         obtain ⟨v0, v1⟩ := KA.out.V.at (k := k) (by rw [gX, HLn.out.2]; exact HLt.out)
         obtain ⟨fv0, gvl⟩ := KA.out.V.free (k := k * 2)
         obtain ⟨fv1, -⟩ := KA.out.V.free (k := k * 2 + 1)
         go_wp2_with fail
         have hO := two_onlyg w2 g (k * 2) (k * 2 + 1) (.int .i64 A) (.int .i64 S)
         have KV := qh (KA.out.setLv hO (LVk P (k + 1)) (by rw [LVk_set, HY.out, HAS.out]; exact KA.out.V.set (by rw [gX, HLn.out.2]; exact HLt.out) A S))
         refine ⟨⟨k + 1, HLt.out, rfl, rfl, by go_num, HA.out.next (by rw [HLn.out.2]; exact HLt.out) (by rw [HY.out, HEy.out]), KV.out⟩, by simp [intOf]; have := HLt.out; omega⟩
        have hne : (E != 0) = true := bne_iff_ne.2 hz
        have HNz := qh hz
        clear hz
        have HE2 := qh (show cyE p now next (fsts L) P = E from by rw [HE1.out, HA.out.1, iQ (by rw [HLn.out.2]; exact HLt.out) (by rw [HY.out, HEy.out]; exact HNz.out), HY.out, HEy.out])
        have HBd := qh (eK (P := P) (by rw [HE2.out]; exact HNz.out))
        obtain ⟨q0, q1, q2, q3, q4, q5, q6⟩ := aK (HBZ.out _ KA.out.B).2
        obtain ⟨f0, f1, f2, f3, f4, f5, f6⟩ := bT (HBZ.out _ KA.out.B).2
        have ql := aB (HBZ.out _ KA.out.B).2
        go_wp2_with fail
        have KS := qh (bX (HBZ.out _ KA.out.B).1 (HBZ.out _ KA.out.B).2 (Nat.le_succ _) (.int .i64 0) (.int .i64 0) (.int .i64 0) (.int .i64 0) (.int .i64 0) (.int .i64 0) (.slice none 0 0))
        obtain ⟨s0, s1, s2, s3, s4, s5, s6⟩ := aK KS.out.2
        refine bodyPost_ret (v := .tuple #[tbV par0 0 0 (.slice none 0 0), .slice none 0 0, .int .i64 E]) ?_ rfl ?_
        ·simp [results, Tryz.f8, go_sem, s0, s1, s2, s3, s4, s5, s6, tbV, par0]
        rw [HE2.out]
        exact cU HBd.out.1 HBd.out.2 KS.out.1
       have HC0 := qh (show ¬ (0 : Int) ≤ (⟨yr, yc, ya⟩ : Pl).code from hc0)
       have HEy := qh (qW HNb.out HC0.out)
       go_wp2_with fail
       refine (fH _ _ _ _ HR.out).mono ?_; rintro e w0 ⟨rfl, rfl⟩
       go_wp2_with fail
       refine (fH _ _ _ _ HC.out).mono ?_; rintro e w0 ⟨rfl, rfl⟩
       go_wp2_with fail
       refine (fH _ _ _ _ HAd.out).mono ?_; rintro e w0 ⟨rfl, rfl⟩
       go_wp2_with fail
       refine ⟨⟨k + 1, HLt.out, rfl, rfl, by go_num, HA.out.next (by rw [HLn.out.2]; exact HLt.out) (by rw [HY.out, HEy.out]), ?_⟩, by simp [intOf]; have := HLt.out; omega⟩
       rw [LVk_none P k (by rw [HY.out]; exact jI (show ¬ 0 ≤ yc from by have := HC0.out; (try dsimp only at this); omega))]
       exact KA.out
      have HNz := qh (show (1 : Int) ≠ 0 from by decide)
      have HE2 := qh (show cyE p now next (fsts L) P = 1 from by rw [HE1.out, HA.out.1, iQ (by rw [HLn.out.2]; exact HLt.out) (by rw [HY.out, dQ (show plBad ⟨yr, yc, ya⟩ from Or.inr (Or.inr ha))]; exact HNz.out), HY.out, dQ (show plBad ⟨yr, yc, ya⟩ from Or.inr (Or.inr ha))])
      have HBd := qh (eK (P := P) (by rw [HE2.out]; exact HNz.out))
      go_wp2_with fail
      refine (fH _ _ _ _ HR.out).mono ?_; rintro e w0 ⟨rfl, rfl⟩
      go_wp2_with fail
      refine (fH _ _ _ _ HC.out).mono ?_; rintro e w0 ⟨rfl, rfl⟩
      go_wp2_with fail
      refine (in_f _ _ _ _ ha).mono ?_; rintro e w0 ⟨rfl, rfl⟩
      obtain ⟨q0, q1, q2, q3, q4, q5, q6⟩ := aK (HBZ.out _ KA.out.B).2
      obtain ⟨f0, f1, f2, f3, f4, f5, f6⟩ := bT (HBZ.out _ KA.out.B).2
      have ql := aB (HBZ.out _ KA.out.B).2
      go_wp2_with fail
      have KS := qh (bX (HBZ.out _ KA.out.B).1 (HBZ.out _ KA.out.B).2 (Nat.le_succ _) (.int .i64 0) (.int .i64 0) (.int .i64 0) (.int .i64 0) (.int .i64 0) (.int .i64 0) (.slice none 0 0))
      obtain ⟨s0, s1, s2, s3, s4, s5, s6⟩ := aK KS.out.2
      refine bodyPost_ret (v := .tuple #[tbV par0 0 0 (.slice none 0 0), .slice none 0 0, .int .i64 1]) ?_ rfl ?_
      ·simp [results, Tryz.f8, go_sem, s0, s1, s2, s3, s4, s5, s6, tbV, par0]
      rw [HE2.out]
      exact cU HBd.out.1 HBd.out.2 KS.out.1
     have HNz := qh (show (1 : Int) ≠ 0 from by decide)
     have HE2 := qh (show cyE p now next (fsts L) P = 1 from by rw [HE1.out, HA.out.1, iQ (by rw [HLn.out.2]; exact HLt.out) (by rw [HY.out, dQ (show plBad ⟨yr, yc, ya⟩ from Or.inr (Or.inl hc))]; exact HNz.out), HY.out, dQ (show plBad ⟨yr, yc, ya⟩ from Or.inr (Or.inl hc))])
     have HBd := qh (eK (P := P) (by rw [HE2.out]; exact HNz.out))
     go_wp2_with fail
     refine (fH _ _ _ _ HR.out).mono ?_; rintro e w0 ⟨rfl, rfl⟩
     go_wp2_with fail
     refine (in_f _ _ _ _ hc).mono ?_; rintro e w0 ⟨rfl, rfl⟩
     obtain ⟨q0, q1, q2, q3, q4, q5, q6⟩ := aK (HBZ.out _ KA.out.B).2
     obtain ⟨f0, f1, f2, f3, f4, f5, f6⟩ := bT (HBZ.out _ KA.out.B).2
     have ql := aB (HBZ.out _ KA.out.B).2
     go_wp2_with fail
     have KS := qh (bX (HBZ.out _ KA.out.B).1 (HBZ.out _ KA.out.B).2 (Nat.le_succ _) (.int .i64 0) (.int .i64 0) (.int .i64 0) (.int .i64 0) (.int .i64 0) (.int .i64 0) (.slice none 0 0))
     obtain ⟨s0, s1, s2, s3, s4, s5, s6⟩ := aK KS.out.2
     refine bodyPost_ret (v := .tuple #[tbV par0 0 0 (.slice none 0 0), .slice none 0 0, .int .i64 1]) ?_ rfl ?_
     ·simp [results, Tryz.f8, go_sem, s0, s1, s2, s3, s4, s5, s6, tbV, par0]
     rw [HE2.out]
     exact cU HBd.out.1 HBd.out.2 KS.out.1
    have HNz := qh (show (1 : Int) ≠ 0 from by decide)
    have HE2 := qh (show cyE p now next (fsts L) P = 1 from by rw [HE1.out, HA.out.1, iQ (by rw [HLn.out.2]; exact HLt.out) (by rw [HY.out, dQ (show plBad ⟨yr, yc, ya⟩ from Or.inl hr)]; exact HNz.out), HY.out, dQ (show plBad ⟨yr, yc, ya⟩ from Or.inl hr)])
    have HBd := qh (eK (P := P) (by rw [HE2.out]; exact HNz.out))
    go_wp2_with fail
    refine (in_f _ _ _ _ hr).mono ?_; rintro e w0 ⟨rfl, rfl⟩
    obtain ⟨q0, q1, q2, q3, q4, q5, q6⟩ := aK (HBZ.out _ KA.out.B).2
    obtain ⟨f0, f1, f2, f3, f4, f5, f6⟩ := bT (HBZ.out _ KA.out.B).2
    have ql := aB (HBZ.out _ KA.out.B).2
    go_wp2_with fail
    have KS := qh (bX (HBZ.out _ KA.out.B).1 (HBZ.out _ KA.out.B).2 (Nat.le_succ _) (.int .i64 0) (.int .i64 0) (.int .i64 0) (.int .i64 0) (.int .i64 0) (.int .i64 0) (.slice none 0 0))
    obtain ⟨s0, s1, s2, s3, s4, s5, s6⟩ := aK KS.out.2
    refine bodyPost_ret (v := .tuple #[tbV par0 0 0 (.slice none 0 0), .slice none 0 0, .int .i64 1]) ?_ rfl ?_
    ·simp [results, Tryz.f8, go_sem, s0, s1, s2, s3, s4, s5, s6, tbV, par0]
    rw [HE2.out]
    exact cU HBd.out.1 HBd.out.2 KS.out.1
   obtain rfl : pn = k := by omega
   have HZ0 := qh (show cyE p now next (fsts L) P = 0 from by
    rw [HE1.out, HA.out.1, List.drop_of_length_le (by rw [HLn.out.2]; exact Nat.le_refl _)]
    rfl)
   have KV := qh (show RnK w1.heap.size r g p now next (.slice a n c) (.slice pa pn pc) (.slice (some ⟨g, 0, none⟩) pn pn) (.slice none 0 0) (P.map lvOf) [] w1 wr from by
    have h := K.out
    rw [← LVk_all P, HLn.out.2, ← HGw.out]
    exact h)
   have HT1w := qh (HT.out.below K1w.out.1)
   have HI1w := qh (show ∀ k, k < n → BdI w1 (gt L k) from fun k hk => (HI.out k hk).below K1w.out.1)
   have HP1w := qh (HP.out.below K1w.out.1)
   have HPl := qh HA.out.2
   have HLe := qh (show (fsts L).length = n from by rw [aY]; exact HLn.out.1)
   have HOkk := qh (show ∀ k, k < n → TkOk p (gt L k).1 from fun k hk => by
    rw [← fX]
    exact HOk.out.2.2.2.2 _ (lB (by rw [HLe.out]; exact hk)))
   have HN16 := qh (show n ≤ 16 from by have := HOk.out.2.2.2.1; rw [HLe.out] at this; exact this)
   clear K HA
   have hst := step_call r g p now next a n c (.slice pa pn pc) (.slice (some ⟨g, 0, none⟩) pn pn) (.slice none 0 0) (P.map lvOf) [] L w1 wr KV.out HT1w.out HI1w.out HOkk.out HOk.out.1 HN16.out (by simp)
   unfold noteV at hst
   go_wp2_with fail
   refine hst.mono ?_; rintro e w2 ⟨rfl, tV1, eV1, M1, K1, L1, hM1⟩
   clear hst
   rw [List.nil_append] at K1
   have HM1 := qh (show fsts M1 = (cyS p (fsts L)).1 from by rw [hM1]; unfold cyS; rw [HLe.out])
   have HK1 := qh (show RnK w1.heap.size r g p now next tV1 _ _ eV1 (P.map lvOf) (cyS p (fsts L)).2 w1 w2 from by unfold cyS; rw [HLe.out]; exact K1)
   have HL1 := qh L1
   have HS1 := qh (show M1.length ≤ 16 ∧ (cyS p (fsts L)).2.length ≤ 16 ∧ ∀ t ∈ fsts M1, TkOk p t from by
    have h1 := gG (p := p) (L := fsts L) n
    have h2 := iP (p := p) (L := fsts L) n
    rw [← hM1, aY] at h1
    have := HN16.out
    refine ⟨by omega, by unfold cyS; rw [HLe.out]; omega, ?_⟩
    rw [hM1]
    exact stp_ok HOk.out.2.2.2.2 (by rw [HLe.out]; exact Nat.le_refl _))
   obtain ⟨a1, c1, rfl, hT1⟩ := lU L1.row (by have := HS1.out.1; omega)
   have HT1 := qh hT1
   have HOk1 := qh (show ∀ k, k < M1.length → TkOk p (gt M1 k).1 from fun k hk => by
    rw [← fX]
    exact HS1.out.2.2 _ (lB (by rw [aY]; exact hk)))
   clear hM1 K1 L1 hT1 KV HOkk
   go_wp2_with fail
   refine (pair_call r g M1.length c1 p now next a1 eV1 pa pn pc pn P M1 w2 HK1.out.R HT1.out (fun k hk => (HL1.out.bd k hk).I) (HP1w.out.below HK1.out.B) HK1.out.V HOk1.out HOk.out.1 HS1.out.1 HN.out HPl.out).mono ?_; rintro e w3 ⟨mb, rfl, hMp, hmb, hb⟩
   have HFit := qh (oV p (fsts M1) P)
   obtain ⟨l, hl⟩ : ∃ l, prsV p (fsts M1) P = l := ⟨_, rfl⟩
   rw [hl] at hMp HFit
   have HLq := qh (show cyP p (fsts L) P = l from by unfold cyP; rw [← HM1.out]; exact hl)
   have HMp := qh hMp
   replace HK1 := qh (HK1.out.below hb)
   replace HL1 := qh (HL1.out.below hb)
   clear hMp hmb hb hl HT1
   have hup := pE r g mb p now next a1 M1.length c1 pa pn pc pn eV1 P (cyS p (fsts L)).2 M1 l w1 w3 HK1.out HL1.out HMp.out HP1w.out HFit.out HOk1.out HOk.out.1 HS1.out.1 HN.out HPl.out (by have := HS1.out.2.1; omega) rfl
   unfold noteV at hup
   go_wp2_with fail
   refine hup.mono ?_; rintro e w4 ⟨rfl, tV2, eV2, M2, K2, L2, hM2, hMp2⟩
   clear hup
   have HU := qh (show updA p P (ofF l) (fsts M1) M1.length = cyU p (fsts L) P from by unfold cyU; rw [HLq.out, ← HM1.out, aY])
   rw [HU.out] at K2 hM2
   have HB2 := qh (show M2.length ≤ 16 ∧ (cyU p (fsts L) P).2.length ≤ 32 from by
    have h1 := j4 (p := p) (P := P) (of := ofF l) (L := fsts M1) M1.length
    have h2 := iM (p := p) (P := P) (of := ofF l) (L := fsts M1) M1.length
    rw [HU.out] at h1 h2
    rw [← hM2, aY] at h1
    have := HS1.out.1
    omega)
   have HK2 := qh K2
   have HL2 := qh L2
   have HM2 := qh hM2
   have HMp2 := qh hMp2
   clear K2 L2 hM2 hMp2 HK1 HL1 HMp
   have hsa := start_call r g mb p now next tV2 pa pn pc pn eV2 P ((cyS p (fsts L)).2 ++ (cyU p (fsts L) P).2) (fsts M1) M2 l w1 w4 HK2.out HL2.out HMp2.out HP1w.out HFit.out (by rw [aY]; exact HS1.out.1) HOk.out.1 HN.out HPl.out (by rw [List.length_append]; have := HS1.out.2.1; have := HB2.out.2; omega) HB2.out.1 HOk.out.2.2.1
   unfold noteV at hsa
   go_wp2_with fail
   refine hsa.mono ?_; rintro e w5 ⟨rfl, tV3, eV3, M3, K3, L3, hM3⟩
   clear hsa
   have HNn := qh (show staA p P (usB l) (fsts M2) next pn = cyN p next (fsts L) P from by unfold cyN; rw [HLq.out, HM2.out, HLn.out.2])
   rw [HNn.out] at K3 hM3
   have HK3 := qh (show RnK w1.heap.size r g p now (cyX p next (fsts L) P) tV3 _ _ eV3 (P.map lvOf) (cyV p next (fsts L) P) w1 w5 from K3)
   have HL3 := qh L3
   have HM3 := qh (show fsts M3 = cyT p next (fsts L) P from hM3)
   obtain ⟨NX, hNX⟩ : ∃ x, cyX p next (fsts L) P = x := ⟨_, rfl⟩
   obtain ⟨TK, hTK⟩ : ∃ x, cyT p next (fsts L) P = x := ⟨_, rfl⟩
   obtain ⟨EV, hEV⟩ : ∃ x, cyV p next (fsts L) P = x := ⟨_, rfl⟩
   have HR := qh (show cyR p now next (fsts L) P = ⟨p, now + 1, NX, TK⟩ ∧ cyW p now next (fsts L) P = EV from by
    have h := jQ (L := fsts L) (P := P) HZ0.out
    rw [hNX, hTK, hEV] at h
    exact h)
   rw [hNX, hEV] at HK3
   rw [hTK] at HM3
   have hnw : IntKind.i64.wrap (now + 1) = now + 1 := by have := HOk.out.2.1; exact IntWalk.i64_in _ (by omega)
   have f4 : w5.frozen? ⟨r, 4, none⟩ = false := HK3.out.R.free
   obtain ⟨r0, r1, r2, r3, r4, r5, r6, r7, r8, r9⟩ := HK3.out.R.cells
   have rl := HK3.out.R.lt
   clear K3 L3 hM3 HK2 HL2 HMp2 hNX hTK hEV
   go_wp2_with fail
   have hO4 : Only r w5 (w5.setCell ⟨r, 4, none⟩ (.int .i64 (now + 1))) := (Only.refl _ _).setCell _ _
   have HK4 := qh (HK3.out.turn hO4 (HK3.out.R.setNow (now + 1)))
   have HL4 := qh (HL3.out.outs (Outs.of_only hO4 (by unfold XR; simp)))
   clear f4 r0 r1 r2 r3 r4 r5 r6 r7 r8 r9 rl hO4 HK3 HL3
   generalize w5.setCell ⟨r, 4, none⟩ (.int .i64 (now + 1)) = w6 at *
   have KD := qh (show Below w6.heap.size w6 w6.drew from aM (Below.refl _ _) 1)
   replace HK4 := qh (HK4.out.below KD.out)
   replace HL4 := qh (HL4.out.below KD.out)
   clear KD
   have HS := qh HK4.out.R
   refine MyHeldE.start (fun W => RunAt r p (now + 1) NX tV3 (.slice pa pn pc) (.slice (some ⟨g, 0, none⟩) pn pn) eV3 W) [] (by kernel_rfl) ?_
   have hHeld := HS.out
   generalize w6.drew = w7 at *
   refine MyHeldE.tk 0 ?_
   refine MyHeldE.tk 1 ?_
   refine MyHeldE.tk 2 ?_
   refine MyHeldE.tk 3 (hy := fun w hSw => by obtain ⟨r0, r1, r2, r3, r4, r5, r6, r7, r8, r9⟩ := RunAt.cells hSw; go_simp; (try with_reducible rfl)) ?_
   refine MyHeldE.tk 4 ?_
   refine MyHeldE.tk 5 ?_
   refine MyHeldE.tk 6 ?_
   refine MyHeldE.tk 7 (hy := fun w hSw => by obtain ⟨r0, r1, r2, r3, r4, r5, r6, r7, r8, r9⟩ := RunAt.cells hSw; go_simp; (try with_reducible rfl)) ?_
   have HZb := qh (HBZ.out _ (by rw [HGw.out]; exact HK4.out.B))
   have KS := qh (bX HZb.out.1 HZb.out.2 (Nat.le_succ _) (.int .i64 p.gate) (.int .i64 p.need) (.int .i64 p.most) (.int .i64 p.pull) (.int .i64 (now + 1)) (.int .i64 NX) tV3)
   have HOt := qh (oT w7 (w.heap.size + 1) (.int .i64 p.gate) (.int .i64 p.need) (.int .i64 p.most) (.int .i64 p.pull) (.int .i64 (now + 1)) (.int .i64 NX) tV3)
   have HZl := qh (show w.heap.size + 1 < w1.heap.size from aB K1w.out.2.2)
   have hRS : RunAt r p (now + 1) NX tV3 (.slice pa pn pc) (.slice (some ⟨g, 0, none⟩) pn pn) eV3 _ := HK4.out.R.outs (Outs.of_only (X := [some (w.heap.size + 1)]) HOt.out (List.mem_singleton.2 rfl)) (fun e => by have := Option.some.inj (List.mem_singleton.1 e); have := HK4.out.rb; have := HZl.out; omega)
   obtain ⟨aT, cT, rfl⟩ := aU HL4.out.row
   obtain ⟨q0, q1, q2, q3, q4, q5, q6⟩ := aK HZb.out.2
   obtain ⟨f0, f1, f2, f3, f4, f5, f6⟩ := bT HZb.out.2
   have ql := aB HZb.out.2
   refine MyHeldE.ready (rs := [8]) (by kernel_rfl) (by simp) ?_
   refine (MyHeldE.next 8 (MyHeld.at_rfl rfl) (fun Kq hKq => ?_) MyHeldE.All.nil)
   go_simp
   have hHeld2 := hRS
   refine hKq.out _ _ (fun _ => hHeld2) ?_
   clear hKq Kq hHeld
   have hHeld := hHeld2
   clear hHeld2 hRS q0 q1 q2 q3 q4 q5 q6 f0 f1 f2 f3 f4 f5 f6 ql
   try simp only [Act.put, List.setIfInBounds_toArray, List.set_cons_zero, List.set_cons_succ]
   refine MyHeldE.tk 9 ?_
   refine MyHeldE.tk 10 ?_
   refine MyHeldE.done (by kernel_rfl) ?_ _
   obtain ⟨s0, s1, s2, s3, s4, s5, s6⟩ := aK KS.out.2
   go_wp2_with fail
   refine bodyPost_ret (v := .tuple #[tbV p (now + 1) NX (.slice aT M3.length cT), eV3, .int .i64 0]) ?_ rfl ?_
   ·simp [results, Tryz.f8, go_sem, s0, s1, s2, s3, s4, s5, s6, tbV]
   rw [HR.out.1, HR.out.2, HZ0.out]
   have hX : ∀ k, some k ∈ [some (w.heap.size + 1)] → w1.heap.size ≤ k → False := fun k e hk => by have := Option.some.inj (List.mem_singleton.1 e); have := HZl.out; omega
   have hOo := Outs.of_only (X := [some (w.heap.size + 1)]) HOt.out (List.mem_singleton.2 rfl)
   refine ⟨_, _, M3, rfl, ⟨?_, fun k hk => ?_, fun k e hk => ?_⟩, HM3.out, ?_, KS.out.1⟩
   ·exact bR (hOo.row HL4.out.row (fun k e hk => hX k hk (HL4.out.lt e).1)) K1w.out.1.size
   ·have h1 := HL4.out.bd k hk
    have h2 : BdX w1.heap.size [some (w.heap.size + 1)] w7 (gt M3 k) := ⟨h1.L, h1.H, fun x e => ⟨⟨(h1.gL x e).1.1, fun c => hX x c (h1.gL x e).1.1⟩, (h1.gL x e).2⟩, fun x e => ⟨⟨(h1.gH x e).1.1, fun c => hX x c (h1.gH x e).1.1⟩, (h1.gH x e).2⟩⟩
    have h3 := h2.outs hOo
    exact ⟨h3.L, h3.H, fun x e => ⟨⟨Nat.le_trans K1w.out.1.size (h1.gL x e).1.1, fun c => (h1.gL x e).1.2 (sub_xr c)⟩, (h3.gL x e).2⟩, fun x e => ⟨⟨Nat.le_trans K1w.out.1.size (h1.gH x e).1.1, fun c => (h1.gH x e).1.2 (sub_xr c)⟩, (h3.gH x e).2⟩⟩
   ·exact HL4.out.ne k e (by have h := List.mem_singleton.1 hk; unfold XR; rw [h]; simp)
   exact bR (hOo.row HK4.out.E (fun k e hk => hX k hk (HK4.out.E.lt k e).1)) K1w.out.1.size
 have HE := qh (qE (P := P) hE)
 have HBd := qh (eK (P := P) (by rw [qE (P := P) hE]; exact hE))
 obtain ⟨E, hE2⟩ : ∃ E, ckE p now next (fsts L) = E := ⟨_, rfl⟩
 have HE2 := qh hE2
 have hne : (E != 0) = true := by rw [bne_iff_ne, ← hE2]; exact hE
 rw [hE2] at hck
 clear hE hE2
 go_enter Tryz.func8, Tryz.ntmps8
 go_wp2_with fail
 refine (hck _ (HT.out.below K.out.1) (fun k hk => (HI.out k hk).below K.out.1)).mono ?_; rintro e w1 ⟨rfl, hb⟩
 replace K := qh (And.intro (K.out.1.trans (hb.mono K.out.1.size)) (And.intro (aN hb K.out.2.1) (aN hb K.out.2.2)))
 clear hb
 obtain ⟨q0, q1, q2, q3, q4, q5, q6⟩ := aK K.out.2.2
 obtain ⟨f0, f1, f2, f3, f4, f5, f6⟩ := bT K.out.2.2
 have ql := aB K.out.2.2
 go_wp2_with fail
 have KS := qh (bX K.out.1 K.out.2.2 (Nat.le_succ _) (.int .i64 0) (.int .i64 0) (.int .i64 0) (.int .i64 0) (.int .i64 0) (.int .i64 0) (.slice none 0 0))
 obtain ⟨s0, s1, s2, s3, s4, s5, s6⟩ := aK KS.out.2
 refine bodyPost_ret (v := .tuple #[tbV par0 0 0 (.slice none 0 0), .slice none 0 0, .int .i64 E]) ?_ rfl ?_
 ·simp [results, Tryz.f8, go_sem, s0, s1, s2, s3, s4, s5, s6, tbV, par0]
 rw [HE.out, HE2.out]
 exact cU HBd.out.1 HBd.out.2 KS.out.1
end Go.Proofs.YtikjjpjekchcjaaGreat
