/-
  TrkS, TrkOne
-/
import Derived.Test.YtikjjpjekchcjaaGreatPm43
set_option linter.all false
set_option maxRecDepth 100000
set_option maxHeartbeats 64000000
section
namespace Go.Proofs.YtikjjpjekchcjaaGreat
open Go.RowKit TrkMath MyHeap MyOwn MyCopy
theorem infoIn : (Tryz.prog.info? 3).map (fun i => (i.zero, i.size, i.bytes)) = some (some (.int .i64 0), 1, 8) := by kernel_rfl
theorem nY {w : World} {b off n : Nat} {l : List Int} (h : Alt.Ints w (some ⟨b, off, none⟩) n l) (hn : 0 < n) : ∀ j u, (Alt.flatI l)[j]? = some u → w.cell? ((⟨b, off, none⟩ : Addr).add j) = some u := by
 intro j u hu
 have hadd : (⟨b, off, none⟩ : Addr).add j = ⟨b, off + j, none⟩ := by unfold Addr.add; split <;> simp_all
 rw [hadd]
 rcases h.cells with h0 | ⟨b', off', e, hc⟩
 ·omega
 cases e
 unfold Alt.flatI at hu
 rw [List.getElem?_map] at hu
 have hj : j < l.length := by
  rcases Nat.lt_or_ge j l.length with q | q
  ·exact q
  rw [List.getElem?_eq_none q] at hu; cases hu
 rw [List.getElem?_eq_getElem hj] at hu
 rw [hc j (by rw [← h.len]; exact hj), ← hu]
 unfold AltMath.gi
 rw [List.getElem?_eq_getElem hj]
 rfl
theorem nW {w : World} {a : Option Addr} {n : Nat} {l : List Int} (h : Alt.Ints w a n l) (hn : 0 < n) : ∃ b off, a = some ⟨b, off, none⟩ := by
 rcases h.cells with h0 | ⟨b, off, e, -⟩
 ·omega
 exact ⟨b, off, e⟩
theorem gA {l : List Int} (h : l.length = 201) : (Alt.flatI l).length = 201 * 1 := by simp [Alt.flatI, h]
theorem oA (l : List Int) : ∀ u ∈ Alt.flatI l, u.oneCell' = true := by
 intro u hu
 unfold Alt.flatI at hu
 obtain ⟨x, -, rfl⟩ := List.mem_map.1 hu
 rfl
theorem lN {W W' : World} (hg : W.grownBy W' (Value.slice none 0 0).ownBlock) : Below W.heap.size W W' := ⟨hg.os, hg.tape, hg.output, hg.size, fun k hk => hg.block k hk (by simp [Value.ownBlock])⟩
theorem qX {W : World} {base : Nat} {e : TypeId} {s : Nat} {a : Option Addr} {n c : Nat} {xs : List Value} (h : W.ownsRow base e s (.slice a (0 + n) c) (0 + n) ([] ++ xs)) : W.ownsRow base e s (.slice a n c) n xs := by
 rw [Nat.zero_add, List.nil_append] at h
 exact h
def FdAt (L : List Tk) (id : Int) (k : Nat) : Prop := ∀ i, i < k → (gk L i).id ≠ id
theorem tk_ten {w : World} {T : Nat} {q : TB} (h : w.heap[T]? = some (.cells (tkC q) 55 (0, 0))) (v0 v1 v2 v3 v4 v5 v6 v7 v8 v9 : Value) :
    Only T w ((((((((((w.setCell ⟨T, 0, none⟩ v0).setCell ⟨T, 1, none⟩ v1).setCell ⟨T, 2, none⟩ v2).setCell ⟨T, 3, none⟩ v3).setCell ⟨T, 4, none⟩ v4).setCell ⟨T, 5, none⟩ v5).setCell ⟨T, 6, none⟩ v6).setCell ⟨T, 7, none⟩ v7).setCell ⟨T, 8, none⟩ v8).setCell ⟨T, 9, none⟩ v9) ∧
    ((((((((((w.setCell ⟨T, 0, none⟩ v0).setCell ⟨T, 1, none⟩ v1).setCell ⟨T, 2, none⟩ v2).setCell ⟨T, 3, none⟩ v3).setCell ⟨T, 4, none⟩ v4).setCell ⟨T, 5, none⟩ v5).setCell ⟨T, 6, none⟩ v6).setCell ⟨T, 7, none⟩ v7).setCell ⟨T, 8, none⟩ v8).setCell ⟨T, 9, none⟩ v9).heap[T]? = some (.cells #[v0, v1, v2, v3, v4, v5, v6, v7, v8, v9] 55 (0, 0)) := by
 refine ⟨((((((((((Only.refl _ _).setCell _ _).setCell _ _).setCell _ _).setCell _ _).setCell _ _).setCell _ _).setCell _ _).setCell _ _).setCell _ _).setCell _ _, ?_⟩
 have := aD (i := 9) (v := v9) (aD (i := 8) (v := v8) (aD (i := 7) (v := v7) (aD (i := 6) (v := v6) (aD (i := 5) (v := v5) (aD (i := 4) (v := v4) (aD (i := 3) (v := v3) (aD (i := 2) (v := v2) (aD (i := 1) (v := v1) (aD (i := 0) (v := v0) h)))))))))
 simpa [tkC] using this
theorem lG (p : Par) (now next id : Int) (a : Option Addr) (n c : Nat) (L : List TB) (w : World) (hT : TbI w a n L) :
    Calls Tryz.prog 14 #[tbV p now next (.slice a n c), .int .i64 id] w (FdPost (fdT p now next (fsts L) id) (fdE p now next (fsts L) id) w) := by
 have HT := qh hT
 have HLn := qh hT.T.len
 have hbn := hT.T.bound
 have K := qh (show Below w.heap.size w ((w.alloc (.cells #[.int .i64 p.gate, .int .i64 p.need, .int .i64 p.most, .int .i64 p.pull, .int .i64 now, .int .i64 next, .slice a n c] 26)).alloc (.cells (tkC (tk0, bs0)) 55)) ∧ ((w.alloc (.cells #[.int .i64 p.gate, .int .i64 p.need, .int .i64 p.most, .int .i64 p.pull, .int .i64 now, .int .i64 next, .slice a n c] 26)).alloc (.cells (tkC (tk0, bs0)) 55)).heap[w.heap.size]? = some (.cells #[.int .i64 p.gate, .int .i64 p.need, .int .i64 p.most, .int .i64 p.pull, .int .i64 now, .int .i64 next, .slice a n c] 26 (0, 0)) ∧ ((w.alloc (.cells #[.int .i64 p.gate, .int .i64 p.need, .int .i64 p.most, .int .i64 p.pull, .int .i64 now, .int .i64 next, .slice a n c] 26)).alloc (.cells (tkC (tk0, bs0)) 55)).heap[w.heap.size + 1]? = some (.cells (tkC (tk0, bs0)) 55 (0, 0)) from ⟨(aC w _).alloc (by simp) _, aG (aI w _ rfl), aI _ _ (by simp)⟩)
 have hck := gD p now next a n c L
 obtain ⟨i0, hi0, hz0, hs0, hb0⟩ := b6 infoIn
 have HF := qh (And.intro hi0 (And.intro hz0 (And.intro hs0 hb0)))
 clear hT hi0 hz0 hs0 hb0
 unfold tbV
 unfold tbV at hck
 by_cases hE : ckE p now next (fsts L) = 0
 ·have HE := qh hE
  have HCk := qh (show ∀ k, k < n → TkOk p (gt L k).1 from fun k hk => by
   rw [← mN]
   exact ckL_mem (ckE_zero hE).2.2 _ (lB (by rw [aY, HLn.out]; exact hk)))
  rw [hE] at hck
  clear hE
  go_enter Tryz.func14, Tryz.ntmps14
  go_wp2_with fail
  refine (hck _ (HT.out.below K.out.1).T (fun k hk => (HT.out.below K.out.1).B k hk)).mono ?_; rintro e w1 ⟨rfl, hb⟩
  replace K := qh (And.intro (K.out.1.trans (hb.mono K.out.1.size)) (And.intro (aN hb K.out.2.1) (aN hb K.out.2.2)))
  clear hb
  obtain ⟨x0, x1, x2, x3, x4, x5, x6⟩ := aK K.out.2.1
  have xl := aB K.out.2.1
  go_wp2_with fail
  clear x0 x1 x2 x3 x4 x5 x6 xl
  go_loopw [5, 18] (fun v5 kv wr => ∃ k : Nat, k ≤ n ∧ v5 = .int .i64 0 ∧ kv = .int .i64 k ∧ FdAt (fsts L) id k ∧ Below w1.heap.size w1 wr) (fun _ kv _ => n - (intOf kv).toNat)
  case atStart => exact ⟨0, by omega, rfl, rfl, fun i hi => absurd hi (Nat.not_lt_zero _), Below.refl _ _⟩
  case round =>
   obtain ⟨k, hk, rfl, rfl, hA, hB⟩ := hrel
   have HA := qh hA
   have B := qh hB
   have KW := qh (show Below w.heap.size w wr ∧ wr.heap[w.heap.size]? = some (.cells #[.int .i64 p.gate, .int .i64 p.need, .int .i64 p.most, .int .i64 p.pull, .int .i64 now, .int .i64 next, .slice a n c] 26 (0, 0)) ∧ wr.heap[w.heap.size + 1]? = some (.cells (tkC (tk0, bs0)) 55 (0, 0)) from ⟨K.out.1.trans (hB.mono K.out.1.size), aN hB K.out.2.1, aN hB K.out.2.2⟩)
   clear hA hB
   by_cases hlt : k < n
   ·obtain ⟨b, off, rfl, hq⟩ := eO (HT.out.below KW.out.1).T hlt
    have HLt := qh hlt
    have HQ := qh (mN L k)
    have HBd := qh ((HT.out.below KW.out.1).B k hlt)
    have HOk := qh (HCk.out k hlt)
    obtain ⟨q, hqe⟩ : ∃ q, gt L k = q := ⟨_, rfl⟩
    rw [hqe] at hq HQ HBd HOk
    obtain ⟨x0, x1, x2, x3, x4, x5, x6, x7, x8, x9⟩ := hq
    have xl := World.block_lt_of_cell? _ _ x0
    have hk0 : (0 : Int) ≤ (k : Int) := by omega
    have hk1 : (k : Int) < (n : Int) := by omega
    have hkw : IntKind.i64.wrap ((k : Int) + 1) = ((k + 1 : Nat) : Int) := by rw [IntWalk.i64_in _ (by omega)]; omega
    have BA := qh (B.out.trans ((aC wr (.cells (tkC q) 55)).mono B.out.size))
    have KA := qh (And.intro (KW.out.1.trans ((aC wr (.cells (tkC q) 55)).mono KW.out.1.size)) (And.intro (aN (aC wr (.cells (tkC q) 55)) KW.out.2.2) (aI wr (.cells (tkC q) 55 (0, 0)) rfl)))
    clear hqe hlt
    unfold tkC at KA BA
    obtain ⟨⟨tid, addr, rg, lo, hi, hits, misses, firm⟩, ⟨aL, nL, cL, aH, nH, cH⟩⟩ := q
    simp only [] at x0 x1 x2 x3 x4 x5 x6 x7 x8 x9 KA BA HBd HOk HQ
    by_cases hid : tid = id
    ·subst hid
     have HFd := qh (o8 (p := p) (now := now) (next := next) (L := fsts L) HE.out (by rw [aY, HLn.out]; exact HLt.out) (by rw [HQ.out]) HA.out)
     rw [HQ.out] at HFd
     obtain ⟨l1, l2, -⟩ := AltMath.chB_ok HOk.out.ch
     have e1 := HBd.out.L.len
     have e2 := HBd.out.H.len
     simp only [] at e1 e2 l1 l2
     obtain rfl : nL = 201 := by rw [← e1, l1]
     obtain rfl : nH = 201 := by rw [← e2, l2]
     obtain ⟨bL, oL, eL⟩ := nW HBd.out.L (show 0 < 201 by decide)
     obtain ⟨bH, oH, eH⟩ := nW HBd.out.H (show 0 < 201 by decide)
     simp only [] at eL eH
     subst eL
     subst eH
     have HLl := qh (And.intro l1 l2)
     clear l1 l2 e1 e2
     go_wp2_with fail
     clear x0 x1 x2 x3 x4 x5 x6 x7 x8 x9 xl
     obtain ⟨T, hT⟩ : ∃ T, T = wr.heap.size := ⟨_, rfl⟩
     rw [← hT] at KA ⊢
     have HTw := qh (show w.heap.size + 1 < T from by rw [hT]; exact aB KW.out.2.2)
     replace HBd := qh (HBd.out.below (aC wr (.cells #[.int .i64 tid, .int .i64 addr, .int .i64 rg.r, .int .i64 rg.v, .int .i64 rg.n, .slice (some ⟨bL, oL, none⟩) 201 cL, .slice (some ⟨bH, oH, none⟩) 201 cH, .int .i64 hits, .int .i64 misses, .bool firm] 55)))
     generalize wr.alloc (.cells #[.int .i64 tid, .int .i64 addr, .int .i64 rg.r, .int .i64 rg.v, .int .i64 rg.n, .slice (some ⟨bL, oL, none⟩) 201 cL, .slice (some ⟨bH, oH, none⟩) 201 cH, .int .i64 hits, .int .i64 misses, .bool firm] 55) = wa at *
     clear hT
     have KD := qh (show Below wa.heap.size wa wa.drew from aM (Below.refl _ _) 1)
     replace KA := qh (And.intro (KA.out.1.trans (KD.out.mono KA.out.1.size)) (And.intro (aN KD.out KA.out.2.1) (aN KD.out KA.out.2.2)))
     replace HBd := qh (HBd.out.below KD.out)
     clear KD
     have HS := qh KA.out.2.2
     refine MyHeldE.start (fun W => W.heap[T]? = some (.cells #[.int .i64 tid, .int .i64 addr, .int .i64 rg.r, .int .i64 rg.v, .int .i64 rg.n, .slice (some ⟨bL, oL, none⟩) 201 cL, .slice (some ⟨bH, oH, none⟩) 201 cH, .int .i64 hits, .int .i64 misses, .bool firm] 55 (0, 0))) [10] (by kernel_rfl) ?_
     have hHeld := HS.out
     generalize wa.drew = wd at *
     have HTd := qh (aB KA.out.2.2)
     refine MyHeldE.tk 0 ?_
     refine MyHeldE.tk 1 ?_
     refine MyHeldE.tk 2 (hy := fun w hSw => by obtain ⟨z0, z1, z2, z3, z4, z5, z6, z7, z8, z9⟩ := TkAt.block' (q := (⟨tid, addr, rg, lo, hi, hits, misses, firm⟩, ⟨some ⟨bL, oL, none⟩, 201, cL, some ⟨bH, oH, none⟩, 201, cH⟩)) hSw; simp only [] at z0 z1 z2 z3 z4 z5 z6 z7 z8 z9; go_simp; (try with_reducible rfl)) ?_
     refine MyHeldE.tk 4 ?_
     refine MyHeldE.tk 5 ?_
     refine MyHeldE.tk 6 (hy := fun w hSw => by obtain ⟨z0, z1, z2, z3, z4, z5, z6, z7, z8, z9⟩ := TkAt.block' (q := (⟨tid, addr, rg, lo, hi, hits, misses, firm⟩, ⟨some ⟨bL, oL, none⟩, 201, cL, some ⟨bH, oH, none⟩, 201, cH⟩)) hSw; simp only [] at z0 z1 z2 z3 z4 z5 z6 z7 z8 z9; go_simp; (try with_reducible rfl)) ?_
     refine MyHeldE.ready (rs := [3]) (by kernel_rfl) (by simp) ?_
     refine (MyHeldE.next 3 (MyHeld.at_rfl rfl) (fun Kq hKq => ?_) MyHeldE.All.nil)
     refine bC (by rfl) (.const (.slice none 0 0)) (.tmp 28) 51 (by rfl) wd.heap.size 3 i0 _ 1 8 Tryz.underlying51 HF.out.1 HF.out.2.1 HF.out.2.2.1 HF.out.2.2.2 (by rfl) (by decide) _ 0 [] (by rfl) ⟨rfl, Or.inl ⟨rfl, rfl⟩⟩ ⟨bL, oL, none⟩ 201 cL (Alt.flatI lo) (by rfl) (gA HLl.out.1) (nY HBd.out.L (show 0 < 201 by decide)) (oA lo) (by unfold maxLen; omega) (by omega) (Nat.le_refl _) ?_
     intro v1 w1 hown hg hat
     clear hat
     obtain ⟨a1, c1, rfl⟩ := aU hown
     have O1 := qh (qX hown)
     have hbl := lN hg
     clear hown hg
     have HSz := qh hbl.size
     replace KA := qh (And.intro (KA.out.1.trans (hbl.mono KA.out.1.size)) (And.intro (aN hbl KA.out.2.1) (aN hbl KA.out.2.2)))
     replace HBd := qh (HBd.out.below hbl)
     have hHeld2 := KA.out.2.2
     refine hKq.out _ _ (fun _ => hHeld2) ?_
     clear hKq Kq hHeld
     have hHeld := hHeld2
     clear hHeld2
     try simp only [Act.put, List.setIfInBounds_toArray, List.set_cons_zero, List.set_cons_succ]
     refine MyHeldE.ready (rs := [7]) (by kernel_rfl) (by simp) ?_
     refine (MyHeldE.next 7 (MyHeld.at_rfl rfl) (fun Kq hKq => ?_) MyHeldE.All.nil)
     refine bC (by rfl) (.const (.slice none 0 0)) (.tmp 32) 51 (by rfl) w1.heap.size 3 i0 _ 1 8 Tryz.underlying51 HF.out.1 HF.out.2.1 HF.out.2.2.1 HF.out.2.2.2 (by rfl) (by decide) _ 0 [] (by rfl) ⟨rfl, Or.inl ⟨rfl, rfl⟩⟩ ⟨bH, oH, none⟩ 201 cH (Alt.flatI hi) (by rfl) (gA HLl.out.2) (nY HBd.out.H (show 0 < 201 by decide)) (oA hi) (by unfold maxLen; omega) (by omega) (Nat.le_refl _) ?_
     intro v2 w2 hown hg hat
     clear hat
     obtain ⟨a2, c2, rfl⟩ := aU hown
     have O2 := qh (qX hown)
     have hbl := lN hg
     clear hown hg
     have HF1 := qh (fun x (e : (Value.slice a1 201 c1).ownBlock = some x) => (O1.out.lt x e).2)
     replace O1 := qh (aO O1.out hbl (Nat.le_refl _))
     replace KA := qh (And.intro (KA.out.1.trans (hbl.mono KA.out.1.size)) (And.intro (aN hbl KA.out.2.1) (aN hbl KA.out.2.2)))
     replace HBd := qh (HBd.out.below hbl)
     have hHeld2 := KA.out.2.2
     refine hKq.out _ _ (fun _ => hHeld2) ?_
     clear hKq Kq hHeld
     have hHeld := hHeld2
     clear hHeld2
     try simp only [Act.put, List.setIfInBounds_toArray, List.set_cons_zero, List.set_cons_succ]
     refine MyHeldE.tk 8 ?_
     refine MyHeldE.tk 9 ?_
     have HTO := qh (show Alt.TwoOwn wd.heap.size (.slice a1 201 c1) (.slice a2 201 c2) lo hi w2 from ⟨by have h := O1.out; rw [HLl.out.1]; exact O1.out, by have h := O2.out; rw [HLl.out.2]; exact bR O2.out HSz.out, fun x e1 e2 => by have h1 := HF1.out x e1; have h2 := (O2.out.lt x e2).1; omega⟩)
     obtain ⟨z0, z1, z2, z3, z4, z5, z6, z7, z8, z9⟩ := TkAt.block' (q := (⟨tid, addr, rg, lo, hi, hits, misses, firm⟩, ⟨some ⟨bL, oL, none⟩, 201, cL, some ⟨bH, oH, none⟩, 201, cH⟩)) KA.out.2.2
     simp only [] at z0 z1 z2 z3 z4 z5 z6 z7 z8 z9
     obtain ⟨f0, f1, f2, f3, f4, f5, f6, f7, f8, f9⟩ := aX (q := (⟨tid, addr, rg, lo, hi, hits, misses, firm⟩, ⟨some ⟨bL, oL, none⟩, 201, cL, some ⟨bH, oH, none⟩, 201, cH⟩)) KA.out.2.2
     have tl := aB KA.out.2.2
     refine MyHeldE.ready (rs := [10]) (by kernel_rfl) (by simp) ?_
     refine (MyHeldE.next 10 (MyHeld.at_rfl rfl) (fun Kq hKq => ?_) MyHeldE.All.nil)
     go_simp
     refine hKq.out _ _ (fun e => by cases e) ?_
     clear hKq Kq
     try simp only [Act.put, List.setIfInBounds_toArray, List.set_cons_zero, List.set_cons_succ]
     refine MyHeldE.done (by kernel_rfl) ?_ _
     clear f0 f1 f2 f3 f4 f5 f6 f7 f8 f9 z0 z1 z2 z3 z4 z5 z6 z7 z8 z9 tl hHeld
     have KW2 := qh (iJ (t := ⟨tid, addr, rg, lo, hi, hits, misses, firm⟩) (s := ⟨some ⟨bL, oL, none⟩, 201, cL, some ⟨bH, oH, none⟩, 201, cH⟩) KA.out.2.2 lo hi a1 a2 201 c1 201 c2)
     have HBn := qh ((kA (w := wd) (t := ⟨tid, addr, rg, lo, hi, hits, misses, firm⟩) HTO.out (Nat.le_refl _) HLl.out.1 HLl.out.2 (w.heap.size + 2) [some T] (by have := HTw.out; have := HTd.out; omega) (fun x e => by have := Option.some.inj (List.mem_singleton.1 e); have := HTd.out; omega)).outs (Outs.of_only KW2.out.2 (List.mem_singleton.2 rfl)))
     replace KA := qh (And.intro (KA.out.1.trans (KW2.out.2.below (by have := HTw.out; omega) KA.out.1.size)) (And.intro (KW2.out.2.keeps KA.out.2.1 (by have := HTw.out; omega)) KW2.out.1))
     clear KW2 HTO
     generalize (w2.setCell ⟨T, 5, none⟩ (.slice a1 201 c1)).setCell ⟨T, 6, none⟩ (.slice a2 201 c2) = w5 at *
     obtain ⟨z0, z1, z2, z3, z4, z5, z6, z7, z8, z9⟩ := TkAt.block' (q := (⟨tid, addr, rg, lo, hi, hits, misses, firm⟩, ⟨a1, 201, c1, a2, 201, c2⟩)) KA.out.2.2
     simp only [] at z0 z1 z2 z3 z4 z5 z6 z7 z8 z9
     have tl := aB KA.out.2.2
     obtain ⟨q0, q1, q2, q3, q4, q5, q6, q7, q8, q9⟩ := TkAt.block' (q := (tk0, bs0)) KA.out.2.1
     simp only [tk0, bs0, rg0] at q0 q1 q2 q3 q4 q5 q6 q7 q8 q9
     obtain ⟨f0, f1, f2, f3, f4, f5, f6, f7, f8, f9⟩ := aX (q := (tk0, bs0)) KA.out.2.1
     have ql := aB KA.out.2.1
     go_wp2_with fail
     have KS := qh (tk_ten (q := (tk0, bs0)) KA.out.2.1 (.int .i64 tid) (.int .i64 addr) (.int .i64 rg.r) (.int .i64 rg.v) (.int .i64 rg.n) (.slice a1 201 c1) (.slice a2 201 c2) (.int .i64 hits) (.int .i64 misses) (.bool firm))
     obtain ⟨s0, s1, s2, s3, s4, s5, s6, s7, s8, s9⟩ := TkAt.block' (q := (⟨tid, addr, rg, lo, hi, hits, misses, firm⟩, ⟨a1, 201, c1, a2, 201, c2⟩)) KS.out.2
     simp only [] at s0 s1 s2 s3 s4 s5 s6 s7 s8 s9
     refine bodyPost_ret (v := .tuple #[tkV (⟨tid, addr, rg, lo, hi, hits, misses, firm⟩, ⟨a1, 201, c1, a2, 201, c2⟩), .int .i64 0]) ?_ rfl ?_
     ·simp [results, Tryz.f14, go_sem, s0, s1, s2, s3, s4, s5, s6, s7, s8, s9, tkV, tkC]
     rw [HFd.out.1, HFd.out.2]
     have h1 := HBn.out
     have h2 : BdX (w.heap.size + 2) [some (w.heap.size + 1)] w5 (⟨tid, addr, rg, lo, hi, hits, misses, firm⟩, ⟨a1, 201, c1, a2, 201, c2⟩) := ⟨h1.L, h1.H, fun x e => ⟨⟨(h1.gL x e).1.1, fun c => by have := (h1.gL x e).1.1; have := Option.some.inj (List.mem_singleton.1 c); omega⟩, (h1.gL x e).2⟩, fun x e => ⟨⟨(h1.gH x e).1.1, fun c => by have := (h1.gH x e).1.1; have := Option.some.inj (List.mem_singleton.1 c); omega⟩, (h1.gH x e).2⟩⟩
     have h3 := h2.outs (Outs.of_only (X := [some (w.heap.size + 1)]) KS.out.1 (List.mem_singleton.2 rfl))
     exact ⟨⟨a1, 201, c1, a2, 201, c2⟩, rfl, (h3.turn (Y := []) (fun x e => by cases e)).base (by omega), KA.out.1.trans (KS.out.1.below (Nat.le_succ _) KA.out.1.size)⟩
    have hnb : (tid == id) = false := beq_eq_false_iff_ne.2 hid
    go_wp2_with fail
    refine ⟨⟨k + 1, HLt.out, rfl, by go_num, fun i hi => ?_, BA.out⟩, by simp [intOf]; have := HLt.out; omega⟩
    by_cases e : i = k
    ·subst e; rw [HQ.out]; exact hid
    exact HA.out i (by omega)
   obtain rfl : n = k := by omega
   have HE9 := qh (fdE_no (p := p) (now := now) (next := next) HE.out (fun i hi => HA.out i (by rw [aY, HLn.out] at hi; exact hi)))
   obtain ⟨q0, q1, q2, q3, q4, q5, q6, q7, q8, q9⟩ := TkAt.block' (q := (tk0, bs0)) KW.out.2.2
   simp only [tk0, bs0, rg0] at q0 q1 q2 q3 q4 q5 q6 q7 q8 q9
   obtain ⟨f0, f1, f2, f3, f4, f5, f6, f7, f8, f9⟩ := aX (q := (tk0, bs0)) KW.out.2.2
   have ql := aB KW.out.2.2
   go_wp2_with fail
   have KS := qh (tk_ten KW.out.2.2 (.int .i64 0) (.int .i64 0) (.int .i64 0) (.int .i64 0) (.int .i64 0) (.slice none 0 0) (.slice none 0 0) (.int .i64 0) (.int .i64 0) (.bool false))
   obtain ⟨s0, s1, s2, s3, s4, s5, s6, s7, s8, s9⟩ := TkAt.block' (q := (tk0, bs0)) KS.out.2
   simp only [tk0, bs0, rg0] at s0 s1 s2 s3 s4 s5 s6 s7 s8 s9
   refine bodyPost_ret (v := .tuple #[tkV (tk0, bs0), .int .i64 9]) ?_ rfl ?_
   ·simp [results, Tryz.f14, go_sem, s0, s1, s2, s3, s4, s5, s6, s7, s8, s9, tkV, tkC, tk0, bs0, rg0]
   rw [HE9.out.1, HE9.out.2]
   exact ⟨bs0, rfl, mC _ _ _, KW.out.1.trans (KS.out.1.below (Nat.le_succ _) KW.out.1.size)⟩
 have HE := qh (fdE_ck (id := id) hE)
 obtain ⟨E, hE2⟩ : ∃ E, ckE p now next (fsts L) = E := ⟨_, rfl⟩
 have HE2 := qh hE2
 have hne : (E != 0) = true := by rw [bne_iff_ne, ← hE2]; exact hE
 rw [hE2] at hck
 clear hE hE2
 go_enter Tryz.func14, Tryz.ntmps14
 go_wp2_with fail
 refine (hck _ (HT.out.below K.out.1).T (fun k hk => (HT.out.below K.out.1).B k hk)).mono ?_; rintro e w1 ⟨rfl, hb⟩
 replace K := qh (And.intro (K.out.1.trans (hb.mono K.out.1.size)) (And.intro (aN hb K.out.2.1) (aN hb K.out.2.2)))
 clear hb
 obtain ⟨q0, q1, q2, q3, q4, q5, q6, q7, q8, q9⟩ := TkAt.block' (q := (tk0, bs0)) K.out.2.2
 simp only [tk0, bs0, rg0] at q0 q1 q2 q3 q4 q5 q6 q7 q8 q9
 obtain ⟨f0, f1, f2, f3, f4, f5, f6, f7, f8, f9⟩ := aX (q := (tk0, bs0)) K.out.2.2
 have ql := aB K.out.2.2
 go_wp2_with fail
 have KS := qh (tk_ten K.out.2.2 (.int .i64 0) (.int .i64 0) (.int .i64 0) (.int .i64 0) (.int .i64 0) (.slice none 0 0) (.slice none 0 0) (.int .i64 0) (.int .i64 0) (.bool false))
 obtain ⟨s0, s1, s2, s3, s4, s5, s6, s7, s8, s9⟩ := TkAt.block' (q := (tk0, bs0)) KS.out.2
 simp only [tk0, bs0, rg0] at s0 s1 s2 s3 s4 s5 s6 s7 s8 s9
 refine bodyPost_ret (v := .tuple #[tkV (tk0, bs0), .int .i64 E]) ?_ rfl ?_
 ·simp [results, Tryz.f14, go_sem, s0, s1, s2, s3, s4, s5, s6, s7, s8, s9, tkV, tkC, tk0, bs0, rg0]
 rw [HE.out.1, HE.out.2, HE2.out]
 exact ⟨bs0, rfl, mC _ _ _, K.out.1.trans (KS.out.1.below (Nat.le_succ _) K.out.1.size)⟩
end Go.Proofs.YtikjjpjekchcjaaGreat
end
section
namespace TrkMath
open AltMath GrayMath AsgMath
theorem nT {c : Nat → Nat → Int} {n m : Nat} (h : ∀ i k, i < n → k < m → c i k < 0) : ∀ (r : Nat) (T : Nat → Bool), r ≤ n → bestL c n m r T = []
 | 0, _, _ => rfl
 | r + 1, T, hr => by
  rw [(fG (kO (fun j hj => ?_))).1, nT h r T (by omega)]
  cases hb : takeB c n m r T j with
  | false => rfl
  | true =>
   have := (dN.1 hb).1.1
   have := h (n - (r + 1)) j (by omega) hj
   omega
theorem prsV_none {p : Par} {L : List Tk} {P : List Pl} (h : ∀ i k, i < L.length → k < P.length → costV p (gk L i) (gp P k) (lvOf (gp P k)) < 0) : prsV p L P = [] := by
 unfold prsV
 by_cases h0 : 0 < L.length
 ·refine nT (fun i k hi hk => ?_) _ _ (Nat.le_refl _)
  rw [d6] at hi
  rw [eY h0] at hk
  rw [iV hi hk]
  exact h i k hi hk
 have : L = [] := List.length_eq_zero_iff.1 (by omega)
 subst this
 rfl
theorem prsV_one {p : Par} {t : Tk} {y : Pl} (hp : ParOk p) (h : 0 ≤ costV p t y (lvOf y)) : prsV p [t] [y] = [(0, 0)] := by
 have hx : AsgRows.ent (rowsV p [t] [y]) 0 0 = costV p t y (lvOf y) := iV (by simp) (by simp)
 have hw : AsgRows.wid (rowsV p [t] [y]) = 1 := eY (by simp)
 have hl : (rowsV p [t] [y]).length = 1 := d6 _ _ _
 have hhi := costV_hi hp t y (lvOf y)
 unfold prsV
 rw [hw, hl]
 obtain ⟨c, hc⟩ : ∃ c, AsgRows.ent (rowsV p [t] [y]) = c := ⟨_, rfl⟩
 obtain ⟨x, hxe⟩ : ∃ x, costV p t y (lvOf y) = x := ⟨_, rfl⟩
 rw [hc] at hx ⊢
 rw [hxe] at hx h hhi
 have hf : firstK (takeB c 1 1 0 (fun _ => false)) 1 = some 0 := by
  refine iX (by decide) ?_ (fun j hj => absurd hj (Nat.not_lt_zero _))
  rw [dN]
  refine ⟨⟨by rw [hx]; exact h, rfl⟩, ?_⟩
  have ho : okB c (fun _ => false) 0 0 = true := fV.2 ⟨by rw [hx]; exact h, rfl⟩
  simp only [V, bestK, Nat.sub_self, Nat.zero_add, ho, if_true, hx]
  omega
 rw [gS hf]
 rfl
/-! ### bands with a truth -/
theorem in_some {lo hi : List Int} (h : chB lo hi = 0) {z v : Int} (hin : inB lo hi z v) : emptyB lo hi = false := by
 unfold emptyB
 rw [(in_spread h hin).1]
 decide
theorem ch_stp (p : Par) (t : Tk) : chB (stpT p t).lo (stpT p t).hi = 0 := ch_st
theorem in_stp {p : Par} {t : Tk} (hp : ParOk p) (h : chB t.lo t.hi = 0) {z v z' v' : Int} (hin : inB t.lo t.hi z v) (hz : z' = z + v) (z1 : -1000 ≤ z') (z2 : z' ≤ 50000) (v1 : -100 ≤ v') (v2 : v' ≤ 100) (d1 : v' - v ≤ p.pull) (d2 : v - v' ≤ p.pull) : inB (stpT p t).lo (stpT p t).hi z' v' := by
 have hq := hp.2.2.2.1
 exact in_step h hin hz z1 z2 v1 v2 (by omega) (by omega)
theorem in_stpS {p : Par} {t : Tk} (hp : ParOk p) (h : chB t.lo t.hi = 0) {z : Int} (hin : inB t.lo t.hi z 0) (z1 : -1000 ≤ z) (z2 : z ≤ 50000) : inB (stpT p t).lo (stpT p t).hi z 0 :=
 in_stp hp h hin (by omega) z1 z2 (by decide) (by decide) (by have := hp.2.2.2.1; omega) (by have := hp.2.2.2.1; omega)
/-! ### small tables -/
theorem cyS_nil (p : Par) : cyS p [] = ([], []) := rfl
theorem jK {p : Par} {t : Tk} (h : emptyB (stpT p t).lo (stpT p t).hi = false) : cyS p [t] = ([stpT p t], []) := by
 show stpA p [t] 1 = _
 rw [eU (show emptyB (stpT p (gk [t] 0)).lo (stpT p (gk [t] 0)).hi = false from h)]
 rfl
theorem cyP_nil (p : Par) (P : List Pl) : cyP p [] P = [] := rfl
theorem cyU_nil (p : Par) (P : List Pl) : cyU p [] P = ([], []) := rfl
theorem cyN_nil0 (p : Par) (next : Int) : cyN p next [] [] = ⟨[], [], next⟩ := rfl
theorem cyN_nil_no {p : Par} {next : Int} {y : Pl} (h : ¬ 0 < (lvOf y).2) : cyN p next [] [y] = ⟨[], [], next⟩ := by
 show staA p [y] (usB []) [] next 1 = _
 rw [cZ (P := [y]) (k := 0) (Or.inr (Or.inl (show ¬ 0 < (lvOf y).2 from h)))]
 rfl
theorem pQ {p : Par} {next : Int} {y : Pl} (h : 0 < (lvOf y).2) : cyN p next [] [y] = ⟨[newT p next y (lvOf y)], [⟨5, next, 0⟩], next + 1⟩ := by
 show staA p [y] (usB []) [] next 1 = _
 rw [kD (fun e => by
  rcases e with e | e | e
  ·cases e
  ·exact e h
  exact absurd e (by simp [staA]))]
 rfl
theorem cyP_mis {p : Par} {t : Tk} (h : emptyB (stpT p t).lo (stpT p t).hi = false) : cyP p [t] [] = [] := by
 unfold cyP
 rw [jK h]
 exact prsV_none fun i k _ hk => absurd hk (Nat.not_lt_zero _)
theorem cyU_mis {p : Par} {t : Tk} (h : emptyB (stpT p t).lo (stpT p t).hi = false) : cyU p [t] [] = (updT1 p [] (stpT p t) none, updE1 p (stpT p t) none) := by
 unfold cyU
 rw [cyP_mis h, jK h]
 rfl
theorem cy_mis {p : Par} {next : Int} {t : Tk} (h : emptyB (stpT p t).lo (stpT p t).hi = false) : cyT p next [t] [] = updT1 p [] (stpT p t) none ∧ cyV p next [t] [] = updE1 p (stpT p t) none ∧ cyX p next [t] [] = next := by
 have hN : cyN p next [t] [] = ⟨updT1 p [] (stpT p t) none, [], next⟩ := by
  unfold cyN
  rw [cyU_mis h]
  rfl
 refine ⟨by unfold cyT; rw [hN], ?_, by unfold cyX; rw [hN]⟩
 unfold cyV
 rw [hN, cyU_mis h, jK h]
 simp
theorem cyP_hit {p : Par} {t : Tk} {y : Pl} (hp : ParOk p) (h : emptyB (stpT p t).lo (stpT p t).hi = false) (hc : 0 ≤ costV p (stpT p t) y (lvOf y)) : cyP p [t] [y] = [(0, 0)] := by
 unfold cyP
 rw [jK h]
 exact prsV_one hp hc
theorem cyU_hit {p : Par} {t : Tk} {y : Pl} (hp : ParOk p) (h : emptyB (stpT p t).lo (stpT p t).hi = false) (hc : 0 ≤ costV p (stpT p t) y (lvOf y)) : cyU p [t] [y] = ([updT p (stpT p t) y (lvOf y)], updE1 p (stpT p t) (some 0)) := by
 unfold cyU
 rw [cyP_hit hp h hc, jK h]
 rfl
theorem cy_hit {p : Par} {next : Int} {t : Tk} {y : Pl} (hp : ParOk p) (h : emptyB (stpT p t).lo (stpT p t).hi = false) (hc : 0 ≤ costV p (stpT p t) y (lvOf y)) : cyT p next [t] [y] = [updT p (stpT p t) y (lvOf y)] ∧ cyV p next [t] [y] = updE1 p (stpT p t) (some 0) ∧ cyX p next [t] [y] = next := by
 have hN : cyN p next [t] [y] = ⟨[updT p (stpT p t) y (lvOf y)], [], next⟩ := by
  unfold cyN
  rw [cyU_hit hp h hc, cyP_hit hp h hc]
  show staA p [y] (usB [(0, 0)]) _ next 1 = _
  rw [cZ (Or.inl rfl)]
  rfl
 refine ⟨by unfold cyT; rw [hN], ?_, by unfold cyX; rw [hN]⟩
 unfold cyV
 rw [hN, cyU_hit hp h hc, jK h]
 simp
theorem ckE_nil {p : Par} {now next : Int} (hp : ParOk p) (h1 : 0 ≤ now ∧ now ≤ 1073741824) (h2 : 0 ≤ next ∧ next ≤ 1073741824) : ckE p now next [] = 0 := by
 rw [iT (headNot ⟨hp, h1, h2⟩) (by decide)]
 rfl
theorem ckE_one {p : Par} {now next : Int} {t : Tk} (hp : ParOk p) (h1 : 0 ≤ now ∧ now ≤ 1073741824) (h2 : 0 ≤ next ∧ next ≤ 1073741824) (h3 : 0 ≤ t.id ∧ t.id < next) (h : TkOk p t) : ckE p now next [t] = 0 := by
 rw [iT (headNot ⟨hp, h1, h2⟩) (by simp)]
 refine ckL_of (fun k hk => ?_) (fun j k hj hk => ?_)
 ·have : k = 0 := by simpa using hk
  subst this
  have e : gk [t] 0 = t := rfl
  rw [e]
  exact ⟨by omega, h3.2, h⟩
 have : k = 0 := by simpa using hk
 omega
theorem lC {p : Par} {now next : Int} {L : List Tk} {P : List Pl} (h : ckE p now next L = 0) (h1 : now < 1073741824) (h2 : next ≤ 1073741808) (hP : P.length ≤ 16) (hp : plsE P = 0) : cyE p now next L P = 0 := by
 rw [mA h (by omega) (by omega)]
 exact hp
theorem TkOk.new {p : Par} {id : Int} {y : Pl} (hp : ParOk p) (hy : plE y = 0) (hc : 0 ≤ y.code) : TkOk p (newT p id y (lvOf y)) := by
 have hb := (fL hy).1
 have hr : 0 ≤ y.r ∧ y.r ≤ 8192 := Decidable.not_not.1 fun e => hb (Or.inl e)
 have hm := jH hy ((mK hy).2 hc)
 have hne : nwE y.r = 0 := if_neg (by omega)
 have hrg : nwX y.r = ⟨256 * y.r, 0, 1⟩ := if_pos hne
 have hm3 := rF hm
 have hch : chB (loK (neF (lvOf y).1 (lvOf y).2) 201) (hiK (neF (lvOf y).1 (lvOf y).2) 201) = 0 := ch_nm fun i _ => by
  unfold neF
  dsimp only
  omega
 refine ⟨Decidable.not_not.1 fun e => hb (Or.inr (Or.inr e)), ?_, show (1 : Int) ≤ 1 ∧ (1 : Int) ≤ 1073741824 by decide, ?_, ?_, hch, ?_⟩
 ·show rgE (nwX y.r) = 0
  rw [hrg]
  refine rgE_ok ?_
  unfold rgBad
  dsimp only
  omega
 ·exact ⟨Int.le_refl _, by have h := hp.2.2.1; show 0 ≤ p.most - 1; omega⟩
 ·show decide (p.need = 1) = decide (p.need ≤ 1)
  congr 1
  exact propext ⟨fun e => by omega, fun e => by have := hp.2.1; omega⟩
 exact in_some hch (in_new (z := (lvOf y).1) (v := 0) (by decide) (Int.le_refl _) (by omega) (by omega))
theorem qZ {p : Par} {P : List Pl} {t : Tk} (h : p.most ≤ t.misses + 1) : updT1 p P t none = [] ∧ updE1 p t none = [⟨4, t.id, -1⟩] := ⟨if_pos h, if_pos h⟩
theorem l6 {p : Par} {P : List Pl} {t : Tk} (h : ¬ p.most ≤ t.misses + 1) : updT1 p P t none = [misT t] ∧ updE1 p t none = [⟨3, t.id, -1⟩] := ⟨if_neg h, if_neg h⟩
theorem updE1_two {p : Par} {t : Tk} {k : Nat} (h : t.firm = false) (h2 : p.need ≤ hit1 t) : updE1 p t (some k) = [⟨1, t.id, k⟩, ⟨2, t.id, k⟩] := if_pos ⟨h, h2⟩
/-! ### the chapter's examples -/
def pG : Par := ⟨8, 2, 3, 4⟩
theorem nC : ParOk pG := by unfold ParOk pG; decide
def y1 : Pl := ⟨100, 4156, -1⟩
def y2 : Pl := ⟨107, -1, 9⟩
def y3 : Pl := ⟨5, -1, 3⟩
theorem lv1 : lvOf y1 = (0, 25) := by kernel_rfl
theorem lv2 : lvOf y2 = (0, 0) := by kernel_rfl
theorem lv3 : lvOf y3 = (0, 0) := by kernel_rfl
theorem pe1 : plE y1 = 0 := by kernel_rfl
theorem pe2 : plE y2 = 0 := by kernel_rfl
theorem pe3 : plE y3 = 0 := by kernel_rfl
def t1 : Tk := newT pG 0 y1 (0, 25)
def u1 : Tk := stpT pG t1
def t2 : Tk := updT pG u1 y2 (0, 0)
def u2 : Tk := stpT pG t2
def t3 : Tk := misT u2
def u3 : Tk := stpT pG t3
def t4 : Tk := misT u3
def u4 : Tk := stpT pG t4
structure Aw (t : Tk) : Prop where
 ok : TkOk pG t
 it : inB t.lo t.hi 0 0
theorem Aw.stp {t : Tk} (h : Aw t) : emptyB (stpT pG t).lo (stpT pG t).hi = false ∧ Aw (stpT pG t) := by
 have hi := in_stpS nC h.ok.ch h.it (by decide) (by decide)
 have he := in_some (ch_stp pG t) hi
 exact ⟨he, h.ok.stp he, hi⟩
theorem aw1 : Aw t1 := by
 have h := TkOk.new (id := 0) nC pe1 (by decide)
 rw [lv1] at h
 exact ⟨h, in_new (by decide) (by decide) (by decide) (by decide)⟩
theorem prV1 : prV ⟨25600, 0, 1⟩ 1 = 25600 := by kernel_rfl
theorem off1 : offV u1 y2 = 1792 := by
 show max (256 * 107 - prV ⟨25600, 0, 1⟩ (0 + 1)) (-(256 * 107 - prV ⟨25600, 0, 1⟩ (0 + 1))) = 1792
 rw [show (0 : Int) + 1 = 1 from rfl, prV1]
 decide
theorem cost1 : costV pG u1 y2 (lvOf y2) = 67328 := by
 have hb : ¬ bothB u1 y2 := fun e => absurd e.1 (by show ¬ (0 : Int) ≤ -1; decide)
 have hf : ¬ farB pG u1 y2 := by
  rintro (e | e)
  ·rw [off1] at e; exact absurd e (by show ¬ (256 * 8 : Int) < 1792; decide)
  exact hb e.1
 have hm := p8 (lo := u1.lo) (hi := u1.hi) (l := lvOf y2) (by rw [lv2]; decide)
 rw [dO hf (by rw [hm.1, hm.2]; exact aw1.stp.1) hb, off1]
 decide
theorem upx1 : upX ⟨25600, 0, 1⟩ 107 1 = ⟨27392, 1792, 2⟩ := by kernel_rfl
theorem t2_eq : t2 = ⟨0, 9, ⟨27392, 1792, 2⟩, u1.lo, u1.hi, 2, 0, true⟩ := by
 have hm := p8 (lo := u1.lo) (hi := u1.hi) (l := ((0 : Int), (0 : Int))) (by decide)
 unfold t2 updT
 rw [hm.1, hm.2]
 show Tk.mk 0 (if (-1 : Int) < 0 then 9 else -1) (upX ⟨25600, 0, 1⟩ 107 (0 + 1)) _ _ _ _ _ = _
 rw [show (0 : Int) + 1 = 1 from rfl, upx1]
 rfl
theorem aw2 : Aw t2 := by
 have h := aw1.stp.2
 rw [t2_eq]
 exact ⟨⟨by decide, by decide, by decide, by decide, by decide, h.ok.ch, h.ok.some⟩, h.it⟩
theorem t3_eq : t3 = { u2 with misses := 1 } := rfl
theorem mis2 : u2.misses = 0 ∧ u2.id = 0 := by
 have e : u2.misses = t2.misses ∧ u2.id = t2.id := ⟨rfl, rfl⟩
 rw [e.1, e.2, t2_eq]
 exact ⟨rfl, rfl⟩
theorem Aw.mis {t : Tk} (h : Aw t) (hm : t.misses + 1 ≤ 2) : Aw (misT t) :=
 ⟨⟨h.ok.addr, h.ok.rg, h.ok.hits, ⟨by have := h.ok.mis; show 0 ≤ t.misses + 1; omega, by show t.misses + 1 ≤ 3 - 1; omega⟩, h.ok.firm, h.ok.ch, h.ok.some⟩, h.it⟩
theorem aw3 : Aw t3 := aw2.stp.2.mis (by have h : (stpT pG t2).misses = 0 := mis2.1; omega)
theorem lZ (p : Par) (t : Tk) : (stpT p t).misses = t.misses ∧ (stpT p t).id = t.id := ⟨rfl, rfl⟩
theorem j7 (t : Tk) : (misT t).misses = t.misses + 1 ∧ (misT t).id = t.id := ⟨rfl, rfl⟩
theorem mis3 : u3.misses = 1 ∧ u3.id = 0 := by
 unfold u3 t3
 rw [(lZ _ _).1, (lZ _ _).2, (j7 _).1, (j7 _).2, mis2.1, mis2.2]
 exact ⟨rfl, rfl⟩
theorem aw4 : Aw t4 := aw3.stp.2.mis (by have h : (stpT pG t3).misses = 1 := mis3.1; omega)
theorem mis4 : u4.misses = 2 ∧ u4.id = 0 := by
 unfold u4 t4
 rw [(lZ _ _).1, (lZ _ _).2, (j7 _).1, (j7 _).2, mis3.1, mis3.2]
 exact ⟨rfl, rfl⟩
theorem Aw.ck {t : Tk} (h : Aw t) (hid : t.id = 0) {now : Int} (hn : 0 ≤ now ∧ now ≤ 10) : ckE pG now 1 [t] = 0 :=
 ckE_one nC (by omega) (by decide) (by rw [hid]; decide) h.ok
theorem id2 : t2.id = 0 := by rw [t2_eq]
theorem ex1 : cyE pG 0 0 [] [y1] = 0 ∧ cyT pG 0 [] [y1] = [t1] ∧ cyV pG 0 [] [y1] = [⟨5, 0, 0⟩] ∧ cyX pG 0 [] [y1] = 1 := by
 have hN := pQ (p := pG) (next := 0) (y := y1) (by rw [lv1]; decide)
 refine ⟨lC (ckE_nil nC (by decide) (by decide)) (by decide) (by decide) (by decide) (by unfold plsE; rw [if_neg (fun e => e pe1)]; rfl), ?_, ?_, ?_⟩
 ·unfold cyT; rw [hN, lv1]; rfl
 ·unfold cyV; rw [hN, cyU_nil, cyS_nil]; rfl
 unfold cyX; rw [hN]; rfl
theorem ex2 : cyE pG 1 1 [t1] [y2] = 0 ∧ cyT pG 1 [t1] [y2] = [t2] ∧ cyV pG 1 [t1] [y2] = [⟨1, 0, 0⟩, ⟨2, 0, 0⟩] ∧ cyX pG 1 [t1] [y2] = 1 := by
 have h := cy_hit (p := pG) (next := 1) (t := t1) (y := y2) nC aw1.stp.1 (by rw [show stpT pG t1 = u1 from rfl, cost1]; decide)
 refine ⟨lC (aw1.ck rfl (by decide)) (by decide) (by decide) (by decide) (by unfold plsE; rw [if_neg (fun e => e pe2)]; rfl), ?_, ?_, h.2.2⟩
 ·rw [h.1, lv2]; rfl
 rw [h.2.1]
 show updE1 pG u1 (some 0) = _
 rw [updE1_two (by rfl) (by decide)]
 rfl
theorem ex3 : cyE pG 2 1 [t2] [] = 0 ∧ cyT pG 1 [t2] [] = [t3] ∧ cyV pG 1 [t2] [] = [⟨3, 0, -1⟩] ∧ cyX pG 1 [t2] [] = 1 := by
 have h := cy_mis (p := pG) (next := 1) (t := t2) aw2.stp.1
 have hm : ¬ pG.most ≤ u2.misses + 1 := by rw [mis2.1]; decide
 refine ⟨lC (aw2.ck id2 (by decide)) (by decide) (by decide) (by decide) rfl, ?_, ?_, h.2.2⟩
 ·rw [h.1]; exact (l6 (P := []) hm).1
 rw [h.2.1, ← mis2.2]
 exact (l6 (P := []) hm).2
theorem ex4 : cyE pG 3 1 [t3] [] = 0 ∧ cyT pG 1 [t3] [] = [t4] ∧ cyV pG 1 [t3] [] = [⟨3, 0, -1⟩] ∧ cyX pG 1 [t3] [] = 1 := by
 have h := cy_mis (p := pG) (next := 1) (t := t3) aw3.stp.1
 have hm : ¬ pG.most ≤ u3.misses + 1 := by rw [mis3.1]; decide
 refine ⟨lC (aw3.ck mis2.2 (by decide)) (by decide) (by decide) (by decide) rfl, ?_, ?_, h.2.2⟩
 ·rw [h.1]; exact (l6 (P := []) hm).1
 rw [h.2.1, ← mis3.2]
 exact (l6 (P := []) hm).2
theorem ex5 : cyE pG 4 1 [t4] [] = 0 ∧ cyT pG 1 [t4] [] = [] ∧ cyV pG 1 [t4] [] = [⟨4, 0, -1⟩] ∧ cyX pG 1 [t4] [] = 1 := by
 have h := cy_mis (p := pG) (next := 1) (t := t4) aw4.stp.1
 have hm : pG.most ≤ u4.misses + 1 := by rw [mis4.1]; decide
 refine ⟨lC (aw4.ck mis3.2 (by decide)) (by decide) (by decide) (by decide) rfl, ?_, ?_, h.2.2⟩
 ·rw [h.1]; exact (qZ (P := []) hm).1
 rw [h.2.1, ← mis4.2]
 exact (qZ (P := []) hm).2
theorem ex6 : cyE pG 0 0 [] [y3] = 0 ∧ cyT pG 0 [] [y3] = [] ∧ cyV pG 0 [] [y3] = [] ∧ cyX pG 0 [] [y3] = 0 := by
 have hN := cyN_nil_no (p := pG) (next := 0) (y := y3) (by rw [lv3]; decide)
 refine ⟨lC (ckE_nil nC (by decide) (by decide)) (by decide) (by decide) (by decide) (by unfold plsE; rw [if_neg (fun e => e pe3)]; rfl), ?_, ?_, ?_⟩
 ·unfold cyT; rw [hN]
 ·unfold cyV; rw [hN, cyU_nil, cyS_nil]; rfl
 unfold cyX; rw [hN]
end TrkMath
end
