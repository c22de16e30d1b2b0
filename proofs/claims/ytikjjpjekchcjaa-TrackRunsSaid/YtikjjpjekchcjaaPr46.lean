/-
  TrkS
-/
import Derived.Test.YtikjjpjekchcjaaPr45
import Derived.Test.YtikjjpjekchcjaaPr38
import Derived.Test.YtikjjpjekchcjaaPr1
set_option linter.all false
set_option maxRecDepth 100000
set_option maxHeartbeats 64000000
namespace Go.Proofs.Ytikjjpjekchcjaa
open Go.RowKit TrkMath MyHeap MyOwn MyCopy
theorem infoIn : (Try.prog.info? 3).map (fun i => (i.zero, i.size, i.bytes)) = some (some (.int .i64 0), 1, 8) := by kernel_rfl
theorem ints_news {w : World} {b off n : Nat} {l : List Int} (h : Alt.Ints w (some ⟨b, off, none⟩) n l) (hn : 0 < n) : ∀ j u, (Alt.flatI l)[j]? = some u → w.cell? ((⟨b, off, none⟩ : Addr).add j) = some u := by
 intro j u hu
 have hadd : (⟨b, off, none⟩ : Addr).add j = ⟨b, off + j, none⟩ := by unfold Addr.add; split <;> simp_all
 rw [hadd]
 rcases h.cells with h0 | ⟨b', off', e, hc⟩
 ·omega
 cases e
 unfold Alt.flatI at hu
 rw [List.getElem?_map] at hu
 have hj : j < l.length := by
  rcases Nat.lt_or_ge j l.length with q | q
  ·exact q
  rw [List.getElem?_eq_none q] at hu; cases hu
 rw [List.getElem?_eq_getElem hj] at hu
 rw [hc j (by rw [← h.len]; exact hj), ← hu]
 unfold AltMath.gi
 rw [List.getElem?_eq_getElem hj]
 rfl
theorem ints_some {w : World} {a : Option Addr} {n : Nat} {l : List Int} (h : Alt.Ints w a n l) (hn : 0 < n) : ∃ b off, a = some ⟨b, off, none⟩ := by
 rcases h.cells with h0 | ⟨b, off, e, -⟩
 ·omega
 exact ⟨b, off, e⟩
theorem flatI_len {l : List Int} (h : l.length = 201) : (Alt.flatI l).length = 201 * 1 := by simp [Alt.flatI, h]
theorem flatI_one (l : List Int) : ∀ u ∈ Alt.flatI l, u.oneCell' = true := by
 intro u hu
 unfold Alt.flatI at hu
 obtain ⟨x, -, rfl⟩ := List.mem_map.1 hu
 rfl
theorem grown_none {W W' : World} (hg : W.grownBy W' (Value.slice none 0 0).ownBlock) : Below W.heap.size W W' := ⟨hg.os, hg.tape, hg.output, hg.size, fun k hk => hg.block k hk (by simp [Value.ownBlock])⟩
theorem own_zero {W : World} {base : Nat} {e : TypeId} {s : Nat} {a : Option Addr} {n c : Nat} {xs : List Value} (h : W.ownsRow base e s (.slice a (0 + n) c) (0 + n) ([] ++ xs)) : W.ownsRow base e s (.slice a n c) n xs := by
 rw [Nat.zero_add, List.nil_append] at h
 exact h
def FdAt (L : List Tk) (id : Int) (k : Nat) : Prop := ∀ i, i < k → (gk L i).id ≠ id
theorem tk_ten {w : World} {T : Nat} {q : TB} (h : w.heap[T]? = some (.cells (tkC q) 46 (0, 0))) (v0 v1 v2 v3 v4 v5 v6 v7 v8 v9 : Value) :
    Only T w ((((((((((w.setCell ⟨T, 0, none⟩ v0).setCell ⟨T, 1, none⟩ v1).setCell ⟨T, 2, none⟩ v2).setCell ⟨T, 3, none⟩ v3).setCell ⟨T, 4, none⟩ v4).setCell ⟨T, 5, none⟩ v5).setCell ⟨T, 6, none⟩ v6).setCell ⟨T, 7, none⟩ v7).setCell ⟨T, 8, none⟩ v8).setCell ⟨T, 9, none⟩ v9) ∧
    ((((((((((w.setCell ⟨T, 0, none⟩ v0).setCell ⟨T, 1, none⟩ v1).setCell ⟨T, 2, none⟩ v2).setCell ⟨T, 3, none⟩ v3).setCell ⟨T, 4, none⟩ v4).setCell ⟨T, 5, none⟩ v5).setCell ⟨T, 6, none⟩ v6).setCell ⟨T, 7, none⟩ v7).setCell ⟨T, 8, none⟩ v8).setCell ⟨T, 9, none⟩ v9).heap[T]? = some (.cells #[v0, v1, v2, v3, v4, v5, v6, v7, v8, v9] 46 (0, 0)) := by
 refine ⟨((((((((((Only.refl _ _).setCell _ _).setCell _ _).setCell _ _).setCell _ _).setCell _ _).setCell _ _).setCell _ _).setCell _ _).setCell _ _).setCell _ _, ?_⟩
 have := block_setCell (i := 9) (v := v9) (block_setCell (i := 8) (v := v8) (block_setCell (i := 7) (v := v7) (block_setCell (i := 6) (v := v6) (block_setCell (i := 5) (v := v5) (block_setCell (i := 4) (v := v4) (block_setCell (i := 3) (v := v3) (block_setCell (i := 2) (v := v2) (block_setCell (i := 1) (v := v1) (block_setCell (i := 0) (v := v0) h)))))))))
 simpa [tkC] using this
theorem pFind_call (p : Par) (now next id : Int) (a : Option Addr) (n c : Nat) (L : List TB) (w : World) (hT : TbI w a n L) :
    Calls Try.prog 12 #[tbV p now next (.slice a n c), .int .i64 id] w (FdPost (fdT p now next (fsts L) id) (fdE p now next (fsts L) id) w) := by
 have HT := qh hT
 have HLn := qh hT.T.len
 have hbn := hT.T.bound
 have K := qh (show Below w.heap.size w ((w.alloc (.cells #[.int .i64 p.gate, .int .i64 p.need, .int .i64 p.most, .int .i64 p.pull, .int .i64 now, .int .i64 next, .slice a n c] 26)).alloc (.cells (tkC (tk0, bs0)) 46)) ∧ ((w.alloc (.cells #[.int .i64 p.gate, .int .i64 p.need, .int .i64 p.most, .int .i64 p.pull, .int .i64 now, .int .i64 next, .slice a n c] 26)).alloc (.cells (tkC (tk0, bs0)) 46)).heap[w.heap.size]? = some (.cells #[.int .i64 p.gate, .int .i64 p.need, .int .i64 p.most, .int .i64 p.pull, .int .i64 now, .int .i64 next, .slice a n c] 26 (0, 0)) ∧ ((w.alloc (.cells #[.int .i64 p.gate, .int .i64 p.need, .int .i64 p.most, .int .i64 p.pull, .int .i64 now, .int .i64 next, .slice a n c] 26)).alloc (.cells (tkC (tk0, bs0)) 46)).heap[w.heap.size + 1]? = some (.cells (tkC (tk0, bs0)) 46 (0, 0)) from ⟨(below_alloc w _).alloc (by simp) _, block_alloc (block_new w _ rfl), block_new _ _ (by simp)⟩)
 have hck := pCheckT_call p now next a n c L
 obtain ⟨i0, hi0, hz0, hs0, hb0⟩ := info_pts infoIn
 have HF := qh (And.intro hi0 (And.intro hz0 (And.intro hs0 hb0)))
 clear hT hi0 hz0 hs0 hb0
 unfold tbV
 unfold tbV at hck
 by_cases hE : ckE p now next (fsts L) = 0
 ·have HE := qh hE
  have HCk := qh (show ∀ k, k < n → TkOk p (gt L k).1 from fun k hk => by
   rw [← gk_fsts']
   exact ckL_mem (ckE_zero hE).2.2 _ (gk_mem (by rw [fsts_len, HLn.out]; exact hk)))
  rw [hE] at hck
  clear hE
  go_enter Try.func12, Try.ntmps12
  go_wp2_with fail
  refine (hck _ (HT.out.below K.out.1).T (fun k hk => (HT.out.below K.out.1).B k hk)).mono ?_; rintro e w1 ⟨rfl, hb⟩
  replace K := qh (And.intro (K.out.1.trans (hb.mono K.out.1.size)) (And.intro (keepO hb K.out.2.1) (keepO hb K.out.2.2)))
  clear hb
  obtain ⟨x0, x1, x2, x3, x4, x5, x6⟩ := seven_new K.out.2.1
  have xl := lt_of_block K.out.2.1
  go_wp2_with fail
  clear x0 x1 x2 x3 x4 x5 x6 xl
  go_loopw [5, 18] (fun v5 kv wr => ∃ k : Nat, k ≤ n ∧ v5 = .int .i64 0 ∧ kv = .int .i64 k ∧ FdAt (fsts L) id k ∧ Below w1.heap.size w1 wr) (fun _ kv _ => n - (intOf kv).toNat)
  case atStart => exact ⟨0, by omega, rfl, rfl, fun i hi => absurd hi (Nat.not_lt_zero _), Below.refl _ _⟩
  case round =>
   obtain ⟨k, hk, rfl, rfl, hA, hB⟩ := hrel
   have HA := qh hA
   have B := qh hB
   have KW := qh (show Below w.heap.size w wr ∧ wr.heap[w.heap.size]? = some (.cells #[.int .i64 p.gate, .int .i64 p.need, .int .i64 p.most, .int .i64 p.pull, .int .i64 now, .int .i64 next, .slice a n c] 26 (0, 0)) ∧ wr.heap[w.heap.size + 1]? = some (.cells (tkC (tk0, bs0)) 46 (0, 0)) from ⟨K.out.1.trans (hB.mono K.out.1.size), keepO hB K.out.2.1, keepO hB K.out.2.2⟩)
   clear hA hB
   by_cases hlt : k < n
   ·obtain ⟨b, off, rfl, hq⟩ := trs_at (HT.out.below KW.out.1).T hlt
    have HLt := qh hlt
    have HQ := qh (gk_fsts' L k)
    have HBd := qh ((HT.out.below KW.out.1).B k hlt)
    have HOk := qh (HCk.out k hlt)
    obtain ⟨q, hqe⟩ : ∃ q, gt L k = q := ⟨_, rfl⟩
    rw [hqe] at hq HQ HBd HOk
    obtain ⟨x0, x1, x2, x3, x4, x5, x6, x7, x8, x9⟩ := hq
    have xl := World.block_lt_of_cell? _ _ x0
    have hk0 : (0 : Int) ≤ (k : Int) := by omega
    have hk1 : (k : Int) < (n : Int) := by omega
    have hkw : IntKind.i64.wrap ((k : Int) + 1) = ((k + 1 : Nat) : Int) := by rw [IntWalk.i64_in _ (by omega)]; omega
    have BA := qh (B.out.trans ((below_alloc wr (.cells (tkC q) 46)).mono B.out.size))
    have KA := qh (And.intro (KW.out.1.trans ((below_alloc wr (.cells (tkC q) 46)).mono KW.out.1.size)) (And.intro (keepO (below_alloc wr (.cells (tkC q) 46)) KW.out.2.2) (block_new wr (.cells (tkC q) 46 (0, 0)) rfl)))
    clear hqe hlt
    unfold tkC at KA BA
    obtain ⟨⟨tid, addr, rg, lo, hi, hits, misses, firm⟩, ⟨aL, nL, cL, aH, nH, cH⟩⟩ := q
    simp only [] at x0 x1 x2 x3 x4 x5 x6 x7 x8 x9 KA BA HBd HOk HQ
    by_cases hid : tid = id
    ·subst hid
     have HFd := qh (fdE_yes (p := p) (now := now) (next := next) (L := fsts L) HE.out (by rw [fsts_len, HLn.out]; exact HLt.out) (by rw [HQ.out]) HA.out)
     rw [HQ.out] at HFd
     obtain ⟨l1, l2, -⟩ := AltMath.chB_ok HOk.out.ch
     have e1 := HBd.out.L.len
     have e2 := HBd.out.H.len
     simp only [] at e1 e2 l1 l2
     obtain rfl : nL = 201 := by rw [← e1, l1]
     obtain rfl : nH = 201 := by rw [← e2, l2]
     obtain ⟨bL, oL, eL⟩ := ints_some HBd.out.L (show 0 < 201 by decide)
     obtain ⟨bH, oH, eH⟩ := ints_some HBd.out.H (show 0 < 201 by decide)
     simp only [] at eL eH
     subst eL
     subst eH
     have HLl := qh (And.intro l1 l2)
     clear l1 l2 e1 e2
     go_wp2_with fail
     clear x0 x1 x2 x3 x4 x5 x6 x7 x8 x9 xl
     obtain ⟨T, hT⟩ : ∃ T, T = wr.heap.size := ⟨_, rfl⟩
     rw [← hT] at KA ⊢
     have HTw := qh (show w.heap.size + 1 < T from by rw [hT]; exact lt_of_block KW.out.2.2)
     replace HBd := qh (HBd.out.below (below_alloc wr (.cells #[.int .i64 tid, .int .i64 addr, .int .i64 rg.r, .int .i64 rg.v, .int .i64 rg.n, .slice (some ⟨bL, oL, none⟩) 201 cL, .slice (some ⟨bH, oH, none⟩) 201 cH, .int .i64 hits, .int .i64 misses, .bool firm] 46)))
     generalize wr.alloc (.cells #[.int .i64 tid, .int .i64 addr, .int .i64 rg.r, .int .i64 rg.v, .int .i64 rg.n, .slice (some ⟨bL, oL, none⟩) 201 cL, .slice (some ⟨bH, oH, none⟩) 201 cH, .int .i64 hits, .int .i64 misses, .bool firm] 46) = wa at *
     clear hT
     have KD := qh (show Below wa.heap.size wa wa.drew from below_drewN (Below.refl _ _) 1)
     replace KA := qh (And.intro (KA.out.1.trans (KD.out.mono KA.out.1.size)) (And.intro (keepO KD.out KA.out.2.1) (keepO KD.out KA.out.2.2)))
     replace HBd := qh (HBd.out.below KD.out)
     clear KD
     have HS := qh KA.out.2.2
     refine MyHeldE.start (fun W => W.heap[T]? = some (.cells #[.int .i64 tid, .int .i64 addr, .int .i64 rg.r, .int .i64 rg.v, .int .i64 rg.n, .slice (some ⟨bL, oL, none⟩) 201 cL, .slice (some ⟨bH, oH, none⟩) 201 cH, .int .i64 hits, .int .i64 misses, .bool firm] 46 (0, 0))) [10] (by kernel_rfl) ?_
     have hHeld := HS.out
     generalize wa.drew = wd at *
     have HTd := qh (lt_of_block KA.out.2.2)
     refine MyHeldE.tk 0 ?_
     refine MyHeldE.tk 1 ?_
     refine MyHeldE.tk 2 (hy := fun w hSw => by obtain ⟨z0, z1, z2, z3, z4, z5, z6, z7, z8, z9⟩ := TkAt.block' (q := (⟨tid, addr, rg, lo, hi, hits, misses, firm⟩, ⟨some ⟨bL, oL, none⟩, 201, cL, some ⟨bH, oH, none⟩, 201, cH⟩)) hSw; simp only [] at z0 z1 z2 z3 z4 z5 z6 z7 z8 z9; go_simp; (try with_reducible rfl)) ?_
     refine MyHeldE.tk 4 ?_
     refine MyHeldE.tk 5 ?_
     refine MyHeldE.tk 6 (hy := fun w hSw => by obtain ⟨z0, z1, z2, z3, z4, z5, z6, z7, z8, z9⟩ := TkAt.block' (q := (⟨tid, addr, rg, lo, hi, hits, misses, firm⟩, ⟨some ⟨bL, oL, none⟩, 201, cL, some ⟨bH, oH, none⟩, 201, cH⟩)) hSw; simp only [] at z0 z1 z2 z3 z4 z5 z6 z7 z8 z9; go_simp; (try with_reducible rfl)) ?_
     refine MyHeldE.ready (rs := [3]) (by kernel_rfl) (by simp) ?_
     refine (MyHeldE.next 3 (MyHeld.at_rfl rfl) (fun Kq hKq => ?_) MyHeldE.All.nil)
     refine step_append_at (by rfl) (.const (.slice none 0 0)) (.tmp 28) 35 (by rfl) wd.heap.size 3 i0 _ 1 8 Try.underlying35 HF.out.1 HF.out.2.1 HF.out.2.2.1 HF.out.2.2.2 (by rfl) (by decide) _ 0 [] (by rfl) ⟨rfl, Or.inl ⟨rfl, rfl⟩⟩ ⟨bL, oL, none⟩ 201 cL (Alt.flatI lo) (by rfl) (flatI_len HLl.out.1) (ints_news HBd.out.L (show 0 < 201 by decide)) (flatI_one lo) (by unfold maxLen; omega) (by omega) (Nat.le_refl _) ?_
     intro v1 w1 hown hg hat
     clear hat
     obtain ⟨a1, c1, rfl⟩ := row_slice hown
     have O1 := qh (own_zero hown)
     have hbl := grown_none hg
     clear hown hg
     have HSz := qh hbl.size
     replace KA := qh (And.intro (KA.out.1.trans (hbl.mono KA.out.1.size)) (And.intro (keepO hbl KA.out.2.1) (keepO hbl KA.out.2.2)))
     replace HBd := qh (HBd.out.below hbl)
     have hHeld2 := KA.out.2.2
     refine hKq.out _ _ (fun _ => hHeld2) ?_
     clear hKq Kq hHeld
     have hHeld := hHeld2
     clear hHeld2
     try simp only [Act.put, List.setIfInBounds_toArray, List.set_cons_zero, List.set_cons_succ]
     refine MyHeldE.ready (rs := [7]) (by kernel_rfl) (by simp) ?_
     refine (MyHeldE.next 7 (MyHeld.at_rfl rfl) (fun Kq hKq => ?_) MyHeldE.All.nil)
     refine step_append_at (by rfl) (.const (.slice none 0 0)) (.tmp 32) 35 (by rfl) w1.heap.size 3 i0 _ 1 8 Try.underlying35 HF.out.1 HF.out.2.1 HF.out.2.2.1 HF.out.2.2.2 (by rfl) (by decide) _ 0 [] (by rfl) ⟨rfl, Or.inl ⟨rfl, rfl⟩⟩ ⟨bH, oH, none⟩ 201 cH (Alt.flatI hi) (by rfl) (flatI_len HLl.out.2) (ints_news HBd.out.H (show 0 < 201 by decide)) (flatI_one hi) (by unfold maxLen; omega) (by omega) (Nat.le_refl _) ?_
     intro v2 w2 hown hg hat
     clear hat
     obtain ⟨a2, c2, rfl⟩ := row_slice hown
     have O2 := qh (own_zero hown)
     have hbl := grown_none hg
     clear hown hg
     have HF1 := qh (fun x (e : (Value.slice a1 201 c1).ownBlock = some x) => (O1.out.lt x e).2)
     replace O1 := qh (ownsRow_below O1.out hbl (Nat.le_refl _))
     replace KA := qh (And.intro (KA.out.1.trans (hbl.mono KA.out.1.size)) (And.intro (keepO hbl KA.out.2.1) (keepO hbl KA.out.2.2)))
     replace HBd := qh (HBd.out.below hbl)
     have hHeld2 := KA.out.2.2
     refine hKq.out _ _ (fun _ => hHeld2) ?_
     clear hKq Kq hHeld
     have hHeld := hHeld2
     clear hHeld2
     try simp only [Act.put, List.setIfInBounds_toArray, List.set_cons_zero, List.set_cons_succ]
     refine MyHeldE.tk 8 ?_
     refine MyHeldE.tk 9 ?_
     have HTO := qh (show Alt.TwoOwn wd.heap.size (.slice a1 201 c1) (.slice a2 201 c2) lo hi w2 from ⟨by have h := O1.out; rw [HLl.out.1]; exact O1.out, by have h := O2.out; rw [HLl.out.2]; exact ownsRow_base O2.out HSz.out, fun x e1 e2 => by have h1 := HF1.out x e1; have h2 := (O2.out.lt x e2).1; omega⟩)
     obtain ⟨z0, z1, z2, z3, z4, z5, z6, z7, z8, z9⟩ := TkAt.block' (q := (⟨tid, addr, rg, lo, hi, hits, misses, firm⟩, ⟨some ⟨bL, oL, none⟩, 201, cL, some ⟨bH, oH, none⟩, 201, cH⟩)) KA.out.2.2
     simp only [] at z0 z1 z2 z3 z4 z5 z6 z7 z8 z9
     obtain ⟨f0, f1, f2, f3, f4, f5, f6, f7, f8, f9⟩ := tk_free (q := (⟨tid, addr, rg, lo, hi, hits, misses, firm⟩, ⟨some ⟨bL, oL, none⟩, 201, cL, some ⟨bH, oH, none⟩, 201, cH⟩)) KA.out.2.2
     have tl := lt_of_block KA.out.2.2
     refine MyHeldE.ready (rs := [10]) (by kernel_rfl) (by simp) ?_
     refine (MyHeldE.next 10 (MyHeld.at_rfl rfl) (fun Kq hKq => ?_) MyHeldE.All.nil)
     go_simp
     refine hKq.out _ _ (fun e => by cases e) ?_
     clear hKq Kq
     try simp only [Act.put, List.setIfInBounds_toArray, List.set_cons_zero, List.set_cons_succ]
     refine MyHeldE.done (by kernel_rfl) ?_ _
     clear f0 f1 f2 f3 f4 f5 f6 f7 f8 f9 z0 z1 z2 z3 z4 z5 z6 z7 z8 z9 tl hHeld
     have KW2 := qh (tk_two (t := ⟨tid, addr, rg, lo, hi, hits, misses, firm⟩) (s := ⟨some ⟨bL, oL, none⟩, 201, cL, some ⟨bH, oH, none⟩, 201, cH⟩) KA.out.2.2 lo hi a1 a2 201 c1 201 c2)
     have HBn := qh ((me_own (w := wd) (t := ⟨tid, addr, rg, lo, hi, hits, misses, firm⟩) HTO.out (Nat.le_refl _) HLl.out.1 HLl.out.2 (w.heap.size + 2) [some T] (by have := HTw.out; have := HTd.out; omega) (fun x e => by have := Option.some.inj (List.mem_singleton.1 e); have := HTd.out; omega)).outs (Outs.of_only KW2.out.2 (List.mem_singleton.2 rfl)))
     replace KA := qh (And.intro (KA.out.1.trans (KW2.out.2.below (by have := HTw.out; omega) KA.out.1.size)) (And.intro (KW2.out.2.keeps KA.out.2.1 (by have := HTw.out; omega)) KW2.out.1))
     clear KW2 HTO
     generalize (w2.setCell ⟨T, 5, none⟩ (.slice a1 201 c1)).setCell ⟨T, 6, none⟩ (.slice a2 201 c2) = w5 at *
     obtain ⟨z0, z1, z2, z3, z4, z5, z6, z7, z8, z9⟩ := TkAt.block' (q := (⟨tid, addr, rg, lo, hi, hits, misses, firm⟩, ⟨a1, 201, c1, a2, 201, c2⟩)) KA.out.2.2
     simp only [] at z0 z1 z2 z3 z4 z5 z6 z7 z8 z9
     have tl := lt_of_block KA.out.2.2
     obtain ⟨q0, q1, q2, q3, q4, q5, q6, q7, q8, q9⟩ := TkAt.block' (q := (tk0, bs0)) KA.out.2.1
     simp only [tk0, bs0, rg0] at q0 q1 q2 q3 q4 q5 q6 q7 q8 q9
     obtain ⟨f0, f1, f2, f3, f4, f5, f6, f7, f8, f9⟩ := tk_free (q := (tk0, bs0)) KA.out.2.1
     have ql := lt_of_block KA.out.2.1
     go_wp2_with fail
     have KS := qh (tk_ten (q := (tk0, bs0)) KA.out.2.1 (.int .i64 tid) (.int .i64 addr) (.int .i64 rg.r) (.int .i64 rg.v) (.int .i64 rg.n) (.slice a1 201 c1) (.slice a2 201 c2) (.int .i64 hits) (.int .i64 misses) (.bool firm))
     obtain ⟨s0, s1, s2, s3, s4, s5, s6, s7, s8, s9⟩ := TkAt.block' (q := (⟨tid, addr, rg, lo, hi, hits, misses, firm⟩, ⟨a1, 201, c1, a2, 201, c2⟩)) KS.out.2
     simp only [] at s0 s1 s2 s3 s4 s5 s6 s7 s8 s9
     refine bodyPost_ret (v := .tuple #[tkV (⟨tid, addr, rg, lo, hi, hits, misses, firm⟩, ⟨a1, 201, c1, a2, 201, c2⟩), .int .i64 0]) ?_ rfl ?_
     ·simp [results, Try.f12, go_sem, s0, s1, s2, s3, s4, s5, s6, s7, s8, s9, tkV, tkC]
     rw [HFd.out.1, HFd.out.2]
     have h1 := HBn.out
     have h2 : BdX (w.heap.size + 2) [some (w.heap.size + 1)] w5 (⟨tid, addr, rg, lo, hi, hits, misses, firm⟩, ⟨a1, 201, c1, a2, 201, c2⟩) := ⟨h1.L, h1.H, fun x e => ⟨⟨(h1.gL x e).1.1, fun c => by have := (h1.gL x e).1.1; have := Option.some.inj (List.mem_singleton.1 c); omega⟩, (h1.gL x e).2⟩, fun x e => ⟨⟨(h1.gH x e).1.1, fun c => by have := (h1.gH x e).1.1; have := Option.some.inj (List.mem_singleton.1 c); omega⟩, (h1.gH x e).2⟩⟩
     have h3 := h2.outs (Outs.of_only (X := [some (w.heap.size + 1)]) KS.out.1 (List.mem_singleton.2 rfl))
     exact ⟨⟨a1, 201, c1, a2, 201, c2⟩, rfl, (h3.turn (Y := []) (fun x e => by cases e)).base (by omega), KA.out.1.trans (KS.out.1.below (Nat.le_succ _) KA.out.1.size)⟩
    have hnb : (tid == id) = false := beq_eq_false_iff_ne.2 hid
    go_wp2_with fail
    refine ⟨⟨k + 1, HLt.out, rfl, by go_num, fun i hi => ?_, BA.out⟩, by simp [intOf]; have := HLt.out; omega⟩
    by_cases e : i = k
    ·subst e; rw [HQ.out]; exact hid
    exact HA.out i (by omega)
   obtain rfl : n = k := by omega
   have HE9 := qh (fdE_no (p := p) (now := now) (next := next) HE.out (fun i hi => HA.out i (by rw [fsts_len, HLn.out] at hi; exact hi)))
   obtain ⟨q0, q1, q2, q3, q4, q5, q6, q7, q8, q9⟩ := TkAt.block' (q := (tk0, bs0)) KW.out.2.2
   simp only [tk0, bs0, rg0] at q0 q1 q2 q3 q4 q5 q6 q7 q8 q9
   obtain ⟨f0, f1, f2, f3, f4, f5, f6, f7, f8, f9⟩ := tk_free (q := (tk0, bs0)) KW.out.2.2
   have ql := lt_of_block KW.out.2.2
   go_wp2_with fail
   have KS := qh (tk_ten KW.out.2.2 (.int .i64 0) (.int .i64 0) (.int .i64 0) (.int .i64 0) (.int .i64 0) (.slice none 0 0) (.slice none 0 0) (.int .i64 0) (.int .i64 0) (.bool false))
   obtain ⟨s0, s1, s2, s3, s4, s5, s6, s7, s8, s9⟩ := TkAt.block' (q := (tk0, bs0)) KS.out.2
   simp only [tk0, bs0, rg0] at s0 s1 s2 s3 s4 s5 s6 s7 s8 s9
   refine bodyPost_ret (v := .tuple #[tkV (tk0, bs0), .int .i64 9]) ?_ rfl ?_
   ·simp [results, Try.f12, go_sem, s0, s1, s2, s3, s4, s5, s6, s7, s8, s9, tkV, tkC, tk0, bs0, rg0]
   rw [HE9.out.1, HE9.out.2]
   exact ⟨bs0, rfl, bdx_nil _ _ _, KW.out.1.trans (KS.out.1.below (Nat.le_succ _) KW.out.1.size)⟩
 have HE := qh (fdE_ck (id := id) hE)
 obtain ⟨E, hE2⟩ : ∃ E, ckE p now next (fsts L) = E := ⟨_, rfl⟩
 have HE2 := qh hE2
 have hne : (E != 0) = true := by rw [bne_iff_ne, ← hE2]; exact hE
 rw [hE2] at hck
 clear hE hE2
 go_enter Try.func12, Try.ntmps12
 go_wp2_with fail
 refine (hck _ (HT.out.below K.out.1).T (fun k hk => (HT.out.below K.out.1).B k hk)).mono ?_; rintro e w1 ⟨rfl, hb⟩
 replace K := qh (And.intro (K.out.1.trans (hb.mono K.out.1.size)) (And.intro (keepO hb K.out.2.1) (keepO hb K.out.2.2)))
 clear hb
 obtain ⟨q0, q1, q2, q3, q4, q5, q6, q7, q8, q9⟩ := TkAt.block' (q := (tk0, bs0)) K.out.2.2
 simp only [tk0, bs0, rg0] at q0 q1 q2 q3 q4 q5 q6 q7 q8 q9
 obtain ⟨f0, f1, f2, f3, f4, f5, f6, f7, f8, f9⟩ := tk_free (q := (tk0, bs0)) K.out.2.2
 have ql := lt_of_block K.out.2.2
 go_wp2_with fail
 have KS := qh (tk_ten K.out.2.2 (.int .i64 0) (.int .i64 0) (.int .i64 0) (.int .i64 0) (.int .i64 0) (.slice none 0 0) (.slice none 0 0) (.int .i64 0) (.int .i64 0) (.bool false))
 obtain ⟨s0, s1, s2, s3, s4, s5, s6, s7, s8, s9⟩ := TkAt.block' (q := (tk0, bs0)) KS.out.2
 simp only [tk0, bs0, rg0] at s0 s1 s2 s3 s4 s5 s6 s7 s8 s9
 refine bodyPost_ret (v := .tuple #[tkV (tk0, bs0), .int .i64 E]) ?_ rfl ?_
 ·simp [results, Try.f12, go_sem, s0, s1, s2, s3, s4, s5, s6, s7, s8, s9, tkV, tkC, tk0, bs0, rg0]
 rw [HE.out.1, HE.out.2, HE2.out]
 exact ⟨bs0, rfl, bdx_nil _ _ _, K.out.1.trans (KS.out.1.below (Nat.le_succ _) K.out.1.size)⟩
end Go.Proofs.Ytikjjpjekchcjaa
