/-
  TrkMa, TrkMb, TrkMc
-/
import Derived.Test.YtikjjpjekchcjaaGreatPm46
import Derived.Test.YtikjjpjekchcjaaGreatPm44
set_option linter.all false
set_option maxRecDepth 100000
set_option maxHeartbeats 64000000
section
namespace Go.Proofs.YtikjjpjekchcjaaGreat
open Go.RowKit TrkMath MyHeap MyOwn MyCopy
theorem fO (p : Par) (now next : Int) (a : Option Addr) (n c : Nat) (w : World) :
    Calls Tryz.prog 10 #[.agg #[.int .i64 p.gate, .int .i64 p.need, .int .i64 p.most, .int .i64 p.pull, .int .i64 now, .int .i64 next, .slice a n c]] w (fun e w' => e = .returned (.agg #[.int .i64 p.gate, .int .i64 p.need, .int .i64 p.most, .int .i64 p.pull, .int .i64 now, .int .i64 next, .slice a n c]) ∧ Below w.heap.size w w') := by
 have K := qh (((Kp.nil w).alloc #[.int .i64 p.gate, .int .i64 p.need, .int .i64 p.most, .int .i64 p.pull, .int .i64 now, .int .i64 next, .slice a n c] 26).alloc #[.int .i64 0, .int .i64 0, .int .i64 0, .int .i64 0, .int .i64 0, .int .i64 0, .slice none 0 0] 38)
 go_enter Tryz.func10, Tryz.ntmps10
 go_upto_region 1 with fail
 obtain ⟨b1, hb1⟩ : ∃ b, b = w.heap.size := ⟨_, rfl⟩
 obtain ⟨b2, hb2⟩ : ∃ b, b = w.heap.size + 1 := ⟨_, rfl⟩
 have KT := qh (show Below w.heap.size w ((w.alloc (.cells #[.int .i64 p.gate, .int .i64 p.need, .int .i64 p.most, .int .i64 p.pull, .int .i64 now, .int .i64 next, .slice a n c] 26)).alloc (.cells #[.int .i64 0, .int .i64 0, .int .i64 0, .int .i64 0, .int .i64 0, .int .i64 0, .slice none 0 0] 38)) ∧ ((w.alloc (.cells #[.int .i64 p.gate, .int .i64 p.need, .int .i64 p.most, .int .i64 p.pull, .int .i64 now, .int .i64 next, .slice a n c] 26)).alloc (.cells #[.int .i64 0, .int .i64 0, .int .i64 0, .int .i64 0, .int .i64 0, .int .i64 0, .slice none 0 0] 38)).heap[b1]? = some (.cells #[.int .i64 p.gate, .int .i64 p.need, .int .i64 p.most, .int .i64 p.pull, .int .i64 now, .int .i64 next, .slice a n c] 26 (0, 0)) ∧ ((w.alloc (.cells #[.int .i64 p.gate, .int .i64 p.need, .int .i64 p.most, .int .i64 p.pull, .int .i64 now, .int .i64 next, .slice a n c] 26)).alloc (.cells #[.int .i64 0, .int .i64 0, .int .i64 0, .int .i64 0, .int .i64 0, .int .i64 0, .slice none 0 0] 38)).heap[b2]? = some (.cells #[.int .i64 0, .int .i64 0, .int .i64 0, .int .i64 0, .int .i64 0, .int .i64 0, .slice none 0 0] 38 (0, 0)) ∧ w.heap.size ≤ b2 from by
  have h1 := K.out.H _ (List.mem_cons_of_mem _ List.mem_cons_self)
  have h2 := K.out.H _ List.mem_cons_self
  simp only [World.size_alloc] at h2
  rw [← hb1] at h1
  rw [← hb2] at h2
  exact ⟨K.out.B, h1, h2, by omega⟩)
 rw [← hb2, ← hb1]
 generalize (w.alloc (.cells #[.int .i64 p.gate, .int .i64 p.need, .int .i64 p.most, .int .i64 p.pull, .int .i64 now, .int .i64 next, .slice a n c] 26)).alloc (.cells #[.int .i64 0, .int .i64 0, .int .i64 0, .int .i64 0, .int .i64 0, .int .i64 0, .slice none 0 0] 38) = wa at *
 clear hb1 hb2 K
 obtain ⟨t0, t1, t2, t3, t4, t5, t6⟩ := aK KT.out.2.1
 have tl := aB KT.out.2.1
 obtain ⟨z0, z1, z2, z3, z4, z5, z6⟩ := aK KT.out.2.2.1
 obtain ⟨f0, f1, f2, f3, f4, f5, f6⟩ := bT KT.out.2.2.1
 have zl := aB KT.out.2.2.1
 go_wp2_with fail
 have KS := qh (bX KT.out.1 KT.out.2.2.1 KT.out.2.2.2 (.int .i64 p.gate) (.int .i64 p.need) (.int .i64 p.most) (.int .i64 p.pull) (.int .i64 now) (.int .i64 next) (.slice a n c))
 obtain ⟨s0, s1, s2, s3, s4, s5, s6⟩ := aK KS.out.2
 refine bodyPost_ret (v := .agg #[.int .i64 p.gate, .int .i64 p.need, .int .i64 p.most, .int .i64 p.pull, .int .i64 now, .int .i64 next, .slice a n c]) ?_ rfl ⟨rfl, KS.out.1⟩
 simp [results, Tryz.f10, go_sem, s0, s1, s2, s3, s4, s5, s6]
def flatP (l : List Pl) : List Value := l.flatMap fun y => [.int .i64 y.r, .int .i64 y.code, .int .i64 y.addr]
theorem kN (l : List Pl) : (flatP l).length = l.length * 3 := by
 induction l with
 | nil => rfl
 | cons y l ih => simp [flatP] at ih ⊢; omega
theorem n8 (l : List Pl) (i : Nat) (hi : i < l.length) : (flatP l)[i * 3]? = some (.int .i64 (gp l i).r) ∧ (flatP l)[i * 3 + 1]? = some (.int .i64 (gp l i).code) ∧ (flatP l)[i * 3 + 2]? = some (.int .i64 (gp l i).addr) := by
 induction l generalizing i with
 | nil => exact absurd hi (Nat.not_lt_zero _)
 | cons y l ih =>
  have e : flatP (y :: l) = .int .i64 y.r :: .int .i64 y.code :: .int .i64 y.addr :: flatP l := rfl
  cases i with
  | zero => rw [e]; exact ⟨rfl, rfl, rfl⟩
  | succ i =>
   have h := ih i (by simpa using hi)
   rw [e, show (i + 1) * 3 = i * 3 + 1 + 1 + 1 by omega]
   simpa [gp] using h
theorem flatP_one (l : List Pl) : ∀ u ∈ flatP l, u.oneCell' = true := by
 intro u hu
 obtain ⟨y, -, hy⟩ := List.mem_flatMap.1 hu
 simp at hy
 rcases hy with rfl | rfl | rfl <;> rfl
theorem flatP_news {w : World} {b off n : Nat} {l : List Pl} (h : Pls w (some ⟨b, off, none⟩) n l) (hn : 0 < n) : ∀ j u, (flatP l)[j]? = some u → w.cell? ((⟨b, off, none⟩ : Addr).add j) = some u := by
 intro j u hu
 have hadd : (⟨b, off, none⟩ : Addr).add j = ⟨b, off + j, none⟩ := by unfold Addr.add; split <;> simp_all
 rw [hadd]
 rcases h.cells with h0 | ⟨b', off', e, hc⟩
 ·omega
 cases e
 have hj : j < l.length * 3 := by
  rw [← kN]
  exact (List.getElem?_eq_some_iff.1 hu).1
 have hi : j / 3 < l.length := by omega
 have hg := n8 l (j / 3) hi
 have hq := hc (j / 3) (by rw [← h.len]; exact hi)
 have hj3 : j = j / 3 * 3 + j % 3 := by omega
 have hm : j % 3 = 0 ∨ j % 3 = 1 ∨ j % 3 = 2 := by omega
 rcases hm with e | e | e
 ·rw [e, Nat.add_zero] at hj3
  rw [hj3] at hu ⊢
  rw [hg.1] at hu
  rw [hq.1, ← hu]
 ·rw [e] at hj3
  rw [hj3] at hu ⊢
  rw [hg.2.1] at hu
  rw [← hu, ← hq.2.1, Nat.add_assoc]
 rw [e] at hj3
 rw [hj3] at hu ⊢
 rw [hg.2.2] at hu
 rw [← hu, ← hq.2.2, Nat.add_assoc]
theorem pls_own {w : World} {base : Nat} {e : TypeId} {v : Value} {l : List Pl} (h : w.ownsRow base e 3 v l.length (flatP l)) (hm : l.length ≤ 9223372036854775807) : ∃ a c, v = .slice a l.length c ∧ Pls w a l.length l := by
 rcases h.2 with ⟨rfl, h0⟩ | ⟨g, cap, cur, rfl, hg, hh, hc, hcm, hcs, htake⟩
 ·exact ⟨none, 0, by rw [h0], rfl, hm, Or.inl h0⟩
 refine ⟨some ⟨g, 0, none⟩, cap, rfl, rfl, hm, Or.inr ⟨g, 0, rfl, fun i hi => ?_⟩⟩
 obtain ⟨h1, h2, h3⟩ := n8 l i hi
 rw [← htake, List.getElem?_take_of_lt (by omega)] at h1 h2 h3
 rw [Nat.zero_add]
 exact ⟨aA hh (by simpa using h1), aA hh (by simpa using h2), aA hh (by simpa using h3)⟩
theorem infoPlot : (Tryz.prog.info? 63).map (fun i => (i.zero, i.size, i.bytes)) = some (some (.agg #[.int .i64 0, .int .i64 0, .int .i64 0]), 3, 24) := by kernel_rfl
theorem k7 (pa : Option Addr) (pn pc : Nat) (P : List Pl) (w : World) (hP : Pls w pa pn P) (hn : pn ≤ 1000) (hnil : pa = none → pn = 0 ∧ pc = 0) :
    Calls Tryz.prog 7 #[.slice pa pn pc] w (fun e w' => ∃ a' c', e = .returned (.slice a' pn c') ∧ Pls w' a' pn P ∧ (∀ g, blk a' = some g → w.heap.size ≤ g) ∧ Below w.heap.size w w') := by
 obtain ⟨i0, hi0, hz0, hs0, hb0⟩ := b6 infoPlot
 have HF := qh (And.intro hi0 (And.intro hz0 (And.intro hs0 hb0)))
 have HP := qh hP
 have HN := qh (And.intro hn hnil)
 clear hP hn hnil hi0 hz0 hs0 hb0
 go_enter Tryz.func7, Tryz.ntmps7
 go_wp2_with (at_builtin; refine dV rfl _ _ 27 rfl w.heap.size 63 i0 _ 3 24 Tryz.underlying27 HF.out.1 HF.out.2.1 HF.out.2.2.1 HF.out.2.2.2 rfl (by decide) (.slice none 0 0) 0 [] rfl ⟨rfl, Or.inl ⟨rfl, rfl⟩⟩ pa pn pc (flatP P) rfl HN.out.2 (by rw [kN, HP.out.len]) (fun ad he => by
  subst he
  by_cases h0 : pn = 0
  ·intro j u hu
   rw [show flatP P = [] from List.eq_nil_of_length_eq_zero (by rw [kN, HP.out.len, h0])] at hu
   cases hu
  obtain ⟨b, off, e, -⟩ := fS HP.out (k := 0) (by omega)
  cases e
  exact flatP_news HP.out (by omega)) (flatP_one P) (by have := HN.out.1; unfold maxLen; omega) (by have := HN.out.1; omega) (Nat.le_refl _) ?_; intro v9 w9 hown9 hg9; have HO := qh hown9; have HB := qh (show Below w.heap.size w w9 from ⟨hg9.os, hg9.tape, hg9.output, hg9.size, fun k hk => hg9.block k hk (by simp [Value.ownBlock])⟩); clear hown9 hg9)
 go_ret
 have h := HO.out
 rw [Nat.zero_add, List.nil_append, ← HP.out.len] at h
 obtain ⟨a', c', rfl, hI⟩ := pls_own h (by rw [HP.out.len]; have := HN.out.1; omega)
 rw [HP.out.len] at hI h ⊢
 exact ⟨a', c', rfl, hI, fun g hg => (h.lt g (by
  cases a' with
  | none => cases hg
  | some x => exact hg)).1, HB.out⟩
end Go.Proofs.YtikjjpjekchcjaaGreat
end
section
namespace Go.Proofs.YtikjjpjekchcjaaGreat
open Go.RowKit TrkMath MyHeap MyOwn MyCopy
theorem bdx_of_own {w : World} {B : Nat} {X : List (Option Nat)} {vL vH : Value} {t : Tk} (h : Alt.TwoOwn B vL vH t.lo t.hi w) (hL : t.lo.length ≤ 1000) (hH : t.hi.length ≤ 1000) (hX : ∀ g, some g ∈ X → g < B) :
    ∃ s : Bs, vL = .slice s.aL s.nL s.cL ∧ vH = .slice s.aH s.nH s.cH ∧ BdX B X w (t, s) := by
 obtain ⟨aL, cL, e1, hI1, hg1⟩ := j8 h.L (by omega)
 obtain ⟨aH, cH, e2, hI2, hg2⟩ := j8 h.H (by omega)
 exact ⟨⟨aL, t.lo.length, cL, aH, t.hi.length, cH⟩, e1, e2, hI1, hI2, fun g e => ⟨⟨(hg1 g e).1, fun hx => by have := hX g hx; have := (hg1 g e).1; omega⟩, (hg1 g e).2⟩, fun g e => ⟨⟨(hg2 g e).1, fun hx => by have := hX g hx; have := (hg2 g e).1; omega⟩, (hg2 g e).2⟩⟩
theorem Lf.tbJ {base : Nat} {X : List (Option Nat)} {a : Option Addr} {n c : Nat} {M : List TB} {W : World} (h : Lf base X (.slice a n c) M W) (hn : M.length = n) (hb : n ≤ 1000) : TbJ base W a n M :=
 ⟨⟨h.trs hn hb, fun k hk => (h.bd k (by rw [hn]; exact hk)).I⟩, fun g hg => (h.lt (g := g) (by
  cases a with
  | none => cases hg
  | some x => exact hg)).1, fun k hk => (h.bd k (by rw [hn]; exact hk)).turn (fun g e => by cases e)⟩
theorem k3 (a : Option Addr) (n c : Nat) (L : List TB) (w : World) (hT : TbI w a n L) (hn : n ≤ 1000) (hl : ∀ k, k < n → (gt L k).2.nL ≤ 1000 ∧ (gt L k).2.nH ≤ 1000) :
    Calls Tryz.prog 22 #[.slice a n c] w (fun e w' => ∃ a' c' M, e = .returned (.slice a' n c') ∧ TbJ w.heap.size w' a' n M ∧ fsts M = fsts L ∧ Below w.heap.size w w') := by
 obtain ⟨i0, hi0, hz0, hs0, hb0⟩ := b6 kB
 have HF := qh (And.intro hi0 (And.intro hz0 (And.intro hs0 hb0)))
 have HT := qh hT
 have HN := qh (And.intro hn hl)
 have K0 := qh (show Rc w [] [] (.slice none 0 0) [] w from ⟨Below.refl _ _, fun _ e => (by cases e), ⟨rfl, Or.inl ⟨rfl, rfl⟩⟩, fun _ e => (by cases e)⟩)
 clear hT hn hl hi0 hz0 hs0 hb0
 go_enter Tryz.func22, Tryz.ntmps22
 go_wp2_with fail
 go_loopw [3, 4] (fun lv kv wr => ∃ (k : Nat) (M : List TB), k ≤ n ∧ kv = .int .i64 k ∧ Rc w [] [] (.slice none 0 0) [] wr ∧ Lf w.heap.size [(Value.slice none 0 0).ownBlock] lv M wr ∧ fsts M = fsts (L.take k)) (fun _ kv _ => n - (intOf kv).toNat)
 case atStart => exact ⟨0, [], by omega, rfl, K0.out, Lf.nil _ _ _, rfl⟩
 case round =>
  clear K0
  obtain ⟨k, M, hk, rfl, hK, hL, hM⟩ := hrel
  obtain ⟨aV, cV, rfl⟩ := aU hL.row
  have K := qh hK
  have HL := qh hL
  have HM := qh hM
  clear hK hL hM
  by_cases hlt : k < n
  ·obtain ⟨b, off, rfl, hq⟩ := eO (HT.out.below K.out.B).T hlt
   have HLt := qh hlt
   have HBd := qh ((HT.out.below K.out.B).B k hlt)
   have HBn := HN.out.2 k hlt
   have HQ1 := qh (show fsts (L.take (k + 1)) = fsts (L.take k) ++ [(gt L k).1] from by
    unfold fsts gt
    rw [List.take_add_one, List.map_append]
    have hk2 : k < L.length := by rw [HT.out.T.len]; exact hlt
    rw [List.getElem?_eq_getElem hk2]
    rfl)
   obtain ⟨q, hqe⟩ : ∃ q, gt L k = q := ⟨_, rfl⟩
   rw [hqe] at hq HBd HBn HQ1
   obtain ⟨x0, x1, x2, x3, x4, x5, x6, x7, x8, x9⟩ := hq
   have xl := World.block_lt_of_cell? _ _ x0
   have hk0 : (0 : Int) ≤ (k : Int) := by omega
   have hk1 : (k : Int) < (n : Int) := by omega
   have hkw : IntKind.i64.wrap ((k : Int) + 1) = ((k + 1 : Nat) : Int) := by have := HN.out.1; rw [IntWalk.i64_in _ (by omega)]; omega
   have KA := qh (Rr.new q K.out HL.out)
   clear hqe hlt
   unfold tkC at KA
   obtain ⟨⟨id, addr, rg, lo, hi, hits, misses, firm⟩, ⟨aL, nL, cL, aH, nH, cH⟩⟩ := q
   simp only [] at x0 x1 x2 x3 x4 x5 x6 x7 x8 x9 KA HBd HBn HQ1
   have HI2 := qh (HBd.out.below (aC wr (.cells #[.int .i64 id, .int .i64 addr, .int .i64 rg.r, .int .i64 rg.v, .int .i64 rg.n, .slice aL nL cL, .slice aH nH cH, .int .i64 hits, .int .i64 misses, .bool firm] 55)))
   have HBN := qh HBn
   have HLl := qh (show lo.length ≤ 1000 ∧ hi.length ≤ 1000 from ⟨by have h1 := HBd.out.L.len; have h2 := HBn.1; simp only [] at h1; omega, by have h1 := HBd.out.H.len; have h2 := HBn.2; simp only [] at h1; omega⟩)
   clear HBn
   go_upto_region 6 with fail
   clear x0 x1 x2 x3 x4 x5 x6 x7 x8 x9 xl K HL HBd
   obtain ⟨T, hTe⟩ : ∃ T, T = wr.heap.size := ⟨_, rfl⟩
   rw [← hTe] at KA ⊢
   generalize wr.alloc (.cells #[.int .i64 id, .int .i64 addr, .int .i64 rg.r, .int .i64 rg.v, .int .i64 rg.n, .slice aL nL cL, .slice aH nH cH, .int .i64 hits, .int .i64 misses, .bool firm] 55) = wa at *
   clear hTe
   have y5 : wa.cell? ⟨T, 5, none⟩ = some (.slice aL nL cL) := aA KA.out.X rfl
   have y6 : wa.cell? ⟨T, 6, none⟩ = some (.slice aH nH cH) := aA KA.out.X rfl
   have yl := aB KA.out.X
   have HLs := qh KA.out.lts
   have hcb := Alt.copyBand_call aL aH nL nH cL cH lo hi wa HI2.out.L HI2.out.H HBN.out.1 HBN.out.2
   unfold Alt.bdV at hcb
   go_wp2_with fail
   refine hcb.mono ?_; rintro e w2 ⟨vL, vH, rfl, hT2, hb⟩
   obtain ⟨⟨a1, n1, c1, a2, n2, c2⟩, e1, e2, hB2⟩ := bdx_of_own (X := (Value.slice aV M.length cV).ownBlock :: some T :: (Value.slice none 0 0).ownBlock :: []) (t := ⟨id, addr, rg, lo, hi, hits, misses, firm⟩) hT2 HLl.out.1 HLl.out.2 (fun g hg => HLs.out g hg)
   simp only [] at e1 e2
   subst e1 e2
   have HBn := qh (hB2.base KA.out.K.B.size)
   replace KA := qh (KA.out.below hb)
   clear hb hT2 hB2 hcb y5 y6 yl HLs HI2
   obtain ⟨f0, f1, f2, f3, f4, f5, f6, f7, f8, f9⟩ := aX (q := (⟨id, addr, rg, lo, hi, hits, misses, firm⟩, ⟨aL, nL, cL, aH, nH, cH⟩)) KA.out.X
   have y5 : w2.cell? ⟨T, 5, none⟩ = some (.slice aL nL cL) := aA KA.out.X rfl
   have y6 : w2.cell? ⟨T, 6, none⟩ = some (.slice aH nH cH) := aA KA.out.X rfl
   have yl := aB KA.out.X
   go_upto_region 7 with fail
   clear f0 f1 f2 f3 f4 f5 f6 f7 f8 f9 y5 y6 yl
   have KW := qh (iJ (t := ⟨id, addr, rg, lo, hi, hits, misses, firm⟩) KA.out.X lo hi a1 a2 n1 c1 n2 c2)
   replace HBn := qh (HBn.out.outs (Outs.of_only KW.out.2 (List.mem_cons_of_mem _ List.mem_cons_self)))
   replace KA := qh (KA.out.store (q' := (⟨id, addr, rg, lo, hi, hits, misses, firm⟩, ⟨a1, n1, c1, a2, n2, c2⟩)) KW.out.2 KW.out.1)
   clear KW
   generalize (w2.setCell ⟨T, 5, none⟩ (.slice a1 n1 c1)).setCell ⟨T, 6, none⟩ (.slice a2 n2 c2) = w3 at *
   obtain ⟨z0, z1, z2, z3, z4, z5, z6, z7, z8, z9⟩ := TkAt.block' (q := (⟨id, addr, rg, lo, hi, hits, misses, firm⟩, ⟨a1, n1, c1, a2, n2, c2⟩)) KA.out.X
   simp only [] at z0 z1 z2 z3 z4 z5 z6 z7 z8 z9
   have zl := aB KA.out.X
   have KB := qh (KA.out.below (aC w3 (.cells #[.int .i64 id, .int .i64 addr, .int .i64 rg.r, .int .i64 rg.v, .int .i64 rg.n, .slice a1 n1 c1, .slice a2 n2 c2, .int .i64 hits, .int .i64 misses, .bool firm] 55)))
   have HBm := qh (HBn.out.outs (Outs.of_below (aC w3 (.cells #[.int .i64 id, .int .i64 addr, .int .i64 rg.r, .int .i64 rg.v, .int .i64 rg.n, .slice a1 n1 c1, .slice a2 n2 c2, .int .i64 hits, .int .i64 misses, .bool firm] 55))))
   have HMl := qh (show M.length ≤ 1000 from by have h := HM.out; rw [← aY, h, aY, List.length_take]; have := HN.out.1; have := HLt.out; omega)
   clear KA HBn
   unfold tkC at KB
   try simp only [] at KB HBm
   go_wp2_with (at_builtin; refine wpList_append_own_at _ rfl _ _ 24 rfl w.heap.size 55 i0 _ 10 112 Tryz.underlying24 HF.out.1 HF.out.2.1 HF.out.2.2.1 HF.out.2.2.2 rfl (by decide) _ M.length _ rfl KB.out.L.row ⟨w3.heap.size, 0, none⟩ 1 1 [.int .i64 id, .int .i64 addr, .int .i64 rg.r, .int .i64 rg.v, .int .i64 rg.n, .slice a1 n1 c1, .slice a2 n2 c2, .int .i64 hits, .int .i64 misses, .bool firm] rfl rfl (bA rfl) (by intro u hu; simp at hu; rcases hu with rfl | rfl | rfl | rfl | rfl | rfl | rfl | rfl | rfl | rfl <;> rfl) (by have := HMl.out; unfold maxLen; omega) (by have := HMl.out; omega) KB.out.K.B.size ?_; intro v9 w9 hown9 hg9 _ hat9; have KC := qh (Rr.app (q := (⟨id, addr, rg, lo, hi, hits, misses, firm⟩, ⟨a1, n1, c1, a2, n2, c2⟩)) KB.out HBm.out hown9 hg9 hat9); clear hown9 hg9 hat9)
   refine ⟨⟨k + 1, M ++ [(⟨id, addr, rg, lo, hi, hits, misses, firm⟩, ⟨a1, n1, c1, a2, n2, c2⟩)], HLt.out, by go_num, KC.out.1, KC.out.2.1, by rw [HQ1.out, bK, HM.out]⟩, by simp [intOf]; have := HLt.out; omega⟩
  obtain rfl : n = k := by omega
  go_wp2_with fail
  go_ret
  have hml : M.length = n := by have h := HM.out; rw [← aY, h, aY, List.length_take, HT.out.T.len]; omega
  rw [hml]
  have hL := HL.out
  rw [hml] at hL
  exact ⟨aV, cV, M, rfl, hL.tbJ hml HN.out.1, by rw [HM.out, List.take_of_length_le (by rw [HT.out.T.len]; exact Nat.le_refl _)], K.out.B⟩
theorem own_call (p : Par) (now next : Int) (a : Option Addr) (n c : Nat) (L : List TB) (w : World) (hT : TbI w a n L) (hn : n ≤ 1000) (hl : ∀ k, k < n → (gt L k).2.nL ≤ 1000 ∧ (gt L k).2.nH ≤ 1000) :
    Calls Tryz.prog 6 #[.agg #[.int .i64 p.gate, .int .i64 p.need, .int .i64 p.most, .int .i64 p.pull, .int .i64 now, .int .i64 next, .slice a n c]] w (fun e w' => ∃ a' c' M, e = .returned (.agg #[.int .i64 p.gate, .int .i64 p.need, .int .i64 p.most, .int .i64 p.pull, .int .i64 now, .int .i64 next, .slice a' n c']) ∧ TbJ w.heap.size w' a' n M ∧ fsts M = fsts L ∧ Below w.heap.size w w') := by
 have K := qh (((Kp.nil w).alloc #[.int .i64 p.gate, .int .i64 p.need, .int .i64 p.most, .int .i64 p.pull, .int .i64 now, .int .i64 next, .slice a n c] 26).alloc #[.int .i64 0, .int .i64 0, .int .i64 0, .int .i64 0, .int .i64 0, .int .i64 0, .slice none 0 0] 26)
 have HC := qh (fun (W : World) (hb : Below w.heap.size w W) => k3 a n c L W (hT.below hb) hn hl)
 clear hT hn hl
 go_enter Tryz.func6, Tryz.ntmps6
 go_upto_region 1 with fail
 obtain ⟨b1, hb1⟩ : ∃ b, b = w.heap.size := ⟨_, rfl⟩
 obtain ⟨b2, hb2⟩ : ∃ b, b = w.heap.size + 1 := ⟨_, rfl⟩
 have KT := qh (show Below w.heap.size w ((w.alloc (.cells #[.int .i64 p.gate, .int .i64 p.need, .int .i64 p.most, .int .i64 p.pull, .int .i64 now, .int .i64 next, .slice a n c] 26)).alloc (.cells #[.int .i64 0, .int .i64 0, .int .i64 0, .int .i64 0, .int .i64 0, .int .i64 0, .slice none 0 0] 26)) ∧ ((w.alloc (.cells #[.int .i64 p.gate, .int .i64 p.need, .int .i64 p.most, .int .i64 p.pull, .int .i64 now, .int .i64 next, .slice a n c] 26)).alloc (.cells #[.int .i64 0, .int .i64 0, .int .i64 0, .int .i64 0, .int .i64 0, .int .i64 0, .slice none 0 0] 26)).heap[b1]? = some (.cells #[.int .i64 p.gate, .int .i64 p.need, .int .i64 p.most, .int .i64 p.pull, .int .i64 now, .int .i64 next, .slice a n c] 26 (0, 0)) ∧ ((w.alloc (.cells #[.int .i64 p.gate, .int .i64 p.need, .int .i64 p.most, .int .i64 p.pull, .int .i64 now, .int .i64 next, .slice a n c] 26)).alloc (.cells #[.int .i64 0, .int .i64 0, .int .i64 0, .int .i64 0, .int .i64 0, .int .i64 0, .slice none 0 0] 26)).heap[b2]? = some (.cells #[.int .i64 0, .int .i64 0, .int .i64 0, .int .i64 0, .int .i64 0, .int .i64 0, .slice none 0 0] 26 (0, 0)) ∧ w.heap.size ≤ b1 ∧ w.heap.size ≤ b2 ∧ b1 ≠ b2 from by
  have h1 := K.out.H _ (List.mem_cons_of_mem _ List.mem_cons_self)
  have h2 := K.out.H _ List.mem_cons_self
  simp only [World.size_alloc] at h2
  rw [← hb1] at h1
  rw [← hb2] at h2
  exact ⟨K.out.B, h1, h2, by omega, by omega, by omega⟩)
 rw [← hb2, ← hb1]
 generalize ((w.alloc (.cells #[.int .i64 p.gate, .int .i64 p.need, .int .i64 p.most, .int .i64 p.pull, .int .i64 now, .int .i64 next, .slice a n c] 26)).alloc (.cells #[.int .i64 0, .int .i64 0, .int .i64 0, .int .i64 0, .int .i64 0, .int .i64 0, .slice none 0 0] 26)) = wa at *
 clear hb1 hb2 K
 obtain ⟨t0, t1, t2, t3, t4, t5, t6⟩ := aK KT.out.2.1
 have tl := aB KT.out.2.1
 go_wp2_with fail
 refine (HC.out _ KT.out.1).mono ?_; rintro e w1 ⟨a', c', M, rfl, hJ, hM, hb⟩
 have HB1 := qh (KT.out.1.trans (hb.mono KT.out.1.size))
 have H1 := qh (aN hb KT.out.2.1)
 have H2 := qh (aN hb KT.out.2.2.1)
 have HJ := qh (And.intro hJ hM)
 have HLt := qh (And.intro (aB KT.out.2.1) (aB KT.out.2.2.1))
 clear hb hJ hM t0 t1 t2 t3 t4 t5 t6 tl
 obtain ⟨t0, t1, t2, t3, t4, t5, t6⟩ := aK H1.out
 obtain ⟨f0, f1, f2, f3, f4, f5, f6⟩ := bT H1.out
 have tl := aB H1.out
 go_upto_region 2 with fail
 clear t0 t1 t2 t3 t4 t5 t6 tl f0 f1 f2 f3 f4 f5 f6
 have hO : Only b1 w1 (w1.setCell ⟨b1, 6, none⟩ (.slice a' n c')) := (Only.refl _ _).setCell 6 _
 have H3 := qh (show (w1.setCell ⟨b1, 6, none⟩ (.slice a' n c')).heap[b1]? = some (.cells #[.int .i64 p.gate, .int .i64 p.need, .int .i64 p.most, .int .i64 p.pull, .int .i64 now, .int .i64 next, .slice a' n c'] 26 (0, 0)) from aD H1.out)
 have H4 := qh (hO.keeps H2.out KT.out.2.2.2.2.2.symm)
 have HB3 := qh (HB1.out.trans (hO.below KT.out.2.2.2.1 HB1.out.size))
 have HJ3 := qh (HJ.out.1.only2 hO HLt.out.1)
 clear hO
 generalize w1.setCell ⟨b1, 6, none⟩ (.slice a' n c') = w3 at *
 obtain ⟨t0, t1, t2, t3, t4, t5, t6⟩ := aK H3.out
 have tl := aB H3.out
 obtain ⟨z0, z1, z2, z3, z4, z5, z6⟩ := aK H4.out
 obtain ⟨f0, f1, f2, f3, f4, f5, f6⟩ := bT H4.out
 have zl := aB H4.out
 go_wp2_with fail
 have KS := qh (bX HB3.out H4.out KT.out.2.2.2.2.1 (.int .i64 p.gate) (.int .i64 p.need) (.int .i64 p.most) (.int .i64 p.pull) (.int .i64 now) (.int .i64 next) (.slice a' n c'))
 have hO := oT w3 b2 (.int .i64 p.gate) (.int .i64 p.need) (.int .i64 p.most) (.int .i64 p.pull) (.int .i64 now) (.int .i64 next) (.slice a' n c')
 obtain ⟨s0, s1, s2, s3, s4, s5, s6⟩ := aK KS.out.2
 refine bodyPost_ret (v := .agg #[.int .i64 p.gate, .int .i64 p.need, .int .i64 p.most, .int .i64 p.pull, .int .i64 now, .int .i64 next, .slice a' n c']) ?_ rfl ⟨a', c', M, rfl, (HJ3.out.only2 hO HLt.out.2).base KT.out.1.size, HJ.out.2, KS.out.1⟩
 simp [results, Tryz.f6, go_sem, s0, s1, s2, s3, s4, s5, s6]
end Go.Proofs.YtikjjpjekchcjaaGreat
end
section
namespace Go.Proofs.YtikjjpjekchcjaaGreat
open Go.RowKit TrkMath MyHeap MyOwn MyCopy
def RfPost (t : Tk) (E : Int) (w : World) (e : Ending) (w' : World) : Prop := ∃ s : Bs, e = .returned (.tuple #[tkV (t, s), .int .i64 E]) ∧ BdI w' (t, s) ∧ Below w.heap.size w w'
theorem rFind_call (p : Par) (now next id : Int) (a : Option Addr) (n c : Nat) (L : List TB) (w : World) (hT : TbI w a n L) :
    Calls Tryz.prog 15 #[.agg #[.int .i64 p.gate, .int .i64 p.need, .int .i64 p.most, .int .i64 p.pull, .int .i64 now, .int .i64 next, .slice a n c], .int .i64 id] w (RfPost (fdT p now next (fsts L) id) (fdE p now next (fsts L) id) w) := by
 have HT := qh hT
 have HLn := qh hT.T.len
 have hbn := hT.T.bound
 have K := qh (show Below w.heap.size w ((w.alloc (.cells #[.int .i64 p.gate, .int .i64 p.need, .int .i64 p.most, .int .i64 p.pull, .int .i64 now, .int .i64 next, .slice a n c] 38)).alloc (.cells (tkC (tk0, bs0)) 55)) ∧ ((w.alloc (.cells #[.int .i64 p.gate, .int .i64 p.need, .int .i64 p.most, .int .i64 p.pull, .int .i64 now, .int .i64 next, .slice a n c] 38)).alloc (.cells (tkC (tk0, bs0)) 55)).heap[w.heap.size]? = some (.cells #[.int .i64 p.gate, .int .i64 p.need, .int .i64 p.most, .int .i64 p.pull, .int .i64 now, .int .i64 next, .slice a n c] 38 (0, 0)) ∧ ((w.alloc (.cells #[.int .i64 p.gate, .int .i64 p.need, .int .i64 p.most, .int .i64 p.pull, .int .i64 now, .int .i64 next, .slice a n c] 38)).alloc (.cells (tkC (tk0, bs0)) 55)).heap[w.heap.size + 1]? = some (.cells (tkC (tk0, bs0)) 55 (0, 0)) from ⟨(aC w _).alloc (by simp) _, aG (aI w _ rfl), aI _ _ (by simp)⟩)
 have HCk := qh (fun (W : World) (hb : Below w.heap.size w W) => gC p now next a n c L W (hT.T.below hb) (fun k hk => (hT.B k hk).below hb))
 clear hT
 unfold tbV at HCk
 by_cases hE : ckE p now next (fsts L) = 0
 ·have HE := qh hE
  rw [hE] at HCk
  clear hE
  go_enter Tryz.func15, Tryz.ntmps15
  go_wp2_with fail
  refine (HCk.out _ K.out.1).mono ?_; rintro e w1 ⟨rfl, hb⟩
  replace K := qh (And.intro (K.out.1.trans (hb.mono K.out.1.size)) (And.intro (aN hb K.out.2.1) (aN hb K.out.2.2)))
  clear hb HCk
  have K1 := K
  clear K
  go_wp2_with fail
  go_loopw [5, 7] (fun v5 kv wr => ∃ k : Nat, k ≤ n ∧ v5 = .int .i64 0 ∧ kv = .int .i64 k ∧ (∀ i, i < k → (gk (fsts L) i).id ≠ id) ∧ Below w1.heap.size w1 wr) (fun _ kv _ => n - (intOf kv).toNat)
  case atStart => exact ⟨0, by omega, rfl, rfl, fun i hi => absurd hi (Nat.not_lt_zero _), Below.refl _ _⟩
  case round =>
   obtain ⟨k, hk, rfl, rfl, hA, hB⟩ := hrel
   have HA := qh hA
   have B := qh hB
   have K := qh (show Below w.heap.size w wr ∧ wr.heap[w.heap.size]? = some (.cells #[.int .i64 p.gate, .int .i64 p.need, .int .i64 p.most, .int .i64 p.pull, .int .i64 now, .int .i64 next, .slice a n c] 38 (0, 0)) ∧ wr.heap[w.heap.size + 1]? = some (.cells (tkC (tk0, bs0)) 55 (0, 0)) from ⟨K1.out.1.trans (hB.mono K1.out.1.size), aN hB K1.out.2.1, aN hB K1.out.2.2⟩)
   clear hA hB K1
   by_cases hlt : k < n
   ·obtain ⟨b, off, rfl, hq⟩ := eO (HT.out.below K.out.1).T hlt
    have HLt := qh hlt
    have HQ := qh (mN L k)
    have HBd := qh ((HT.out.below K.out.1).B k hlt)
    obtain ⟨q, hqe⟩ : ∃ q, gt L k = q := ⟨_, rfl⟩
    rw [hqe] at hq HQ HBd
    obtain ⟨x0, x1, x2, x3, x4, x5, x6, x7, x8, x9⟩ := hq
    have xl := World.block_lt_of_cell? _ _ x0
    have hk0 : (0 : Int) ≤ (k : Int) := by omega
    have hk1 : (k : Int) < (n : Int) := by omega
    have hkw : IntKind.i64.wrap ((k : Int) + 1) = ((k + 1 : Nat) : Int) := by rw [IntWalk.i64_in _ (by omega)]; omega
    obtain ⟨⟨id', addr, rg, lo, hi, hits, misses, firm⟩, ⟨aL, nL, cL, aH, nH, cH⟩⟩ := q
    simp only [] at x0 x1 x2 x3 x4 x5 x6 x7 x8 x9 HBd HQ
    obtain ⟨t0, t1, t2, t3, t4, t5, t6⟩ := aK K.out.2.1
    have tl := aB K.out.2.1
    have HQE := qh hqe
    clear hqe hlt HBd
    by_cases hid : id' = id
    ·have hib : (id' == id) = true := beq_iff_eq.2 hid
     have HF := qh (o8 (p := p) (now := now) (next := next) (id := id) HE.out (by rw [aY, HLn.out]; exact HLt.out) (by rw [HQ.out]; exact hid) (fun i hi => HA.out i hi))
     clear hid
     obtain ⟨q0, q1, q2, q3, q4, q5, q6, q7, q8, q9⟩ := TkAt.block' (q := (tk0, bs0)) K.out.2.2
     simp only [tk0, bs0, rg0] at q0 q1 q2 q3 q4 q5 q6 q7 q8 q9
     obtain ⟨f0, f1, f2, f3, f4, f5, f6, f7, f8, f9⟩ := aX (q := (tk0, bs0)) K.out.2.2
     have ql := aB K.out.2.2
     go_wp2_with fail
     have KS := qh (fU K.out.2.2 rfl (.int .i64 id') (.int .i64 addr) (.int .i64 rg.r) (.int .i64 rg.v) (.int .i64 rg.n) (.slice aL nL cL) (.slice aH nH cH) (.int .i64 hits) (.int .i64 misses) (.bool firm))
     obtain ⟨s0, s1, s2, s3, s4, s5, s6, s7, s8, s9⟩ := cY KS.out.2
     refine bodyPost_ret (v := .tuple #[.agg #[.int .i64 id', .int .i64 addr, .int .i64 rg.r, .int .i64 rg.v, .int .i64 rg.n, .slice aL nL cL, .slice aH nH cH, .int .i64 hits, .int .i64 misses, .bool firm], .int .i64 0]) ?_ rfl ?_
     ·simp [results, Tryz.f15, go_sem, s0, s1, s2, s3, s4, s5, s6, s7, s8, s9]
     rw [HF.out.1, HF.out.2, HQ.out]
     exact ⟨⟨aL, nL, cL, aH, nH, cH⟩, rfl, (by have h := (HT.out.below (K.out.1.trans (KS.out.1.below (Nat.le_succ _) K.out.1.size))).B k HLt.out; rw [HQE.out] at h; exact h), K.out.1.trans (KS.out.1.below (Nat.le_succ _) K.out.1.size)⟩
    have hib : (id' == id) = false := beq_eq_false_iff_ne.2 hid
    have HA2 := qh (show ∀ i, i < k + 1 → (gk (fsts L) i).id ≠ id from fun i hi => by
     by_cases e : i = k
     ·subst e; rw [HQ.out]; exact hid
     exact HA.out i (by omega))
    clear hid
    go_wp2_with fail
    refine ⟨⟨k + 1, HLt.out, rfl, by go_num, HA2.out, B.out⟩, by simp [intOf]; have := HLt.out; omega⟩
   obtain rfl : n = k := by omega
   have HE9 := qh (fdE_no (p := p) (now := now) (next := next) HE.out (fun i hi => HA.out i (by rw [aY, HLn.out] at hi; exact hi)))
   obtain ⟨t0, t1, t2, t3, t4, t5, t6⟩ := aK K.out.2.1
   have tl := aB K.out.2.1
   obtain ⟨q0, q1, q2, q3, q4, q5, q6, q7, q8, q9⟩ := TkAt.block' (q := (tk0, bs0)) K.out.2.2
   simp only [tk0, bs0, rg0] at q0 q1 q2 q3 q4 q5 q6 q7 q8 q9
   obtain ⟨f0, f1, f2, f3, f4, f5, f6, f7, f8, f9⟩ := aX (q := (tk0, bs0)) K.out.2.2
   have ql := aB K.out.2.2
   go_wp2_with fail
   have KS := qh (fU K.out.2.2 rfl (.int .i64 0) (.int .i64 0) (.int .i64 0) (.int .i64 0) (.int .i64 0) (.slice none 0 0) (.slice none 0 0) (.int .i64 0) (.int .i64 0) (.bool false))
   obtain ⟨s0, s1, s2, s3, s4, s5, s6, s7, s8, s9⟩ := cY KS.out.2
   refine bodyPost_ret (v := .tuple #[tkV (tk0, bs0), .int .i64 9]) ?_ rfl ?_
   ·simp [results, Tryz.f15, go_sem, s0, s1, s2, s3, s4, s5, s6, s7, s8, s9, tkV, tkC, tk0, bs0, rg0]
   rw [HE9.out.1, HE9.out.2]
   exact ⟨bs0, rfl, (mC 0 [] _).I, K.out.1.trans (KS.out.1.below (Nat.le_succ _) K.out.1.size)⟩
 have HE := qh (fdE_ck (id := id) hE)
 obtain ⟨E, hE2⟩ : ∃ E, ckE p now next (fsts L) = E := ⟨_, rfl⟩
 have HE2 := qh hE2
 have hne : (E != 0) = true := by rw [bne_iff_ne, ← hE2]; exact hE
 rw [hE2] at HCk
 clear hE hE2
 go_enter Tryz.func15, Tryz.ntmps15
 go_wp2_with fail
 refine (HCk.out _ K.out.1).mono ?_; rintro e w1 ⟨rfl, hb⟩
 replace K := qh (And.intro (K.out.1.trans (hb.mono K.out.1.size)) (And.intro (aN hb K.out.2.1) (aN hb K.out.2.2)))
 clear hb HCk
 obtain ⟨q0, q1, q2, q3, q4, q5, q6, q7, q8, q9⟩ := TkAt.block' (q := (tk0, bs0)) K.out.2.2
 simp only [tk0, bs0, rg0] at q0 q1 q2 q3 q4 q5 q6 q7 q8 q9
 obtain ⟨f0, f1, f2, f3, f4, f5, f6, f7, f8, f9⟩ := aX (q := (tk0, bs0)) K.out.2.2
 have ql := aB K.out.2.2
 go_wp2_with fail
 have KS := qh (fU K.out.2.2 rfl (.int .i64 0) (.int .i64 0) (.int .i64 0) (.int .i64 0) (.int .i64 0) (.slice none 0 0) (.slice none 0 0) (.int .i64 0) (.int .i64 0) (.bool false))
 obtain ⟨s0, s1, s2, s3, s4, s5, s6, s7, s8, s9⟩ := cY KS.out.2
 refine bodyPost_ret (v := .tuple #[tkV (tk0, bs0), .int .i64 E]) ?_ rfl ?_
 ·simp [results, Tryz.f15, go_sem, s0, s1, s2, s3, s4, s5, s6, s7, s8, s9, tkV, tkC, tk0, bs0, rg0]
 rw [HE.out.1, HE.out.2, HE2.out]
 exact ⟨bs0, rfl, (mC 0 [] _).I, K.out.1.trans (KS.out.1.below (Nat.le_succ _) K.out.1.size)⟩
theorem equal_call (p : Par) (now next : Int) (a a' : Option Addr) (n c c' : Nat) (M M' : List TB) (w : World) (hT : TbI w a n M) (hT' : TbI w a' n M') (hM : fsts M = fsts M') :
    Calls Tryz.prog 19 #[.agg #[.int .i64 p.gate, .int .i64 p.need, .int .i64 p.most, .int .i64 p.pull, .int .i64 now, .int .i64 next, .slice a n c], .agg #[.int .i64 p.gate, .int .i64 p.need, .int .i64 p.most, .int .i64 p.pull, .int .i64 now, .int .i64 next, .slice a' n c']] w (BoolB true w) := by
 have K := qh (((Kp.nil w).alloc #[.int .i64 p.gate, .int .i64 p.need, .int .i64 p.most, .int .i64 p.pull, .int .i64 now, .int .i64 next, .slice a n c] 26).alloc #[.int .i64 p.gate, .int .i64 p.need, .int .i64 p.most, .int .i64 p.pull, .int .i64 now, .int .i64 next, .slice a' n c'] 26)
 have HT := qh (And.intro hT (And.intro hT' hM))
 clear hT hT' hM
 go_enter Tryz.func19, Tryz.ntmps19
 go_wp2_with fail
 have KD := qh (show Below ((w.alloc (.cells #[.int .i64 p.gate, .int .i64 p.need, .int .i64 p.most, .int .i64 p.pull, .int .i64 now, .int .i64 next, .slice a n c] 26)).alloc (.cells #[.int .i64 p.gate, .int .i64 p.need, .int .i64 p.most, .int .i64 p.pull, .int .i64 now, .int .i64 next, .slice a' n c'] 26)).heap.size ((w.alloc (.cells #[.int .i64 p.gate, .int .i64 p.need, .int .i64 p.most, .int .i64 p.pull, .int .i64 now, .int .i64 next, .slice a n c] 26)).alloc (.cells #[.int .i64 p.gate, .int .i64 p.need, .int .i64 p.most, .int .i64 p.pull, .int .i64 now, .int .i64 next, .slice a' n c'] 26)) ((w.alloc (.cells #[.int .i64 p.gate, .int .i64 p.need, .int .i64 p.most, .int .i64 p.pull, .int .i64 now, .int .i64 next, .slice a n c] 26)).alloc (.cells #[.int .i64 p.gate, .int .i64 p.need, .int .i64 p.most, .int .i64 p.pull, .int .i64 now, .int .i64 next, .slice a' n c'] 26)).drew from aM (Below.refl _ _) 1)
 have HB := qh (K.out.B.trans (KD.out.mono K.out.B.size))
 have hA := aN KD.out (K.out.H _ (List.mem_cons_of_mem _ List.mem_cons_self))
 have hBk := aN KD.out (K.out.H _ List.mem_cons_self)
 simp only [World.size_alloc] at hBk
 have HS := qh (And.intro hA hBk)
 clear hA hBk KD K
 refine MyHeldE.start (fun W => W.heap[w.heap.size]? = some (.cells #[.int .i64 p.gate, .int .i64 p.need, .int .i64 p.most, .int .i64 p.pull, .int .i64 now, .int .i64 next, .slice a n c] 26 (0, 0)) ∧ W.heap[w.heap.size + 1]? = some (.cells #[.int .i64 p.gate, .int .i64 p.need, .int .i64 p.most, .int .i64 p.pull, .int .i64 now, .int .i64 next, .slice a' n c'] 26 (0, 0))) [] (by kernel_rfl) ?_
 have hHeld := HS.out
 generalize ((w.alloc (.cells #[.int .i64 p.gate, .int .i64 p.need, .int .i64 p.most, .int .i64 p.pull, .int .i64 now, .int .i64 next, .slice a n c] 26)).alloc (.cells #[.int .i64 p.gate, .int .i64 p.need, .int .i64 p.most, .int .i64 p.pull, .int .i64 now, .int .i64 next, .slice a' n c'] 26)).drew = wd at *
 refine MyHeldE.tk 0 (hy := fun w hSw => by obtain ⟨q0, q1, q2, q3, q4, q5, q6⟩ := aK hSw.1; go_simp; (try with_reducible rfl)) ?_
 refine MyHeldE.tk 1 (hy := fun w hSw => by obtain ⟨q0, q1, q2, q3, q4, q5, q6⟩ := aK hSw.2; go_simp; (try with_reducible rfl)) ?_
 refine MyHeldE.ready (rs := [2]) (by kernel_rfl) (by simp) ?_
 refine (MyHeldE.next 2 (MyHeld.at_rfl rfl) (fun Kq hKq => ?_) MyHeldE.All.nil)
 go_simp
 go_at_call 10
 refine (fO p now next a' n c' _).mono ?_; rintro e w2 ⟨rfl, hb⟩
 replace HB := qh (HB.out.trans (hb.mono HB.out.size))
 replace HS := qh (And.intro (aN hb HS.out.1) (aN hb HS.out.2))
 clear hb
 have hs := nK p now next a a' n c c' M M' w2 (HT.out.1.below HB.out) (HT.out.2.1.below HB.out) HT.out.2.2
 unfold tbV at hs
 refine hKq.out _ _ (fun _ => (HS.out)) ?_
 clear hKq Kq hHeld
 have hHeld := (HS.out)
 try simp only [Act.put, List.setIfInBounds_toArray, List.set_cons_zero, List.set_cons_succ]
 refine MyHeldE.ready (rs := [3]) (by kernel_rfl) (by simp) ?_
 refine (MyHeldE.next 3 (MyHeld.at_rfl rfl) (fun Kq hKq => ?_) MyHeldE.All.nil)
 go_simp
 go_at_call 13
 refine hs.mono ?_; rintro e w3 ⟨rfl, hb⟩
 replace HB := qh (HB.out.trans (hb.mono HB.out.size))
 replace HS := qh (And.intro (aN hb HS.out.1) (aN hb HS.out.2))
 clear hb hs
 refine hKq.out _ _ (fun _ => (HS.out)) ?_
 clear hKq Kq hHeld
 have hHeld := (HS.out)
 try simp only [Act.put, List.setIfInBounds_toArray, List.set_cons_zero, List.set_cons_succ]
 refine MyHeldE.tk 4 ?_
 refine MyHeldE.done (by kernel_rfl) ?_ _
 go_wp2_with fail
 go_ret
 exact ⟨rfl, HB.out⟩
end Go.Proofs.YtikjjpjekchcjaaGreat
end
