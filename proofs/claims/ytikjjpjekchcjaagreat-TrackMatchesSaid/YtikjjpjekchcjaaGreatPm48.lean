/-
  TrkMd, TrkLg, RowLib
-/
import Derived.Test.YtikjjpjekchcjaaGreatPm46
import Derived.Test.YtikjjpjekchcjaaGreatPm45
import Derived.ShutString
import Derived.Carry
set_option linter.all false
set_option maxRecDepth 100000
set_option maxHeartbeats 64000000
section
namespace Go.Proofs.YtikjjpjekchcjaaGreat
open Go.RowKit TrkMath MyHeap MyOwn MyCopy
structure Ef (S : Nat → Prop) (w w' : World) : Prop where
 os : w'.os = w.os
 tape : w'.tape = w.tape
 output : w'.output = w.output
 size : w.heap.size ≤ w'.heap.size
 keep : ∀ k, k < w.heap.size → ¬ S k → w'.heap[k]? = w.heap[k]?
 shape : ∀ (k : Nat) (cs : Array Value) (T : TypeId), w.heap[k]? = some (.cells cs T (0, 0)) → ∃ cs' : Array Value, w'.heap[k]? = some (.cells cs' T (0, 0)) ∧ cs'.size = cs.size
section
variable {S S' : Nat → Prop} {w w' w2 : World}
theorem Ef.refl (S : Nat → Prop) (w : World) : Ef S w w := ⟨rfl, rfl, rfl, Nat.le_refl _, fun _ _ _ => rfl, fun _ cs _ h => ⟨cs, h, rfl⟩⟩
theorem Ef.trans (h : Ef S w w') (k : Ef S w' w2) : Ef S w w2 :=
 ⟨k.os.trans h.os, k.tape.trans h.tape, k.output.trans h.output, Nat.le_trans h.size k.size, fun j hj hn => (k.keep j (Nat.lt_of_lt_of_le hj h.size) hn).trans (h.keep j hj hn), fun j cs T hc => by
  obtain ⟨cs', h1, h2⟩ := h.shape j cs T hc
  obtain ⟨cs'', h3, h4⟩ := k.shape j cs' T h1
  exact ⟨cs'', h3, h4.trans h2⟩⟩
theorem Ef.mono (h : Ef S w w') (hs : ∀ k, S k → S' k) : Ef S' w w' := ⟨h.os, h.tape, h.output, h.size, fun k hk hn => h.keep k hk fun e => hn (hs k e), h.shape⟩
theorem Ef.of_below (hb : Below w.heap.size w w') : Ef S w w' := ⟨hb.os, hb.tape, hb.output, hb.size, fun k hk _ => hb.block k hk, fun k cs T h => ⟨cs, aN hb h, rfl⟩⟩
theorem Ef.below {B : Nat} (h : Ef S w w') (hB : B ≤ w.heap.size) (hs : ∀ k, S k → B ≤ k) : Below B w w' := ⟨h.os, h.tape, h.output, h.size, fun k hk => h.keep k (Nat.lt_of_lt_of_le hk hB) fun e => by have := hs k e; omega⟩
theorem Ef.set {b i : Nat} {v : Value} (hs : S b) : Ef S w (w.setCell ⟨b, i, none⟩ v) := by
 have hO : Only b w (w.setCell ⟨b, i, none⟩ v) := (Only.refl _ _).setCell i v
 refine ⟨hO.os, hO.tape, hO.output, hO.size, fun k hk hn => hO.block k hk fun e => ?_, fun k cs T h => ?_⟩
 ·cases e; exact hn hs
 by_cases e : k = b
 ·subst e; exact ⟨_, aD h, by simp⟩
 exact ⟨cs, hO.keeps h e, rfl⟩
def Rw (w : World) (a : Option Addr) (n : Nat) : Prop := n = 0 ∨ ∃ b off cs T, a = some ⟨b, off, none⟩ ∧ w.heap[b]? = some (.cells cs T (0, 0)) ∧ off + n ≤ cs.size
theorem Rw.ef {a : Option Addr} {n : Nat} (h : Rw w a n) (k : Ef S w w') : Rw w' a n := by
 rcases h with h0 | ⟨b, off, cs, T, e, h1, h2⟩
 ·exact Or.inl h0
 obtain ⟨cs', h3, h4⟩ := k.shape b cs T h1
 exact Or.inr ⟨b, off, cs', T, e, h3, by omega⟩
theorem rw_of {a : Option Addr} {n : Nat} {l : List Int} (h : Alt.Ints w a n l) (hz : ∀ g, blk a = some g → Fz w g) : Rw w a n := by
 by_cases h0 : n = 0
 ·exact Or.inl h0
 rcases h.cells with h1 | ⟨b, off, rfl, hc⟩
 ·exact Or.inl h1
 obtain ⟨cs, T, hb⟩ := hz b rfl
 refine Or.inr ⟨b, off, cs, T, rfl, hb, ?_⟩
 have h2 := hc (n - 1) (by omega)
 rcases Nat.lt_or_ge (off + (n - 1)) cs.size with q | q
 ·omega
 simp [World.cell?, hb, q] at h2
end
def OvP (S : Nat → Prop) (w : World) (e : Ending) (w' : World) : Prop := e = .returned (.tuple #[]) ∧ Ef S w w'
theorem lI (a : Option Addr) (n c : Nat) (w : World) (h : Rw w a n) (hm : n ≤ 9223372036854775807) :
    Calls Tryz.prog 46 #[.slice a n c] w (OvP (fun k => blk a = some k) w) := by
 have HR := qh h
 have K := qh (Ef.refl (fun k => blk a = some k) w)
 clear h
 go_enter Tryz.func46, Tryz.ntmps46
 go_wp2_with fail
 go_loopw [2] (fun kv wr => ∃ k : Nat, k ≤ n ∧ kv = .int .i64 k ∧ Ef (fun k => blk a = some k) w wr) (fun kv _ => n - (intOf kv).toNat)
 case atStart => exact ⟨0, Nat.zero_le _, rfl, K.out⟩
 case round =>
  clear K
  obtain ⟨k, hk, rfl, hK⟩ := hrel
  have HK := qh hK
  by_cases hlt : k < n
  ·rcases HR.out.ef hK with h0 | ⟨b, off, cs, T, rfl, hb, hn⟩
   ·omega
   have hk0 : (0 : Int) ≤ (k : Int) := by omega
   have hk1 : (k : Int) < (n : Int) := by omega
   have hkw : IntKind.i64.wrap ((k : Int) + 1) = ((k + 1 : Nat) : Int) := by rw [IntWalk.i64_in _ (by omega)]; omega
   obtain ⟨u0, hu0⟩ : ∃ u0, cs[off + k]? = some u0 := ⟨_, Array.getElem?_eq_getElem (by omega)⟩
   have x0 : wr.cell? ⟨b, off + k, none⟩ = some u0 := aA hb hu0
   have f0 : wr.frozen? ⟨b, off + k, none⟩ = false := aF hb
   have xl := aB hb
   have HLt := qh hlt
   clear hK hb hn hu0 hlt
   go_wp2_with fail
   refine ⟨⟨k + 1, HLt.out, by go_num, HK.out.trans (Ef.set rfl)⟩, by simp [intOf]; have := HLt.out; omega⟩
  obtain rfl : n = k := by omega
  clear hK
  go_wp2_with fail
  exact bodyPost_ret (v := .tuple #[]) (by simp [results, Tryz.f46, go_sem]) rfl ⟨rfl, HK.out⟩
theorem lJ (aL aH : Option Addr) (nL nH cL cH : Nat) (w : World) (hL : Rw w aL nL) (hH : Rw w aH nH) (bL : nL ≤ 9223372036854775807) (bH : nH ≤ 9223372036854775807) (gL : ∀ g, blk aL = some g → g < w.heap.size) :
    Calls Tryz.prog 18 #[.agg #[.slice aL nL cL, .slice aH nH cH]] w (OvP (fun k => blk aL = some k ∨ blk aH = some k) w) := by
 have hb := aC w (.cells #[.slice aL nL cL, .slice aH nH cH] 53)
 have HE := qh (show Ef (fun k => blk aL = some k ∨ blk aH = some k) w (w.alloc (.cells #[.slice aL nL cL, .slice aH nH cH] 53)) from Ef.of_below hb)
 have HX := qh (aI w (.cells #[.slice aL nL cL, .slice aH nH cH] 53 (0, 0)) rfl)
 have HR := qh (And.intro (hL.ef HE.out) (hH.ef HE.out))
 have HN := qh (And.intro bL (And.intro bH gL))
 clear hb hL hH bL bH gL
 go_enter Tryz.func18, Tryz.ntmps18
 go_wp2_with fail
 refine (lI aL nL cL _ HR.out.1 HN.out.1).mono ?_; rintro e w1 ⟨rfl, hE⟩
 have HX1 := qh (show w1.heap[w.heap.size]? = some (.cells #[.slice aL nL cL, .slice aH nH cH] 53 (0, 0)) from (hE.keep _ (aB HX.out) (fun e => by have := HN.out.2.2 _ e; omega)).trans HX.out)
 have HE1 := qh (HE.out.trans (hE.mono fun k e => Or.inl e))
 have HR1 := qh (HR.out.2.ef hE)
 clear hE
 have k0 : w1.cell? ⟨w.heap.size, 0, none⟩ = some (.slice aL nL cL) := aA HX1.out rfl
 have k1 : w1.cell? ⟨w.heap.size, 1, none⟩ = some (.slice aH nH cH) := aA HX1.out rfl
 have kl := aB HX1.out
 go_wp2_with fail
 refine (lI aH nH cH _ HR1.out HN.out.2.1).mono ?_; rintro e w2 ⟨rfl, hE⟩
 have HE2 := qh (HE1.out.trans (hE.mono fun k e => Or.inr e))
 clear hE k0 k1 kl
 go_wp2_with fail
 exact bodyPost_ret (v := .tuple #[]) (by simp [results, Tryz.f18, go_sem]) rfl ⟨rfl, HE2.out⟩
structure OvR (B C n : Nat) (a : Option Addr) (M : List TB) (w W : World) : Prop where
 E : Ef (fun k => B ≤ k ∧ k < C) w W
 R : n = 0 ∨ ∃ g cs, a = some ⟨g, 0, none⟩ ∧ (B ≤ g ∧ g < C) ∧ W.heap[g]? = some (.cells cs 55 (0, 0)) ∧ n * 10 ≤ cs.size ∧ ∀ j, j < n → cs[j * 10 + 5]? = some (.slice (gt M j).2.aL (gt M j).2.nL (gt M j).2.cL) ∧ cs[j * 10 + 6]? = some (.slice (gt M j).2.aH (gt M j).2.nH (gt M j).2.cH)
theorem OvR.new {B n c : Nat} {X : List (Option Nat)} {a : Option Addr} {M : List TB} {w0 w : World} (h0 : Lf B X (.slice a n c) M w0) (hb : Below w0.heap.size w0 w) (hn : M.length = n) : OvR B w0.heap.size n a M w w := by
 refine ⟨Ef.refl _ _, ?_⟩
 have h := h0.below hb
 rcases h.row.2 with ⟨e, h0⟩ | ⟨g, cap, cur, e, hg, hh, hc, hcm, hcs, htake⟩
 ·exact Or.inl (by rw [← hn]; exact h0)
 cases e
 refine Or.inr ⟨g, cur, rfl, ⟨hg, (h0.lt rfl).2⟩, hh, by rw [hn] at hc; omega, fun j hj => ?_⟩
 have hj' : j < M.length := by omega
 have h5 := jN M j 5 hj' (by decide)
 have h6 := jN M j 6 hj' (by decide)
 rw [← htake, List.getElem?_take_of_lt (by omega)] at h5 h6
 exact ⟨by simpa [tkC] using h5, by simpa [tkC] using h6⟩
theorem overT_call (B n c : Nat) (X : List (Option Nat)) (a : Option Addr) (M : List TB) (w0 w : World) (h : Lf B X (.slice a n c) M w0) (hw : Below w0.heap.size w0 w) (hn : M.length = n) (hb : n ≤ 1000) :
    Calls Tryz.prog 17 #[.slice a n c] w (OvP (fun k => B ≤ k ∧ k < w0.heap.size) w) := by
 have K := qh (OvR.new h hw hn)
 have HL0 := qh h
 have HL := qh (h.below hw)
 have HN := qh (And.intro hn hb)
 clear h hw hn hb
 go_enter Tryz.func17, Tryz.ntmps17
 go_wp2_with fail
 go_loopw [2] (fun kv wr => ∃ k : Nat, k ≤ n ∧ kv = .int .i64 k ∧ OvR B w0.heap.size n a M w wr) (fun kv _ => n - (intOf kv).toNat)
 case atStart => exact ⟨0, Nat.zero_le _, rfl, K.out⟩
 case round =>
  clear K
  obtain ⟨k, hk, rfl, hK⟩ := hrel
  have HK := qh hK
  by_cases hlt : k < n
  ·rcases hK.R with h0 | ⟨g, cs, rfl, hg, hh, hs, hc⟩
   ·omega
   have hk0 : (0 : Int) ≤ (k : Int) := by omega
   have hk1 : (k : Int) < (n : Int) := by omega
   have hkw : IntKind.i64.wrap ((k : Int) + 1) = ((k + 1 : Nat) : Int) := by have := HN.out.2; rw [IntWalk.i64_in _ (by omega)]; omega
   have hbd := HL.out.bd k (by rw [HN.out.1]; exact hlt)
   have hbd0 := HL0.out.bd k (by rw [HN.out.1]; exact hlt)
   have hgL : ∀ x, blk (gt M k).2.aL = some x → x ≠ g := fun x e e2 => (hbd.gL x e).1.2 (by rw [e2]; exact List.mem_cons_self)
   have hgH : ∀ x, blk (gt M k).2.aH = some x → x ≠ g := fun x e e2 => (hbd.gH x e).1.2 (by rw [e2]; exact List.mem_cons_self)
   have HRw := qh (And.intro ((rw_of hbd.L (fun x e => (hbd.gL x e).2)).ef hK.E) ((rw_of hbd.H (fun x e => (hbd.gH x e).2)).ef hK.E))
   have HBn := qh (And.intro hbd.L.bound (And.intro hbd.H.bound (show ∀ x, blk (gt M k).2.aL = some x → x < wr.heap.size from fun x e => Nat.lt_of_lt_of_le (hbd.gL x e).2.lt hK.E.size)))
   have HG := qh (And.intro hgL (And.intro hgH (And.intro (fun x e => And.intro (hbd.gL x e).1.1 ((hbd0.gL x e).2.lt)) (fun x e => And.intro (hbd.gH x e).1.1 ((hbd0.gH x e).2.lt)))))
   obtain ⟨c5, c6⟩ := hc k hlt
   have HC := qh (And.intro hh (And.intro hs (And.intro hc hg)))
   obtain ⟨⟨t, aL, nL, cL, aH, nH, cH⟩, hq⟩ : ∃ q, gt M k = q := ⟨_, rfl⟩
   rw [hq] at c5 c6 HRw HBn HG
   simp only [] at c5 c6 HRw HBn HG
   have x5 : wr.cell? ⟨g, k * 10 + 5, none⟩ = some (.slice aL nL cL) := aA hh c5
   have x6 : wr.cell? ⟨g, k * 10 + 6, none⟩ = some (.slice aH nH cH) := aA hh c6
   have xl := aB hh
   have HLt := qh hlt
   clear hK hh hs hc hg hbd hbd0 hgL hgH c5 c6 hq hlt
   go_wp2_with fail
   refine (lJ aL aH nL nH cL cH _ HRw.out.1 HRw.out.2 HBn.out.1 HBn.out.2.1 HBn.out.2.2).mono ?_; rintro e w2 ⟨rfl, hE⟩
   have hh2 : w2.heap[g]? = some (.cells cs 55 (0, 0)) := (hE.keep g (aB HC.out.1) (fun e => e.elim (fun e => HG.out.1 g e rfl) (fun e => HG.out.2.1 g e rfl))).trans HC.out.1
   have HE2 := qh (HK.out.E.trans (hE.mono fun x e => e.elim (fun e => HG.out.2.2.1 x e) (fun e => HG.out.2.2.2 x e)))
   have HH2 := qh hh2
   clear hE hh2 x5 x6 xl
   obtain ⟨u0, hu0⟩ : ∃ u0, cs[k * 10]? = some u0 := ⟨_, Array.getElem?_eq_getElem (by have := HC.out.2.1; have := HLt.out; omega)⟩
   have x0 : w2.cell? ⟨g, k * 10, none⟩ = some u0 := aA HH2.out hu0
   have f0 : w2.frozen? ⟨g, k * 10, none⟩ = false := aF HH2.out
   have xl := aB HH2.out
   clear hu0
   go_wp2_with fail
   refine ⟨⟨k + 1, HLt.out, by go_num, ⟨HE2.out.trans (Ef.set HC.out.2.2.2), Or.inr ⟨g, _, rfl, HC.out.2.2.2, aD HH2.out, by simpa using HC.out.2.1, fun j hj => ?_⟩⟩⟩, by simp [intOf]; have := HLt.out; omega⟩
   obtain ⟨e5, e6⟩ := HC.out.2.2.1 j hj
   exact ⟨by rw [Array.getElem?_setIfInBounds_ne (by omega)]; exact e5, by rw [Array.getElem?_setIfInBounds_ne (by omega)]; exact e6⟩
  obtain rfl : n = k := by omega
  go_wp2_with fail
  exact bodyPost_ret (v := .tuple #[]) (by simp [results, Tryz.f17, go_sem]) rfl ⟨rfl, HK.out.E⟩
end Go.Proofs.YtikjjpjekchcjaaGreat
end
section
namespace Go.Proofs.YtikjjpjekchcjaaGreat
open Go.RowKit TrkMath MyHeap MyOwn MyCopy
def LgB (n pn : Nat) (M : List TB) (w : World) (e : Ending) (w' : World) : Prop := ∃ b : Bool, e = .returned (.bool b) ∧ Below w.heap.size w w' ∧ (b = false → n ≤ 20 ∧ pn ≤ 20 ∧ ∀ i, i < n → (gt M i).2.nL ≤ 210 ∧ (gt M i).2.nH ≤ 210)
theorem longL_call (p : Par) (now next : Int) (a pa : Option Addr) (n c pn pc : Nat) (M : List TB) (w : World) (hT : TbI w a n M) :
    Calls Tryz.prog 4 #[.agg #[.int .i64 p.gate, .int .i64 p.need, .int .i64 p.most, .int .i64 p.pull, .int .i64 now, .int .i64 next, .slice a n c], .slice pa pn pc] w (LgB n pn M w) := by
 have K := qh ((HK.nil w).alloc #[.int .i64 p.gate, .int .i64 p.need, .int .i64 p.most, .int .i64 p.pull, .int .i64 now, .int .i64 next, .slice a n c] 26)
 have TT := qh (hT.below (aC w (.cells #[.int .i64 p.gate, .int .i64 p.need, .int .i64 p.most, .int .i64 p.pull, .int .i64 now, .int .i64 next, .slice a n c] 26)))
 have hb := hT.T.bound
 clear hT
 obtain ⟨t0, t1, t2, t3, t4, t5, t6⟩ := aK (K.out.H _ List.mem_cons_self)
 have tl := aB (K.out.H _ List.mem_cons_self)
 go_enter Tryz.func4, Tryz.ntmps4
 by_cases h1 : 20 < n
 ·have h1i : (20 : Int) < (n : Int) := by omega
  go_wp2_with fail
  go_ret
  exact ⟨_, rfl, K.out.B, fun e => (by cases e)⟩
 have h1i : ¬ (20 : Int) < (n : Int) := by omega
 by_cases h2 : 20 < pn
 ·have h2i : (20 : Int) < (pn : Int) := by omega
  go_wp2_with fail
  go_ret
  exact ⟨_, rfl, K.out.B, fun e => (by cases e)⟩
 have h2i : ¬ (20 : Int) < (pn : Int) := by omega
 have HNN := qh (show n ≤ 20 ∧ pn ≤ 20 from ⟨by omega, by omega⟩)
 go_wp2_with fail
 clear t0 t1 t2 t3 t4 t5 t6 tl
 obtain ⟨B1, hB1⟩ : ∃ b, b = w.heap.size := ⟨_, rfl⟩
 rw [← hB1] at K ⊢
 clear hB1
 generalize w.alloc (.cells #[.int .i64 p.gate, .int .i64 p.need, .int .i64 p.most, .int .i64 p.pull, .int .i64 now, .int .i64 next, .slice a n c] 26) = w1 at *
 go_loopw [4, 5] (fun v4 kv wr => ∃ k : Nat, k ≤ n ∧ v4 = .bool false ∧ kv = .int .i64 k ∧ HK w wr [(B1, .cells #[.int .i64 p.gate, .int .i64 p.need, .int .i64 p.most, .int .i64 p.pull, .int .i64 now, .int .i64 next, .slice a n c] 26 (0, 0))] ∧ TbI wr a n M ∧ ∀ i, i < k → (gt M i).2.nL ≤ 210 ∧ (gt M i).2.nH ≤ 210) (fun _ kv _ => n - (intOf kv).toNat)
 case atStart => exact ⟨0, by omega, rfl, rfl, K.out, TT.out, fun i hi => absurd hi (Nat.not_lt_zero _)⟩
 case round =>
  clear K TT
  obtain ⟨k, hk, rfl, rfl, hK, hT, hA⟩ := hrel
  have HA := qh hA
  clear hA
  have K := qh hK
  have TT := qh hT
  clear hK hT
  obtain ⟨t0, t1, t2, t3, t4, t5, t6⟩ := aK (K.out.H _ List.mem_cons_self)
  have tl := aB (K.out.H _ List.mem_cons_self)
  by_cases hlt : k < n
  ·obtain ⟨b, off, rfl, hq⟩ := eO TT.out.T hlt
   have x5 := hq.c5
   have x6 := hq.c6
   have xl := World.block_lt_of_cell? _ _ x5
   clear hq
   have HLt := qh hlt
   have hk0 : (0 : Int) ≤ (k : Int) := by omega
   have hk1 : (k : Int) < (n : Int) := by omega
   have hkw : IntKind.i64.wrap ((k : Int) + 1) = ((k + 1 : Nat) : Int) := by rw [IntWalk.i64_in _ (by omega)]; omega
   obtain ⟨⟨t', aL, nL, cL, aH, nH, cH⟩, hqe⟩ : ∃ q, gt M k = q := ⟨_, rfl⟩
   rw [hqe] at x5 x6
   simp only [] at x5 x6
   have HQ := qh (show (gt M k).2.nL = nL ∧ (gt M k).2.nH = nH from by rw [hqe]; exact ⟨rfl, rfl⟩)
   clear hqe hlt
   by_cases c1 : 210 < nL
   ·have c1i : (210 : Int) < (nL : Int) := by omega
    go_wp2_with fail
    go_ret
    exact ⟨_, rfl, K.out.B, fun e => (by cases e)⟩
   have c1i : ¬ (210 : Int) < (nL : Int) := by omega
   by_cases c2 : 210 < nH
   ·have c2i : (210 : Int) < (nH : Int) := by omega
    go_wp2_with fail
    go_ret
    exact ⟨_, rfl, K.out.B, fun e => (by cases e)⟩
   have c2i : ¬ (210 : Int) < (nH : Int) := by omega
   have HA2 := qh (show ∀ i, i < k + 1 → (gt M i).2.nL ≤ 210 ∧ (gt M i).2.nH ≤ 210 from fun i hi => by
    by_cases e : i = k
    ·subst e; have := HQ.out; omega
    exact HA.out i (by omega))
   go_wp2_with fail
   refine ⟨⟨k + 1, HLt.out, rfl, by go_num, K.out, TT.out, HA2.out⟩, by simp [intOf]; have := HLt.out; omega⟩
  obtain rfl : n = k := by omega
  go_wp2_with fail
  go_ret
  exact ⟨_, rfl, K.out.B, fun _ => ⟨HNN.out.1, HNN.out.2, HA.out⟩⟩
end Go.Proofs.YtikjjpjekchcjaaGreat
end
section
namespace Go.MyRow
open Go.ChangeShapes Go.WideShapes Go.ChangeAt Go.RowKit
section
variable {H : Type} {enc : TypeId × Value → H} {P : Program}
theorem jD (hl : laidOutB P = true) {W W' : World} (hb : Below W.heap.size W W') {sp : Nat → Bool} : ∀ {ts : List TypeId} {vs : List Value} {ds : List (DataW H)} {ps : List MemPlace},
    (ts.all fun t => P.readableRec t && decide (t < P.types.size)) = true → DataW.TrodAll enc P W 0 (fun _ => true) true ts vs ds ps → (∀ p ∈ ps, p.block < W.heap.size) → (∀ p ∈ ps, sp p.block = true) →
    DataW.TrodAll enc P W' 0 sp true ts vs ds ps
 | [], [], [], _, _, h, _, _ => h
 | t :: ts, v :: vs, d :: ds, _, hr, ⟨p, q, h1, h2, e⟩, hlt, hs => by
  subst e
  simp only [List.all_cons, Bool.and_eq_true, decide_eq_true_eq] at hr
  exact ⟨p, q, WideElems.Trod_stays hl hr.1.1 hr.1.2 h1 (fun x hx => hb.same (hlt x (by simp [hx]))) (fun x hx => hs x (by simp [hx])),
   jD hl hb hr.2 h2 (fun x hx => hlt x (by simp [hx])) (fun x hx => hs x (by simp [hx])), rfl⟩
 | [], _ :: _, _, _, _, h, _, _ => h.elim
 | [], [], _ :: _, _, _, h, _, _ => h.elim
 | _ :: _, [], _, _, _, h, _, _ => h.elim
 | _ :: _, _ :: _, [], _, _, h, _, _ => h.elim
theorem law_post {f : Func} {s : ChangeSpec} {W W' : World} {args : Array Value} {ds gs : List (DataW H)} {before : List MemPlace} {tb : TypeId}
    (hl : laidOutB P = true) (hr : (f.params.toList.all fun t => P.readableRec t && decide (t < P.types.size)) = true) (ht : f.resultTypes = #[tb]) (hb4 : P.underlying tb = some .bool)
    (hv : s.vars = []) (hres : (s.fn H (ds ++ gs)).results = [.lit (.bool true)]) (hargs : (s.fn H (ds ++ gs)).args = ds) (hvars : (s.fn H (ds ++ gs)).vars = [])
    (hW : DataW.Whole enc P f.params.toList s.vars false W args.toList ds gs before) (hb : Below W.heap.size W W') :
    s.post enc P f false true false false W args (.bool true) W' := by
 have hlt : ∀ p ∈ before, p.block < W.heap.size := fun p hp => hW.lt p hp
 have hW' := hW
 obtain ⟨p, q, hA, hV, rfl, _, _⟩ := hW
 rw [hv] at hV
 have hq : q = [] := by
  cases gs with
  | nil => exact hV
  | cons g gs => exact hV.elim
 subst hq
 refine ⟨ds, gs, _, [], p, [], hW', ?_, ?_, ?_, ?_, fun h => by cases h⟩
 ·rw [hres, ht]
  exact trodAll_cons_mk (shut_bool hb4 _) trodAll_mk0
 ·rw [hargs]
  exact jD hl hb hr hA (fun x hx => hlt x (by simp [hx])) (fun x hx => by simpa using hlt x (by simp [hx]))
 ·rw [hv, hvars]; exact rfl
 exact hb.frame _
end
end Go.MyRow
end
