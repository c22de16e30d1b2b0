/-
  TrkJc, TrkTj, TrkRowV, TrkRowM, PtAltU, PtAltV
-/
import Derived.Test.YtikjjpjekchcjaaGreatPm43
import Derived.Lib.SmallJoins
import Derived.Deep.SlicePairs
import Derived.ProofKit
import Derived.OpenShut
set_option linter.all false
set_option maxRecDepth 100000
set_option maxHeartbeats 64000000
section
namespace Go.Proofs.YtikjjpjekchcjaaGreat
open Go.RowKit TrkMath MyHeap MyOwn
structure TbJ (B : Nat) (W : World) (a : Option Addr) (n : Nat) (M : List TB) : Prop where
 I : TbI W a n M
 t : ∀ g, blk a = some g → B ≤ g
 b : ∀ k, k < n → BdX B [] W (gt M k)
theorem TbJ.only {B T n : Nat} {W W' : World} {a : Option Addr} {M : List TB} (h : TbJ B W a n M) (hO : Only T W W') (hT : T < B) : TbI W' a n M := by
 have hOo := Outs.of_only (X := [some T]) hO (List.mem_singleton.2 rfl)
 refine ⟨⟨h.I.T.len, h.I.T.bound, ?_⟩, fun k hk => ?_⟩
 ·rcases h.I.T.cells with h0 | ⟨b, off, e, hc⟩
  ·exact Or.inl h0
  refine Or.inr ⟨b, off, e, fun i hi => (hc i hi).outs hOo (fun c => ?_)⟩
  have := h.t b (by rw [e]; rfl)
  have := Option.some.inj (List.mem_singleton.1 c)
  omega
 have h1 := h.b k hk
 have h2 : BdX B [some T] W (gt M k) := ⟨h1.L, h1.H, fun x e => ⟨⟨(h1.gL x e).1.1, fun c => by have := (h1.gL x e).1.1; have := Option.some.inj (List.mem_singleton.1 c); omega⟩, (h1.gL x e).2⟩, fun x e => ⟨⟨(h1.gH x e).1.1, fun c => by have := (h1.gH x e).1.1; have := Option.some.inj (List.mem_singleton.1 c); omega⟩, (h1.gH x e).2⟩⟩
 exact (h2.outs hOo).I
theorem cy_call (p : Par) {now now' next nx' : Int} {L L' : List Tk} {P : List Pl} (h0 : cyE p now next L P = 0) (hT : cyT p next L P = L') (hX : cyX p next L P = nx') (hl : L'.length ≤ 1000) (hn' : now + 1 = now')
    (a : Option Addr) (n c : Nat) (pa : Option Addr) (pn pc : Nat) (M : List TB) (W : World) (hTb : TbI W a n M) (hM : fsts M = L) (hP : Pls W pa pn P) :
    Calls Tryz.prog 8 #[.agg #[.int .i64 p.gate, .int .i64 p.need, .int .i64 p.most, .int .i64 p.pull, .int .i64 now, .int .i64 next, .slice a n c], .slice pa pn pc] W (fun e w' => ∃ a' c' ea em ec M', e = .returned (.tuple #[.agg #[.int .i64 p.gate, .int .i64 p.need, .int .i64 p.most, .int .i64 p.pull, .int .i64 now', .int .i64 nx', .slice a' L'.length c'], .slice ea em ec, .int .i64 0]) ∧ TbJ W.heap.size w' a' L'.length M' ∧ fsts M' = L' ∧ EvI w' ea em (cyV p next L P) ∧ Below W.heap.size W w') := by
 have hc := iC p now next a n c pa pn pc M P W hTb.T hTb.B hP
 rw [hM, h0, (jQ h0).1, (jQ h0).2, hT, hX, hn'] at hc
 refine hc.mono ?_
 rintro e w' ⟨tV, eV, M', rfl, hL, hM', hE, hB⟩
 have hlen : M'.length = L'.length := by rw [← aY, hM']
 obtain ⟨a', c', rfl, hI⟩ := hL.tbI (by omega)
 obtain ⟨ea, ec, rfl, hEv⟩ := o9 hE
 rw [hlen] at hI ⊢
 exact ⟨a', c', ea, _, ec, M', rfl, ⟨hI, fun g hg => (hL.lt (g := g) (by
  cases a' with
  | none => cases hg
  | some x => exact hg)).1, fun k hk => (hL.bd k (by omega)).turn (fun g e => by cases e)⟩, hM', hEv, hB⟩
end Go.Proofs.YtikjjpjekchcjaaGreat
end
section
namespace Go.Proofs.YtikjjpjekchcjaaGreat
open Go.RowKit TrkMath MyHeap MyOwn MyCopy
theorem TbJ.below {B n : Nat} {W W' : World} {a : Option Addr} {M : List TB} (h : TbJ B W a n M) (hb : Below W.heap.size W W') : TbJ B W' a n M := ⟨h.I.below hb, h.t, fun k hk => (h.b k hk).outs (Outs.of_below hb)⟩
theorem TbJ.base {B B' n : Nat} {W : World} {a : Option Addr} {M : List TB} (h : TbJ B W a n M) (hb : B' ≤ B) : TbJ B' W a n M := ⟨h.I, fun g e => Nat.le_trans hb (h.t g e), fun k hk => (h.b k hk).base hb⟩
theorem TbJ.only2 {B T n : Nat} {W W' : World} {a : Option Addr} {M : List TB} (h : TbJ B W a n M) (hO : Only T W W') (hT : T < B) : TbJ B W' a n M := by
 refine ⟨h.only hO hT, h.t, fun k hk => ?_⟩
 have h1 := h.b k hk
 have h2 : BdX B [some T] W (gt M k) := ⟨h1.L, h1.H, fun x e => ⟨⟨(h1.gL x e).1.1, fun c => by have := (h1.gL x e).1.1; have := Option.some.inj (List.mem_singleton.1 c); omega⟩, (h1.gL x e).2⟩, fun x e => ⟨⟨(h1.gH x e).1.1, fun c => by have := (h1.gH x e).1.1; have := Option.some.inj (List.mem_singleton.1 c); omega⟩, (h1.gH x e).2⟩⟩
 exact (h2.outs (Outs.of_only (X := [some T]) hO (List.mem_singleton.2 rfl))).turn (fun _ e => by cases e)
theorem TbJ.nil (B : Nat) (W : World) : TbJ B W none 0 [] := ⟨TbI.nil _ _, fun _ e => (by cases e), fun _ hk => absurd hk (Nat.not_lt_zero _)⟩
end Go.Proofs.YtikjjpjekchcjaaGreat
end
section
namespace Go.Proofs.YtikjjpjekchcjaaGreat
open Go.ChangeShapes Go.WideShapes Go.ChangeAt Go.RowKit Go.Deep TrkMath MyHeap
section
variable {H : Type} {enc : TypeId × Value → H} {P : Program}
theorem bJ {W : World} {base : Nat} {spare : Nat → Bool} {held : Bool} {t : TypeId} {fs : Array Field} {fuel : Nat} {cs : List Value} {x : DataW H × List MemPlace} (ht : P.underlying t = some (.struct fs)) (h : DataW.trod enc P W base spare held fuel t cs = some x) (j : Nat) {f : Field} (hj : fs[j]? = some f) :
    ∃ y n, DataW.trod enc P W base spare held n f.type ((cs.drop f.offset).take (P.cellsOf f.type)) = some y := by
 obtain ⟨xs, n, _, rfl, hl, hlen, hf⟩ := DataW.trod_struct ht h
 have hlt : j < xs.length := by
  have := (Array.getElem?_eq_some_iff.1 hj).1
  omega
 exact ⟨xs[j], n, by rw [hf j f hj, List.getElem?_eq_getElem hlt]⟩
theorem cN {W : World} {base : Nat} {spare : Nat → Bool} {held : Bool} {t : TypeId} {n : Nat} {c : Value} {y : DataW H × List MemPlace} (ht : P.underlying t = some (.int .i64)) (h : DataW.trod enc P W base spare held n t [c] = some y) : ∃ x : Int, c = .int .i64 x := by
 obtain ⟨x, e, _, _⟩ := DataW.trod_int ht h
 simp only [List.cons.injEq, and_true] at e
 exact ⟨x, e⟩
theorem bool_cell {W : World} {base : Nat} {spare : Nat → Bool} {held : Bool} {t : TypeId} {n : Nat} {c : Value} {y : DataW H × List MemPlace} (ht : P.underlying t = some .bool) (h : DataW.trod enc P W base spare held n t [c] = some y) : ∃ x : Bool, c = .bool x := by
 obtain ⟨x, e, _⟩ := DataW.trod_bool ht h
 simp only [List.cons.injEq, and_true] at e
 exact ⟨x, e⟩
theorem kS {W : World} {base : Nat} {spare : Nat → Bool} {held : Bool} {t ti : TypeId} {f0 f1 f2 : Field} {n : Nat} {c0 c1 c2 : Value} {y : DataW H × List MemPlace} (ht : P.underlying t = some (.struct #[f0, f1, f2])) (o0 : f0.offset = 0) (o1 : f1.offset = 1) (o2 : f2.offset = 2)
    (t0 : f0.type = ti) (t1 : f1.type = ti) (t2 : f2.type = ti) (hi : P.underlying ti = some (.int .i64)) (hc : P.cellsOf ti = 1) (h : DataW.trod enc P W base spare held n t [c0, c1, c2] = some y) : ∃ x y z : Int, c0 = .int .i64 x ∧ c1 = .int .i64 y ∧ c2 = .int .i64 z := by
 obtain ⟨y0, n0, h0⟩ := bJ ht h 0 rfl
 obtain ⟨y1, n1, h1⟩ := bJ ht h 1 rfl
 obtain ⟨y2, n2, h2⟩ := bJ ht h 2 rfl
 simp [o0, o1, o2, t0, t1, t2, hc] at h0 h1 h2
 obtain ⟨x, rfl⟩ := cN hi h0
 obtain ⟨y, rfl⟩ := cN hi h1
 obtain ⟨z, rfl⟩ := cN hi h2
 exact ⟨x, y, z, rfl, rfl, rfl⟩
theorem lM {t e : TypeId} {W : World} {n : Nat} {c0 : Value} {y : DataW H × List MemPlace} (ht : P.underlying t = some (.slice e)) (he : P.underlying e = some (.int .i64)) (hc : P.cellsOf e = 1)
    (h : DataW.trod enc P W 0 (fun _ => true) true n t [c0] = some y) : ∃ a m c l, c0 = .slice a m c ∧ Alt.Ints W a m l := by
 rcases open_ints ht he hc h with ⟨hcs, hx⟩ | ⟨a, len, cap, zs, hcs, _, hl, hm, hz, hx, hcell, hwz⟩
 ·simp at hcs
  subst hcs
  exact ⟨none, 0, 0, [], rfl, ⟨rfl, by omega, Or.inl rfl⟩⟩
 simp at hcs
 subst hcs
 simp only [if_true] at hz
 unfold maxLen at hm
 refine ⟨some a, len, cap, zs.take len, rfl, ⟨by rw [List.length_take]; omega, by omega, ?_⟩⟩
 by_cases h0 : len = 0
 ·exact Or.inl h0
 obtain ⟨b, off, rfl, hc'⟩ := _root_.Go.ints_at hcell (by omega)
 refine Or.inr ⟨b, off, rfl, fun i hi => ?_⟩
 unfold AltMath.gi
 rw [hc' i (by omega), List.getElem?_take, if_pos hi, List.getD_eq_getElem?_getD]
theorem gB {α : Type} [Inhabited α] {k : Nat} {t e : TypeId} {W : World} {n : Nat} {c0 : Value} {y : DataW H × List MemPlace} (R : Nat → Nat → α → Prop) (ht : P.underlying t = some (.slice e)) (hc : P.cellsOf e = k) (hk : 0 < k)
    (he : ∀ (b off n : Nat) (cs : List Value) (y : DataW H × List MemPlace), cs.length = k → (∀ j, j < k → W.cell? ⟨b, off + j, none⟩ = cs[j]?) → DataW.trod enc P W 0 (fun _ => true) true n e cs = some y → ∃ q : α, R b off q)
    (h : DataW.trod enc P W 0 (fun _ => true) true n t [c0] = some y) :
    ∃ a n c, c0 = .slice a n c ∧ n ≤ 9223372036854775807 ∧ ∃ l : List α, l.length = n ∧ (n = 0 ∨ ∃ b off, a = some ⟨b, off, none⟩ ∧ ∀ i, i < n → R b (off + i * k) (l[i]?.getD default)) := by
 rcases open_slice ht h with ⟨hcs, hx⟩ | ⟨a, len, cap, m, n', D, Pl, hcs, _, hl, hm, hmm, _, hx⟩
 ·simp at hcs
  subst hcs
  exact ⟨none, 0, 0, rfl, by decide, [], rfl, Or.inl rfl⟩
 simp at hcs
 subst hcs
 unfold maxLen at hm
 have hlm : len ≤ m := by rw [hmm]; split <;> omega
 refine ⟨some a, len, cap, rfl, by omega, ?_⟩
 by_cases h0 : len = 0
 ·exact ⟨[], by rw [h0]; rfl, Or.inl h0⟩
 have hs : a.spot = none := by
  obtain ⟨cs', h1, h2⟩ := hx 0 (by omega)
  rw [hc] at h1
  obtain ⟨_, hlen, hcell⟩ := World.cells?_some h1
  have e0 := hcell 0 hk
  rw [List.getElem?_eq_getElem (by omega)] at e0
  simpa [Addr.add] using World.cell?_spot e0
 obtain ⟨b, off, spot⟩ := a
 simp only [] at hs
 subst hs
 have each : ∀ i, i < len → ∃ q : α, R b (off + i * k) q := by
  intro i hi
  obtain ⟨cs', h1, h2⟩ := hx i (by omega)
  rw [hc] at h1
  obtain ⟨_, hlen, hcell⟩ := World.cells?_some h1
  refine he b (off + i * k) n' cs' _ hlen (fun j hj => ?_) h2
  have := hcell j hj
  simp only [Go.WideShapes.add_plain] at this
  exact this
 obtain ⟨q, hq⟩ := choose_lt each
 refine ⟨(List.range len).map q, by simp, Or.inr ⟨b, off, rfl, fun i hi => ?_⟩⟩
 have ek : ((List.range len).map q)[i]?.getD default = q i := by simp [hi]
 rw [ek]
 exact hq i hi
instance : Inhabited Pl := ⟨pl0⟩
instance : Inhabited TB := ⟨tb0⟩
theorem len3 {cs : List Value} (h : cs.length = 3) : ∃ c0 c1 c2, cs = [c0, c1, c2] := by
 match cs, h with
 | [c0, c1, c2], _ => exact ⟨c0, c1, c2, rfl⟩
theorem len10 {cs : List Value} (h : cs.length = 10) : ∃ c0 c1 c2 c3 c4 c5 c6 c7 c8 c9, cs = [c0, c1, c2, c3, c4, c5, c6, c7, c8, c9] := by
 match cs, h with
 | [c0, c1, c2, c3, c4, c5, c6, c7, c8, c9], _ => exact ⟨c0, c1, c2, c3, c4, c5, c6, c7, c8, c9, rfl⟩
theorem iA {t e ti : TypeId} {f0 f1 f2 : Field} {W : World} {n : Nat} {c0 : Value} {y : DataW H × List MemPlace} (ht : P.underlying t = some (.slice e)) (hc : P.cellsOf e = 3) (he : P.underlying e = some (.struct #[f0, f1, f2]))
    (o0 : f0.offset = 0) (o1 : f1.offset = 1) (o2 : f2.offset = 2) (t0 : f0.type = ti) (t1 : f1.type = ti) (t2 : f2.type = ti) (hi : P.underlying ti = some (.int .i64)) (hci : P.cellsOf ti = 1)
    (h : DataW.trod enc P W 0 (fun _ => true) true n t [c0] = some y) : ∃ a n c l, c0 = .slice a n c ∧ Pls W a n l := by
 obtain ⟨a, n, c, rfl, hb, l, hl, hx⟩ := gB (α := Pl) (fun b off q => W.cell? ⟨b, off, none⟩ = some (.int .i64 q.r) ∧ W.cell? ⟨b, off + 1, none⟩ = some (.int .i64 q.code) ∧ W.cell? ⟨b, off + 2, none⟩ = some (.int .i64 q.addr)) ht hc (by decide) (fun b off m cs z hlen hcell hz => by
  obtain ⟨c0, c1, c2, rfl⟩ := len3 hlen
  obtain ⟨x, y, z, rfl, rfl, rfl⟩ := kS he o0 o1 o2 t0 t1 t2 hi hci hz
  exact ⟨⟨x, y, z⟩, hcell 0 (by decide), hcell 1 (by decide), hcell 2 (by decide)⟩) h
 exact ⟨a, n, c, l, rfl, hl, hb, hx⟩
theorem open_pls {t e ti : TypeId} {f0 f1 f2 : Field} {base : Nat} {W : World} {v : Value} {d : DataW H} {ps : List MemPlace} (ht : P.underlying t = some (.slice e)) (hc : P.cellsOf e = 3) (he : P.underlying e = some (.struct #[f0, f1, f2]))
    (o0 : f0.offset = 0) (o1 : f1.offset = 1) (o2 : f2.offset = 2) (t0 : f0.type = ti) (t1 : f1.type = ti) (t2 : f2.type = ti) (hi : P.underlying ti = some (.int .i64)) (hci : P.cellsOf ti = 1)
    (hv : Value.okWide P W .any base t v) (h : DataW.Trod enc P W 0 (fun _ => true) true t v d ps) : ∃ a n c l, v = .slice a n c ∧ Pls W a n l := by
 obtain ⟨a0, len, cap, rfl⟩ := okWide_slice ht hv
 obtain ⟨fuel, hf⟩ := h
 exact iA ht hc he o0 o1 o2 t0 t1 t2 hi hci hf
def PlsL (W : World) (a : Option Addr) (n : Nat) (L : List ((Option Addr × Nat × Nat) × List Pl)) : Prop :=
 L.length = n ∧ n ≤ 9223372036854775807 ∧ (n = 0 ∨ ∃ b off, a = some ⟨b, off, none⟩ ∧ ∀ i, i < n → ∃ q, L[i]? = some q ∧ W.cell? ⟨b, off + i, none⟩ = some (.slice q.1.1 q.1.2.1 q.1.2.2) ∧ Pls W q.1.1 q.1.2.1 q.2)
theorem open_plsl {tt t e ti : TypeId} {f0 f1 f2 : Field} {base : Nat} {W : World} {v : Value} {d : DataW H} {ps : List MemPlace} (htt : P.underlying tt = some (.slice t)) (hct : P.cellsOf t = 1) (ht : P.underlying t = some (.slice e)) (hc : P.cellsOf e = 3) (he : P.underlying e = some (.struct #[f0, f1, f2]))
    (o0 : f0.offset = 0) (o1 : f1.offset = 1) (o2 : f2.offset = 2) (t0 : f0.type = ti) (t1 : f1.type = ti) (t2 : f2.type = ti) (hi : P.underlying ti = some (.int .i64)) (hci : P.cellsOf ti = 1)
    (hv : Value.okWide P W .any base tt v) (h : DataW.Trod enc P W 0 (fun _ => true) true tt v d ps) : ∃ a n c L, v = .slice a n c ∧ PlsL W a n L := by
 obtain ⟨a0, len, cap, rfl⟩ := okWide_slice htt hv
 obtain ⟨fuel, hf⟩ := h
 obtain ⟨a, n, c, e0, hb, l, hl, hx⟩ := gB (α := (Option Addr × Nat × Nat) × List Pl) (fun b off q => W.cell? ⟨b, off, none⟩ = some (.slice q.1.1 q.1.2.1 q.1.2.2) ∧ Pls W q.1.1 q.1.2.1 q.2) htt hct (by decide) (fun b off m cs z hlen hcell hz => by
  match cs, hlen with
  | [c0], _ =>
   obtain ⟨a, n, c, l, rfl, hP⟩ := iA ht hc he o0 o1 o2 t0 t1 t2 hi hci hz
   exact ⟨((a, n, c), l), hcell 0 (by decide), hP⟩) hf
 refine ⟨a, n, c, l, e0, hl, hb, ?_⟩
 rcases hx with h0 | ⟨b, off, ea, hx⟩
 ·exact Or.inl h0
 refine Or.inr ⟨b, off, ea, fun i hi => ?_⟩
 have h1 := hx i hi
 rw [List.getElem?_eq_getElem (by omega), Option.getD_some, Nat.mul_one] at h1
 exact ⟨l[i]'(by omega), List.getElem?_eq_getElem (by omega), h1⟩
theorem tk_of_trod {e tr tb ts ti tf : TypeId} {f0 f1 f2 f3 f4 f5 f6 r0 r1 r2 b0 b1 : Field} {W : World} (he : P.underlying e = some (.struct #[f0, f1, f2, f3, f4, f5, f6]))
    (o : f0.offset = 0 ∧ f1.offset = 1 ∧ f2.offset = 2 ∧ f3.offset = 5 ∧ f4.offset = 7 ∧ f5.offset = 8 ∧ f6.offset = 9) (ty : f0.type = ti ∧ f1.type = ti ∧ f2.type = tr ∧ f3.type = tb ∧ f4.type = ti ∧ f5.type = ti ∧ f6.type = tf)
    (hi : P.underlying ti = some (.int .i64)) (hci : P.cellsOf ti = 1) (hf : P.underlying tf = some .bool) (hcf : P.cellsOf tf = 1)
    (hr : P.underlying tr = some (.struct #[r0, r1, r2])) (hcr : P.cellsOf tr = 3) (or : r0.offset = 0 ∧ r1.offset = 1 ∧ r2.offset = 2) (tyr : r0.type = ti ∧ r1.type = ti ∧ r2.type = ti)
    (hb : P.underlying tb = some (.struct #[b0, b1])) (hcb : P.cellsOf tb = 2) (ob : b0.offset = 0 ∧ b1.offset = 1) (tyb : b0.type = ts ∧ b1.type = ts) (hs : P.underlying ts = some (.slice ti)) (hcs : P.cellsOf ts = 1)
    (b off m : Nat) (cs : List Value) (z : DataW H × List MemPlace) (hlen : cs.length = 10) (hcell : ∀ j, j < 10 → W.cell? ⟨b, off + j, none⟩ = cs[j]?) (hz : DataW.trod enc P W 0 (fun _ => true) true m e cs = some z) : ∃ q : TB, TkAt W b off q ∧ BdI W q := by
 obtain ⟨c0, c1, c2, c3, c4, c5, c6, c7, c8, c9, rfl⟩ := len10 hlen
 obtain ⟨o0, o1, o2, o3, o4, o5, o6⟩ := o
 obtain ⟨t0, t1, t2, t3, t4, t5, t6⟩ := ty
 obtain ⟨or0, or1, or2⟩ := or
 obtain ⟨tr0, tr1, tr2⟩ := tyr
 obtain ⟨y0, n0, h0⟩ := bJ he hz 0 rfl
 obtain ⟨y1, n1, h1⟩ := bJ he hz 1 rfl
 obtain ⟨y2, n2, h2⟩ := bJ he hz 2 rfl
 obtain ⟨y3, n3, h3⟩ := bJ he hz 3 rfl
 obtain ⟨y4, n4, h4⟩ := bJ he hz 4 rfl
 obtain ⟨y5, n5, h5⟩ := bJ he hz 5 rfl
 obtain ⟨y6, n6, h6⟩ := bJ he hz 6 rfl
 simp [o0, o1, o2, o3, o4, o5, o6, t0, t1, t2, t3, t4, t5, t6, hci, hcr, hcb, hcf] at h0 h1 h2 h3 h4 h5 h6
 obtain ⟨x0, rfl⟩ := cN hi h0
 obtain ⟨x1, rfl⟩ := cN hi h1
 obtain ⟨ra, rb, rc, rfl, rfl, rfl⟩ := kS hr or0 or1 or2 tr0 tr1 tr2 hi hci h2
 obtain ⟨z0, m0, g0⟩ := bJ hb h3 0 rfl
 obtain ⟨z1, m1, g1⟩ := bJ hb h3 1 rfl
 simp [ob.1, ob.2, tyb.1, tyb.2, hcs] at g0 g1
 obtain ⟨aL, nL, cL, lo, rfl, iL⟩ := lM hs hi hci g0
 obtain ⟨aH, nH, cH, hi', rfl, iH⟩ := lM hs hi hci g1
 obtain ⟨x7, rfl⟩ := cN hi h4
 obtain ⟨x8, rfl⟩ := cN hi h5
 obtain ⟨x9, rfl⟩ := bool_cell hf h6
 exact ⟨(⟨x0, x1, ⟨ra, rb, rc⟩, lo, hi', x7, x8, x9⟩, ⟨aL, nL, cL, aH, nH, cH⟩), ⟨hcell 0 (by decide), hcell 1 (by decide), hcell 2 (by decide), hcell 3 (by decide), hcell 4 (by decide), hcell 5 (by decide), hcell 6 (by decide), hcell 7 (by decide), hcell 8 (by decide), hcell 9 (by decide)⟩, ⟨iL, iH⟩⟩
theorem open_table {t tp tt e ti : TypeId} {f0 f1 f2 f3 p0 p1 p2 p3 : Field} {base : Nat} {W : World} {v : Value} {d : DataW H} {ps : List MemPlace}
    (ht : P.underlying t = some (.struct #[f0, f1, f2, f3])) (hC : P.cellsOf t = 7) (o : f0.offset = 0 ∧ f1.offset = 4 ∧ f2.offset = 5 ∧ f3.offset = 6) (ty : f0.type = tp ∧ f1.type = ti ∧ f2.type = ti ∧ f3.type = tt)
    (hi : P.underlying ti = some (.int .i64)) (hci : P.cellsOf ti = 1) (hp : P.underlying tp = some (.struct #[p0, p1, p2, p3])) (hcp : P.cellsOf tp = 4) (op : p0.offset = 0 ∧ p1.offset = 1 ∧ p2.offset = 2 ∧ p3.offset = 3) (typ : p0.type = ti ∧ p1.type = ti ∧ p2.type = ti ∧ p3.type = ti)
    (htt : P.underlying tt = some (.slice e)) (hctt : P.cellsOf tt = 1) (hce : P.cellsOf e = 10)
    (htk : ∀ (b off m : Nat) (cs : List Value) (z : DataW H × List MemPlace), cs.length = 10 → (∀ j, j < 10 → W.cell? ⟨b, off + j, none⟩ = cs[j]?) → DataW.trod enc P W 0 (fun _ => true) true m e cs = some z → ∃ q : TB, TkAt W b off q ∧ BdI W q)
    (hv : Value.okWide P W .any base t v) (h : DataW.Trod enc P W 0 (fun _ => true) true t v d ps) :
    ∃ (p : Par) (now next : Int) (a : Option Addr) (n c : Nat) (M : List TB), v = .agg #[.int .i64 p.gate, .int .i64 p.need, .int .i64 p.most, .int .i64 p.pull, .int .i64 now, .int .i64 next, .slice a n c] ∧ TbI W a n M := by
 obtain ⟨cs, rfl, hsz⟩ := okWide_struct ht hv
 obtain ⟨l⟩ := cs
 have hsz' : l.length = 7 := hsz.trans hC
 match l, hsz' with
 | [v0, v1, v2, v3, v4, v5, v6], _ =>
  obtain ⟨fuel, hf⟩ := h
  obtain ⟨o0, o1, o2, o3⟩ := o
  obtain ⟨t0, t1, t2, t3⟩ := ty
  obtain ⟨op0, op1, op2, op3⟩ := op
  obtain ⟨tp0, tp1, tp2, tp3⟩ := typ
  obtain ⟨y0, n0, h0⟩ := bJ ht hf 0 rfl
  obtain ⟨y1, n1, h1⟩ := bJ ht hf 1 rfl
  obtain ⟨y2, n2, h2⟩ := bJ ht hf 2 rfl
  obtain ⟨y3, n3, h3⟩ := bJ ht hf 3 rfl
  simp [Value.cells, o0, o1, o2, o3, t0, t1, t2, t3, hci, hcp, hctt] at h0 h1 h2 h3
  obtain ⟨z0, m0, g0⟩ := bJ hp h0 0 rfl
  obtain ⟨z1, m1, g1⟩ := bJ hp h0 1 rfl
  obtain ⟨z2, m2, g2⟩ := bJ hp h0 2 rfl
  obtain ⟨z3, m3, g3⟩ := bJ hp h0 3 rfl
  simp [op0, op1, op2, op3, tp0, tp1, tp2, tp3, hci] at g0 g1 g2 g3
  obtain ⟨x0, rfl⟩ := cN hi g0
  obtain ⟨x1, rfl⟩ := cN hi g1
  obtain ⟨x2, rfl⟩ := cN hi g2
  obtain ⟨x3, rfl⟩ := cN hi g3
  obtain ⟨x4, rfl⟩ := cN hi h1
  obtain ⟨x5, rfl⟩ := cN hi h2
  obtain ⟨a, n, c, rfl, hb, M, hM, hx⟩ := gB (α := TB) (fun b off q => TkAt W b off q ∧ BdI W q) htt hce (by decide) htk h3
  refine ⟨⟨x0, x1, x2, x3⟩, x4, x5, a, n, c, M, rfl, ⟨hM, hb, ?_⟩, ?_⟩
  ·rcases hx with h0 | ⟨b, off, ea, hx⟩
   ·exact Or.inl h0
   exact Or.inr ⟨b, off, ea, fun i hi => (hx i hi).1⟩
  intro k hk
  rcases hx with h0 | ⟨b, off, ea, hx⟩
  ·omega
  exact (hx k hk).2
end
end Go.Proofs.YtikjjpjekchcjaaGreat
end
section
namespace Go.Proofs.YtikjjpjekchcjaaGreat
open Go.ChangeShapes Go.WideShapes Go.ChangeAt Go.RowKit Go.Deep TrkMath MyHeap
section
variable {H : Type} {enc : TypeId × Value → H} {P : Program}
theorem pN {t e : TypeId} {W : World} {n len cap : Nat} {a : Option Addr} {y : DataW H × List MemPlace} (ht : P.underlying t = some (.slice e)) (h : DataW.trod enc P W 0 (fun _ => true) true n t [.slice a len cap] = some y) : a = none → len = 0 ∧ cap = 0 := by
 rcases open_slice ht h with ⟨hcs, hx⟩ | ⟨a', len', cap', m, n', D, Pl, hcs, _⟩
 ·simp at hcs
  exact fun _ => hcs.2
 simp at hcs
 intro e
 rw [e] at hcs
 cases hcs.1
theorem open_plsn {t e ti : TypeId} {f0 f1 f2 : Field} {base : Nat} {W : World} {v : Value} {d : DataW H} {ps : List MemPlace} (ht : P.underlying t = some (.slice e)) (hc : P.cellsOf e = 3) (he : P.underlying e = some (.struct #[f0, f1, f2]))
    (o0 : f0.offset = 0) (o1 : f1.offset = 1) (o2 : f2.offset = 2) (t0 : f0.type = ti) (t1 : f1.type = ti) (t2 : f2.type = ti) (hi : P.underlying ti = some (.int .i64)) (hci : P.cellsOf ti = 1)
    (hv : Value.okWide P W .any base t v) (h : DataW.Trod enc P W 0 (fun _ => true) true t v d ps) : ∃ a n c l, v = .slice a n c ∧ Pls W a n l ∧ (a = none → n = 0 ∧ c = 0) := by
 obtain ⟨a0, len, cap, rfl⟩ := okWide_slice ht hv
 obtain ⟨fuel, hf⟩ := h
 have hn := pN ht hf
 obtain ⟨a, n, c, l, e1, hP⟩ := iA ht hc he o0 o1 o2 t0 t1 t2 hi hci hf
 cases e1
 exact ⟨_, _, _, l, rfl, hP, hn⟩
end
end Go.Proofs.YtikjjpjekchcjaaGreat
end
section
namespace Go.Proofs.YtikjjpjekchcjaaGreat.Alt
open Go.RowKit AltMath MyHeap MyOwn MyCopy
theorem lH {W W' : World} {b1 b2 : Nat} {e e' : TypeId} {s s' : Nat} {v v' : Value} {n n' : Nat} {xs xs' : List Value} (h : W.ownsRow b1 e s v n xs) (h' : W'.ownsRow b2 e' s' v' n' xs') (hb : W.heap.size ≤ b2) : ∀ g, v.ownBlock = some g → v'.ownBlock ≠ some g := fun g e1 e2 => by
 have h1 := (h.lt g e1).2
 have h2 := (h'.lt g e2).1
 omega
theorem copyBand_call (aL aH : Option Addr) (nL nH cL cH : Nat) (lo hi : List Int) (w : World) (hL : Ints w aL nL lo) (hH : Ints w aH nH hi) (n1 : nL ≤ 1000) (n2 : nH ≤ 1000) :
    Calls Tryz.prog 47 #[bdV aL nL cL aH nH cH] w (PtPost w.heap.size lo hi w) := by
 have H := qh (And.intro (And.intro hL hH) (And.intro hL.len hH.len))
 have B := qh (show Below w.heap.size w ((w.alloc (.cells (bdC aL nL cL aH nH cH) 53)).alloc (.cells #[.slice none 0 0, .slice none 0 0] 53)).drew ∧ ((w.alloc (.cells (bdC aL nL cL aH nH cH) 53)).alloc (.cells #[.slice none 0 0, .slice none 0 0] 53)).drew.heap[w.heap.size]? = some (.cells (bdC aL nL cL aH nH cH) 53 (0, 0)) ∧ ((w.alloc (.cells (bdC aL nL cL aH nH cH) 53)).alloc (.cells #[.slice none 0 0, .slice none 0 0] 53)).drew.heap[w.heap.size + 1]? = some (.cells #[.slice none 0 0, .slice none 0 0] 53 (0, 0)) from
  ⟨((aC w _).alloc (by simp) _).drew, aG (aI _ _ rfl), aI _ _ (by simp)⟩)
 clear hL hH
 unfold bdV
 unfold bdC at *
 go_enter Tryz.func47, Tryz.ntmps47
 go_wp2_with fail
 obtain ⟨k0, k1, -, -⟩ := two_facts B.out.2.1
 refine wp_region_held_drew (S := (fun w' => w'.cell? ⟨w.heap.size, 0, none⟩ = some (.slice aL nL cL) ∧ w'.cell? ⟨w.heap.size, 1, none⟩ = some (.slice aH nH cH))) (by kernel_rfl) (by (try dsimp only); (first | exact ⟨k0, k1⟩ | exact ⟨(((Only.refl (w.heap.size + 1) _).setCell 0 _).setCell 1 _).cell k0 (show w.heap.size ≠ w.heap.size + 1 by omega), (((Only.refl (w.heap.size + 1) _).setCell 0 _).setCell 1 _).cell k1 (show w.heap.size ≠ w.heap.size + 1 by omega)⟩)) (fun hHeld => ?_)
 refine MyHeld.tk 0 ?_
 refine MyHeld.tk 1 ?_
 refine MyHeld.tk 3 ?_
 refine MyHeld.tk 4 ?_
 refine wpAnyH_ready (rs := [2]) (by kernel_rfl) (by simp) ?_
 refine (MyHeld.next 2 (MyHeld.at_rfl rfl) (fun Kq hKq => ?_) AllReadyH.nil)
 go_simp
 ((first | (have hchk := HO1.out; go_at_call 78; refine (dP aH nH cH hi _ (H.out.1.2.below B.out.1) n2).mono ?_; rintro e w4 ⟨vq, rfl, hO, hb⟩; obtain ⟨aH2, cH2, rfl⟩ := bS hO; have HA := qh (lH hchk hO (Nat.le_refl _)); have HT := qh (And.intro (aO hchk hb (Nat.le_refl _)) hO); replace k0 := aS hb k0; replace k1 := aS hb k1; have h1 := B.out.1.size; have h2 := aB B.out.2.2; have HA3 := qh h2; replace B := qh (And.intro (B.out.1.trans (hb.mono h1)) (And.intro (aN hb B.out.2.1) (aN hb B.out.2.2))); obtain ⟨d0, d1, g0, g1⟩ := two_facts B.out.2.2; have HS := qh h1; clear hchk hO hb HO1 h1 h2) | (go_at_call 78; refine (dP aL nL cL lo _ (H.out.1.1.below B.out.1) n1).mono ?_; rintro e w3 ⟨vq, rfl, hO, hb⟩; obtain ⟨aL2, cL2, rfl⟩ := bS hO; have HO1 := qh hO; replace k0 := aS hb k0; replace k1 := aS hb k1; have h0 := B.out.1.size; have HZ := qh h0; replace B := qh (And.intro (B.out.1.trans (hb.mono h0)) (And.intro (aN hb B.out.2.1) (aN hb B.out.2.2))); clear hO hb h0)))
 go_wp2_with fail
 refine hKq.out _ _ (by (try dsimp only); (first | exact ⟨k0, k1⟩ | exact ⟨(((Only.refl (w.heap.size + 1) _).setCell 0 _).setCell 1 _).cell k0 (show w.heap.size ≠ w.heap.size + 1 by omega), (((Only.refl (w.heap.size + 1) _).setCell 0 _).setCell 1 _).cell k1 (show w.heap.size ≠ w.heap.size + 1 by omega)⟩)) (fun hHeld' => ?_)
 clear hKq Kq hHeld; have hHeld := hHeld'; clear hHeld'
 try simp only [Act.put, List.setIfInBounds_toArray, List.set_cons_zero, List.set_cons_succ]
 refine wpAnyH_ready (rs := [5]) (by kernel_rfl) (by simp) ?_
 refine (MyHeld.next 5 (MyHeld.at_rfl rfl) (fun Kq hKq => ?_) AllReadyH.nil)
 go_simp
 ((first | (have hchk := HO1.out; go_at_call 78; refine (dP aH nH cH hi _ (H.out.1.2.below B.out.1) n2).mono ?_; rintro e w4 ⟨vq, rfl, hO, hb⟩; obtain ⟨aH2, cH2, rfl⟩ := bS hO; have HA := qh (lH hchk hO (Nat.le_refl _)); have HT := qh (And.intro (aO hchk hb (Nat.le_refl _)) hO); replace k0 := aS hb k0; replace k1 := aS hb k1; have h1 := B.out.1.size; have h2 := aB B.out.2.2; have HA3 := qh h2; replace B := qh (And.intro (B.out.1.trans (hb.mono h1)) (And.intro (aN hb B.out.2.1) (aN hb B.out.2.2))); obtain ⟨d0, d1, g0, g1⟩ := two_facts B.out.2.2; have HS := qh h1; clear hchk hO hb HO1 h1 h2) | (go_at_call 78; refine (dP aL nL cL lo _ (H.out.1.1.below B.out.1) n1).mono ?_; rintro e w3 ⟨vq, rfl, hO, hb⟩; obtain ⟨aL2, cL2, rfl⟩ := bS hO; have HO1 := qh hO; replace k0 := aS hb k0; replace k1 := aS hb k1; have h0 := B.out.1.size; have HZ := qh h0; replace B := qh (And.intro (B.out.1.trans (hb.mono h0)) (And.intro (aN hb B.out.2.1) (aN hb B.out.2.2))); clear hO hb h0)))
 go_wp2_with fail
 refine hKq.out _ _ (by (try dsimp only); (first | exact ⟨k0, k1⟩ | exact ⟨(((Only.refl (w.heap.size + 1) _).setCell 0 _).setCell 1 _).cell k0 (show w.heap.size ≠ w.heap.size + 1 by omega), (((Only.refl (w.heap.size + 1) _).setCell 0 _).setCell 1 _).cell k1 (show w.heap.size ≠ w.heap.size + 1 by omega)⟩)) (fun hHeld' => ?_)
 clear hKq Kq hHeld; have hHeld := hHeld'; clear hHeld'
 try simp only [Act.put, List.setIfInBounds_toArray, List.set_cons_zero, List.set_cons_succ]
 refine MyHeld.tk 6 ?_
 refine wpAnyH_ready (rs := [7]) (by kernel_rfl) (by simp) ?_
 refine (MyHeld.next 7 (MyHeld.at_rfl rfl) (fun Kq hKq => ?_) AllReadyH.nil)
 go_simp
 refine hKq.out _ _ (by (try dsimp only); (first | exact ⟨k0, k1⟩ | exact ⟨(((Only.refl (w.heap.size + 1) _).setCell 0 _).setCell 1 _).cell k0 (show w.heap.size ≠ w.heap.size + 1 by omega), (((Only.refl (w.heap.size + 1) _).setCell 0 _).setCell 1 _).cell k1 (show w.heap.size ≠ w.heap.size + 1 by omega)⟩)) (fun hHeld' => ?_)
 clear hKq Kq hHeld; have hHeld := hHeld'; clear hHeld'
 try simp only [Act.put, List.setIfInBounds_toArray, List.set_cons_zero, List.set_cons_succ]
 refine wpAnyH_done (by kernel_rfl) ?_ _
 all_goals
  go_wp2_with fail
  have hx := aD (i := 1) (v := .slice aH2 nH cH2) (aD (i := 0) (v := .slice aL2 nL cL2) B.out.2.2)
  have hO : Only (w.heap.size + 1) w4 ((w4.setCell ⟨w.heap.size + 1, 0, none⟩ (.slice aL2 nL cL2)).setCell ⟨w.heap.size + 1, 1, none⟩ (.slice aH2 nH cH2)) := ((Only.refl _ _).setCell 0 _).setCell 1 _
  have r0 := aA (i := 0) (v := .slice aL2 nL cL2) hx rfl
  have r1 := aA (i := 1) (v := .slice aH2 nH cH2) hx rfl
  have hz1 : w.heap.size + 2 ≤ ((w.alloc (.cells #[.slice aL nL cL, .slice aH nH cH] 53)).alloc (.cells #[.slice none 0 0, .slice none 0 0] 53)).drew.heap.size := by show _ ≤ ((w.alloc (.cells #[.slice aL nL cL, .slice aH nH cH] 53)).alloc (.cells #[.slice none 0 0, .slice none 0 0] 53)).heap.size; simp
  have hz2 := HA3.out
  have l1 := cI HT.out.1 hO (Or.inr fun e => by have := (HT.out.1.lt _ e).1; omega)
  have l2 := cI HT.out.2 hO (Or.inr fun e => by have := (HT.out.2.lt _ e).1; omega)
  refine bodyPost_ret (v := .agg #[.slice aL2 nL cL2, .slice aH2 nH cH2]) ?_ rfl ⟨_, _, rfl, ⟨by rw [H.out.2.1]; exact bR l1 HZ.out, by rw [H.out.2.2]; exact bR l2 HS.out, HA.out⟩, B.out.1.trans (hO.below (by omega) B.out.1.size)⟩
  simp [results, Tryz.f47, go_sem, r0, r1]
end Go.Proofs.YtikjjpjekchcjaaGreat.Alt
end
