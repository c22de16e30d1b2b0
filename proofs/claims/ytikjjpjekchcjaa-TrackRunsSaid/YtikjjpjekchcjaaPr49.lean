/-
  TrkJc, TrkRowV, TrkRowP
-/
import Derived.Test.YtikjjpjekchcjaaPr45
import Derived.Test.YtikjjpjekchcjaaPr43
import Derived.Lib.SmallJoins
import Derived.Deep.SlicePairs
import Derived.ProofKit
import Derived.OpenShut
import Derived.Test.YtikjjpjekchcjaaPr12
import Derived.Test.YtikjjpjekchcjaaPr1
set_option linter.all false
set_option maxRecDepth 100000
set_option maxHeartbeats 64000000
section
namespace Go.Proofs.Ytikjjpjekchcjaa
open Go.RowKit TrkMath MyHeap MyOwn
structure TbJ (B : Nat) (W : World) (a : Option Addr) (n : Nat) (M : List TB) : Prop where
 I : TbI W a n M
 t : ∀ g, blk a = some g → B ≤ g
 b : ∀ k, k < n → BdX B [] W (gt M k)
theorem TbJ.only {B T n : Nat} {W W' : World} {a : Option Addr} {M : List TB} (h : TbJ B W a n M) (hO : Only T W W') (hT : T < B) : TbI W' a n M := by
 have hOo := Outs.of_only (X := [some T]) hO (List.mem_singleton.2 rfl)
 refine ⟨⟨h.I.T.len, h.I.T.bound, ?_⟩, fun k hk => ?_⟩
 ·rcases h.I.T.cells with h0 | ⟨b, off, e, hc⟩
  ·exact Or.inl h0
  refine Or.inr ⟨b, off, e, fun i hi => (hc i hi).outs hOo (fun c => ?_)⟩
  have := h.t b (by rw [e]; rfl)
  have := Option.some.inj (List.mem_singleton.1 c)
  omega
 have h1 := h.b k hk
 have h2 : BdX B [some T] W (gt M k) := ⟨h1.L, h1.H, fun x e => ⟨⟨(h1.gL x e).1.1, fun c => by have := (h1.gL x e).1.1; have := Option.some.inj (List.mem_singleton.1 c); omega⟩, (h1.gL x e).2⟩, fun x e => ⟨⟨(h1.gH x e).1.1, fun c => by have := (h1.gH x e).1.1; have := Option.some.inj (List.mem_singleton.1 c); omega⟩, (h1.gH x e).2⟩⟩
 exact (h2.outs hOo).I
theorem cy_call (p : Par) {now now' next nx' : Int} {L L' : List Tk} {P : List Pl} (h0 : cyE p now next L P = 0) (hT : cyT p next L P = L') (hX : cyX p next L P = nx') (hl : L'.length ≤ 1000) (hn' : now + 1 = now')
    (a : Option Addr) (n c : Nat) (pa : Option Addr) (pn pc : Nat) (M : List TB) (W : World) (hTb : TbI W a n M) (hM : fsts M = L) (hP : Pls W pa pn P) :
    Calls Try.prog 9 #[.agg #[.int .i64 p.gate, .int .i64 p.need, .int .i64 p.most, .int .i64 p.pull, .int .i64 now, .int .i64 next, .slice a n c], .slice pa pn pc] W (fun e w' => ∃ a' c' ea em ec M', e = .returned (.tuple #[.agg #[.int .i64 p.gate, .int .i64 p.need, .int .i64 p.most, .int .i64 p.pull, .int .i64 now', .int .i64 nx', .slice a' L'.length c'], .slice ea em ec, .int .i64 0]) ∧ TbJ W.heap.size w' a' L'.length M' ∧ fsts M' = L' ∧ EvI w' ea em (cyV p next L P) ∧ Below W.heap.size W w') := by
 have hc := pCycle_call p now next a n c pa pn pc M P W hTb.T hTb.B hP
 rw [hM, h0, (cyR_ok h0).1, (cyR_ok h0).2, hT, hX, hn'] at hc
 refine hc.mono ?_
 rintro e w' ⟨tV, eV, M', rfl, hL, hM', hE, hB⟩
 have hlen : M'.length = L'.length := by rw [← fsts_len, hM']
 obtain ⟨a', c', rfl, hI⟩ := hL.tbI (by omega)
 obtain ⟨ea, ec, rfl, hEv⟩ := evi_own hE
 rw [hlen] at hI ⊢
 exact ⟨a', c', ea, _, ec, M', rfl, ⟨hI, fun g hg => (hL.lt (g := g) (by
  cases a' with
  | none => cases hg
  | some x => exact hg)).1, fun k hk => (hL.bd k (by omega)).turn (fun g e => by cases e)⟩, hM', hEv, hB⟩
end Go.Proofs.Ytikjjpjekchcjaa
end
section
namespace Go.Proofs.Ytikjjpjekchcjaa
open Go.ChangeShapes Go.WideShapes Go.ChangeAt Go.RowKit Go.Deep TrkMath MyHeap
section
variable {H : Type} {enc : TypeId × Value → H} {P : Program}
theorem trod_field {W : World} {base : Nat} {spare : Nat → Bool} {held : Bool} {t : TypeId} {fs : Array Field} {fuel : Nat} {cs : List Value} {x : DataW H × List MemPlace} (ht : P.underlying t = some (.struct fs)) (h : DataW.trod enc P W base spare held fuel t cs = some x) (j : Nat) {f : Field} (hj : fs[j]? = some f) :
    ∃ y n, DataW.trod enc P W base spare held n f.type ((cs.drop f.offset).take (P.cellsOf f.type)) = some y := by
 obtain ⟨xs, n, _, rfl, hl, hlen, hf⟩ := DataW.trod_struct ht h
 have hlt : j < xs.length := by
  have := (Array.getElem?_eq_some_iff.1 hj).1
  omega
 exact ⟨xs[j], n, by rw [hf j f hj, List.getElem?_eq_getElem hlt]⟩
theorem int_cell {W : World} {base : Nat} {spare : Nat → Bool} {held : Bool} {t : TypeId} {n : Nat} {c : Value} {y : DataW H × List MemPlace} (ht : P.underlying t = some (.int .i64)) (h : DataW.trod enc P W base spare held n t [c] = some y) : ∃ x : Int, c = .int .i64 x := by
 obtain ⟨x, e, _, _⟩ := DataW.trod_int ht h
 simp only [List.cons.injEq, and_true] at e
 exact ⟨x, e⟩
theorem bool_cell {W : World} {base : Nat} {spare : Nat → Bool} {held : Bool} {t : TypeId} {n : Nat} {c : Value} {y : DataW H × List MemPlace} (ht : P.underlying t = some .bool) (h : DataW.trod enc P W base spare held n t [c] = some y) : ∃ x : Bool, c = .bool x := by
 obtain ⟨x, e, _⟩ := DataW.trod_bool ht h
 simp only [List.cons.injEq, and_true] at e
 exact ⟨x, e⟩
theorem three_cells {W : World} {base : Nat} {spare : Nat → Bool} {held : Bool} {t ti : TypeId} {f0 f1 f2 : Field} {n : Nat} {c0 c1 c2 : Value} {y : DataW H × List MemPlace} (ht : P.underlying t = some (.struct #[f0, f1, f2])) (o0 : f0.offset = 0) (o1 : f1.offset = 1) (o2 : f2.offset = 2)
    (t0 : f0.type = ti) (t1 : f1.type = ti) (t2 : f2.type = ti) (hi : P.underlying ti = some (.int .i64)) (hc : P.cellsOf ti = 1) (h : DataW.trod enc P W base spare held n t [c0, c1, c2] = some y) : ∃ x y z : Int, c0 = .int .i64 x ∧ c1 = .int .i64 y ∧ c2 = .int .i64 z := by
 obtain ⟨y0, n0, h0⟩ := trod_field ht h 0 rfl
 obtain ⟨y1, n1, h1⟩ := trod_field ht h 1 rfl
 obtain ⟨y2, n2, h2⟩ := trod_field ht h 2 rfl
 simp [o0, o1, o2, t0, t1, t2, hc] at h0 h1 h2
 obtain ⟨x, rfl⟩ := int_cell hi h0
 obtain ⟨y, rfl⟩ := int_cell hi h1
 obtain ⟨z, rfl⟩ := int_cell hi h2
 exact ⟨x, y, z, rfl, rfl, rfl⟩
theorem ints_cell1 {t e : TypeId} {W : World} {n : Nat} {c0 : Value} {y : DataW H × List MemPlace} (ht : P.underlying t = some (.slice e)) (he : P.underlying e = some (.int .i64)) (hc : P.cellsOf e = 1)
    (h : DataW.trod enc P W 0 (fun _ => true) true n t [c0] = some y) : ∃ a m c l, c0 = .slice a m c ∧ Alt.Ints W a m l := by
 rcases open_ints ht he hc h with ⟨hcs, hx⟩ | ⟨a, len, cap, zs, hcs, _, hl, hm, hz, hx, hcell, hwz⟩
 ·simp at hcs
  subst hcs
  exact ⟨none, 0, 0, [], rfl, ⟨rfl, by omega, Or.inl rfl⟩⟩
 simp at hcs
 subst hcs
 simp only [if_true] at hz
 unfold maxLen at hm
 refine ⟨some a, len, cap, zs.take len, rfl, ⟨by rw [List.length_take]; omega, by omega, ?_⟩⟩
 by_cases h0 : len = 0
 ·exact Or.inl h0
 obtain ⟨b, off, rfl, hc'⟩ := _root_.Go.ints_at hcell (by omega)
 refine Or.inr ⟨b, off, rfl, fun i hi => ?_⟩
 unfold AltMath.gi
 rw [hc' i (by omega), List.getElem?_take, if_pos hi, List.getD_eq_getElem?_getD]
theorem wide_of_trod {α : Type} [Inhabited α] {k : Nat} {t e : TypeId} {W : World} {n : Nat} {c0 : Value} {y : DataW H × List MemPlace} (R : Nat → Nat → α → Prop) (ht : P.underlying t = some (.slice e)) (hc : P.cellsOf e = k) (hk : 0 < k)
    (he : ∀ (b off n : Nat) (cs : List Value) (y : DataW H × List MemPlace), cs.length = k → (∀ j, j < k → W.cell? ⟨b, off + j, none⟩ = cs[j]?) → DataW.trod enc P W 0 (fun _ => true) true n e cs = some y → ∃ q : α, R b off q)
    (h : DataW.trod enc P W 0 (fun _ => true) true n t [c0] = some y) :
    ∃ a n c, c0 = .slice a n c ∧ n ≤ 9223372036854775807 ∧ ∃ l : List α, l.length = n ∧ (n = 0 ∨ ∃ b off, a = some ⟨b, off, none⟩ ∧ ∀ i, i < n → R b (off + i * k) (l[i]?.getD default)) := by
 rcases open_slice ht h with ⟨hcs, hx⟩ | ⟨a, len, cap, m, n', D, Pl, hcs, _, hl, hm, hmm, _, hx⟩
 ·simp at hcs
  subst hcs
  exact ⟨none, 0, 0, rfl, by decide, [], rfl, Or.inl rfl⟩
 simp at hcs
 subst hcs
 unfold maxLen at hm
 have hlm : len ≤ m := by rw [hmm]; split <;> omega
 refine ⟨some a, len, cap, rfl, by omega, ?_⟩
 by_cases h0 : len = 0
 ·exact ⟨[], by rw [h0]; rfl, Or.inl h0⟩
 have hs : a.spot = none := by
  obtain ⟨cs', h1, h2⟩ := hx 0 (by omega)
  rw [hc] at h1
  obtain ⟨_, hlen, hcell⟩ := World.cells?_some h1
  have e0 := hcell 0 hk
  rw [List.getElem?_eq_getElem (by omega)] at e0
  simpa [Addr.add] using World.cell?_spot e0
 obtain ⟨b, off, spot⟩ := a
 simp only [] at hs
 subst hs
 have each : ∀ i, i < len → ∃ q : α, R b (off + i * k) q := by
  intro i hi
  obtain ⟨cs', h1, h2⟩ := hx i (by omega)
  rw [hc] at h1
  obtain ⟨_, hlen, hcell⟩ := World.cells?_some h1
  refine he b (off + i * k) n' cs' _ hlen (fun j hj => ?_) h2
  have := hcell j hj
  simp only [Go.WideShapes.add_plain] at this
  exact this
 obtain ⟨q, hq⟩ := choose_lt each
 refine ⟨(List.range len).map q, by simp, Or.inr ⟨b, off, rfl, fun i hi => ?_⟩⟩
 have ek : ((List.range len).map q)[i]?.getD default = q i := by simp [hi]
 rw [ek]
 exact hq i hi
instance : Inhabited Pl := ⟨pl0⟩
instance : Inhabited TB := ⟨tb0⟩
theorem len3 {cs : List Value} (h : cs.length = 3) : ∃ c0 c1 c2, cs = [c0, c1, c2] := by
 match cs, h with
 | [c0, c1, c2], _ => exact ⟨c0, c1, c2, rfl⟩
theorem len10 {cs : List Value} (h : cs.length = 10) : ∃ c0 c1 c2 c3 c4 c5 c6 c7 c8 c9, cs = [c0, c1, c2, c3, c4, c5, c6, c7, c8, c9] := by
 match cs, h with
 | [c0, c1, c2, c3, c4, c5, c6, c7, c8, c9], _ => exact ⟨c0, c1, c2, c3, c4, c5, c6, c7, c8, c9, rfl⟩
theorem pls_of_trod {t e ti : TypeId} {f0 f1 f2 : Field} {W : World} {n : Nat} {c0 : Value} {y : DataW H × List MemPlace} (ht : P.underlying t = some (.slice e)) (hc : P.cellsOf e = 3) (he : P.underlying e = some (.struct #[f0, f1, f2]))
    (o0 : f0.offset = 0) (o1 : f1.offset = 1) (o2 : f2.offset = 2) (t0 : f0.type = ti) (t1 : f1.type = ti) (t2 : f2.type = ti) (hi : P.underlying ti = some (.int .i64)) (hci : P.cellsOf ti = 1)
    (h : DataW.trod enc P W 0 (fun _ => true) true n t [c0] = some y) : ∃ a n c l, c0 = .slice a n c ∧ Pls W a n l := by
 obtain ⟨a, n, c, rfl, hb, l, hl, hx⟩ := wide_of_trod (α := Pl) (fun b off q => W.cell? ⟨b, off, none⟩ = some (.int .i64 q.r) ∧ W.cell? ⟨b, off + 1, none⟩ = some (.int .i64 q.code) ∧ W.cell? ⟨b, off + 2, none⟩ = some (.int .i64 q.addr)) ht hc (by decide) (fun b off m cs z hlen hcell hz => by
  obtain ⟨c0, c1, c2, rfl⟩ := len3 hlen
  obtain ⟨x, y, z, rfl, rfl, rfl⟩ := three_cells he o0 o1 o2 t0 t1 t2 hi hci hz
  exact ⟨⟨x, y, z⟩, hcell 0 (by decide), hcell 1 (by decide), hcell 2 (by decide)⟩) h
 exact ⟨a, n, c, l, rfl, hl, hb, hx⟩
theorem open_pls {t e ti : TypeId} {f0 f1 f2 : Field} {base : Nat} {W : World} {v : Value} {d : DataW H} {ps : List MemPlace} (ht : P.underlying t = some (.slice e)) (hc : P.cellsOf e = 3) (he : P.underlying e = some (.struct #[f0, f1, f2]))
    (o0 : f0.offset = 0) (o1 : f1.offset = 1) (o2 : f2.offset = 2) (t0 : f0.type = ti) (t1 : f1.type = ti) (t2 : f2.type = ti) (hi : P.underlying ti = some (.int .i64)) (hci : P.cellsOf ti = 1)
    (hv : Value.okWide P W .any base t v) (h : DataW.Trod enc P W 0 (fun _ => true) true t v d ps) : ∃ a n c l, v = .slice a n c ∧ Pls W a n l := by
 obtain ⟨a0, len, cap, rfl⟩ := okWide_slice ht hv
 obtain ⟨fuel, hf⟩ := h
 exact pls_of_trod ht hc he o0 o1 o2 t0 t1 t2 hi hci hf
def PlsL (W : World) (a : Option Addr) (n : Nat) (L : List ((Option Addr × Nat × Nat) × List Pl)) : Prop :=
 L.length = n ∧ n ≤ 9223372036854775807 ∧ (n = 0 ∨ ∃ b off, a = some ⟨b, off, none⟩ ∧ ∀ i, i < n → ∃ q, L[i]? = some q ∧ W.cell? ⟨b, off + i, none⟩ = some (.slice q.1.1 q.1.2.1 q.1.2.2) ∧ Pls W q.1.1 q.1.2.1 q.2)
theorem open_plsl {tt t e ti : TypeId} {f0 f1 f2 : Field} {base : Nat} {W : World} {v : Value} {d : DataW H} {ps : List MemPlace} (htt : P.underlying tt = some (.slice t)) (hct : P.cellsOf t = 1) (ht : P.underlying t = some (.slice e)) (hc : P.cellsOf e = 3) (he : P.underlying e = some (.struct #[f0, f1, f2]))
    (o0 : f0.offset = 0) (o1 : f1.offset = 1) (o2 : f2.offset = 2) (t0 : f0.type = ti) (t1 : f1.type = ti) (t2 : f2.type = ti) (hi : P.underlying ti = some (.int .i64)) (hci : P.cellsOf ti = 1)
    (hv : Value.okWide P W .any base tt v) (h : DataW.Trod enc P W 0 (fun _ => true) true tt v d ps) : ∃ a n c L, v = .slice a n c ∧ PlsL W a n L := by
 obtain ⟨a0, len, cap, rfl⟩ := okWide_slice htt hv
 obtain ⟨fuel, hf⟩ := h
 obtain ⟨a, n, c, e0, hb, l, hl, hx⟩ := wide_of_trod (α := (Option Addr × Nat × Nat) × List Pl) (fun b off q => W.cell? ⟨b, off, none⟩ = some (.slice q.1.1 q.1.2.1 q.1.2.2) ∧ Pls W q.1.1 q.1.2.1 q.2) htt hct (by decide) (fun b off m cs z hlen hcell hz => by
  match cs, hlen with
  | [c0], _ =>
   obtain ⟨a, n, c, l, rfl, hP⟩ := pls_of_trod ht hc he o0 o1 o2 t0 t1 t2 hi hci hz
   exact ⟨((a, n, c), l), hcell 0 (by decide), hP⟩) hf
 refine ⟨a, n, c, l, e0, hl, hb, ?_⟩
 rcases hx with h0 | ⟨b, off, ea, hx⟩
 ·exact Or.inl h0
 refine Or.inr ⟨b, off, ea, fun i hi => ?_⟩
 have h1 := hx i hi
 rw [List.getElem?_eq_getElem (by omega), Option.getD_some, Nat.mul_one] at h1
 exact ⟨l[i]'(by omega), List.getElem?_eq_getElem (by omega), h1⟩
theorem tk_of_trod {e tr tb ts ti tf : TypeId} {f0 f1 f2 f3 f4 f5 f6 r0 r1 r2 b0 b1 : Field} {W : World} (he : P.underlying e = some (.struct #[f0, f1, f2, f3, f4, f5, f6]))
    (o : f0.offset = 0 ∧ f1.offset = 1 ∧ f2.offset = 2 ∧ f3.offset = 5 ∧ f4.offset = 7 ∧ f5.offset = 8 ∧ f6.offset = 9) (ty : f0.type = ti ∧ f1.type = ti ∧ f2.type = tr ∧ f3.type = tb ∧ f4.type = ti ∧ f5.type = ti ∧ f6.type = tf)
    (hi : P.underlying ti = some (.int .i64)) (hci : P.cellsOf ti = 1) (hf : P.underlying tf = some .bool) (hcf : P.cellsOf tf = 1)
    (hr : P.underlying tr = some (.struct #[r0, r1, r2])) (hcr : P.cellsOf tr = 3) (or : r0.offset = 0 ∧ r1.offset = 1 ∧ r2.offset = 2) (tyr : r0.type = ti ∧ r1.type = ti ∧ r2.type = ti)
    (hb : P.underlying tb = some (.struct #[b0, b1])) (hcb : P.cellsOf tb = 2) (ob : b0.offset = 0 ∧ b1.offset = 1) (tyb : b0.type = ts ∧ b1.type = ts) (hs : P.underlying ts = some (.slice ti)) (hcs : P.cellsOf ts = 1)
    (b off m : Nat) (cs : List Value) (z : DataW H × List MemPlace) (hlen : cs.length = 10) (hcell : ∀ j, j < 10 → W.cell? ⟨b, off + j, none⟩ = cs[j]?) (hz : DataW.trod enc P W 0 (fun _ => true) true m e cs = some z) : ∃ q : TB, TkAt W b off q ∧ BdI W q := by
 obtain ⟨c0, c1, c2, c3, c4, c5, c6, c7, c8, c9, rfl⟩ := len10 hlen
 obtain ⟨o0, o1, o2, o3, o4, o5, o6⟩ := o
 obtain ⟨t0, t1, t2, t3, t4, t5, t6⟩ := ty
 obtain ⟨or0, or1, or2⟩ := or
 obtain ⟨tr0, tr1, tr2⟩ := tyr
 obtain ⟨y0, n0, h0⟩ := trod_field he hz 0 rfl
 obtain ⟨y1, n1, h1⟩ := trod_field he hz 1 rfl
 obtain ⟨y2, n2, h2⟩ := trod_field he hz 2 rfl
 obtain ⟨y3, n3, h3⟩ := trod_field he hz 3 rfl
 obtain ⟨y4, n4, h4⟩ := trod_field he hz 4 rfl
 obtain ⟨y5, n5, h5⟩ := trod_field he hz 5 rfl
 obtain ⟨y6, n6, h6⟩ := trod_field he hz 6 rfl
 simp [o0, o1, o2, o3, o4, o5, o6, t0, t1, t2, t3, t4, t5, t6, hci, hcr, hcb, hcf] at h0 h1 h2 h3 h4 h5 h6
 obtain ⟨x0, rfl⟩ := int_cell hi h0
 obtain ⟨x1, rfl⟩ := int_cell hi h1
 obtain ⟨ra, rb, rc, rfl, rfl, rfl⟩ := three_cells hr or0 or1 or2 tr0 tr1 tr2 hi hci h2
 obtain ⟨z0, m0, g0⟩ := trod_field hb h3 0 rfl
 obtain ⟨z1, m1, g1⟩ := trod_field hb h3 1 rfl
 simp [ob.1, ob.2, tyb.1, tyb.2, hcs] at g0 g1
 obtain ⟨aL, nL, cL, lo, rfl, iL⟩ := ints_cell1 hs hi hci g0
 obtain ⟨aH, nH, cH, hi', rfl, iH⟩ := ints_cell1 hs hi hci g1
 obtain ⟨x7, rfl⟩ := int_cell hi h4
 obtain ⟨x8, rfl⟩ := int_cell hi h5
 obtain ⟨x9, rfl⟩ := bool_cell hf h6
 exact ⟨(⟨x0, x1, ⟨ra, rb, rc⟩, lo, hi', x7, x8, x9⟩, ⟨aL, nL, cL, aH, nH, cH⟩), ⟨hcell 0 (by decide), hcell 1 (by decide), hcell 2 (by decide), hcell 3 (by decide), hcell 4 (by decide), hcell 5 (by decide), hcell 6 (by decide), hcell 7 (by decide), hcell 8 (by decide), hcell 9 (by decide)⟩, ⟨iL, iH⟩⟩
theorem open_table {t tp tt e ti : TypeId} {f0 f1 f2 f3 p0 p1 p2 p3 : Field} {base : Nat} {W : World} {v : Value} {d : DataW H} {ps : List MemPlace}
    (ht : P.underlying t = some (.struct #[f0, f1, f2, f3])) (hC : P.cellsOf t = 7) (o : f0.offset = 0 ∧ f1.offset = 4 ∧ f2.offset = 5 ∧ f3.offset = 6) (ty : f0.type = tp ∧ f1.type = ti ∧ f2.type = ti ∧ f3.type = tt)
    (hi : P.underlying ti = some (.int .i64)) (hci : P.cellsOf ti = 1) (hp : P.underlying tp = some (.struct #[p0, p1, p2, p3])) (hcp : P.cellsOf tp = 4) (op : p0.offset = 0 ∧ p1.offset = 1 ∧ p2.offset = 2 ∧ p3.offset = 3) (typ : p0.type = ti ∧ p1.type = ti ∧ p2.type = ti ∧ p3.type = ti)
    (htt : P.underlying tt = some (.slice e)) (hctt : P.cellsOf tt = 1) (hce : P.cellsOf e = 10)
    (htk : ∀ (b off m : Nat) (cs : List Value) (z : DataW H × List MemPlace), cs.length = 10 → (∀ j, j < 10 → W.cell? ⟨b, off + j, none⟩ = cs[j]?) → DataW.trod enc P W 0 (fun _ => true) true m e cs = some z → ∃ q : TB, TkAt W b off q ∧ BdI W q)
    (hv : Value.okWide P W .any base t v) (h : DataW.Trod enc P W 0 (fun _ => true) true t v d ps) :
    ∃ (p : Par) (now next : Int) (a : Option Addr) (n c : Nat) (M : List TB), v = .agg #[.int .i64 p.gate, .int .i64 p.need, .int .i64 p.most, .int .i64 p.pull, .int .i64 now, .int .i64 next, .slice a n c] ∧ TbI W a n M := by
 obtain ⟨cs, rfl, hsz⟩ := okWide_struct ht hv
 obtain ⟨l⟩ := cs
 have hsz' : l.length = 7 := hsz.trans hC
 match l, hsz' with
 | [v0, v1, v2, v3, v4, v5, v6], _ =>
  obtain ⟨fuel, hf⟩ := h
  obtain ⟨o0, o1, o2, o3⟩ := o
  obtain ⟨t0, t1, t2, t3⟩ := ty
  obtain ⟨op0, op1, op2, op3⟩ := op
  obtain ⟨tp0, tp1, tp2, tp3⟩ := typ
  obtain ⟨y0, n0, h0⟩ := trod_field ht hf 0 rfl
  obtain ⟨y1, n1, h1⟩ := trod_field ht hf 1 rfl
  obtain ⟨y2, n2, h2⟩ := trod_field ht hf 2 rfl
  obtain ⟨y3, n3, h3⟩ := trod_field ht hf 3 rfl
  simp [Value.cells, o0, o1, o2, o3, t0, t1, t2, t3, hci, hcp, hctt] at h0 h1 h2 h3
  obtain ⟨z0, m0, g0⟩ := trod_field hp h0 0 rfl
  obtain ⟨z1, m1, g1⟩ := trod_field hp h0 1 rfl
  obtain ⟨z2, m2, g2⟩ := trod_field hp h0 2 rfl
  obtain ⟨z3, m3, g3⟩ := trod_field hp h0 3 rfl
  simp [op0, op1, op2, op3, tp0, tp1, tp2, tp3, hci] at g0 g1 g2 g3
  obtain ⟨x0, rfl⟩ := int_cell hi g0
  obtain ⟨x1, rfl⟩ := int_cell hi g1
  obtain ⟨x2, rfl⟩ := int_cell hi g2
  obtain ⟨x3, rfl⟩ := int_cell hi g3
  obtain ⟨x4, rfl⟩ := int_cell hi h1
  obtain ⟨x5, rfl⟩ := int_cell hi h2
  obtain ⟨a, n, c, rfl, hb, M, hM, hx⟩ := wide_of_trod (α := TB) (fun b off q => TkAt W b off q ∧ BdI W q) htt hce (by decide) htk h3
  refine ⟨⟨x0, x1, x2, x3⟩, x4, x5, a, n, c, M, rfl, ⟨hM, hb, ?_⟩, ?_⟩
  ·rcases hx with h0 | ⟨b, off, ea, hx⟩
   ·exact Or.inl h0
   exact Or.inr ⟨b, off, ea, fun i hi => (hx i hi).1⟩
  intro k hk
  rcases hx with h0 | ⟨b, off, ea, hx⟩
  ·omega
  exact (hx k hk).2
end
end Go.Proofs.Ytikjjpjekchcjaa
end
section
namespace Go.Proofs.Ytikjjpjekchcjaa
open Go.ChangeShapes Go.WideShapes Go.ChangeAt Go.RowKit Go.Deep TrkMath MyHeap
section
variable {H : Type} {enc : TypeId × Value → H} {P : Program}
theorem open_params {W : World} {r : Reach} {b0 base : Nat} {spare : Nat → Bool} {held : Bool} {t : TypeId} {f0 f1 f2 f3 : Field} {v : Value} {d : DataW H} {p : List MemPlace} (hs : P.underlying t = some (.struct #[f0, f1, f2, f3])) (hone : oneCellFields P #[f0, f1, f2, f3] = true) (hC : P.cellsOf t = 4)
    (h0 : P.underlying f0.type = some (.int .i64)) (h1 : P.underlying f1.type = some (.int .i64)) (h2 : P.underlying f2.type = some (.int .i64)) (h3 : P.underlying f3.type = some (.int .i64))
    (hv : Value.okWide P W r b0 t v) (h : DataW.Trod enc P W base spare held t v d p) : ∃ q : Par, v = parV q := by
 obtain ⟨v0, v1, v2, v3, y0, y1, y2, y3, n, rfl, _, _, g0, g1, g2, g3⟩ := Go.Joins.open_agg4 hs hone hC hv h
 obtain ⟨x, e0, _, _⟩ := DataW.trod_int h0 g0
 obtain ⟨y, e1, _, _⟩ := DataW.trod_int h1 g1
 obtain ⟨z, e2, _, _⟩ := DataW.trod_int h2 g2
 obtain ⟨u, e3, _, _⟩ := DataW.trod_int h3 g3
 simp only [List.cons.injEq, and_true] at e0 e1 e2 e3
 subst e0 e1 e2 e3
 exact ⟨⟨x, y, z, u⟩, rfl⟩
end
end Go.Proofs.Ytikjjpjekchcjaa
end
