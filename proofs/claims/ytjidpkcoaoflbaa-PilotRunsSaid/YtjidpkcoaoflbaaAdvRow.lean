/-
  An advisory, a slice of advisories, a pilot, a state of a pilot, as they come in.
-/
import Derived.Test.YtjidpkcoaoflbaaPilotF
import Derived.Lib.SmallJoins
import Derived.Deep.SlicePairs
import Derived.ProofKit
import Derived.OpenShut
namespace Go.Proofs.Ytjidpkcoaoflbaa
open Go.ChangeShapes Go.WideShapes Go.ChangeAt Go.RowKit Go.Deep PilotMath MyHeap

section
variable {H : Type} {enc : TypeId × Value → H} {P : Program}
instance : Inhabited Adv := ⟨adv0⟩
theorem wf_u8 {n : Int} (h : (Lit.int .u8 n).wf = true) : 0 ≤ n := by
  simp [Lit.wf, IntKind.min, IntKind.max, IntKind.signed, IntKind.bits] at h
  omega
/-- The cells of an advisory. -/
def AdvCells (enc : TypeId × Value → H) (P : Program) (W : World) (base : Nat) (spare : Nat → Bool) (held : Bool) (e : TypeId) : Prop :=
  ∀ (n : Nat) (c0 c1 c2 : Value) (y : DataW H × List MemPlace), DataW.trod enc P W base spare held n e [c0, c1, c2] = some y → ∃ a : Adv, c0 = .int .u8 a.s ∧ c1 = .int .i64 a.r ∧ c2 = .bool a.k ∧ 0 ≤ a.s
theorem adv_cells {W : World} {base : Nat} {spare : Nat → Bool} {held : Bool} {e : TypeId} {f0 f1 f2 : Field} (he : P.underlying e = some (.struct #[f0, f1, f2])) (hone : oneCellFields P #[f0, f1, f2] = true)
    (h0 : P.underlying f0.type = some (.int .u8)) (h1 : P.underlying f1.type = some (.int .i64)) (h2 : P.underlying f2.type = some .bool) : AdvCells enc P W base spare held e := by
  intro n v0 v1 v2 y h
  obtain ⟨y0, y1, y2, m, _, _, g0, g1, g2⟩ := trod_struct3 he h
  obtain ⟨o0, k0⟩ := hone_of hone 0 f0 rfl
  obtain ⟨o1, k1⟩ := hone_of hone 1 f1 rfl
  obtain ⟨o2, k2⟩ := hone_of hone 2 f2 rfl
  simp [o0, o1, o2, k0, k1, k2] at g0 g1 g2
  obtain ⟨s, e0, _, ws⟩ := DataW.trod_int h0 g0
  obtain ⟨r, e1, _, _⟩ := DataW.trod_int h1 g1
  obtain ⟨k, e2, _⟩ := DataW.trod_bool h2 g2
  simp only [List.cons.injEq, and_true] at e0 e1 e2
  exact ⟨⟨s, r, k⟩, e0, e1, e2, wf_u8 ws⟩
theorem open_adv {W : World} {r : Reach} {b0 base : Nat} {spare : Nat → Bool} {held : Bool} {t : TypeId} {fs : Array Field} {v : Value} {d : DataW H} {p : List MemPlace} (hs : P.underlying t = some (.struct fs)) (hC : P.cellsOf t = 3) (he : AdvCells enc P W base spare held t)
    (hv : Value.okWide P W r b0 t v) (h : DataW.Trod enc P W base spare held t v d p) : ∃ a : Adv, v = .agg #[.int .u8 a.s, .int .i64 a.r, .bool a.k] ∧ 0 ≤ a.s := by
  obtain ⟨cs, rfl, hsz⟩ := okWide_struct hs hv
  obtain ⟨l⟩ := cs
  have hsz' : l.length = 3 := hsz.trans hC
  match l, hsz' with
  | [c0, c1, c2], _ =>
    obtain ⟨fuel, hf⟩ := h
    obtain ⟨a, rfl, rfl, rfl, h0⟩ := he fuel c0 c1 c2 _ hf
    exact ⟨a, rfl, h0⟩
theorem open_three {W : World} {r : Reach} {b0 base : Nat} {spare : Nat → Bool} {held : Bool} {t : TypeId} {f0 f1 f2 : Field} {v : Value} {d : DataW H} {p : List MemPlace} (hs : P.underlying t = some (.struct #[f0, f1, f2])) (hone : oneCellFields P #[f0, f1, f2] = true) (hC : P.cellsOf t = 3)
    (h0 : P.underlying f0.type = some (.int .i64)) (h1 : P.underlying f1.type = some (.int .i64)) (h2 : P.underlying f2.type = some (.int .i64))
    (hv : Value.okWide P W r b0 t v) (h : DataW.Trod enc P W base spare held t v d p) :
    ∃ x y z : Int, v = .agg #[.int .i64 x, .int .i64 y, .int .i64 z] ∧ (Lit.int .i64 x).wf = true ∧ (Lit.int .i64 y).wf = true ∧ (Lit.int .i64 z).wf = true := by
  obtain ⟨v0, v1, v2, y0, y1, y2, n, rfl, _, _, g0, g1, g2⟩ := Go.Joins.open_agg3 hs hone hC hv h
  obtain ⟨x, e0, _, w0⟩ := DataW.trod_int h0 g0
  obtain ⟨y, e1, _, w1⟩ := DataW.trod_int h1 g1
  obtain ⟨z, e2, _, w2⟩ := DataW.trod_int h2 g2
  simp only [List.cons.injEq, and_true] at e0 e1 e2
  subst e0 e1 e2
  exact ⟨x, y, z, rfl, w0, w1, w2⟩
theorem advs_of_trod {t e : TypeId} {W : World} {n : Nat} {c0 : Value} {y : DataW H × List MemPlace}
    (ht : P.underlying t = some (.slice e)) (hc : P.cellsOf e = 3) (he : AdvCells enc P W 0 (fun _ => true) true e)
    (h : DataW.trod enc P W 0 (fun _ => true) true n t [c0] = some y) :
    ∃ a n c l, c0 = .slice a n c ∧ Advs W a n l ∧ n ≤ c ∧ (a = none → n = 0 ∧ c = 0) ∧ Pos l := by
  rcases open_slice ht h with ⟨hcs, hx⟩ | ⟨a, len, cap, m, n', D, Pl, hcs, _, hl, hm, hmm, _, hx⟩
  · simp at hcs
    subst hcs
    exact ⟨none, 0, 0, [], rfl, ⟨rfl, by decide, Or.inl rfl⟩, by omega, fun _ => ⟨rfl, rfl⟩, fun a ha => by cases ha⟩
  · simp at hcs
    subst hcs
    unfold maxLen at hm
    have hlm : len ≤ m := by rw [hmm]; split <;> omega
    have each : ∀ i, i < len → ∃ q : Adv, (W.cell? (a.add (i * 3)) = some (.int .u8 q.s) ∧ W.cell? ((a.add (i * 3)).add 1) = some (.int .i64 q.r) ∧ W.cell? ((a.add (i * 3)).add 2) = some (.bool q.k)) ∧ 0 ≤ q.s := by
      intro i hi
      obtain ⟨cs', h1, h2⟩ := hx i (by omega)
      rw [hc] at h1
      obtain ⟨_, hlen, hcell⟩ := World.cells?_some h1
      match cs', hlen with
      | [v0, v1, v2], _ =>
        obtain ⟨q, rfl, rfl, rfl, hq⟩ := he _ _ _ _ _ h2
        have e0 := hcell 0 (by omega)
        have e1 := hcell 1 (by omega)
        have e2 := hcell 2 (by omega)
        exact ⟨q, ⟨by simpa [Addr.add] using e0, by simpa using e1, by simpa using e2⟩, hq⟩
    obtain ⟨q, hq⟩ := choose_lt each
    refine ⟨some a, len, cap, (List.range len).map q, rfl, ⟨by simp, by omega, ?_⟩, hl, (fun e => by cases e), ?_⟩
    · by_cases h0 : len = 0
      · exact Or.inl h0
      · obtain ⟨b, off, spot⟩ := a
        have hspot : spot = none := by simpa [Addr.add] using World.cell?_spot (hq 0 (by omega)).1.1
        subst hspot
        refine Or.inr ⟨b, off, rfl, fun i hi => ?_⟩
        have := (hq i hi).1
        have ek : ga ((List.range len).map q) i = q i := by unfold ga; simp [hi]
        rw [ek]
        simp only [Go.WideShapes.add_plain] at this
        exact this
    · intro x hx'
      obtain ⟨i, hi, rfl⟩ := List.mem_map.1 hx'
      exact (hq i (List.mem_range.1 hi)).2
theorem open_advs {t e : TypeId} {base : Nat} {W : World} {v : Value} {d : DataW H} {ps : List MemPlace}
    (ht : P.underlying t = some (.slice e)) (hc : P.cellsOf e = 3) (he : AdvCells enc P W 0 (fun _ => true) true e)
    (hv : Value.okWide P W .any base t v) (h : DataW.Trod enc P W 0 (fun _ => true) true t v d ps) :
    ∃ a n c l, v = .slice a n c ∧ Advs W a n l ∧ n ≤ c ∧ (a = none → n = 0 ∧ c = 0) ∧ Pos l := by
  obtain ⟨a0, len, cap, rfl⟩ := okWide_slice ht hv
  obtain ⟨fuel, hf⟩ := h
  exact advs_of_trod ht hc he hf
/-- A state: a slice of advisories, two advisories, a number. -/
theorem open_state {t ts te ta : TypeId} {f0 f1 f2 f3 : Field} {base : Nat} {W : World} {v : Value} {d : DataW H} {ps : List MemPlace}
    (ht : P.underlying t = some (.struct #[f0, f1, f2, f3])) (hC : P.cellsOf t = 8)
    (o0 : f0.offset = 0) (o1 : f1.offset = 1) (o2 : f2.offset = 4) (o3 : f3.offset = 7) (t0 : f0.type = ts) (t1 : f1.type = ta) (t2 : f2.type = ta)
    (hs : P.underlying ts = some (.slice te)) (cs0 : P.cellsOf ts = 1) (ca : P.cellsOf ta = 3) (c3 : P.cellsOf f3.type = 1) (h3 : P.underlying f3.type = some (.int .i64)) (hc : P.cellsOf te = 3) (hte : te = ta) (he : AdvCells enc P W 0 (fun _ => true) true ta)
    (hv : Value.okWide P W .any base t v) (h : DataW.Trod enc P W 0 (fun _ => true) true t v d ps) :
    ∃ a n c x, v = stV (.slice a n c) x ∧ Advs W a n x.q ∧ n ≤ c ∧ (a = none → n = 0 ∧ c = 0) ∧ Pos x.q ∧ 0 ≤ x.due.s ∧ 0 ≤ x.fl.s ∧ (Lit.int .i64 x.c).wf = true := by
  subst hte
  obtain ⟨cs, rfl, hsz⟩ := okWide_struct ht hv
  obtain ⟨l⟩ := cs
  have hsz' : l.length = 8 := hsz.trans hC
  match l, hsz' with
  | [v0, v1, v2, v3, v4, v5, v6, v7], _ =>
    obtain ⟨fuel, hf⟩ := h
    obtain ⟨y0, y1, y2, y3, m, _, _, g0, g1, g2, g3⟩ := Go.Joins.trod_struct4 ht hf
    simp [Value.cells, o0, o1, o2, o3, t0, t1, t2, cs0, ca, c3] at g0 g1 g2 g3
    obtain ⟨a, n, c, q, rfl, hA, hnc, hnil, hP⟩ := advs_of_trod hs hc he g0
    obtain ⟨x1, rfl, rfl, rfl, p1⟩ := he _ _ _ _ _ g1
    obtain ⟨x2, rfl, rfl, rfl, p2⟩ := he _ _ _ _ _ g2
    obtain ⟨z, e3, _, w3⟩ := DataW.trod_int h3 g3
    simp only [List.cons.injEq, and_true] at e3
    subst e3
    exact ⟨a, n, c, ⟨q, x1, x2, z⟩, rfl, hA, hnc, hnil, hP, p1, p2, w3⟩
end
end Go.Proofs.Ytjidpkcoaoflbaa
