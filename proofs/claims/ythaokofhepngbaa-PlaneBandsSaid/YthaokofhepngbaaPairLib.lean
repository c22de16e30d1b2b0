/-
  A struct of two ints by value, a slice of such (or of arrays of two ints), as they come in. No program in sight.
-/
import Derived.Lib.SmallJoins
import Derived.Deep.SlicePairs
import Derived.ProofKit
import Derived.OpenShut
import Derived.WalkKit
namespace Go.MyPair
open Go.ChangeShapes Go.WideShapes Go.ChangeAt Go.RowKit Go.Deep

/-- A slice of pairs that reads as ps, its length unbounded. -/
structure Rd (w : World) (a : Option Addr) (n : Nat) (ps : List (Int × Int)) : Prop where
  len : ps.length = n
  bound : n ≤ maxLen
  cells : n = 0 ∨ ∃ b off, a = some ⟨b, off, none⟩ ∧ ∀ i, i < n → w.cell? ⟨b, off + i * 2, none⟩ = some (.int .i64 (ps[i]?.getD (0, 0)).1) ∧ w.cell? ⟨b, off + i * 2 + 1, none⟩ = some (.int .i64 (ps[i]?.getD (0, 0)).2)

section
variable {H : Type} {enc : TypeId × Value → H} {P : Program}
theorem open_pair {r : Reach} {b0 : Nat} {t : TypeId} {f0 f1 : Field} {w : World} {v : Value} {d : DataW H} {p : List MemPlace} {base : Nat} {spare : Nat → Bool} {held : Bool} (hs : P.underlying t = some (.struct #[f0, f1])) (hone : oneCellFields P #[f0, f1] = true) (hC : P.cellsOf t = 2)
    (h0 : P.underlying f0.type = some (.int .i64)) (h1 : P.underlying f1.type = some (.int .i64))
    (hv : Value.okWide P w r b0 t v) (h : DataW.Trod enc P w base spare held t v d p) :
    ∃ z u : Int, v = .agg #[.int .i64 z, .int .i64 u] ∧ (Lit.int .i64 z).wf = true ∧ (Lit.int .i64 u).wf = true := by
  obtain ⟨v0, v1, y0, y1, n, rfl, _, _, g0, g1⟩ := Go.Joins.open_agg2 hs hone hC hv h
  obtain ⟨z, e0, _, w0⟩ := DataW.trod_int h0 g0
  obtain ⟨u, e1, _, w1⟩ := DataW.trod_int h1 g1
  simp only [List.cons.injEq, and_true] at e0 e1
  subst e0 e1
  exact ⟨z, u, rfl, w0, w1⟩

/-- What the two cells of an element are. -/
def TwoInts (enc : TypeId × Value → H) (P : Program) (W : World) (e : TypeId) : Prop := ∀ (n : Nat) (c0 c1 : Value) (y : DataW H × List MemPlace), DataW.trod enc P W 0 (fun _ => true) true n e [c0, c1] = some y → ∃ z u : Int, c0 = .int .i64 z ∧ c1 = .int .i64 u
theorem twoInts_struct {W : World} {e : TypeId} {f0 f1 : Field} (he : P.underlying e = some (.struct #[f0, f1])) (o0 : f0.offset = 0) (o1 : f1.offset = 1) (c0 : P.cellsOf f0.type = 1) (c1 : P.cellsOf f1.type = 1)
    (h0 : P.underlying f0.type = some (.int .i64)) (h1 : P.underlying f1.type = some (.int .i64)) : TwoInts enc P W e := by
  intro n v0 v1 y h
  obtain ⟨y0, y1, m, _, _, g0, g1⟩ := trod_struct2 he h
  simp [o0, o1, c0, c1] at g0 g1
  obtain ⟨z, e0, _, _⟩ := DataW.trod_int h0 g0
  obtain ⟨u, e1, _, _⟩ := DataW.trod_int h1 g1
  simp only [List.cons.injEq, and_true] at e0 e1
  exact ⟨z, u, e0, e1⟩
theorem twoInts_array {W : World} {e f : TypeId} (he : P.underlying e = some (.array 2 f)) (cf : P.cellsOf f = 1) (hf : P.underlying f = some (.int .i64)) : TwoInts enc P W e := by
  intro n v0 v1 y h
  obtain ⟨xs, m, _, _, _, hxl, hg⟩ := DataW.trod_array he h
  have g0 := hg 0 (by omega)
  have g1 := hg 1 (by omega)
  match xs, hxl with
  | [y0, y1], _ =>
    simp [cf] at g0 g1
    obtain ⟨z, e0, _, _⟩ := DataW.trod_int hf g0
    obtain ⟨u, e1, _, _⟩ := DataW.trod_int hf g1
    simp only [List.cons.injEq, and_true] at e0 e1
    exact ⟨z, u, e0, e1⟩

theorem open_pairs {t e : TypeId} {base : Nat} {W : World} {v : Value} {d : DataW H} {ps : List MemPlace}
    (ht : P.underlying t = some (.slice e)) (hc : P.cellsOf e = 2) (he : TwoInts enc P W e)
    (hv : Value.okWide P W .any base t v) (h : DataW.Trod enc P W 0 (fun _ => true) true t v d ps) :
    ∃ a n c l, v = .slice a n c ∧ Rd W a n l ∧ n ≤ c := by
  obtain ⟨a0, len, cap, rfl⟩ := okWide_slice ht hv
  obtain ⟨fuel, hf⟩ := h
  rcases open_slice ht hf with ⟨hcs, hx⟩ | ⟨a, len', cap', m, n, D, Pl, hcs, _, hl, hm, hmm, _, hx⟩
  · simp [Value.cells] at hcs
    obtain ⟨rfl, rfl, rfl⟩ := hcs
    exact ⟨none, 0, 0, [], rfl, ⟨rfl, by unfold maxLen; omega, Or.inl rfl⟩, by omega⟩
  · simp [Value.cells] at hcs
    obtain ⟨rfl, rfl, rfl⟩ := hcs
    have hlm : len ≤ m := by rw [hmm]; split <;> omega
    have each : ∀ i, i < len → ∃ q : Int × Int, W.cell? (a.add (i * 2)) = some (.int .i64 q.1) ∧ W.cell? ((a.add (i * 2)).add 1) = some (.int .i64 q.2) := by
      intro i hi
      obtain ⟨cs', h1, h2⟩ := hx i (by omega)
      rw [hc] at h1
      obtain ⟨_, hlen, hcell⟩ := World.cells?_some h1
      match cs', hlen with
      | [v0, v1], _ =>
        obtain ⟨z, u, rfl, rfl⟩ := he _ _ _ _ h2
        have e0 := hcell 0 (by omega)
        have e1 := hcell 1 (by omega)
        exact ⟨(z, u), by simpa [Addr.add] using e0, by simpa using e1⟩
    obtain ⟨q, hq⟩ := choose_lt each
    refine ⟨some a, len, cap, (List.range len).map q, rfl, ⟨by simp, by omega, ?_⟩, hl⟩
    by_cases h0 : len = 0
    · exact Or.inl h0
    · obtain ⟨b, off, spot⟩ := a
      have hspot : spot = none := by simpa [Addr.add] using World.cell?_spot (hq 0 (by omega)).1
      subst hspot
      refine Or.inr ⟨b, off, rfl, fun i hi => ?_⟩
      have := hq i hi
      have ek : ((List.range len).map q)[i]?.getD (0, 0) = q i := by simp [hi]
      rw [ek]
      simp only [Go.WideShapes.add_plain] at this
      exact this
end
end Go.MyPair
