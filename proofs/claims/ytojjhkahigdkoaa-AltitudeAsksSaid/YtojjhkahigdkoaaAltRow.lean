/-
  Layer 18 (altitude): a band as it comes in.
-/
import Derived.Test.YtojjhkahigdkoaaAltA
import Derived.Lib.SmallJoins
import Derived.ProofKit
import Derived.OpenShut
namespace Go.Proofs.Ytojjhkahigdkoaa
open Go.ChangeShapes Go.WideShapes Go.ChangeAt Go.RowKit Go.Deep AltMath

section
variable {H : Type} {enc : TypeId × Value → H} {P : Program}
theorem ints_of_trod {t e : TypeId} {W : World} {n : Nat} {c0 : Value} {y : DataW H × List MemPlace} (ht : P.underlying t = some (.slice e)) (he : P.underlying e = some (.int .i64)) (hc : P.cellsOf e = 1)
    (h : DataW.trod enc P W 0 (fun _ => true) true n t [c0] = some y) : ∃ a m c l, c0 = .slice a m c ∧ Ints W a m l ∧ m ≤ c ∧ c ≤ 9223372036854775807 := by
  rcases open_ints ht he hc h with ⟨hcs, hx⟩ | ⟨a, len, cap, zs, hcs, _, hl, hm, hz, hx, hcell, hwz⟩
  · simp at hcs
    subst hcs
    exact ⟨none, 0, 0, [], rfl, ⟨rfl, by omega, Or.inl rfl⟩, by omega, by omega⟩
  · simp at hcs
    subst hcs
    simp only [if_true] at hz
    unfold maxLen at hm
    refine ⟨some a, len, cap, zs.take len, rfl, ⟨by rw [List.length_take]; omega, by omega, ?_⟩, hl, hm⟩
    by_cases h0 : len = 0
    · exact Or.inl h0
    · obtain ⟨b, off, rfl, hc'⟩ := _root_.Go.ints_at hcell (by omega)
      refine Or.inr ⟨b, off, rfl, fun i hi => ?_⟩
      unfold gi
      rw [hc' i (by omega), List.getElem?_take, if_pos hi, List.getD_eq_getElem?_getD]
/-- A band. -/
theorem open_band {t e : TypeId} {f0 f1 : Field} {base : Nat} {W : World} {v : Value} {d : DataW H} {ps : List MemPlace}
    (hs : P.underlying t = some (.struct #[f0, f1])) (hone : oneCellFields P #[f0, f1] = true) (hC : P.cellsOf t = 2)
    (h0 : P.underlying f0.type = some (.slice e)) (h1 : P.underlying f1.type = some (.slice e)) (he : P.underlying e = some (.int .i64)) (hc : P.cellsOf e = 1)
    (hv : Value.okWide P W .any base t v) (h : DataW.Trod enc P W 0 (fun _ => true) true t v d ps) :
    ∃ aL nL cL aH nH cH lo hi, v = bdV aL nL cL aH nH cH ∧ Ints W aL nL lo ∧ Ints W aH nH hi := by
  obtain ⟨v0, v1, y0, y1, n, rfl, _, _, g0, g1⟩ := Go.Joins.open_agg2 hs hone hC hv h
  obtain ⟨aL, nL, cL, lo, e0, i0, -, -⟩ := ints_of_trod h0 he hc g0
  obtain ⟨aH, nH, cH, hi, e1, i1, -, -⟩ := ints_of_trod h1 he hc g1
  subst e0 e1
  exact ⟨aL, nL, cL, aH, nH, cH, lo, hi, rfl, i0, i1⟩
end
end Go.Proofs.Ytojjhkahigdkoaa
