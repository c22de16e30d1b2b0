/-
  A slice of integers that came in, as a list. No program in sight.
-/
import Derived.ProofKit
import Derived.OpenShut
import Derived.WalkKit
namespace Go.MySlice
open Go.ChangeShapes Go.WideShapes Go.ChangeAt Go.RowKit

/-- A slice of integers that reads as zs: nil or empty, or a row of a block. -/
structure IntsAt (k : IntKind) (w : World) (a : Option Addr) (n : Nat) (zs : List Int) : Prop where
  len : zs.length = n
  bound : n ≤ 9223372036854775807
  cells : n = 0 ∨ ∃ b off, a = some ⟨b, off, none⟩ ∧ ∀ i, i < n → w.cell? ⟨b, off + i, none⟩ = some (.int k (zs[i]?.getD 0))

theorem IntsAt.below {k : IntKind} {w w' : World} {a : Option Addr} {n : Nat} {zs : List Int} (h : IntsAt k w a n zs) (hb : Below w.heap.size w w') : IntsAt k w' a n zs := by
  refine ⟨h.len, h.bound, ?_⟩
  rcases h.cells with h0 | ⟨b, off, rfl, hc⟩
  · exact Or.inl h0
  · exact Or.inr ⟨b, off, rfl, fun i hi => (hb.cell (p := ⟨b, off + i, none⟩) (World.block_lt_of_cell? w _ (hc i hi))).trans (hc i hi)⟩

section
variable {H : Type} {enc : TypeId × Value → H} {P : Program}
theorem open_intsAt {k : IntKind} {t e : TypeId} {base : Nat} {W : World} {v : Value} {d : DataW H} {ps : List MemPlace}
    (ht : P.underlying t = some (.slice e)) (he : P.underlying e = some (.int k)) (hc : P.cellsOf e = 1)
    (hv : Value.okWide P W .any base t v) (h : DataW.Trod enc P W 0 (fun _ => true) true t v d ps) :
    ∃ a n c zs, v = .slice a n c ∧ IntsAt k W a n zs ∧ n ≤ c ∧ (∀ z ∈ zs, (Lit.int k z).wf = true) := by
  obtain ⟨a0, len, cap, rfl⟩ := okWide_slice ht hv
  obtain ⟨fuel, hf⟩ := h
  rcases open_ints ht he hc hf with ⟨hcs, hx⟩ | ⟨a, len', cap', zs, hcs, _, hl, hm, hz, hx, hcell, hwz⟩
  · simp [Value.cells] at hcs
    obtain ⟨rfl, rfl, rfl⟩ := hcs
    exact ⟨none, 0, 0, [], rfl, ⟨rfl, by omega, Or.inl rfl⟩, by omega, by simp⟩
  · simp [Value.cells] at hcs
    obtain ⟨rfl, rfl, rfl⟩ := hcs
    simp only [if_true] at hz
    unfold maxLen at hm
    refine ⟨some a, len, cap, zs.take len, rfl, ⟨by rw [List.length_take]; omega, by omega, ?_⟩, hl, fun z hz' => hwz z (List.mem_of_mem_take hz')⟩
    by_cases h0 : len = 0
    · exact Or.inl h0
    · obtain ⟨b, off, rfl, hc'⟩ := ints_at hcell (by omega)
      refine Or.inr ⟨b, off, rfl, fun i hi => ?_⟩
      rw [hc' i (by omega), List.getElem?_take, if_pos hi, List.getD_eq_getElem?_getD]
end
end Go.MySlice
