/-
  Layer 19 (assign): matrices that come in.
-/
import Derived.Test.YtbehpkggmomgeaaAsgA
import Derived.Test.YtbehpkggmomgeaaPairLibB
import Derived.ProofKit
import Derived.OpenShut
namespace Go.Proofs.Ytbehpkggmomgeaa
open Go.ChangeShapes Go.WideShapes Go.ChangeAt Go.RowKit AsgRows Go.Deep
theorem open_rows {H : Type} {enc : TypeId × Value → H} {t e f : TypeId} {base : Nat} {W : World} {v : Value} {d : DataW H} {ps : List MemPlace}
    (ht : Try.prog.underlying t = some (.slice e)) (hc : Try.prog.cellsOf e = 1) (he : Try.prog.underlying e = some (.slice f)) (hf : Try.prog.underlying f = some (.int .i64)) (hcf : Try.prog.cellsOf f = 1)
    (hv : Value.okWide Try.prog W .any base t v) (h : DataW.Trod enc Try.prog W 0 (fun _ => true) true t v d ps) :
    ∃ a n c L, v = .slice a n c ∧ Mtx W a n L ∧ n ≤ c := by
  obtain ⟨a0, len, cap, rfl⟩ := okWide_slice ht hv
  obtain ⟨fuel, hfu⟩ := h
  rcases open_slice ht hfu with ⟨hcs, hx⟩ | ⟨a, len', cap', m, n, D, Pl, hcs, _, hl, hm, hmm, _, hx⟩
  · simp [Value.cells] at hcs
    obtain ⟨rfl, rfl, rfl⟩ := hcs
    exact ⟨none, 0, 0, [], rfl, ⟨rfl, by omega, Or.inl rfl⟩, by omega⟩
  · simp [Value.cells] at hcs
    obtain ⟨rfl, rfl, rfl⟩ := hcs
    have hlm : len ≤ m := by rw [hmm]; split <;> omega
    have each : ∀ i, i < len → ∃ q : List Int × Option Addr × Nat, W.cell? (a.add i) = some (.slice q.2.1 q.1.length q.2.2) ∧ Ints W q.2.1 q.1.length q.1 := by
      intro i hi
      obtain ⟨cs', h1, h2⟩ := hx i (by omega)
      rw [hc, Nat.mul_one] at h1
      obtain ⟨_, hlen, hcell⟩ := World.cells?_some h1
      match cs', hlen with
      | [v0], _ =>
        have e0 := hcell 0 (by omega)
        have e0' : W.cell? (a.add i) = some v0 := by simpa [Addr.add] using e0
        rcases open_ints he hf hcf h2 with ⟨hcs, _⟩ | ⟨a1, l1, c1, zs, hcs, _, hl1, hm1, hz, _, hcell1, _⟩
        · have hv0 : v0 = .slice none 0 0 := by simpa using hcs
          subst hv0
          exact ⟨([], none, 0), e0', ⟨rfl, by simp, Or.inl rfl⟩⟩
        · have hv0 : v0 = .slice (some a1) l1 c1 := by simpa using hcs
          subst hv0
          simp only [if_true] at hz
          unfold maxLen at hm1
          have hlt : (zs.take l1).length = l1 := by rw [List.length_take]; omega
          refine ⟨(zs.take l1, some a1, c1), by rw [hlt]; exact e0', ⟨rfl, by rw [hlt]; omega, ?_⟩⟩
          rw [hlt]
          by_cases h0 : l1 = 0
          · exact Or.inl h0
          · obtain ⟨b, off, rfl, hc'⟩ := _root_.Go.ints_at hcell1 (by omega)
            refine Or.inr ⟨b, off, rfl, fun j hj => ?_⟩
            rw [hc' j (by omega)]
            unfold gi
            rw [List.getElem?_take, if_pos hj, List.getD_eq_getElem?_getD]
    obtain ⟨q, hq⟩ := Go.Deep.choose_lt each
    refine ⟨some a, len, cap, (List.range len).map (fun i => (q i).1), rfl, ⟨by simp, by unfold maxLen at hm; omega, ?_⟩, hl⟩
    by_cases h0 : len = 0
    · exact Or.inl h0
    · obtain ⟨b, off, spot⟩ := a
      have hspot : spot = none := by simpa [Addr.add] using World.cell?_spot (hq 0 (by omega)).1
      subst hspot
      refine Or.inr ⟨b, off, rfl, fun i hi => ?_⟩
      have hr : rowL ((List.range len).map (fun i => (q i).1)) i = (q i).1 := by unfold rowL; simp [hi]
      rw [hr]
      refine ⟨(q i).2.1, (q i).2.2, ?_, (hq i hi).2⟩
      have := (hq i hi).1
      simp only [Go.WideShapes.add_plain] at this
      exact this
end Go.Proofs.Ytbehpkggmomgeaa
