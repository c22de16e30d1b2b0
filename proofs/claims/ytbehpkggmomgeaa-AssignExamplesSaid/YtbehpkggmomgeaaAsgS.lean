/-
  Layer 19 (assign): a store into a matrix of the call's own.
-/
import Derived.Test.YtbehpkggmomgeaaAsgJ
namespace Go.Proofs.Ytbehpkggmomgeaa
open Go.RowKit AsgRows MyHeap MyOwn MyCopy

def setR (L : List (List Int)) (i k : Nat) (x : Int) : List (List Int) := L.set i ((rowL L i).set k x)
theorem setR_len {L : List (List Int)} {i k : Nat} {x : Int} : (setR L i k x).length = L.length := List.length_set
theorem setR_row {L : List (List Int)} {i k j : Nat} {x : Int} (hi : i < L.length) : rowL (setR L i k x) j = if i = j then (rowL L i).set k x else rowL L j := by
  show ((L.set i ((rowL L i).set k x))[j]?).getD [] = _
  rw [List.getElem?_set]
  by_cases h : i = j
  · subst h; rw [if_pos rfl, if_pos hi, if_pos rfl]; rfl
  · rw [if_neg h, if_neg h]; rfl
theorem gi_setI {l : List Int} {i j : Nat} {x : Int} (h : i < l.length) : gi (l.set i x) j = if i = j then x else gi l j := by
  unfold gi
  rw [List.getElem?_set]
  by_cases hij : i = j
  · subst hij; rw [if_pos rfl, if_pos h, if_pos rfl]; rfl
  · rw [if_neg hij, if_neg hij]
theorem setR_ent {L : List (List Int)} {i k r j : Nat} {x : Int} (hi : i < L.length) (hk : k < (rowL L i).length) : ent (setR L i k x) r j = if i = r ∧ k = j then x else ent L r j := by
  unfold ent
  rw [setR_row hi]
  by_cases h : i = r
  · subst h
    rw [if_pos rfl, gi_setI hk]
    by_cases h2 : k = j
    · rw [if_pos h2, if_pos ⟨rfl, h2⟩]
    · rw [if_neg h2, if_neg (fun q => h2 q.2)]
  · rw [if_neg h, if_neg (fun q => h q.1)]
theorem setR_rlen {L : List (List Int)} {i k r : Nat} {x : Int} (hi : i < L.length) : (rowL (setR L i k x) r).length = (rowL L r).length := by
  rw [setR_row hi]
  by_cases h : i = r
  · subst h; rw [if_pos rfl, List.length_set]
  · rw [if_neg h]
theorem flatI_get {l : List Int} {k : Nat} (hk : k < l.length) : (flatI l)[k]? = some (.int .i64 (gi l k)) := by
  unfold flatI gi
  rw [List.getElem?_map, List.getElem?_eq_getElem hk]
  rfl
theorem flatI_setI (xs : List Int) (k : Nat) (x : Int) : (flatI xs).set k (.int .i64 x) = flatI (xs.set k x) := by unfold flatI; rw [List.map_set]
/-- A row of the call's own, opened. -/
theorem own_row_at {W : World} {base : Nat} {u : Value} {l : List Int} {k : Nat} (h : W.ownsRow base 3 1 u l.length (flatI l)) (hk : k < l.length) : ∃ g c, u = .slice (some ⟨g, 0, none⟩) l.length c ∧ base ≤ g ∧ W.cell? ⟨g, k, none⟩ = some (.int .i64 (gi l k)) ∧ W.frozen? ⟨g, k, none⟩ = false ∧
    ∀ x, (W.setCell ⟨g, k, none⟩ (.int .i64 x)).ownsRow base 3 1 (.slice (some ⟨g, 0, none⟩) l.length c) l.length (flatI (l.set k x)) := by
  rcases h.2 with ⟨rfl, h0⟩ | ⟨g, cap, cur, rfl, hg, hh, hc, hcm, hcs, ht⟩
  · omega
  · have hx := flatI_get hk
    have hk2 : k < l.length * 1 := by omega
    rw [← ht, List.getElem?_take_of_lt hk2] at hx
    refine ⟨g, cap, rfl, hg, cell_of_block hh (by simpa using hx), free_of_block hh, fun x => ⟨by rw [flatI_len, List.length_set, Nat.mul_one], Or.inr ⟨g, cap, cur.setIfInBounds k (.int .i64 x), rfl, hg, block_setCell hh, hc, hcm, by rw [Array.size_setIfInBounds]; exact hcs, ?_⟩⟩⟩
    rw [← flatI_setI, ← ht, Array.toList_setIfInBounds, List.take_set]
theorem own_top_at {W : World} {base n : Nat} {v : Value} {vs : List Value} {i : Nat} {u : Value} (h : W.ownsRow base 24 1 v n vs) (hu : vs[i]? = some u) : ∃ g c, v = .slice (some ⟨g, 0, none⟩) n c ∧ W.cell? ⟨g, i, none⟩ = some u ∧ g < W.heap.size := by
  have hl := h.1
  have hi : i < vs.length := (List.getElem?_eq_some_iff.1 hu).1
  rcases h.2 with ⟨rfl, h0⟩ | ⟨g, cap, cur, rfl, hg, hh, hc, hcm, hcs, ht⟩
  · omega
  · rw [← ht, List.getElem?_take_of_lt (by omega)] at hu
    exact ⟨g, cap, rfl, cell_of_block hh (by simpa using hu), lt_of_block hh⟩
/-- An entry of a matrix of the call's own; a store to it. -/
theorem OwnM.at' {W : World} {base : Nat} {v : Value} {vs : List Value} {L : List (List Int)} (h : OwnM W base v vs L) {i k : Nat} (hi : i < L.length) (hk : k < (rowL L i).length) :
    ∃ g c g' c', v = .slice (some ⟨g, 0, none⟩) L.length c ∧ W.cell? ⟨g, i, none⟩ = some (.slice (some ⟨g', 0, none⟩) (rowL L i).length c') ∧ W.cell? ⟨g', k, none⟩ = some (.int .i64 (ent L i k)) ∧ W.frozen? ⟨g', k, none⟩ = false ∧ g < W.heap.size ∧ g' < W.heap.size ∧ base ≤ g' ∧
      ∀ x, OwnM (W.setCell ⟨g', k, none⟩ (.int .i64 x)) base v vs (setR L i k x) := by
  obtain ⟨u, hu, ho⟩ := h.row i hi
  obtain ⟨g', c', rfl, hb, hc, hf, hs⟩ := own_row_at ho hk
  obtain ⟨g, c, rfl, hc2, hg⟩ := own_top_at h.top hu
  refine ⟨g, c, g', c', rfl, hc2, hc, hf, hg, World.block_lt_of_cell? W _ hc, hb, fun x => ?_⟩
  have o : Only g' W (W.setCell ⟨g', k, none⟩ (.int .i64 x)) := (Only.refl _ _).setCell _ _
  refine ⟨by rw [setR_len]; exact h.len, by rw [setR_len]; exact own_over h.top o (fun y hy e => own_types h.top ho (by decide) hy e.symm.symm), fun j hj => ?_, h.apart⟩
  rw [setR_len] at hj
  rw [setR_row hi]
  by_cases e : i = j
  · subst e
    rw [if_pos rfl, List.length_set]
    exact ⟨_, hu, hs x⟩
  · rw [if_neg e]
    obtain ⟨y, hy, hyo⟩ := h.row j hj
    exact ⟨y, hy, own_over hyo o (fun z hz q => h.apart j i y _ z (fun w => e w.symm) hy hu hz q)⟩
end Go.Proofs.Ytbehpkggmomgeaa
