/-
  Layer 18 (altitude): the values of the law Examples; rows that are changed.
-/
import Derived.Test.YtojjhkahigdkoaaAltZ
import Derived.Test.YtojjhkahigdkoaaAltP
import Derived.Test.YtojjhkahigdkoaaAltO
import Derived.Test.YtojjhkahigdkoaaAltY2
namespace Go.Proofs.Ytojjhkahigdkoaa
open Go.RowKit AltMath MyHeap MyCopy MyOwn

def xTL : List Int := loK (neF 50000 100) 201
def xTH : List Int := hiK (neF 50000 100) 201
def xUL : List Int := loK (stF xTL xTH 0) 201
def xUH : List Int := hiK (stF xTL xTH 0) 201
def xLL : List Int := loK (neF (-1000) 25) 201
def xLH : List Int := hiK (neF (-1000) 25) 201
def xDL : List Int := loK (stF xLL xLH 32) 201
def xDH : List Int := hiK (stF xLL xLH 32) 201
def xGL : List Int := loK (maF xLL xLH 0 25) 201
def xGH : List Int := hiK (maF xLL xLH 0 25) 201
def xSL : List Int := loK (stF xGL xGH 5) 201
def xSH : List Int := hiK (stF xGL xGH 5) 201
theorem xE : meE 50000 100 = 0 ∧ stE xTL xTH 0 = 0 ∧ meE (-1000) 25 = 0 ∧ stE xLL xLH 32 = 0 ∧ maE xLL xLH 0 25 = 0 ∧ stE xGL xGH 5 = 0 ∧ spE xGL xGH = 9 ∧ chB xLL xLH = 0 ∧ cnB xLL xLH (-1000) 101 = false ∧ stE xLL xLH (-1) = 1 ∧ stE xLL xLH 33 = 1 := by
  refine ⟨?_, ?_, ?_, ?_, ?_, ?_, ?_, ?_, ?_, ?_, ?_⟩ <;> kernel_rfl
theorem xG : (gi xTL 103 = 50000 ∧ gi xTH 103 = 50000) ∧ (gi xUL 101 = 1 ∧ gi xUH 101 = 0) ∧ (gi xUL 100 = 50000 ∧ gi xUH 100 = 50000) ∧ (gi xUL 93 = 49993 ∧ gi xUH 93 = 49993) ∧ (gi xDL 0 = 1 ∧ gi xDH 0 = 0) ∧ (gi xDL 100 = -1000 ∧ gi xDH 100 = -944) := by
  refine ⟨⟨?_, ?_⟩, ⟨?_, ?_⟩, ⟨?_, ?_⟩, ⟨?_, ?_⟩, ⟨?_, ?_⟩, ⟨?_, ?_⟩⟩ <;> kernel_rfl
theorem xS : xSL = xGL ∧ xSH = xGH := ⟨by kernel_rfl, by kernel_rfl⟩
theorem xSp : emB xGL xGH = true ∧ emE xGL xGH = 0 ∧ spX xGL xGH = ⟨0, 0, 0, 0⟩ ∧ beP xGL xGH = (0, 0) := by
  have h9 := xE.2.2.2.2.2.2.1
  refine ⟨?_, ?_, ?_, ?_⟩
  · unfold emB; rw [h9]; rfl
  · unfold emE; rw [h9]; rfl
  · unfold spX; rw [if_neg (by rw [h9]; decide)]
  · unfold beP; rw [if_neg (by rw [h9]; decide)]
/-- The changed copies are not valid. -/
theorem xB : chB (xLL.set 200 (-1001)) xLH = 1 ∧ chB xLL (xLH.set 0 50001) = 1 ∧ chB (xLL.set 7 5) (xLH.set 7 4) = 1 ∧ chB xLL.tail xLH = 2 ∧ chB xLL (xLH ++ [0]) = 2 := by
  refine ⟨?_, ?_, ?_, ?_, ?_⟩ <;> kernel_rfl
theorem xLlen : xLL.length = 201 ∧ xLH.length = 201 := ⟨loK_len _ _, hiK_len _ _⟩

theorem gi_set {l : List Int} {i j : Nat} {x : Int} (h : i < l.length) : gi (l.set i x) j = if i = j then x else gi l j := by
  unfold gi
  rw [List.getElem?_set]
  by_cases hij : i = j
  · subst hij
    rw [if_pos rfl, if_pos h, if_pos rfl]
    rfl
  · rw [if_neg hij, if_neg hij]
/-- A number is stored into a row. -/
theorem ints_set {W : World} {g n i : Nat} {l : List Int} {x : Int} {cs : Array Value} {T : TypeId} {fr : Nat × Nat} (h : Ints W (some ⟨g, 0, none⟩) n l) (hi : i < n) (hg : W.heap[g]? = some (.cells cs T fr)) (hs : n ≤ cs.size) : Ints (W.setCell ⟨g, i, none⟩ (.int .i64 x)) (some ⟨g, 0, none⟩) n (l.set i x) := by
  refine ⟨by rw [List.length_set]; exact h.len, h.bound, Or.inr ⟨g, 0, rfl, fun j hj => ?_⟩⟩
  rw [gi_set (by rw [h.len]; exact hi), Nat.zero_add]
  by_cases hij : i = j
  · subst hij
    rw [if_pos rfl]
    exact cell_of_block (block_setCell (i := i) (v := .int .i64 x) hg) (by rw [Array.getElem?_setIfInBounds_self_of_lt]; omega)
  · rw [if_neg hij]
    have h0 := ints_cell h hj
    rw [Nat.zero_add] at h0
    have hc : cs[j]? = some (.int .i64 (gi l j)) := by
      have := h0
      simp [World.cell?, hg] at this
      simpa using this
    exact cell_of_block (block_setCell (i := i) (v := .int .i64 x) hg) (by rw [Array.getElem?_setIfInBounds_ne hij]; exact hc)
theorem gi_tail {l : List Int} {j : Nat} : gi l.tail j = gi l (j + 1) := by unfold gi; rw [List.getElem?_tail]
theorem ints_tail {W : World} {g o n : Nat} {l : List Int} (h : Ints W (some ⟨g, o, none⟩) (n + 1) l) : Ints W (some ⟨g, o + 1, none⟩) n l.tail := by
  refine ⟨by rw [List.length_tail, h.len]; rfl, by have := h.bound; omega, ?_⟩
  by_cases h0 : n = 0
  · exact Or.inl h0
  · refine Or.inr ⟨g, o + 1, rfl, fun j hj => ?_⟩
    have := ints_cell h (k := j + 1) (by omega)
    rw [gi_tail, show o + 1 + j = o + (j + 1) by omega]
    exact this
theorem ints_besides {W W' : World} {b o n m : Nat} {l : List Int} (h : Ints W (some ⟨b, o, none⟩) n l) (hO : Only m W W') (hne : b ≠ m) : Ints W' (some ⟨b, o, none⟩) n l := by
  refine ⟨h.len, h.bound, ?_⟩
  rcases h.cells with h0 | ⟨b', o', e, hc⟩
  · exact Or.inl h0
  · cases e
    exact Or.inr ⟨b, o, rfl, fun i hi => hO.cell (hc i hi) hne⟩
theorem row_off {W W1 W' : World} {b o n : Nat} {l : List Int} {row : Option Nat} (h : Ints W (some ⟨b, o, none⟩) n l) (hb : Below W.heap.size W W1) (hg : W1.grownBy W' row) (hne : some b ≠ row) : Ints W' (some ⟨b, o, none⟩) n l := by
  have h1 := h.below hb
  refine ⟨h1.len, h1.bound, ?_⟩
  rcases h1.cells with h0 | ⟨b', o', e, hc⟩
  · exact Or.inl h0
  · cases e
    exact Or.inr ⟨b, o, rfl, fun i hi => (World.cell?_of_block (hg.block b (World.block_lt_of_cell? _ _ (hc i hi)) hne)).trans (hc i hi)⟩
/-- A row of the call's own, opened. -/
theorem own_open {W : World} {base : Nat} {v : Value} {l : List Int} {n : Nat} (h : W.ownsRow base 3 1 v n (flatI l)) (hl : l.length = n) (hn : 0 < n) (hm : n ≤ 9223372036854775807) : ∃ g c cs, v = .slice (some ⟨g, 0, none⟩) n c ∧ base ≤ g ∧ W.heap[g]? = some (.cells cs 3 (0, 0)) ∧ n ≤ cs.size ∧ n ≤ c ∧ Ints W (some ⟨g, 0, none⟩) n l := by
  obtain ⟨a, c, e, hI⟩ := ints_own hl h hm
  rcases h.2 with ⟨rfl, h0⟩ | ⟨g, cap, cur, rfl, hg, hh, hc, hcm, hcs, ht⟩
  · omega
  · cases e
    exact ⟨g, _, cur, rfl, hg, hh, by omega, hc, hI⟩
end Go.Proofs.Ytojjhkahigdkoaa
