/-
  Slices of pairs of numbers that a call makes. No program in sight.
-/
import Derived.WalkKit
import Derived.WalkSmall
namespace Go.MyOwn
open Go.RowKit

def flat2 (ps : List (Int × Int)) : List Value := ps.flatMap fun p => [.int .i64 p.1, .int .i64 p.2]
theorem flat2_nil : flat2 [] = [] := rfl
theorem flat2_snoc (ps : List (Int × Int)) (p : Int × Int) : flat2 (ps ++ [p]) = flat2 ps ++ [.int .i64 p.1, .int .i64 p.2] := by simp [flat2]
theorem flat2_length (ps : List (Int × Int)) : (flat2 ps).length = ps.length * 2 := by
  induction ps with
  | nil => rfl
  | cons p ps ih => simp only [flat2, List.flatMap_cons, List.length_append, List.length_cons, List.length_nil] at ih ⊢; omega
theorem flat2_get (ps : List (Int × Int)) (i : Nat) (hi : i < ps.length) : (flat2 ps)[i * 2]? = some (.int .i64 (ps[i]?.getD (0, 0)).1) ∧ (flat2 ps)[i * 2 + 1]? = some (.int .i64 (ps[i]?.getD (0, 0)).2) := by
  induction ps generalizing i with
  | nil => simp at hi
  | cons p ps ih =>
    have e : flat2 (p :: ps) = .int .i64 p.1 :: .int .i64 p.2 :: flat2 ps := rfl
    cases i with
    | zero => rw [e]; exact ⟨rfl, rfl⟩
    | succ i =>
      have := ih i (by simpa using hi)
      rw [e, show (i + 1) * 2 = i * 2 + 1 + 1 by omega]
      simpa using this
theorem ownsRow_base {w : World} {base base' : Nat} {e : TypeId} {size : Nat} {v : Value} {n : Nat} {xs : List Value} (h : w.ownsRow base e size v n xs) (hb : base' ≤ base) : w.ownsRow base' e size v n xs := by
  refine ⟨h.1, ?_⟩
  rcases h.2 with h2 | ⟨g, cap, cur, hv, hg, r⟩
  · exact Or.inl h2
  · exact Or.inr ⟨g, cap, cur, hv, by omega, r⟩
theorem ownsRow_below {w w' : World} {base n0 : Nat} {e : TypeId} {size : Nat} {v : Value} {n : Nat} {xs : List Value} (h : w.ownsRow base e size v n xs) (hb : Below n0 w w') (hn : w.heap.size ≤ n0) : w'.ownsRow base e size v n xs := by
  refine ⟨h.1, ?_⟩
  rcases h.2 with h2 | ⟨g, cap, cur, hv, hg, hh, r⟩
  · exact Or.inl h2
  · exact Or.inr ⟨g, cap, cur, hv, hg, (hb.block g (by have := (Array.getElem?_eq_some_iff.1 hh).1; omega)).trans hh, r⟩
theorem ownsRow_only {w w' : World} {base b : Nat} {e : TypeId} {size : Nat} {v : Value} {n : Nat} {xs : List Value} (h : w.ownsRow base e size v n xs) (hg : w.grownBy w' (some b)) (hne : v.ownBlock ≠ some b) : w'.ownsRow base e size v n xs :=
  h.kept hg (Or.inr hne)
end Go.MyOwn
