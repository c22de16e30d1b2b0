/-
  Altitude in seat 36: of Step's plain part (printed by genBand.py)
-/
import Derived.Test.YthaokofhepngbaaBdE
namespace Go.Proofs.Ythaokofhepngbaa.Alt
open Go.RowKit AltMath MyHeap MyCopy MyOwn

theorem stE_ch {lo hi : List Int} {p : Int} (h : chB lo hi ≠ 0) : stE lo hi p = chB lo hi := if_pos h
theorem stE_no {lo hi : List Int} {p : Int} (h : chB lo hi = 0) (hp : p < 0 ∨ 32 < p) : stE lo hi p = 1 := by unfold stE; rw [if_neg (fun e => e h), if_pos hp]
theorem stE_ok {lo hi : List Int} {p : Int} (h : chB lo hi = 0) (hp : ¬ (p < 0 ∨ 32 < p)) : stE lo hi p = 0 := by unfold stE; rw [if_neg (fun e => e h), if_neg hp]
/-- The reference's bounds so far. -/
def rA (a : Option (Int × Int)) : Int × Int := a.getD (1073741824, -1073741824)
theorem rA_add {a : Option (Int × Int)} {p : Int × Int} (h1 : p.1 ≤ 1073741824) (h2 : -1073741824 ≤ p.2) : rA (addO a p) = (min (rA a).1 p.1, max (rA a).2 p.2) := by
  cases a with
  | none => simp only [addO, rA, Option.getD_some, Option.getD_none]; ext <;> omega
  | some q => rfl
theorem nm_clip (a : Option (Int × Int)) : nm (max (rA a).1 (-1000), min (rA a).2 50000) = nm (clip a) := by
  cases a with
  | none => rfl
  | some q => rfl
theorem stA_le (P k : Nat) (hk : k < 201) : stA P k + stN P k = min 200 (k + P) + 1 ∧ stA P k ≤ min 200 (k + P) := by unfold stN stA; omega
theorem shG_bd {lo hi : List Int} (h : ∀ i, i < 201 → ¬ badAt lo hi i) {i : Nat} (hi' : i < 201) : -1100 ≤ (shG lo hi i).1 ∧ (shG lo hi i).1 ≤ 50100 ∧ -1100 ≤ (shG lo hi i).2 ∧ (shG lo hi i).2 ≤ 50100 := by
  obtain ⟨b1, b2, b3, b4⟩ := ok_bd h hi'
  unfold shG
  simp only
  omega
theorem stA'_yes {lo hi : List Int} {P k j : Nat} (h : hasB lo hi (stA P k + j)) : stA' lo hi P k (j + 1) = addO (stA' lo hi P k j) (shG lo hi (stA P k + j)) := if_pos h
theorem stA'_no {lo hi : List Int} {P k j : Nat} (h : ¬ hasB lo hi (stA P k + j)) : stA' lo hi P k (j + 1) = stA' lo hi P k j := if_neg h
theorem rA_bd {lo hi : List Int} (h : ∀ i, i < 201 → ¬ badAt lo hi i) {P k j : Nat} (hj : stA P k + j ≤ 201) : -1100 ≤ (rA (stA' lo hi P k j)).1 ∧ (rA (stA' lo hi P k j)).1 ≤ 1073741824 ∧ -1073741824 ≤ (rA (stA' lo hi P k j)).2 ∧ (rA (stA' lo hi P k j)).2 ≤ 50100 := by
  induction j with
  | zero => show -1100 ≤ (1073741824 : Int) ∧ (1073741824 : Int) ≤ 1073741824 ∧ (-1073741824 : Int) ≤ -1073741824 ∧ (-1073741824 : Int) ≤ 50100; decide
  | succ j ih =>
    have ih := ih (by omega)
    by_cases hh : hasB lo hi (stA P k + j)
    · obtain ⟨b1, b2, b3, b4⟩ := shG_bd h (i := stA P k + j) (by omega)
      rw [stA'_yes hh, rA_add (by omega) (by omega)]
      simp only
      omega
    · rw [stA'_no hh]; exact ih
theorem RmK.keep {w0 W W' : World} {O : Nat} {aL aH : Option Addr} {cL cH : Nat} {f : Nat → Int × Int} {k : Nat} (h : RmK w0 O aL cL aH cH f k W) (hb : Below W.heap.size W W') : RmK w0 O aL cL aH cH f k W' := by
  obtain ⟨⟨a, n, c, a', n', c', h1, h2, h3, h4, h5, h6⟩, h7⟩ := h
  exact ⟨⟨a, n, c, a', n', c', keepO hb h1, keepO hb h2, h3.below hb, h4.trans (hb.mono h4.size), h5, h6⟩, keepO hb h7⟩
theorem RmK.bel {w0 W : World} {O : Nat} {aL aH : Option Addr} {cL cH : Nat} {f : Nat → Int × Int} {k : Nat} (h : RmK w0 O aL cL aH cH f k W) : Below w0.heap.size w0 W := by
  obtain ⟨⟨_, _, _, _, _, _, _, _, _, h4, _, _⟩, _⟩ := h
  exact h4
end Go.Proofs.Ythaokofhepngbaa.Alt
