/-
  Layer 18 (altitude): bands, as plain lists. No program in sight.
-/
import Derived.WalkKit
namespace AltMath

def gi (l : List Int) (i : Nat) : Int := l[i]?.getD 0
def nonAt (lo hi : List Int) (i : Nat) : Prop := gi lo i = 1 ∧ gi hi i = 0
instance (lo hi : List Int) (i : Nat) : Decidable (nonAt lo hi i) := by unfold nonAt; infer_instance
/-- The same as a truth value. -/
def nonB (lo hi : List Int) (i : Nat) : Bool := gi lo i == 1 && gi hi i == 0
theorem nonB_iff {lo hi : List Int} {i : Nat} : nonB lo hi i = true ↔ nonAt lo hi i := by unfold nonB nonAt; simp
theorem nonB_t {lo hi : List Int} {i : Nat} (h : nonAt lo hi i) : nonB lo hi i = true := nonB_iff.2 h
theorem nonB_f {lo hi : List Int} {i : Nat} (h : ¬ nonAt lo hi i) : nonB lo hi i = false := by
  cases hb : nonB lo hi i with
  | false => rfl
  | true => exact absurd (nonB_iff.1 hb) h
def badAt (lo hi : List Int) (i : Nat) : Prop := ¬ nonAt lo hi i ∧ (gi lo i < -1000 ∨ gi hi i < gi lo i ∨ 50000 < gi hi i)
instance (lo hi : List Int) (i : Nat) : Decidable (badAt lo hi i) := by unfold badAt; infer_instance
/-- The error of a band. -/
def chB (lo hi : List Int) : Int := if lo.length = 201 ∧ hi.length = 201 then (if ∀ i ∈ List.range 201, ¬ badAt lo hi i then 0 else 1) else 2
theorem chB_form {lo hi : List Int} (h : ¬ (lo.length = 201 ∧ hi.length = 201)) : chB lo hi = 2 := if_neg h
theorem chB_bad {lo hi : List Int} (h1 : lo.length = 201) (h2 : hi.length = 201) {i : Nat} (hi' : i < 201) (h : badAt lo hi i) : chB lo hi = 1 := by
  unfold chB
  rw [if_pos ⟨h1, h2⟩, if_neg (fun hh => hh i (List.mem_range.2 hi') h)]
theorem chB_zero {lo hi : List Int} (h1 : lo.length = 201) (h2 : hi.length = 201) (h : ∀ i, i < 201 → ¬ badAt lo hi i) : chB lo hi = 0 := by
  unfold chB
  rw [if_pos ⟨h1, h2⟩, if_pos (fun i hi => h i (List.mem_range.1 hi))]
theorem chB_ok {lo hi : List Int} (h : chB lo hi = 0) : lo.length = 201 ∧ hi.length = 201 ∧ ∀ i, i < 201 → ¬ badAt lo hi i := by
  unfold chB at h
  by_cases h1 : lo.length = 201 ∧ hi.length = 201
  · rw [if_pos h1] at h
    by_cases h2 : ∀ i ∈ List.range 201, ¬ badAt lo hi i
    · exact ⟨h1.1, h1.2, fun i hi => h2 i (List.mem_range.2 hi)⟩
    · rw [if_neg h2] at h; cases h
  · rw [if_neg h1] at h; cases h
/-- A rate of a valid band has no altitudes, or proper ones. -/
theorem ok_at {lo hi : List Int} (h : ∀ i, i < 201 → ¬ badAt lo hi i) {i : Nat} (hi' : i < 201) : nonAt lo hi i ∨ (¬ nonAt lo hi i ∧ -1000 ≤ gi lo i ∧ gi lo i ≤ gi hi i ∧ gi hi i ≤ 50000) := by
  by_cases hn : nonAt lo hi i
  · exact Or.inl hn
  · have := h i hi'
    unfold badAt at this
    right
    refine ⟨hn, ?_, ?_, ?_⟩ <;> (apply Decidable.byContradiction; intro hh; exact this ⟨hn, by omega⟩)
theorem has_iff {lo hi : List Int} (h : ∀ i, i < 201 → ¬ badAt lo hi i) {i : Nat} (hi' : i < 201) : (gi lo i ≤ gi hi i) ↔ ¬ nonAt lo hi i := by
  rcases ok_at h hi' with hn | ⟨hn, h1, h2, h3⟩
  · exact ⟨fun e => by unfold nonAt at hn; omega, fun e => absurd hn e⟩
  · exact ⟨fun _ => hn, fun _ => h2⟩
theorem ok_bd {lo hi : List Int} (h : ∀ i, i < 201 → ¬ badAt lo hi i) {i : Nat} (hi' : i < 201) : -1000 ≤ gi lo i ∧ gi lo i ≤ 50000 ∧ -1000 ≤ gi hi i ∧ gi hi i ≤ 50000 := by
  rcases ok_at h hi' with hn | ⟨hn, h1, h2, h3⟩
  · unfold nonAt at hn; omega
  · omega

/-- The error of a measurement. -/
def meE (alt size : Int) : Int := if alt < -1000 ∨ 50000 < alt ∨ (size ≠ 25 ∧ size ≠ 100) then 1 else 0

/-- Altitudes, or none. -/
def nm (p : Int × Int) : Int × Int := if p.2 < p.1 then (1, 0) else p
theorem nm_no {p : Int × Int} (h : p.2 < p.1) : nm p = (1, 0) := if_pos h
theorem nm_yes {p : Int × Int} (h : p.1 ≤ p.2) : nm p = p := if_neg (by omega)
def loK (f : Nat → Int × Int) (k : Nat) : List Int := (List.range k).map fun i => (nm (f i)).1
def hiK (f : Nat → Int × Int) (k : Nat) : List Int := (List.range k).map fun i => (nm (f i)).2
theorem loK_len (f : Nat → Int × Int) (k : Nat) : (loK f k).length = k := by simp [loK]
theorem hiK_len (f : Nat → Int × Int) (k : Nat) : (hiK f k).length = k := by simp [hiK]
theorem loK_succ (f : Nat → Int × Int) (k : Nat) : loK f (k + 1) = loK f k ++ [(nm (f k)).1] := by simp [loK, List.range_succ]
theorem hiK_succ (f : Nat → Int × Int) (k : Nat) : hiK f (k + 1) = hiK f k ++ [(nm (f k)).2] := by simp [hiK, List.range_succ]
theorem loK_get (f : Nat → Int × Int) {k i : Nat} (h : i < k) : gi (loK f k) i = (nm (f i)).1 := by unfold gi loK; rw [List.getElem?_map, List.getElem?_range h]; rfl
theorem hiK_get (f : Nat → Int × Int) {k i : Nat} (h : i < k) : gi (hiK f k) i = (nm (f i)).2 := by unfold gi hiK; rw [List.getElem?_map, List.getElem?_range h]; rfl
theorem loK_congr {f g : Nat → Int × Int} {k : Nat} (h : ∀ i, i < k → nm (f i) = nm (g i)) : loK f k = loK g k := by
  unfold loK
  apply List.map_congr_left
  intro i hi
  rw [h i (List.mem_range.1 hi)]
theorem hiK_congr {f g : Nat → Int × Int} {k : Nat} (h : ∀ i, i < k → nm (f i) = nm (g i)) : hiK f k = hiK g k := by
  unfold hiK
  apply List.map_congr_left
  intro i hi
  rw [h i (List.mem_range.1 hi)]

/-- One more pair of bounds. -/
def addO (a : Option (Int × Int)) (p : Int × Int) : Option (Int × Int) := some (match a with | none => p | some q => (min q.1 p.1, max q.2 p.2))
/-- The least and the greatest over k places from a on, of those that count. -/
def acc (on : Nat → Prop) [DecidablePred on] (g : Nat → Int × Int) (a : Nat) : Nat → Option (Int × Int)
  | 0 => none
  | k + 1 => if on (a + k) then addO (acc on g a k) (g (a + k)) else acc on g a k
def hasB (lo hi : List Int) (i : Nat) : Prop := ¬ nonAt lo hi i
instance (lo hi : List Int) : DecidablePred (hasB lo hi) := fun i => by unfold hasB; infer_instance
/-- The first of the rates from which a rate may come, and how many there are. -/
def stA (pull w : Nat) : Nat := w - pull
def stN (pull w : Nat) : Nat := min 200 (w + pull) + 1 - stA pull w
def shG (lo hi : List Int) (i : Nat) : Int × Int := (gi lo i + ((i : Int) - 100), gi hi i + ((i : Int) - 100))
def stA' (lo hi : List Int) (pull w k : Nat) : Option (Int × Int) := acc (hasB lo hi) (shG lo hi) (stA pull w) k
def clip (a : Option (Int × Int)) : Int × Int := match a with | none => (1, 0) | some q => (max q.1 (-1000), min q.2 50000)
def stF (lo hi : List Int) (pull w : Nat) : Int × Int := clip (stA' lo hi pull w (stN pull w))
/-- A band one cycle later. -/
def stE (lo hi : List Int) (pull : Int) : Int := if chB lo hi ≠ 0 then chB lo hi else if pull < 0 ∨ 32 < pull then 1 else 0
def neF (alt size : Int) (_i : Nat) : Int × Int := (alt, min (alt + size - 1) 50000)
def maF (lo hi : List Int) (alt size : Int) (i : Nat) : Int × Int := if nonAt lo hi i then (1, 0) else (max (gi lo i) alt, min (gi hi i) (alt + size - 1))
def maE (lo hi : List Int) (alt size : Int) : Int := if chB lo hi ≠ 0 then chB lo hi else meE alt size
/-- Spread. -/
def spZ (lo hi : List Int) (k : Nat) : Option (Int × Int) := acc (hasB lo hi) (fun i => (gi lo i, gi hi i)) 0 k
def spV (lo hi : List Int) (k : Nat) : Option (Int × Int) := acc (hasB lo hi) (fun i => ((i : Int) - 100, (i : Int) - 100)) 0 k
def spE (lo hi : List Int) : Int := if chB lo hi ≠ 0 then chB lo hi else if (spZ lo hi 201).isNone then 9 else 0
def vals (a : Option (Int × Int)) : Int × Int := a.getD (0, 0)
structure Ext where
  low : Int
  high : Int
  slow : Int
  fast : Int
def spX (lo hi : List Int) : Ext := if spE lo hi = 0 then ⟨(vals (spZ lo hi 201)).1, (vals (spZ lo hi 201)).2, (vals (spV lo hi 201)).1, (vals (spV lo hi 201)).2⟩ else ⟨0, 0, 0, 0⟩
/-- How far (twice) a rate is from the middle. -/
def farV (s f v : Int) : Int := max (2 * v - s - f) (s + f - 2 * v)
def beV (lo hi : List Int) (s f : Int) : Nat → Int
  | 0 => s
  | k + 1 => if hasB lo hi k ∧ farV s f ((k : Int) - 100) < farV s f (beV lo hi s f k) then (k : Int) - 100 else beV lo hi s f k
def cnE (lo hi : List Int) : Int := chB lo hi
def cnB (lo hi : List Int) (z v : Int) : Bool := chB lo hi == 0 && (decide (-100 ≤ v) && (decide (v ≤ 100) && (decide (gi lo (v + 100).toNat ≤ z) && decide (z ≤ gi hi (v + 100).toNat))))
theorem acc_isSome {on : Nat → Prop} [DecidablePred on] {g : Nat → Int × Int} {a k : Nat} : (acc on g a k).isSome ↔ ∃ i, i < k ∧ on (a + i) := by
  induction k with
  | zero => constructor
            · intro h; cases h
            · rintro ⟨i, hi, _⟩; omega
  | succ k ih =>
    unfold acc
    by_cases h : on (a + k)
    · rw [if_pos h]
      exact ⟨fun _ => ⟨k, by omega, h⟩, fun _ => rfl⟩
    · rw [if_neg h, ih]
      constructor
      · rintro ⟨i, hi, ho⟩; exact ⟨i, by omega, ho⟩
      · rintro ⟨i, hi, ho⟩
        refine ⟨i, ?_, ho⟩
        rcases Nat.lt_succ_iff_lt_or_eq.1 hi with h1 | rfl
        · exact h1
        · exact absurd ho h
theorem acc_same {on : Nat → Prop} [DecidablePred on] {g g' : Nat → Int × Int} {a k : Nat} : (acc on g a k).isSome = (acc on g' a k).isSome := by
  rw [Bool.eq_iff_iff, acc_isSome, acc_isSome]
end AltMath
