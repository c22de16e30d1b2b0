/-
  Layer 18 (altitude): the rates with altitudes as a list, and what they gather. Plain.
-/
import Derived.Test.YtojjhkahigdkoaaAltR
import Derived.Test.YtojjhkahigdkoaaAltN
import Derived.Test.YtojjhkahigdkoaaAltLaw
namespace Go.Proofs.Ytojjhkahigdkoaa
open Go.RowKit AltMath MyHeap MyCopy MyOwn

theorem mem_ofL {lo hi : List Int} {k i : Nat} : i ∈ ofL lo hi 0 k ↔ i < k ∧ ¬ nonAt lo hi i := by
  induction k with
  | zero => constructor
            · intro h; cases h
            · rintro ⟨h, _⟩; omega
  | succ k ih =>
    by_cases hn : nonAt lo hi k
    · rw [show ofL lo hi 0 (k + 1) = ofL lo hi 0 k from by rw [ofL, Nat.zero_add, if_pos hn], ih]
      constructor
      · rintro ⟨h, h2⟩; exact ⟨by omega, h2⟩
      · rintro ⟨h, h2⟩
        refine ⟨?_, h2⟩
        rcases Nat.lt_succ_iff_lt_or_eq.1 h with h3 | rfl
        · exact h3
        · exact absurd hn h2
    · rw [show ofL lo hi 0 (k + 1) = ofL lo hi 0 k ++ [k] from by rw [ofL, Nat.zero_add, if_neg hn], List.mem_append, List.mem_singleton, ih]
      constructor
      · rintro (⟨h, h2⟩ | rfl)
        · exact ⟨by omega, h2⟩
        · exact ⟨by omega, hn⟩
      · rintro ⟨h, h2⟩
        rcases Nat.lt_succ_iff_lt_or_eq.1 h with h3 | rfl
        · exact Or.inl ⟨h3, h2⟩
        · exact Or.inr rfl
theorem ofL_sorted (lo hi : List Int) (k : Nat) : (ofL lo hi 0 k).Pairwise (· < ·) := by
  induction k with
  | zero => exact List.Pairwise.nil
  | succ k ih =>
    by_cases hn : nonAt lo hi k
    · rw [show ofL lo hi 0 (k + 1) = ofL lo hi 0 k from by rw [ofL, Nat.zero_add, if_pos hn]]; exact ih
    · rw [show ofL lo hi 0 (k + 1) = ofL lo hi 0 k ++ [k] from by rw [ofL, Nat.zero_add, if_neg hn], List.pairwise_append]
      refine ⟨ih, List.pairwise_singleton _ _, fun a ha b hb => ?_⟩
      rw [List.mem_singleton] at hb
      subst hb
      exact (mem_ofL.1 ha).1
/-- The rate at a place. -/
def lg (lo hi : List Int) (k : Nat) : Nat := (ofL lo hi 0 201)[k]?.getD 0
theorem lg_get (lo hi : List Int) (k : Nat) : gi (rL lo hi 201) k = ((lg lo hi k : Nat) : Int) := by
  unfold gi rL lg
  rw [List.getElem?_map]
  cases (ofL lo hi 0 201)[k]? <;> rfl
theorem lg_mem {lo hi : List Int} {k : Nat} (h : k < (rL lo hi 201).length) : lg lo hi k ∈ ofL lo hi 0 201 := by
  rw [rL_len] at h
  unfold lg
  rw [List.getElem?_eq_getElem h]
  exact List.getElem_mem h
theorem lg_on {lo hi : List Int} {k : Nat} (h : k < (rL lo hi 201).length) : lg lo hi k < 201 ∧ ¬ nonAt lo hi (lg lo hi k) := mem_ofL.1 (lg_mem h)
theorem lg_le {lo hi : List Int} {j k : Nat} (h : k < (rL lo hi 201).length) (hj : j ≤ k) : lg lo hi j ≤ lg lo hi k := by
  rw [rL_len] at h
  rcases Nat.lt_or_eq_of_le hj with h1 | rfl
  · have := List.pairwise_iff_getElem.1 (ofL_sorted lo hi 201) j k (by omega) h h1
    unfold lg
    rw [List.getElem?_eq_getElem h, List.getElem?_eq_getElem (by omega)]
    exact Nat.le_of_lt this
  · exact Nat.le_refl _
theorem lg_of {lo hi : List Int} {i : Nat} (h1 : i < 201) (h2 : ¬ nonAt lo hi i) : ∃ k, k < (rL lo hi 201).length ∧ lg lo hi k = i := by
  obtain ⟨k, hk, e⟩ := List.getElem_of_mem (mem_ofL.2 ⟨h1, h2⟩)
  refine ⟨k, by rw [rL_len]; exact hk, ?_⟩
  unfold lg
  rw [List.getElem?_eq_getElem hk]
  exact e
/-- The bounds over the first k of the list, begun with the first. -/
def sR (lo hi : List Int) : Nat → Int × Int
  | 0 => (gi lo (lg lo hi 0), gi hi (lg lo hi 0))
  | k + 1 => (min (sR lo hi k).1 (gi lo (lg lo hi k)), max (sR lo hi k).2 (gi hi (lg lo hi k)))
theorem sR_fold {lo hi : List Int} (k : Nat) (hk : k < (rL lo hi 201).length) : foldG (gZ lo hi) ((ofL lo hi 0 201).take (k + 1)) = some (sR lo hi (k + 1)) := by
  induction k with
  | zero =>
    have h1 : 0 < (ofL lo hi 0 201).length := by rw [rL_len] at hk; exact hk
    have e : (ofL lo hi 0 201).take 1 = [lg lo hi 0] := by
      rw [List.take_one, List.head?_eq_getElem?]
      unfold lg
      rw [List.getElem?_eq_getElem h1]
      rfl
    rw [e]
    show some (gZ lo hi (lg lo hi 0)) = _
    unfold gZ sR sR
    simp
  | succ k ih =>
    have h1 : k + 1 < (ofL lo hi 0 201).length := by rw [rL_len] at hk; exact hk
    rw [List.take_succ_eq_append_getElem h1, foldG_snoc, ih (by omega)]
    have e : (ofL lo hi 0 201)[k + 1] = lg lo hi (k + 1) := by
      unfold lg
      rw [List.getElem?_eq_getElem h1]
      rfl
    rw [e]
    rfl
theorem rL_pos {lo hi : List Int} (h : chB lo hi = 0) : 0 < (rL lo hi 201).length ↔ spE lo hi = 0 := by
  have hs : (spZ lo hi 201).isSome ↔ ∃ i, i < 201 ∧ hasB lo hi (0 + i) := acc_isSome
  constructor
  · intro h0
    obtain ⟨h1, h2⟩ := lg_on h0
    unfold spE
    rw [if_neg (fun e => e h)]
    have : (spZ lo hi 201).isSome := hs.2 ⟨_, h1, by rw [Nat.zero_add]; exact h2⟩
    cases hz : spZ lo hi 201 with
    | none => rw [hz] at this; cases this
    | some q => rfl
  · intro h0
    unfold spE at h0
    rw [if_neg (fun e => e h)] at h0
    cases hz : spZ lo hi 201 with
    | none => rw [hz] at h0; cases h0
    | some q =>
      obtain ⟨i, h1, h2⟩ := hs.1 (by rw [hz]; rfl)
      rw [Nat.zero_add] at h2
      obtain ⟨k, hk, _⟩ := lg_of h1 h2
      omega
/-- What Spread gathers, by the list. -/
theorem spX_list {lo hi : List Int} (h : chB lo hi = 0) {n : Nat} (hn : (rL lo hi 201).length = n + 1) :
    spE lo hi = 0 ∧ (spX lo hi).low = (sR lo hi (n + 1)).1 ∧ (spX lo hi).high = (sR lo hi (n + 1)).2 ∧ (spX lo hi).slow = (lg lo hi 0 : Int) - 100 ∧ (spX lo hi).fast = (lg lo hi n : Int) - 100 := by
  have e0 : spE lo hi = 0 := (rL_pos h).1 (by omega)
  have hz : spZ lo hi 201 = some (sR lo hi (n + 1)) := by
    rw [spZ_fold, ← sR_fold n (by omega), List.take_of_length_le (by rw [rL_len] at hn; omega)]
  have f0 := lg_on (lo := lo) (hi := hi) (k := 0) (by omega)
  have fn := lg_on (lo := lo) (hi := hi) (k := n) (by omega)
  obtain ⟨q, hq, q1, q2⟩ := acc_in (on := hasB lo hi) (g := fun i => ((i : Int) - 100, (i : Int) - 100)) (a := 0) (k := 201) (i := lg lo hi 0) f0.1 (by rw [Nat.zero_add]; exact f0.2)
  obtain ⟨q', hq', q1', q2'⟩ := acc_in (on := hasB lo hi) (g := fun i => ((i : Int) - 100, (i : Int) - 100)) (a := 0) (k := 201) (i := lg lo hi n) fn.1 (by rw [Nat.zero_add]; exact fn.2)
  rw [hq] at hq'
  cases hq'
  obtain ⟨⟨i, i1, i2, i3⟩, ⟨j, j1, j2, j3⟩⟩ := acc_some hq
  rw [Nat.zero_add] at q1 q2 q1' q2' i2 i3 j2 j3
  obtain ⟨ki, hki, rfl⟩ := lg_of i1 i2
  obtain ⟨kj, hkj, rfl⟩ := lg_of j1 j2
  have a1 := lg_le (lo := lo) (hi := hi) hki (Nat.zero_le _)
  have a2 := lg_le (lo := lo) (hi := hi) (j := kj) (k := n) (by omega) (by omega)
  have hv : spV lo hi 201 = some q := hq
  refine ⟨e0, ?_⟩
  unfold spX
  rw [if_pos e0, hz, hv]
  unfold vals
  simp only [Option.getD_some] at *
  refine ⟨trivial, trivial, ?_, ?_⟩ <;> omega
theorem sR_bd {lo hi : List Int} (h : chB lo hi = 0) (k : Nat) (hk : k ≤ (rL lo hi 201).length) (h0 : 0 < (rL lo hi 201).length) : -1000 ≤ (sR lo hi k).1 ∧ (sR lo hi k).1 ≤ 50000 ∧ -1000 ≤ (sR lo hi k).2 ∧ (sR lo hi k).2 ≤ 50000 := by
  induction k with
  | zero => exact ok_bd (chB_ok h).2.2 (lg_on h0).1
  | succ k ih =>
    have := ih (by omega)
    have := ok_bd (chB_ok h).2.2 (lg_on (lo := lo) (hi := hi) (k := k) (by omega)).1
    unfold sR
    simp only []
    omega
/-- The best of the first k of the list, begun with the first. -/
def bR (lo hi : List Int) (s f : Int) : Nat → Nat
  | 0 => lg lo hi 0
  | k + 1 => if farV s f ((lg lo hi k : Int) - 100) < farV s f ((bR lo hi s f k : Int) - 100) then lg lo hi k else bR lo hi s f k
theorem bR_lt {lo hi : List Int} {s f : Int} (k : Nat) (hk : k ≤ (rL lo hi 201).length) (h0 : 0 < (rL lo hi 201).length) : bR lo hi s f k < 201 := by
  induction k with
  | zero => exact (lg_on h0).1
  | succ k ih =>
    unfold bR
    split
    · exact (lg_on (by omega)).1
    · exact ih (by omega)
theorem bR_fold {lo hi : List Int} {s f : Int} (hs : s = (lg lo hi 0 : Int) - 100) (k : Nat) (hk : k ≤ (rL lo hi 201).length) : foldB s f ((ofL lo hi 0 201).take k) = (bR lo hi s f k : Int) - 100 := by
  induction k with
  | zero => exact hs
  | succ k ih =>
    have h1 : k < (ofL lo hi 0 201).length := by rw [rL_len] at hk; exact hk
    have e : (ofL lo hi 0 201)[k] = lg lo hi k := by
      unfold lg
      rw [List.getElem?_eq_getElem h1]
      rfl
    have ih' := ih (by omega)
    rw [List.take_succ_eq_append_getElem h1, e]
    unfold bR
    by_cases hc : farV s f ((lg lo hi k : Int) - 100) < farV s f ((bR lo hi s f k : Int) - 100)
    · rw [if_pos hc, foldB_yes (by rw [ih']; exact hc)]
    · rw [if_neg hc, foldB_no (by rw [ih']; exact hc), ih']
theorem beR_list {lo hi : List Int} (h : chB lo hi = 0) {n : Nat} (hn : (rL lo hi 201).length = n + 1) : beR lo hi = (bR lo hi (spX lo hi).slow (spX lo hi).fast (n + 1) : Int) - 100 := by
  unfold beR
  rw [beV_fold, ← bR_fold (spX_list h hn).2.2.2.1 (n + 1) (by omega), List.take_of_length_le (by rw [rL_len] at hn; omega)]
end Go.Proofs.Ytojjhkahigdkoaa
