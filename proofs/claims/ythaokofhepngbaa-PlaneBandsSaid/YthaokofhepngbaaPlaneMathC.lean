/-
  Plain laws of layer 36 (plane): Meet. No program in sight.
-/
import Derived.Test.YthaokofhepngbaaPlaneMathB
namespace PlaneMath

def gp (ps : List (Int × Int)) (k : Nat) : Int × Int := ps[k]?.getD (0, 0)
def dst (p q : Int × Int) : Int := max (p.1 - q.1) (q.1 - p.1)
def dk (ps qs : List (Int × Int)) (k : Nat) : Int := dst (gp ps k) (gp qs k)
/-- Where the least separation of the first k stands. -/
def mtA (ps qs : List (Int × Int)) : Nat → Nat
  | 0 => 0
  | k + 1 => if dk ps qs k < dk ps qs (mtA ps qs k) then k else mtA ps qs k
theorem mtA_yes {ps qs : List (Int × Int)} {k : Nat} (h : dk ps qs k < dk ps qs (mtA ps qs k)) : mtA ps qs (k + 1) = k := if_pos h
theorem mtA_no {ps qs : List (Int × Int)} {k : Nat} (h : ¬ dk ps qs k < dk ps qs (mtA ps qs k)) : mtA ps qs (k + 1) = mtA ps qs k := if_neg h
theorem mtA_one (ps qs : List (Int × Int)) : mtA ps qs 1 = 0 := mtA_no (by show ¬ dk ps qs 0 < dk ps qs 0; omega)
theorem mtA_le (ps qs : List (Int × Int)) (k : Nat) : mtA ps qs k ≤ k := by
  induction k with
  | zero => exact Nat.le_refl _
  | succ k ih => unfold mtA; split <;> omega
theorem mtA_lt (ps qs : List (Int × Int)) (k : Nat) (h : 0 < k) : mtA ps qs k < k := by
  induction k with
  | zero => omega
  | succ k ih =>
    unfold mtA
    split
    · omega
    · rcases Nat.eq_zero_or_pos k with rfl | hk
      · exact Nat.zero_lt_one
      · have := ih hk; omega
theorem dst_symm (p q : Int × Int) : dst p q = dst q p := by unfold dst; omega
theorem dk_symm (ps qs : List (Int × Int)) (k : Nat) : dk ps qs k = dk qs ps k := dst_symm _ _
theorem mtA_symm (ps qs : List (Int × Int)) (k : Nat) : mtA ps qs k = mtA qs ps k := by
  induction k with
  | zero => rfl
  | succ k ih => unfold mtA; rw [← ih, dk_symm ps qs k, dk_symm ps qs (mtA ps qs k)]

def StTo (ps : List (Int × Int)) (k : Nat) : Prop := ∀ i, i < k → stB (gp ps i).1 (gp ps i).2 = true
theorem stTo_succ {ps : List (Int × Int)} {k : Nat} (h : StTo ps k) (hk : stB (gp ps k).1 (gp ps k).2 = true) : StTo ps (k + 1) := fun i hi => by
  by_cases e : i = k
  · subst e; exact hk
  · exact h i (by omega)
def allSt (ps : List (Int × Int)) : Bool := ps.all fun p => stB p.1 p.2
theorem allSt_iff {ps : List (Int × Int)} : allSt ps = true ↔ StTo ps ps.length := by
  unfold allSt StTo gp
  rw [List.all_eq_true]
  constructor
  · intro h i hi
    rw [List.getElem?_eq_getElem hi]
    exact h _ (List.getElem_mem hi)
  · intro h p hp
    obtain ⟨i, hi, rfl⟩ := List.getElem_of_mem hp
    have := h i hi
    rwa [List.getElem?_eq_getElem hi] at this
def mtE (ps qs : List (Int × Int)) : Int := if ps.length = 0 then 3 else if ps.length ≠ qs.length then 16 else if allSt ps && allSt qs then 0 else 1
def mtS (ps qs : List (Int × Int)) : Int := if mtE ps qs = 0 then dk ps qs (mtA ps qs ps.length) else 0
def mtT (ps qs : List (Int × Int)) : Int := if mtE ps qs = 0 then (mtA ps qs ps.length : Nat) else 0
theorem mtE_zero {ps qs : List (Int × Int)} (h : ps.length = 0) : mtE ps qs = 3 := by unfold mtE; rw [if_pos h]
theorem mtE_clash {ps qs : List (Int × Int)} (h : ps.length ≠ 0) (h2 : ps.length ≠ qs.length) : mtE ps qs = 16 := by unfold mtE; rw [if_neg h, if_pos h2]
theorem mtE_bad {ps qs : List (Int × Int)} (h : ps.length ≠ 0) (h2 : ps.length = qs.length) {k : Nat} (hk : k < ps.length) (hb : stB (gp ps k).1 (gp ps k).2 = false ∨ stB (gp qs k).1 (gp qs k).2 = false) : mtE ps qs = 1 := by
  unfold mtE
  rw [if_neg h, if_neg (by simpa using h2)]
  have : (allSt ps && allSt qs) = false := by
    cases hp : allSt ps with
    | false => rfl
    | true =>
      cases hq : allSt qs with
      | false => rfl
      | true =>
        rcases hb with hb | hb
        · rw [allSt_iff.1 hp k hk] at hb; cases hb
        · rw [allSt_iff.1 hq k (h2 ▸ hk)] at hb; cases hb
  rw [this]; rfl
theorem mtE_ok {ps qs : List (Int × Int)} (h : ps.length ≠ 0) (h2 : ps.length = qs.length) (hp : StTo ps ps.length) (hq : StTo qs ps.length) : mtE ps qs = 0 := by
  unfold mtE
  rw [if_neg h, if_neg (by simpa using h2), allSt_iff.2 hp, allSt_iff.2 (h2 ▸ hq)]
  rfl
theorem mt_err {ps qs : List (Int × Int)} {E : Int} (h : mtE ps qs = E) (hE : E ≠ 0) : mtS ps qs = 0 ∧ mtT ps qs = 0 ∧ mtE ps qs = E := by
  refine ⟨?_, ?_, h⟩
  · unfold mtS; rw [if_neg (by rw [h]; exact hE)]
  · unfold mtT; rw [if_neg (by rw [h]; exact hE)]
theorem mt_ok {ps qs : List (Int × Int)} (h : mtE ps qs = 0) : mtS ps qs = dk ps qs (mtA ps qs ps.length) ∧ mtT ps qs = (mtA ps qs ps.length : Nat) ∧ mtE ps qs = 0 := by
  refine ⟨?_, ?_, h⟩
  · unfold mtS; rw [if_pos h]
  · unfold mtT; rw [if_pos h]
/-- The separation that the program holds behind k rounds. -/
def sepK (ps qs : List (Int × Int)) (k : Nat) : Int := if k = 0 then 0 else dk ps qs (mtA ps qs k)
theorem sepK_new {ps qs : List (Int × Int)} {k : Nat} (h : k = 0 ∨ dk ps qs k < sepK ps qs k) : sepK ps qs (k + 1) = dk ps qs k ∧ mtA ps qs (k + 1) = k := by
  have e : mtA ps qs (k + 1) = k := by
    rcases Nat.eq_zero_or_pos k with rfl | hk
    · exact mtA_one ps qs
    · rcases h with h | h
      · omega
      · unfold sepK at h; rw [if_neg (by omega)] at h; exact mtA_yes h
  refine ⟨?_, e⟩
  unfold sepK
  rw [if_neg (by omega), e]
theorem sepK_old {ps qs : List (Int × Int)} {k : Nat} (h0 : k ≠ 0) (h : ¬ dk ps qs k < sepK ps qs k) : sepK ps qs (k + 1) = sepK ps qs k ∧ mtA ps qs (k + 1) = mtA ps qs k := by
  unfold sepK at *
  rw [if_neg h0] at *
  rw [if_neg (by omega), mtA_no h]
  exact ⟨rfl, rfl⟩
theorem dk_bd {ps qs : List (Int × Int)} {n : Nat} (hp : StTo ps n) (hq : StTo qs n) {k : Nat} (hk : k < n) : 0 ≤ dk ps qs k ∧ dk ps qs k ≤ 51000 := by
  have a := stB_iff.1 (hp k hk)
  have b := stB_iff.1 (hq k hk)
  unfold dk dst
  omega
end PlaneMath
