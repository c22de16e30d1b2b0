/-
  Plain laws of layer 38 (rules): the state one cycle later. No program in sight.
-/
import Derived.Test.YtfgalaalopkclaaRulesMath
namespace RulesMath
open PlaneMath PilotMath

/-- The advisory in force, for how long, and whether the sense was changed. -/
structure NSt where
  a : Adv
  age : Int
  rv : Bool
def nst0 : NSt := ⟨adv0, 0, false⟩
section
variable (s : Set) (z v z' v' t fl k : Int) (st : NSt)
def nxE : Int := if whlE s z v z' v' t k ≠ 0 then whlE s z v z' v' t k else if bndE st.a ≠ 0 then bndE st.a else if st.age < 0 ∨ 1000 < st.age then 1 else chE s z v z' v' t fl k
/-- Is the other sense to be taken? -/
def turnB (g : Int) : Bool := !st.rv && alwB z fl k (3 - g) && decide (bestV s z v z' v' g t < s.alim) && decide (bestV s z v z' v' g t + s.alim ≤ bestV s z v z' v' (3 - g) t)
/-- Is the advisory in force kept, not the new one of the same sense taken? -/
def holdB (x : Adv) : Bool := (x.r == st.a.r) || (decide (x.r < st.a.r) && decide (st.age + 1 < 5))
def nxA : NSt :=
  if st.a.s = 0 then ⟨chR s z v z' v' t fl k, 0, false⟩
  else if alwB z fl k st.a.s = false ∨ turnB s z v z' v' t fl k st st.a.s = true then ⟨enA s z v z' v' (3 - st.a.s) t, 0, true⟩
  else if holdB st (enA s z v z' v' st.a.s t) then ⟨st.a, min (st.age + 1) 1000, st.rv⟩ else ⟨enA s z v z' v' st.a.s t, 0, st.rv⟩
def nxR : NSt := if nxE s z v z' v' t fl k st = 0 then nxA s z v z' v' t fl k st else nst0
end
section
variable {s : Set} {z v z' v' t fl k : Int} {st : NSt}
theorem nx_whl (h : whlE s z v z' v' t k ≠ 0) : nxE s z v z' v' t fl k st = whlE s z v z' v' t k ∧ nxR s z v z' v' t fl k st = nst0 := by
  have e : nxE s z v z' v' t fl k st = whlE s z v z' v' t k := if_pos h
  exact ⟨e, if_neg (by rw [e]; exact h)⟩
theorem nx_bnd (h : whlE s z v z' v' t k = 0) (h2 : bndE st.a ≠ 0) : nxE s z v z' v' t fl k st = bndE st.a ∧ nxR s z v z' v' t fl k st = nst0 := by
  have e : nxE s z v z' v' t fl k st = bndE st.a := by unfold nxE; rw [if_neg (by rw [h]; decide), if_pos h2]
  exact ⟨e, if_neg (by rw [e]; exact h2)⟩
theorem nx_age (h : whlE s z v z' v' t k = 0) (h2 : bndE st.a = 0) (h3 : st.age < 0 ∨ 1000 < st.age) : nxE s z v z' v' t fl k st = 1 ∧ nxR s z v z' v' t fl k st = nst0 := by
  have e : nxE s z v z' v' t fl k st = 1 := by unfold nxE; rw [if_neg (by rw [h]; decide), if_neg (by rw [h2]; decide), if_pos h3]
  exact ⟨e, if_neg (by rw [e]; decide)⟩
theorem nx_ch (h : whlE s z v z' v' t k = 0) (h2 : bndE st.a = 0) (h3 : ¬ (st.age < 0 ∨ 1000 < st.age)) (h4 : chE s z v z' v' t fl k ≠ 0) : nxE s z v z' v' t fl k st = chE s z v z' v' t fl k ∧ nxR s z v z' v' t fl k st = nst0 := by
  have e : nxE s z v z' v' t fl k st = chE s z v z' v' t fl k := by unfold nxE; rw [if_neg (by rw [h]; decide), if_neg (by rw [h2]; decide), if_neg h3]
  exact ⟨e, if_neg (by rw [e]; exact h4)⟩
theorem nx_ok (h : whlE s z v z' v' t k = 0) (h2 : bndE st.a = 0) (h3 : ¬ (st.age < 0 ∨ 1000 < st.age)) (h4 : chE s z v z' v' t fl k = 0) : nxE s z v z' v' t fl k st = 0 ∧ nxR s z v z' v' t fl k st = nxA s z v z' v' t fl k st := by
  have e : nxE s z v z' v' t fl k st = 0 := by unfold nxE; rw [if_neg (by rw [h]; decide), if_neg (by rw [h2]; decide), if_neg h3]; exact h4
  exact ⟨e, if_pos e⟩
theorem nxA_new (h : st.a.s = 0) : nxA s z v z' v' t fl k st = ⟨chR s z v z' v' t fl k, 0, false⟩ := if_pos h
theorem nxA_bar (h : st.a.s ≠ 0) (h2 : alwB z fl k st.a.s = false) : nxA s z v z' v' t fl k st = ⟨enA s z v z' v' (3 - st.a.s) t, 0, true⟩ := by
  unfold nxA; rw [if_neg h, if_pos (Or.inl h2)]
theorem nxA_turn (h : st.a.s ≠ 0) (h2 : turnB s z v z' v' t fl k st st.a.s = true) : nxA s z v z' v' t fl k st = ⟨enA s z v z' v' (3 - st.a.s) t, 0, true⟩ := by
  unfold nxA; rw [if_neg h, if_pos (Or.inr h2)]
theorem nxA_hold (h : st.a.s ≠ 0) (h2 : alwB z fl k st.a.s = true) (h3 : turnB s z v z' v' t fl k st st.a.s = false) (h4 : holdB st (enA s z v z' v' st.a.s t) = true) : nxA s z v z' v' t fl k st = ⟨st.a, min (st.age + 1) 1000, st.rv⟩ := by
  unfold nxA; rw [if_neg h, if_neg (by rw [h2, h3]; simp), if_pos h4]
theorem nxA_same (h : st.a.s ≠ 0) (h2 : alwB z fl k st.a.s = true) (h3 : turnB s z v z' v' t fl k st st.a.s = false) (h4 : holdB st (enA s z v z' v' st.a.s t) = false) : nxA s z v z' v' t fl k st = ⟨enA s z v z' v' st.a.s t, 0, st.rv⟩ := by
  unfold nxA; rw [if_neg h, if_neg (by rw [h2, h3]; simp), if_neg (by rw [h4]; simp)]
theorem bnd_s (h : bndE st.a = 0) : st.a.s ≤ 2 := by
  unfold bndE at h
  split at h
  · cases h
  · omega
/-- The four tests of the other sense, in the order in which they are asked. -/
theorem turn_cases (g : Int) : (turnB s z v z' v' t fl k st g = true ∧ st.rv = false ∧ alwB z fl k (3 - g) = true ∧ decide (bestV s z v z' v' g t < s.alim) = true ∧ decide (bestV s z v z' v' g t + s.alim ≤ bestV s z v z' v' (3 - g) t) = true) ∨
    (turnB s z v z' v' t fl k st g = false ∧ (st.rv = true ∨ (st.rv = false ∧ (alwB z fl k (3 - g) = false ∨ (alwB z fl k (3 - g) = true ∧ (decide (bestV s z v z' v' g t < s.alim) = false ∨ (decide (bestV s z v z' v' g t < s.alim) = true ∧ decide (bestV s z v z' v' g t + s.alim ≤ bestV s z v z' v' (3 - g) t) = false))))))) := by
  unfold turnB
  cases st.rv <;> cases alwB z fl k (3 - g) <;> cases decide (bestV s z v z' v' g t < s.alim) <;> cases decide (bestV s z v z' v' g t + s.alim ≤ bestV s z v z' v' (3 - g) t) <;> simp
theorem hold_cases (x : Adv) : (holdB st x = true ∧ ((x.r == st.a.r) = true ∨ ((x.r == st.a.r) = false ∧ decide (x.r < st.a.r) = true ∧ decide (st.age + 1 < 5) = true))) ∨
    (holdB st x = false ∧ (x.r == st.a.r) = false ∧ (decide (x.r < st.a.r) = false ∨ (decide (x.r < st.a.r) = true ∧ decide (st.age + 1 < 5) = false))) := by
  unfold holdB
  cases (x.r == st.a.r) <;> cases decide (x.r < st.a.r) <;> cases decide (st.age + 1 < 5) <;> simp
end
end RulesMath
