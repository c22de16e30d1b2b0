/-
  Plain laws of layer 38 (rules): what the law Runs says of a state and the next one. No program in sight.
-/
import Derived.Test.YtfgalaalopkclaaRulesNx
import Derived.Test.YtfgalaalopkclaaRulesLaw
namespace RulesMath
open PlaneMath PilotMath

/-- How a state and the next one of the same answer hang together. -/
inductive Kind (st N : NSt) (alw : Bool) : Prop where
  | first (h : st.a.s = 0) (h1 : N.age = 0)
  | turned (h : st.a.s ≠ 0) (h1 : N.a.s ≠ st.a.s) (h2 : N.rv = true) (h3 : st.rv = false ∨ alw = false) (h4 : N.age = 0)
  | kept (h : st.a.s ≠ 0) (h1 : N = ⟨st.a, min (st.age + 1) 1000, st.rv⟩)
  | other (h : st.a.s ≠ 0) (h1 : N.a.s = st.a.s) (h2 : N.rv = st.rv) (h3 : N.a.r ≠ st.a.r) (h4 : N.a.r < st.a.r → ¬ st.age + 1 < 5) (h5 : N.age = 0)

section
variable {s : Set} {z v z' v' t fl k : Int} {st : NSt}
theorem nxE_zero (h : nxE s z v z' v' t fl k st = 0) : whlE s z v z' v' t k = 0 ∧ bndE st.a = 0 ∧ 0 ≤ st.age ∧ st.age ≤ 1000 ∧ chE s z v z' v' t fl k = 0 := by
  by_cases h1 : whlE s z v z' v' t k = 0
  · by_cases h2 : bndE st.a = 0
    · by_cases h3 : st.age < 0 ∨ 1000 < st.age
      · have := (nx_age (fl := fl) h1 h2 h3).1; omega
      · by_cases h4 : chE s z v z' v' t fl k = 0
        · exact ⟨h1, h2, by omega, by omega, h4⟩
        · have := (nx_ch h1 h2 h3 h4).1; omega
    · have := (nx_bnd (fl := fl) h1 h2).1; omega
  · have := (nx_whl (fl := fl) (st := st) h1).1; omega
theorem nx_err (h : nxE s z v z' v' t fl k st ≠ 0) : nxR s z v z' v' t fl k st = nst0 := if_neg h
/-- An advisory of a sense's list, in a good case. -/
theorem enA_ok {g : Int} (hW : whlE s z v z' v' t k = 0) (hg : g = 1 ∨ g = 2) : (enA s z v z' v' g t).s = g ∧ bndE (enA s z v z' v' g t) = 0 := by
  obtain ⟨m, hm, e, _⟩ := enA_at s z v z' v' g t
  have ha := (setE_zero (plnE_ok (whlE_ok hW).1).1).2
  rw [e]
  exact ⟨lst_s s g m hm, lst_ok ha hg m hm⟩
/-- If there is an answer and a sense is not allowed, the other one is. -/
theorem alw_other {g : Int} (hE : chE s z v z' v' t fl k = 0) (hg : g = 1 ∨ g = 2) (h : alwB z fl k g = false) : alwB z fl k (3 - g) = true := by
  obtain ⟨_, hc, _⟩ := ch_ok hE
  rcases hc with hc | hc
  · have := (chG_one hc).1
    rcases hg with rfl | rfl
    · rw [this] at h; cases h
    · exact this
  · have := (chG_two hc).1
    rcases hg with rfl | rfl
    · exact this
    · rw [this] at h; cases h
/-- Of a next state without an error: its sense is allowed, its advisory is good, and how it hangs together with the state before. -/
theorem nx_kind (h : nxE s z v z' v' t fl k st = 0) (hs : 0 ≤ st.a.s) : ∃ N, nxR s z v z' v' t fl k st = N ∧ (N.a.s = 1 ∨ N.a.s = 2) ∧ alwB z fl k N.a.s = true ∧ bndE N.a = 0 ∧ Kind st N (alwB z fl k st.a.s) := by
  obtain ⟨hW, hB, ha0, ha1, hC⟩ := nxE_zero h
  rw [(nx_ok hW hB (by omega) hC).2]
  have hle := bnd_s hB
  refine ⟨_, rfl, ?_⟩
  by_cases h0 : st.a.s = 0
  · rw [nxA_new h0]
    obtain ⟨_, hg, e⟩ := ch_ok hC
    have ho := enA_ok hW hg
    have hal : alwB z fl k (chG s z v z' v' t fl k) = true := by
      rcases hg with hg | hg
      · rw [hg]; exact (chG_one hg).1
      · rw [hg]; exact (chG_two hg).1
    show ((chR s z v z' v' t fl k).s = 1 ∨ (chR s z v z' v' t fl k).s = 2) ∧ alwB z fl k (chR s z v z' v' t fl k).s = true ∧ bndE (chR s z v z' v' t fl k) = 0 ∧ _
    rw [e, ho.1]
    exact ⟨hg, hal, ho.2, .first h0 rfl⟩
  · have hg : st.a.s = 1 ∨ st.a.s = 2 := by omega
    have hg3 : 3 - st.a.s = 1 ∨ 3 - st.a.s = 2 := by omega
    have o1 := enA_ok hW hg
    have o3 := enA_ok hW hg3
    cases h1 : alwB z fl k st.a.s with
    | false =>
      rw [nxA_bar h0 h1]
      show ((enA s z v z' v' (3 - st.a.s) t).s = 1 ∨ (enA s z v z' v' (3 - st.a.s) t).s = 2) ∧ alwB z fl k (enA s z v z' v' (3 - st.a.s) t).s = true ∧ bndE (enA s z v z' v' (3 - st.a.s) t) = 0 ∧ _
      rw [o3.1]
      exact ⟨hg3, alw_other hC hg h1, o3.2, .turned h0 (by show (enA s z v z' v' (3 - st.a.s) t).s ≠ _; rw [o3.1]; omega) rfl (Or.inr rfl) rfl⟩
    | true =>
      cases h2 : turnB s z v z' v' t fl k st st.a.s with
      | true =>
        rw [nxA_turn h0 h2]
        have ht : st.rv = false ∧ alwB z fl k (3 - st.a.s) = true := by
          rcases turn_cases (s := s) (z := z) (v := v) (z' := z') (v' := v') (t := t) (fl := fl) (k := k) (st := st) st.a.s with ⟨_, h3, h4, _⟩ | ⟨h3, _⟩
          · exact ⟨h3, h4⟩
          · rw [h3] at h2; cases h2
        show ((enA s z v z' v' (3 - st.a.s) t).s = 1 ∨ (enA s z v z' v' (3 - st.a.s) t).s = 2) ∧ alwB z fl k (enA s z v z' v' (3 - st.a.s) t).s = true ∧ bndE (enA s z v z' v' (3 - st.a.s) t) = 0 ∧ _
        rw [o3.1]
        exact ⟨hg3, ht.2, o3.2, .turned h0 (by show (enA s z v z' v' (3 - st.a.s) t).s ≠ _; rw [o3.1]; omega) rfl (Or.inl ht.1) rfl⟩
      | false =>
        cases h3 : holdB st (enA s z v z' v' st.a.s t) with
        | true =>
          rw [nxA_hold h0 h1 h2 h3]
          exact ⟨hg, h1, hB, .kept h0 rfl⟩
        | false =>
          rw [nxA_same h0 h1 h2 h3]
          show ((enA s z v z' v' st.a.s t).s = 1 ∨ (enA s z v z' v' st.a.s t).s = 2) ∧ alwB z fl k (enA s z v z' v' st.a.s t).s = true ∧ bndE (enA s z v z' v' st.a.s t) = 0 ∧ _
          rw [o1.1]
          rcases hold_cases (st := st) (enA s z v z' v' st.a.s t) with ⟨h4, _⟩ | ⟨_, h4, h5⟩
          · rw [h4] at h3; cases h3
          · refine ⟨hg, h1, o1.2, .other h0 o1.1 rfl ?_ ?_ rfl⟩
            · show (enA s z v z' v' st.a.s t).r ≠ _
              simpa using h4
            · intro h6
              rcases h5 with h5 | ⟨_, h5⟩
              · exact absurd h6 (by simpa using h5)
              · simpa using h5
end
end RulesMath
