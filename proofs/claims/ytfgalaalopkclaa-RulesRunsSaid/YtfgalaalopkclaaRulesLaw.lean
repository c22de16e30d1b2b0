/-
  Plain laws of layer 38 (rules): what the laws Best, List and Mirror say. No program in sight.
-/
import Derived.Test.YtfgalaalopkclaaRulesMath
import Derived.Test.YtfgalaalopkclaaPlaneMathD
namespace RulesMath
open PlaneMath PilotMath

section
variable {s : Set} {z v z' v' t fl k g : Int}

theorem stE_le (z v : Int) : stE z v = 0 ∨ stE z v = 1 := by unfold stE; split <;> simp
theorem plnE_le (s : Set) (z v z' v' : Int) : plnE s z v z' v' = 0 ∨ plnE s z v z' v' = 1 := by
  have h1 := setE_vals s
  have h2 := stE_le z v
  have h3 := stE_le z' v'
  unfold plnE
  split
  · exact h1
  · split
    · exact h2
    · exact h3
theorem whlE_le (s : Set) (z v z' v' t k : Int) : whlE s z v z' v' t k = 0 ∨ whlE s z v z' v' t k = 1 ∨ whlE s z v z' v' t k = 6 := by
  have h1 := plnE_le s z v z' v'
  unfold whlE
  split
  · omega
  · split
    · exact Or.inr (Or.inl rfl)
    · split
      · exact Or.inr (Or.inr rfl)
      · exact Or.inl rfl
theorem plnE_ok (h : plnE s z v z' v' = 0) : setE s = 0 ∧ stE z v = 0 ∧ stE z' v' = 0 := by
  unfold plnE at h
  split at h
  · rename_i h1; exact absurd h h1
  · rename_i h1
    split at h
    · rename_i h2; exact absurd h h2
    · rename_i h2; exact ⟨Decidable.of_not_not h1, Decidable.of_not_not h2, h⟩
theorem whlE_ok (h : whlE s z v z' v' t k = 0) : plnE s z v z' v' = 0 ∧ 0 ≤ t ∧ t ≤ 120 ∧ k ≤ 2 := by
  unfold whlE at h
  split at h
  · rename_i h1; exact absurd h h1
  · rename_i h1
    split at h
    · cases h
    · split at h
      · cases h
      · exact ⟨Decidable.of_not_not h1, by omega, by omega, by omega⟩
theorem stE_st (h : stE z v = 0) : stB z v = true := by
  unfold stE at h
  split at h
  · assumption
  · cases h

/-! ### Best -/
theorem chG_cases (s : Set) (z v z' v' t fl k : Int) : chG s z v z' v' t fl k = 0 ∨ chG s z v z' v' t fl k = 1 ∨ chG s z v z' v' t fl k = 2 := by
  unfold chG; split
  · simp
  · split <;> simp
theorem chG_none (h : chG s z v z' v' t fl k = 0) : alwB z fl k 1 = false ∧ alwB z fl k 2 = false := by
  unfold chG at h
  split at h
  · cases h
  · rename_i h1
    split at h
    · cases h
    · rename_i h2
      have h3 : alwB z fl k 1 = false := by simpa using h2
      refine ⟨h3, ?_⟩
      cases h4 : alwB z fl k 2 with
      | false => rfl
      | true => exact absurd ⟨h4, Or.inl h3⟩ h1
/-- Choose has an error: no advisory; ErrNone only where no sense is allowed. -/
theorem ch_err (h : chE s z v z' v' t fl k ≠ 0) : chR s z v z' v' t fl k = adv0 ∧ (chE s z v z' v' t fl k = 9 → alwB z fl k 1 = false ∧ alwB z fl k 2 = false) := by
  refine ⟨if_neg h, fun h9 => ?_⟩
  unfold chE at h9
  split at h9
  · have := whlE_le s z v z' v' t k; omega
  · split at h9
    · exact chG_none (by assumption)
    · cases h9
theorem ch_ok (h : chE s z v z' v' t fl k = 0) : whlE s z v z' v' t k = 0 ∧ (chG s z v z' v' t fl k = 1 ∨ chG s z v z' v' t fl k = 2) ∧ chR s z v z' v' t fl k = enA s z v z' v' (chG s z v z' v' t fl k) t := by
  have hR : chR s z v z' v' t fl k = chA s z v z' v' t fl k := if_pos h
  unfold chE at h
  split at h
  · rename_i h1; exact absurd h h1
  · rename_i h1
    split at h
    · cases h
    · rename_i h2
      refine ⟨Decidable.of_not_not h1, ?_, ?_⟩
      · rcases chG_cases s z v z' v' t fl k with h0 | h0 | h0
        · exact absurd h0 h2
        · exact Or.inl h0
        · exact Or.inr h0
      · rw [hR]; exact if_neg h2
/-- The sense is allowed, and none that is allowed is better. -/
theorem chG_two (h : chG s z v z' v' t fl k = 2) : alwB z fl k 2 = true ∧ (alwB z fl k 1 = true → bestV s z v z' v' 1 t < bestV s z v z' v' 2 t) := by
  unfold chG at h
  split at h
  · rename_i h1
    refine ⟨h1.1, fun h2 => ?_⟩
    rcases h1.2 with h3 | h3
    · rw [h2] at h3; cases h3
    · exact h3
  · split at h <;> cases h
theorem chG_one (h : chG s z v z' v' t fl k = 1) : alwB z fl k 1 = true ∧ (alwB z fl k 2 = true → bestV s z v z' v' 2 t ≤ bestV s z v z' v' 1 t) := by
  unfold chG at h
  split at h
  · cases h
  · rename_i h1
    split at h
    · rename_i h2
      refine ⟨h2, fun h3 => ?_⟩
      by_cases h4 : bestV s z v z' v' 1 t < bestV s z v z' v' 2 t
      · exact absurd ⟨h3, Or.inr h4⟩ h1
      · omega
    · cases h
/-- The enough one is the first of the list, or its last. -/
theorem enF_at (s : Set) (z v z' v' g t : Int) : ∀ (l : List Adv) (j : Nat) (last : Adv), (enF s z v z' v' g t j last l = (l.getLast?).getD last ∧ ∀ i, i < l.length → sepV s z v z' v' (ga l i) t < s.alim) ∨
    ∃ m, m < l.length ∧ enF s z v z' v' g t j last l = ga l m ∧ s.alim ≤ sepV s z v z' v' (ga l m) t ∧ ∀ i, i < m → sepV s z v z' v' (ga l i) t < s.alim := by
  intro l
  induction l with
  | nil => intro j last; exact Or.inl ⟨rfl, fun i hi => by simp at hi⟩
  | cons a l ih =>
    intro j last
    have hu : enF s z v z' v' g t j last (a :: l) = if s.alim ≤ sepV s z v z' v' a t then a else enF s z v z' v' g t (j + 1) a l := rfl
    by_cases h : s.alim ≤ sepV s z v z' v' a t
    · refine Or.inr ⟨0, by simp, ?_, h, fun i hi => by omega⟩
      rw [hu, if_pos h]; rfl
    · rw [hu, if_neg h]
      rcases ih (j + 1) a with ⟨h1, h2⟩ | ⟨m, h1, h2, h3, h4⟩
      · refine Or.inl ⟨?_, fun i hi => ?_⟩
        · rw [h1]
          cases l with
          | nil => rfl
          | cons b l => rw [List.getLast?_cons_cons, List.getLast?_eq_some_getLast (by simp : b :: l ≠ [])]; rfl
        · cases i with
          | zero => show sepV s z v z' v' a t < _; omega
          | succ i => exact h2 i (by simpa using hi)
      · refine Or.inr ⟨m + 1, by simpa using h1, h2, h3, fun i hi => ?_⟩
        cases i with
        | zero => show sepV s z v z' v' a t < _; omega
        | succ i => exact h4 i (by omega)
/-- Where the enough advisory stands in its list: at m; those ahead of it are not enough; it is, or it is the last. -/
theorem enA_at (s : Set) (z v z' v' g t : Int) : ∃ m, m ≤ s.rs.length ∧ enA s z v z' v' g t = ga (lstL s g) m ∧ (∀ i, i < m → sepV s z v z' v' (ga (lstL s g) i) t < s.alim) ∧ (s.alim ≤ sepV s z v z' v' (ga (lstL s g) m) t ∨ m = s.rs.length) := by
  have hl := lst_len s g
  rcases enF_at s z v z' v' g t (lstL s g) 0 adv0 with ⟨h1, h2⟩ | ⟨m, h1, h2, h3, h4⟩
  · refine ⟨s.rs.length, Nat.le_refl _, ?_, fun i hi => h2 i (by omega), Or.inr rfl⟩
    unfold enA
    rw [h1]
    unfold ga
    rw [List.getLast?_eq_getElem?, hl, Nat.add_sub_cancel]
  · exact ⟨m, by omega, h2, h4, Or.inl h3⟩
/-- The advisories of a list of ascending rates are different. -/
theorem asc_lt {l : List Int} {n : Nat} (h : AscTo l n) : ∀ j, j < n → ∀ i, i < j → gr l i < gr l j := by
  intro j
  induction j with
  | zero => intro _ i hi; omega
  | succ j ih =>
    intro hj i hi
    have h1 := h (j + 1) hj
    rw [before_succ] at h1
    by_cases e : i = j
    · subst e; omega
    · have := ih (by omega) i (by omega); omega
theorem lst_ne {n : Nat} (h : AscTo s.rs n) (hn : n = s.rs.length) {i j : Nat} (hi : i < j) (hj : j ≤ n) : ga (lstL s g) i ≠ ga (lstL s g) j := by
  obtain ⟨j, rfl⟩ : ∃ q, j = q + 1 := ⟨j - 1, by omega⟩
  rw [lst_succ s g j (by omega)]
  cases i with
  | zero => rw [lst_zero]; intro e; injection e with _ _ e; cases e
  | succ i =>
    rw [lst_succ s g i (by omega)]
    intro e
    have h1 := asc_lt h j (by omega) i (by omega)
    injection e with _ e _
    omega
theorem lst_s (s : Set) (g : Int) (i : Nat) (hi : i ≤ s.rs.length) : (ga (lstL s g) i).s = g := by
  cases i with
  | zero => rfl
  | succ i => rw [lst_succ s g i (by omega)]
/-- Separation's number for an advisory of a list. -/
theorem sepR_pln (hP : plnE s z v z' v' = 0) (ht : 0 ≤ t ∧ t ≤ 120) (hg : g = 1 ∨ g = 2) {i : Nat} (hi : i ≤ s.rs.length) : sepR s z v z' v' (ga (lstL s g) i) t = sepV s z v z' v' (ga (lstL s g) i) t := by
  have hs := plnE_ok hP
  have ha := (setE_zero hs.1).2
  have hE : sepE s z v z' v' (ga (lstL s g) i) t = 0 := by
    unfold sepE
    rw [if_neg (by rw [hP]; decide), if_neg (by rw [lst_ok ha hg i hi]; decide), if_neg (by rw [lst_s s g i hi]; omega), if_neg (by omega)]
  exact if_pos hE
theorem sepR_lst (hW : whlE s z v z' v' t k = 0) (hg : g = 1 ∨ g = 2) {i : Nat} (hi : i ≤ s.rs.length) : sepR s z v z' v' (ga (lstL s g) i) t = sepV s z v z' v' (ga (lstL s g) i) t :=
  sepR_pln (whlE_ok hW).1 ⟨(whlE_ok hW).2.1, (whlE_ok hW).2.2.1⟩ hg hi
theorem n_pos (hW : whlE s z v z' v' t k = 0) : 1 ≤ s.rs.length ∧ s.rs.length ≤ 8 := by
  have h := numB_iff.1 (setE_zero (plnE_ok (whlE_ok hW).1).1).1
  omega
theorem sepR_last (hW : whlE s z v z' v' t k = 0) (hg : g = 1 ∨ g = 2) : sepR s z v z' v' (lastA s g) t = bestV s z v z' v' g t := by
  have hn := n_pos hW
  have := sepR_lst (i := s.rs.length) hW hg (Nat.le_refl _)
  rw [lst_last s g (by omega)] at this
  exact this

/-! ### List -/
theorem rate_le {v v2 lo lo2 hi hi2 pull : Int} (h : v ≤ v2) (hl : lo ≤ lo2) (hh : hi ≤ hi2) (h2 : lo2 ≤ hi2) (hp : 0 ≤ pull) : rate v lo hi pull ≤ rate v2 lo2 hi2 pull := by
  unfold rate
  repeat' split
  all_goals omega
/-- The bounds of a cycle. -/
def cyc (s : Set) (lo hi : Int) (k : Nat) : Int × Int := if (k : Int) < s.d then (-100, 100) else (lo, hi)
theorem sp_pst (s : Set) (lo hi : Int) (n : Nat) (z v : Int) : ∀ k, k ≤ n → sp s lo hi k z v = pst s.pl ((List.range n).map (cyc s lo hi)) k z v := by
  intro k
  induction k with
  | zero => intro _; rfl
  | succ k ih =>
    intro hk
    rw [sp_succ, pst_succ, ih (by omega)]
    have : ((List.range n).map (cyc s lo hi))[k]?.getD (0, 0) = cyc s lo hi k := by simp [List.getElem?_range (show k < n by omega)]
    rw [this]
    unfold cyc
    split <;> rfl
theorem bdTo_cyc {s : Set} {lo hi : Int} (hb : bdB lo hi = true) (n : Nat) : BdTo ((List.range n).map (cyc s lo hi)) n := by
  intro i hi'
  have : ((List.range n).map (cyc s lo hi))[i]?.getD (0, 0) = cyc s lo hi i := by simp [List.getElem?_range hi']
  rw [this]
  unfold cyc
  split
  · decide
  · exact hb
theorem in_path {pull : Int} (hp : 0 ≤ pull) {l : List (Int × Int)} {n : Nat} (hs : stB z v = true) (hb : BdTo l n) (hd : itL (-100) (-100) pull n z v = false) (hu : itL 100 100 pull n z v = false) {k : Nat} (hk : k < n) : inZ ((pst pull l k z v).1 + (pst pull l k z v).2) = true := by
  have down : ∀ {lo hi : Int} {j : Nat}, j ≤ n → itL lo hi pull n z v = false → itL lo hi pull j z v = false := fun {lo hi j} hj h => by
    cases e : itL lo hi pull j z v with
    | false => rfl
    | true => rw [itL_mono hj e] at h; cases h
  have hd' := itL_down (down (show k + 1 ≤ n from hk) hd)
  have hu' := itL_down (down (show k + 1 ≤ n from hk) hu)
  obtain ⟨a1, a2, a3, a4⟩ := between hp hs k (fun i hi => hb i (by omega)) hd'.1 hu'.1
  have x := inZ_iff.1 (nxt_in (lo := -100) (hi := -100) (pull := pull) hd'.2).1
  have y := inZ_iff.1 (nxt_in (lo := 100) (hi := 100) (pull := pull) hu'.2).1
  exact inZ_iff.2 (by omega)
/-- Greater bounds lead no lower, as far as no limit is reached. -/
theorem sp_le {lo hi lo2 hi2 : Int} {n : Nat} (hp : 0 ≤ s.pl) (hs : stB z v = true) (hb : bdB lo hi = true) (hb2 : bdB lo2 hi2 = true) (hl : lo ≤ lo2) (hh : hi ≤ hi2) (hd : itL (-100) (-100) s.pl n z v = false) (hu : itL 100 100 s.pl n z v = false) :
    ∀ j, j ≤ n → (sp s lo hi j z v).1 ≤ (sp s lo2 hi2 j z v).1 ∧ (sp s lo hi j z v).2 ≤ (sp s lo2 hi2 j z v).2 := by
  intro j
  induction j with
  | zero => intro _; exact ⟨Int.le_refl _, Int.le_refl _⟩
  | succ j ih =>
    intro hj
    obtain ⟨h1, h2⟩ := ih (by omega)
    have i1 := in_path hp hs (bdTo_cyc (s := s) hb n) hd hu (show j < n from hj)
    have i2 := in_path hp hs (bdTo_cyc (s := s) hb2 n) hd hu (show j < n from hj)
    rw [← sp_pst s _ _ n z v j (by omega)] at i1 i2
    have hB := bdB_iff.1 hb
    have hB2 := bdB_iff.1 hb2
    rw [sp_succ, sp_succ]
    show nxtZ _ _ ≤ nxtZ _ _ ∧ nxtV _ _ _ _ _ ≤ nxtV _ _ _ _ _
    have c1 := fun (lo hi : Int) => in_nxt (lo := lo) (hi := hi) (pull := s.pl) i1
    have c2 := fun (lo hi : Int) => in_nxt (lo := lo) (hi := hi) (pull := s.pl) i2
    rw [(c1 0 0).1, (c2 0 0).1, (c1 _ _).2, (c2 _ _).2]
    refine ⟨by omega, ?_⟩
    split
    · exact rate_le h2 (by omega) (by omega) (by omega) hp
    · exact rate_le h2 hl hh (by omega) hp
theorem rch_its {pull : Int} {n : Nat} (h : rchE z v pull n = 0) : stB z v = true ∧ itL (-100) (-100) pull n z v = false ∧ itL 100 100 pull n z v = false := by
  cases hb : rchB z v pull n with
  | false => rw [(rch_no hb).2.2] at h; cases h
  | true =>
    cases hl : (itL (-100) (-100) pull n z v || itL 100 100 pull n z v) with
    | true => rw [(rch_lim hb hl).2.2] at h; cases h
    | false =>
      have hl' := Bool.or_eq_false_iff.1 hl
      unfold rchB at hb
      rw [Bool.and_eq_true, Bool.and_eq_true] at hb
      exact ⟨hb.1.1, hl'.1, hl'.2⟩
/-- The bounds of an advisory of a list. -/
def loR (s : Set) (i : Nat) : Int := if i = 0 then 0 else gr s.rs (i - 1)
theorem lst_bnd (ha : AscTo s.rs s.rs.length) (hg : g = 1 ∨ g = 2) {i : Nat} (hi : i ≤ s.rs.length) :
    bndL (ga (lstL s g) i) = (if g = 1 then loR s i else -100) ∧ bndH (ga (lstL s g) i) = (if g = 2 then -loR s i else 100) := by
  have hok := lst_ok ha hg i hi
  unfold bndL bndH
  rw [if_pos hok, if_pos hok, lst_s s g i hi]
  have hr : (ga (lstL s g) i).r = loR s i := by
    cases i with
    | zero => rfl
    | succ i => rw [lst_succ s g i (by omega)]; rfl
  rw [hr]
  exact ⟨rfl, rfl⟩
theorem loR_bd (ha : AscTo s.rs s.rs.length) {i : Nat} (hi : i ≤ s.rs.length) : 0 ≤ loR s i ∧ loR s i ≤ 100 := by
  unfold loR
  split
  · omega
  · have := asc_pos ha (i - 1) (by omega); omega
theorem loR_succ (ha : AscTo s.rs s.rs.length) {i : Nat} (hi : i < s.rs.length) : loR s i ≤ loR s (i + 1) := by
  have h := ha i hi
  unfold loR
  unfold before at h
  rw [if_neg (by omega : ¬ i + 1 = 0)]
  show (if i = 0 then (0 : Int) else gr s.rs (i - 1)) ≤ gr s.rs i
  split
  · rename_i e; subst e; simp at h; omega
  · rename_i e; rw [if_neg e] at h; omega
/-- The separation does not decrease along the list of a sense, as far as no limit can be reached. -/
theorem list_le (hP : setE s = 0) (hR : rchE z v s.pl t = 0) (ht : 0 ≤ t ∧ t ≤ 120) (hg : g = 1 ∨ g = 2) {i : Nat} (hi : i < s.rs.length) : sepV s z v z' v' (ga (lstL s g) i) t ≤ sepV s z v z' v' (ga (lstL s g) (i + 1)) t := by
  have ha := (setE_zero hP).2
  have hn := numB_iff.1 (setE_zero hP).1
  obtain ⟨n, rfl⟩ : ∃ n : Nat, t = n := ⟨t.toNat, by omega⟩
  obtain ⟨hs, hd, hu⟩ := rch_its hR
  have b1 := lst_bnd ha hg (i := i) (by omega)
  have b2 := lst_bnd ha hg (i := i + 1) (by omega)
  have l1 := loR_bd ha (i := i) (by omega)
  have l2 := loR_bd ha (i := i + 1) (by omega)
  have l3 := loR_succ ha hi
  unfold sepV
  rw [lst_s s g i (by omega), lst_s s g (i + 1) (by omega), b1.1, b1.2, b2.1, b2.2, Int.toNat_natCast]
  rcases hg with rfl | rfl
  · simp only [if_true, if_false, show ¬ ((1 : Int) = 2) from by decide]
    have := (sp_le (s := s) (by omega) hs (bdB_iff.2 (by omega)) (bdB_iff.2 (by omega)) l3 (Int.le_refl 100) hd hu n (Nat.le_refl _)).1
    omega
  · simp only [if_true, if_false, show ¬ ((2 : Int) = 1) from by decide]
    have := (sp_le (s := s) (lo := -100) (lo2 := -100) (hi := -loR s (i + 1)) (hi2 := -loR s i) (by omega) hs (bdB_iff.2 (by omega)) (bdB_iff.2 (by omega)) (Int.le_refl _) (by omega) hd hu n (Nat.le_refl _)).1
    omega

/-! ### Mirror -/
def flp (a : Adv) : Adv := ⟨3 - a.s, a.r, a.k⟩
theorem rate_neg {v lo hi pull : Int} (h : lo ≤ hi) : rate (-v) (-hi) (-lo) pull = -rate v lo hi pull := by
  unfold rate
  repeat' split
  all_goals omega
theorem inZ_mir (z v : Int) : inZ (49000 - z + -v) = inZ (z + v) := by
  unfold inZ
  rw [decide_eq_decide]
  omega
theorem nxt_mir {z v lo hi pull : Int} (h : lo ≤ hi) : nxtZ (49000 - z) (-v) = 49000 - nxtZ z v ∧ nxtV (49000 - z) (-v) (-hi) (-lo) pull = -nxtV z v lo hi pull := by
  unfold nxtZ nxtV
  rw [inZ_mir]
  cases inZ (z + v) with
  | true => exact ⟨by simp; omega, by simp [rate_neg h]⟩
  | false => exact ⟨by simp; omega, by simp⟩
theorem sp_mir {lo hi : Int} (h : lo ≤ hi) (j : Nat) : sp s (-hi) (-lo) j (49000 - z) (-v) = (49000 - (sp s lo hi j z v).1, -(sp s lo hi j z v).2) := by
  induction j with
  | zero => rfl
  | succ j ih =>
    rw [sp_succ, sp_succ, ih]
    have e1 : (if (j : Int) < s.d then (-100 : Int) else -hi) = -(if (j : Int) < s.d then (100 : Int) else hi) := by split <;> rfl
    have e2 : (if (j : Int) < s.d then (100 : Int) else -lo) = -(if (j : Int) < s.d then (-100 : Int) else lo) := by split <;> rfl
    have hh : (if (j : Int) < s.d then (-100 : Int) else lo) ≤ (if (j : Int) < s.d then (100 : Int) else hi) := by split <;> omega
    rw [e1, e2]
    have := nxt_mir (z := (sp s lo hi j z v).1) (v := (sp s lo hi j z v).2) (pull := s.pl) hh
    show (nxtZ (49000 - _) (- _), nxtV (49000 - _) (- _) _ _ _) = _
    rw [this.1, this.2]
theorem othZ_mir (z' v' t : Int) : othZ (49000 - z') (-v') t = 49000 - othZ z' v' t := by
  unfold othZ
  rw [Int.mul_neg]
  generalize t * v' = q
  omega
theorem flp_bnd {a : Adv} (h : bndE a = 0) (hg : a.s = 1 ∨ a.s = 2) : bndE (flp a) = 0 ∧ bndL (flp a) = -bndH a ∧ bndH (flp a) = -bndL a := by
  have hE : bndE (flp a) = 0 := by
    unfold bndE at h ⊢
    unfold advLeast at h ⊢
    rw [if_neg (by omega)] at h
    rw [if_neg (by show ¬ 2 < 3 - a.s; omega)]
    have h1 : ¬ ((a.s = 0 ∧ (a.r ≠ 0 ∨ a.k = true)) ∨ a.r < (if a.k = true then (-100 : Int) else 0) ∨ 100 < a.r) := fun c => by rw [if_pos c] at h; cases h
    refine if_neg ?_
    show ¬ ((3 - a.s = 0 ∧ (a.r ≠ 0 ∨ a.k = true)) ∨ a.r < (if a.k = true then (-100 : Int) else 0) ∨ 100 < a.r)
    intro c
    apply h1
    rcases c with c | c
    · omega
    · exact Or.inr c
  refine ⟨hE, ?_⟩
  unfold bndL bndH
  rw [if_pos hE, if_pos hE, if_pos h, if_pos h]
  show (if 3 - a.s = 1 then a.r else -100) = _ ∧ (if 3 - a.s = 2 then -a.r else 100) = _
  rcases hg with e | e <;> rw [e] <;> simp
theorem sepV_mir {a : Adv} (h : bndE a = 0) (hg : a.s = 1 ∨ a.s = 2) : sepV s (49000 - z) (-v) (49000 - z') (-v') (flp a) t = sepV s z v z' v' a t := by
  obtain ⟨_, b1, b2⟩ := flp_bnd h hg
  have hb := bdB_iff.1 (bnd_ok h)
  unfold sepV
  rw [b1, b2, sp_mir hb.2.1, othZ_mir]
  show (if 3 - a.s = 2 then _ else _) = _
  rcases hg with e | e <;> rw [e] <;> simp <;> omega
theorem lst_flp (s : Set) (g : Int) : lstL s (3 - g) = (lstL s g).map flp := by
  unfold lstL
  simp [flp]
theorem enF_mir : ∀ (l : List Adv) (j : Nat) (last last' : Adv), (∀ a ∈ l, bndE a = 0 ∧ (a.s = 1 ∨ a.s = 2)) → l ≠ [] ∨ last' = flp last → enF s (49000 - z) (-v) (49000 - z') (-v') (3 - g) t j last' (l.map flp) = flp (enF s z v z' v' g t j last l) := by
  intro l
  induction l with
  | nil => intro j last last' _ h; rcases h with h | h; exact absurd rfl h; exact h
  | cons a l ih =>
    intro j last last' hl _
    have ha := hl a (by simp)
    show (if s.alim ≤ sepV s (49000 - z) (-v) (49000 - z') (-v') (flp a) t then flp a else enF s (49000 - z) (-v) (49000 - z') (-v') (3 - g) t (j + 1) (flp a) (l.map flp)) = flp (if s.alim ≤ sepV s z v z' v' a t then a else enF s z v z' v' g t (j + 1) a l)
    rw [sepV_mir ha.1 ha.2]
    split
    · rfl
    · exact ih (j + 1) a (flp a) (fun b hb => hl b (by simp [hb])) (Or.inr rfl)
theorem lst_mem (ha : AscTo s.rs s.rs.length) (hg : g = 1 ∨ g = 2) : ∀ a ∈ lstL s g, bndE a = 0 ∧ (a.s = 1 ∨ a.s = 2) := by
  intro a h
  obtain ⟨i, hi, rfl⟩ := List.getElem_of_mem h
  rw [lst_len] at hi
  have e : (lstL s g)[i]'(by rw [lst_len]; omega) = ga (lstL s g) i := by unfold ga; rw [List.getElem?_eq_getElem (by rw [lst_len]; omega)]; rfl
  rw [e]
  exact ⟨lst_ok ha hg i (by omega), by rw [lst_s s g i (by omega)]; exact hg⟩
theorem enA_mir (ha : AscTo s.rs s.rs.length) (hg : g = 1 ∨ g = 2) : enA s (49000 - z) (-v) (49000 - z') (-v') (3 - g) t = flp (enA s z v z' v' g t) := by
  unfold enA
  rw [lst_flp s g]
  exact enF_mir _ _ _ _ (lst_mem ha hg) (Or.inl (by simp [lstL]))
theorem bestV_mir (ha : AscTo s.rs s.rs.length) (hn : 1 ≤ s.rs.length) (hg : g = 1 ∨ g = 2) : bestV s (49000 - z) (-v) (49000 - z') (-v') (3 - g) t = bestV s z v z' v' g t := by
  unfold bestV
  have e : lastA s (3 - g) = flp (lastA s g) := rfl
  rw [e]
  have h := lst_last s g (by omega)
  have hok := lst_ok ha hg s.rs.length (Nat.le_refl _)
  rw [h] at hok
  exact sepV_mir hok hg
def mirK (k : Int) : Int := if k = 1 ∨ k = 2 then 3 - k else k
theorem stE_mir (z v : Int) : stE (49000 - z) (-v) = stE z v := by
  unfold stE stB
  have : decide (-1000 ≤ 49000 - z ∧ 49000 - z ≤ 50000 ∧ -100 ≤ -v ∧ -v ≤ 100) = decide (-1000 ≤ z ∧ z ≤ 50000 ∧ -100 ≤ v ∧ v ≤ 100) := by rw [decide_eq_decide]; omega
  rw [this]
theorem whlE_mir (s : Set) (z v z' v' t k : Int) : whlE s (49000 - z) (-v) (49000 - z') (-v') t (mirK k) = whlE s z v z' v' t k := by
  unfold whlE plnE
  rw [stE_mir, stE_mir]
  have : (2 < mirK k) = (2 < k) := by unfold mirK; split <;> (apply propext; omega)
  simp only [this]
/-- With the floor at the least altitude: upside down the other sense, the same rate; the same errors. -/
theorem alw_low (g : Int) (hz : -1000 ≤ z) : alwB z (-1000) k g = (g != k) := by
  unfold alwB
  rw [decide_eq_true hz, Bool.or_true, Bool.and_true]
theorem chG_low (hz : -1000 ≤ z) : chG s z v z' v' t (-1000) k = if (2 : Int) ≠ k ∧ ((1 : Int) = k ∨ bestV s z v z' v' 1 t < bestV s z v z' v' 2 t) then 2 else if (1 : Int) ≠ k then 1 else 0 := by
  unfold chG
  rw [alw_low 2 hz, alw_low 1 hz]
  simp
theorem mir_ok (hk : 0 ≤ k) (hW : whlE s z v z' v' t k = 0) : chE s z v z' v' t (-1000) k = 0 ∧ chE s (49000 - z) (-v) (49000 - z') (-v') t (-1000) (mirK k) = 0 ∧
    ((k = 0 ∧ bestV s z v z' v' 1 t = bestV s z v z' v' 2 t ∧ (chR s z v z' v' t (-1000) k).s = 1 ∧ (chR s (49000 - z) (-v) (49000 - z') (-v') t (-1000) (mirK k)).s = 1) ∨
     (¬ (k = 0 ∧ bestV s z v z' v' 1 t = bestV s z v z' v' 2 t) ∧ chR s (49000 - z) (-v) (49000 - z') (-v') t (-1000) (mirK k) = flp (chR s z v z' v' t (-1000) k))) := by
  have h := whlE_ok hW
  have hs := plnE_ok h.1
  have ha := (setE_zero hs.1).2
  have hn := (numB_iff.1 (setE_zero hs.1).1).1
  have hz := (stB_iff.1 (stE_st hs.2.1))
  have hW' : whlE s (49000 - z) (-v) (49000 - z') (-v') t (mirK k) = 0 := by rw [whlE_mir]; exact hW
  have b1 := bestV_mir (z := z) (v := v) (z' := z') (v' := v') (t := t) ha hn (g := 1) (Or.inl rfl)
  have b2 := bestV_mir (z := z) (v := v) (z' := z') (v' := v') (t := t) ha hn (g := 2) (Or.inr rfl)
  rw [show (3 : Int) - 1 = 2 from rfl] at b1
  rw [show (3 : Int) - 2 = 1 from rfl] at b2
  have G := chG_low (s := s) (v := v) (z' := z') (v' := v') (t := t) (k := k) hz.1
  have G' := chG_low (s := s) (z := 49000 - z) (v := -v) (z' := 49000 - z') (v' := -v') (t := t) (k := mirK k) (by omega)
  rw [b1, b2] at G'
  have E1 : ∀ {z v z' v' k g : Int}, whlE s z v z' v' t k = 0 → chG s z v z' v' t (-1000) k = g → g ≠ 0 → chE s z v z' v' t (-1000) k = 0 ∧ chR s z v z' v' t (-1000) k = enA s z v z' v' g t := by
    intro z v z' v' k g hw hg h0
    have e : chE s z v z' v' t (-1000) k = 0 := by unfold chE; rw [if_neg (by rw [hw]; decide), if_neg (by rw [hg]; exact h0)]
    refine ⟨e, ?_⟩
    unfold chR
    rw [if_pos e]
    unfold chA
    rw [hg, if_neg h0]
  have S1 : ∀ {z v z' v' g : Int}, (enA s z v z' v' g t).s = g := by
    intro z v z' v' g
    obtain ⟨m, hm, e, _⟩ := enA_at s z v z' v' g t
    rw [e]
    exact lst_s s g m hm
  have F1 := enA_mir (z := z) (v := v) (z' := z') (v' := v') (t := t) ha (g := 1) (Or.inl rfl)
  have F2 := enA_mir (z := z) (v := v) (z' := z') (v' := v') (t := t) ha (g := 2) (Or.inr rfl)
  rw [show (3 : Int) - 1 = 2 from rfl] at F1
  rw [show (3 : Int) - 2 = 1 from rfl] at F2
  obtain rfl | rfl | rfl : k = 0 ∨ k = 1 ∨ k = 2 := by omega
  · rw [show mirK 0 = 0 from rfl] at *
    by_cases hlt : bestV s z v z' v' 1 t < bestV s z v z' v' 2 t
    · rw [if_pos ⟨by decide, Or.inr hlt⟩] at G
      rw [if_neg (by omega), if_pos (by decide)] at G'
      obtain ⟨x1, x2⟩ := E1 hW G (by decide)
      obtain ⟨y1, y2⟩ := E1 hW' G' (by decide)
      exact ⟨x1, y1, Or.inr ⟨by omega, by rw [x2, y2]; exact F2⟩⟩
    · rw [if_neg (by omega), if_pos (by decide)] at G
      obtain ⟨x1, x2⟩ := E1 hW G (by decide)
      by_cases hgt : bestV s z v z' v' 2 t < bestV s z v z' v' 1 t
      · rw [if_pos ⟨by decide, Or.inr hgt⟩] at G'
        obtain ⟨y1, y2⟩ := E1 hW' G' (by decide)
        exact ⟨x1, y1, Or.inr ⟨by omega, by rw [x2, y2]; exact F1⟩⟩
      · rw [if_neg (by omega), if_pos (by decide)] at G'
        obtain ⟨y1, y2⟩ := E1 hW' G' (by decide)
        exact ⟨x1, y1, Or.inl ⟨rfl, by omega, by rw [x2]; exact S1, by rw [y2]; exact S1⟩⟩
  · rw [show mirK 1 = 2 from rfl] at *
    rw [if_pos ⟨by decide, Or.inl rfl⟩] at G
    rw [if_neg (by omega), if_pos (by decide)] at G'
    obtain ⟨x1, x2⟩ := E1 hW G (by decide)
    obtain ⟨y1, y2⟩ := E1 hW' G' (by decide)
    exact ⟨x1, y1, Or.inr ⟨by omega, by rw [x2, y2]; exact F2⟩⟩
  · rw [show mirK 2 = 1 from rfl] at *
    rw [if_neg (by omega), if_pos (by decide)] at G
    rw [if_pos ⟨by decide, Or.inl rfl⟩] at G'
    obtain ⟨x1, x2⟩ := E1 hW G (by decide)
    obtain ⟨y1, y2⟩ := E1 hW' G' (by decide)
    exact ⟨x1, y1, Or.inr ⟨by omega, by rw [x2, y2]; exact F1⟩⟩
/-- Both have the same error. -/
theorem mir_err (hW : whlE s z v z' v' t k ≠ 0) : chE s z v z' v' t (-1000) k = whlE s z v z' v' t k ∧ chE s (49000 - z) (-v) (49000 - z') (-v') t (-1000) (mirK k) = whlE s z v z' v' t k := by
  refine ⟨if_pos hW, ?_⟩
  unfold chE
  rw [whlE_mir, if_pos hW]
end
end RulesMath
