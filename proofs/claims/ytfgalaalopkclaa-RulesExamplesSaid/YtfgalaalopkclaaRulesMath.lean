/-
  Plain laws of layer 38 (rules): the setting, the separation, the lists of advisories, the choice. No program in sight.
-/
import Derived.Test.YtfgalaalopkclaaPilotMath
namespace RulesMath
open PlaneMath PilotMath

/-- A setting: its rates, and three numbers. -/
structure Set where
  rs : List Int
  alim : Int
  d : Int
  pl : Int
def gr (l : List Int) (k : Nat) : Int := l[k]?.getD 0
/-- Do the rates ascend from 'last' on, to 100 at most? -/
def ascB (last : Int) : List Int → Bool
  | [] => true
  | r :: l => decide (last < r ∧ r ≤ 100) && ascB r l
/-- The rate ahead of rate k. -/
def before (l : List Int) (k : Nat) : Int := if k = 0 then 0 else gr l (k - 1)
def AscTo (l : List Int) (k : Nat) : Prop := ∀ i, i < k → before l i < gr l i ∧ gr l i ≤ 100
theorem ascB_iff (l : List Int) : ∀ last, ascB last l = true ↔ ∀ i, i < l.length → (if i = 0 then last else gr l (i - 1)) < gr l i ∧ gr l i ≤ 100 := by
  induction l with
  | nil => intro last; simp [ascB]
  | cons r l ih =>
    intro last
    unfold ascB
    rw [Bool.and_eq_true, decide_eq_true_eq, ih]
    constructor
    · rintro ⟨⟨h1, h2⟩, h⟩ i hi
      cases i with
      | zero => exact ⟨h1, h2⟩
      | succ i =>
        have := h i (by simpa using hi)
        cases i with
        | zero => exact this
        | succ i => exact this
    · intro h
      refine ⟨h 0 (by simp), fun i hi => ?_⟩
      have := h (i + 1) (by simpa using hi)
      cases i with
      | zero => exact this
      | succ i => exact this
theorem asc_iff (l : List Int) : ascB 0 l = true ↔ AscTo l l.length := ascB_iff l 0
theorem ascTo_succ {l : List Int} {k : Nat} (h : AscTo l k) (hk : before l k < gr l k ∧ gr l k ≤ 100) : AscTo l (k + 1) := fun i hi => by
  by_cases e : i = k
  · subst e; exact hk
  · exact h i (by omega)
theorem before_succ (l : List Int) (k : Nat) : before l (k + 1) = gr l k := by unfold before; simp
theorem asc_pos {l : List Int} {k : Nat} (h : AscTo l k) : ∀ i, i < k → 1 ≤ gr l i ∧ gr l i ≤ 100 := by
  intro i
  induction i with
  | zero => intro hi; have := h 0 hi; unfold before at this; simp at this; omega
  | succ i ih =>
    intro hi
    have h1 := ih (by omega)
    have h2 := h (i + 1) hi
    rw [before_succ] at h2
    omega
/-- Are the numbers of a setting good? -/
def numB (n : Nat) (alim d pl : Int) : Bool := decide (1 ≤ n ∧ n ≤ 8 ∧ 1 ≤ alim ∧ alim ≤ 5000 ∧ 0 ≤ d ∧ d ≤ 16 ∧ 1 ≤ pl ∧ pl ≤ 32)
/-- The error of a setting. -/
def setE (s : Set) : Int := if numB s.rs.length s.alim s.d s.pl && ascB 0 s.rs then 0 else 1
theorem numB_iff {n : Nat} {alim d pl : Int} : numB n alim d pl = true ↔ 1 ≤ n ∧ n ≤ 8 ∧ 1 ≤ alim ∧ alim ≤ 5000 ∧ 0 ≤ d ∧ d ≤ 16 ∧ 1 ≤ pl ∧ pl ≤ 32 := by simp [numB]
theorem setE_num {s : Set} (h : numB s.rs.length s.alim s.d s.pl = false) : setE s = 1 := by unfold setE; rw [h]; rfl
theorem setE_bad {s : Set} {k : Nat} (hk : k < s.rs.length) (h : ¬ (before s.rs k < gr s.rs k ∧ gr s.rs k ≤ 100)) : setE s = 1 := by
  unfold setE
  have : ascB 0 s.rs = false := by
    cases hb : ascB 0 s.rs with
    | false => rfl
    | true => exact absurd ((asc_iff _).1 hb k hk) h
  rw [this, Bool.and_false]
  rfl
theorem setE_ok {s : Set} (h : numB s.rs.length s.alim s.d s.pl = true) (h2 : AscTo s.rs s.rs.length) : setE s = 0 := by
  unfold setE
  rw [h, (asc_iff _).2 h2]
  rfl
theorem setE_zero {s : Set} (h : setE s = 0) : numB s.rs.length s.alim s.d s.pl = true ∧ AscTo s.rs s.rs.length := by
  unfold setE at h
  cases h1 : numB s.rs.length s.alim s.d s.pl with
  | false => rw [h1] at h; simp at h
  | true =>
    cases h2 : ascB 0 s.rs with
    | false => rw [h1, h2] at h; simp at h
    | true => exact ⟨rfl, (asc_iff _).1 h2⟩
theorem setE_vals (s : Set) : setE s = 0 ∨ setE s = 1 := by unfold setE; split <;> simp

/-- The error of a setting and two states. -/
def plnE (s : Set) (z v z' v' : Int) : Int := if setE s ≠ 0 then setE s else if stE z v ≠ 0 then stE z v else stE z' v'
def whlE (s : Set) (z v z' v' t k : Int) : Int := if plnE s z v z' v' ≠ 0 then plnE s z v z' v' else if t < 0 ∨ 120 < t then 1 else if 2 < k then 6 else 0

/-! ### The separation -/
/-- The own state behind k cycles under an advisory. -/
def sp (s : Set) (lo hi : Int) : Nat → Int → Int → Int × Int
  | 0, z, v => (z, v)
  | k + 1, z, v => (nxtZ (sp s lo hi k z v).1 (sp s lo hi k z v).2, nxtV (sp s lo hi k z v).1 (sp s lo hi k z v).2 (if (k : Int) < s.d then -100 else lo) (if (k : Int) < s.d then 100 else hi) s.pl)
theorem sp_succ (s : Set) (lo hi : Int) (k : Nat) (z v : Int) : sp s lo hi (k + 1) z v = (nxtZ (sp s lo hi k z v).1 (sp s lo hi k z v).2, nxtV (sp s lo hi k z v).1 (sp s lo hi k z v).2 (if (k : Int) < s.d then -100 else lo) (if (k : Int) < s.d then 100 else hi) s.pl) := rfl
theorem sp_st {s : Set} {lo hi : Int} (hb : bdB lo hi = true) (hp : 0 ≤ s.pl) {z v : Int} (h : stB z v = true) (k : Nat) : stB (sp s lo hi k z v).1 (sp s lo hi k z v).2 = true := by
  induction k with
  | zero => exact h
  | succ k ih =>
    rw [sp_succ]
    refine nxt_st ih ?_ hp
    split
    · decide
    · exact hb
def othZ (z' v' t : Int) : Int := min (max (z' + t * v') (-1000)) 50000
/-- The separation of a valid advisory. -/
def sepV (s : Set) (z v z' v' : Int) (a : Adv) (t : Int) : Int :=
  if a.s = 2 then -((sp s (bndL a) (bndH a) t.toNat z v).1 - othZ z' v' t) else (sp s (bndL a) (bndH a) t.toNat z v).1 - othZ z' v' t
def sepE (s : Set) (z v z' v' : Int) (a : Adv) (t : Int) : Int :=
  if plnE s z v z' v' ≠ 0 then plnE s z v z' v' else if bndE a ≠ 0 then bndE a else if a.s = 0 then 6 else if t < 0 ∨ 120 < t then 1 else 0
def sepR (s : Set) (z v z' v' : Int) (a : Adv) (t : Int) : Int := if sepE s z v z' v' a t = 0 then sepV s z v z' v' a t else 0

/-! ### The lists of advisories -/
def lstL (s : Set) (g : Int) : List Adv := ⟨g, 0, true⟩ :: s.rs.map fun r => ⟨g, r, false⟩
def lastA (s : Set) (g : Int) : Adv := ⟨g, gr s.rs (s.rs.length - 1), false⟩
theorem lst_len (s : Set) (g : Int) : (lstL s g).length = s.rs.length + 1 := by simp [lstL]
theorem lst_zero (s : Set) (g : Int) : ga (lstL s g) 0 = ⟨g, 0, true⟩ := rfl
theorem lst_succ (s : Set) (g : Int) (k : Nat) (hk : k < s.rs.length) : ga (lstL s g) (k + 1) = ⟨g, gr s.rs k, false⟩ := by
  unfold ga lstL gr
  simp [hk]
theorem lst_last (s : Set) (g : Int) (h : 0 < s.rs.length) : ga (lstL s g) s.rs.length = lastA s g := by
  have := lst_succ s g (s.rs.length - 1) (by omega)
  rw [show s.rs.length - 1 + 1 = s.rs.length by omega] at this
  exact this
/-- The advisories of a list of a good setting have no error. -/
theorem lst_ok {s : Set} {g : Int} (h : AscTo s.rs s.rs.length) (hg : g = 1 ∨ g = 2) (k : Nat) (hk : k ≤ s.rs.length) : bndE (ga (lstL s g) k) = 0 := by
  cases k with
  | zero => rw [lst_zero]; rcases hg with rfl | rfl <;> decide
  | succ k =>
    rw [lst_succ s g k (by omega)]
    have := asc_pos h k (by omega)
    unfold bndE advLeast
    rw [if_neg (by show ¬ 2 < g; omega), if_neg (by simp; omega)]
/-- The enough advisory: the first of the list, from k on, whose separation is alim at least; else the last one. -/
def enF (s : Set) (z v z' v' : Int) (g t : Int) : Nat → Adv → List Adv → Adv
  | _, last, [] => last
  | k, _, a :: l => if s.alim ≤ sepV s z v z' v' a t then a else enF s z v z' v' g t (k + 1) a l
def enA (s : Set) (z v z' v' g t : Int) : Adv := enF s z v z' v' g t 0 adv0 (lstL s g)
def bestV (s : Set) (z v z' v' g t : Int) : Int := sepV s z v z' v' (lastA s g) t
def alwB (z floor k g : Int) : Bool := g != k && (g == 1 || decide (floor ≤ z))
/-- The better allowed sense, 0 if there is none. -/
def chG (s : Set) (z v z' v' t floor k : Int) : Int :=
  if alwB z floor k 2 = true ∧ (alwB z floor k 1 = false ∨ bestV s z v z' v' 1 t < bestV s z v z' v' 2 t) then 2 else if alwB z floor k 1 = true then 1 else 0
def chA (s : Set) (z v z' v' t floor k : Int) : Adv := if chG s z v z' v' t floor k = 0 then adv0 else enA s z v z' v' (chG s z v z' v' t floor k) t
def chE (s : Set) (z v z' v' t floor k : Int) : Int := if whlE s z v z' v' t k ≠ 0 then whlE s z v z' v' t k else if chG s z v z' v' t floor k = 0 then 9 else 0
def chR (s : Set) (z v z' v' t floor k : Int) : Adv := if chE s z v z' v' t floor k = 0 then chA s z v z' v' t floor k else adv0
end RulesMath
