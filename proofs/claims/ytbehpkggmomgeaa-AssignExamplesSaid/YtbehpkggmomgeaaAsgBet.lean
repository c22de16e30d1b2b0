/-
  Layer 19 (assign): which assignment is better. No program in sight.
-/
import Derived.Test.YtbehpkggmomgeaaAsgCos
namespace AsgRows

def cmpI (x y : Int) : Int := if x < y then -1 else if y < x then 1 else 0
def orI (x y : Int) : Int := if x ≠ 0 then x else y
theorem cmpI_lt {x y : Int} (h : x < y) : cmpI x y = -1 := if_pos h
theorem cmpI_gt {x y : Int} (h : y < x) : cmpI x y = 1 := by unfold cmpI; rw [if_neg (by omega), if_pos h]
theorem cmpI_eq {x : Int} : cmpI x x = 0 := by unfold cmpI; rw [if_neg (by omega), if_neg (by omega)]
/-- The order of two pairs. -/
def ordP (ps qs : List (Int × Int)) (i : Nat) : Int := orI (cmpI (pA ps i) (pA qs i)) (cmpI (pB ps i) (pB qs i))
def sameAt (ps qs : List (Int × Int)) (i : Nat) : Prop := pA ps i = pA qs i ∧ pB ps i = pB qs i
def lxB : List (Int × Int) → List (Int × Int) → Bool
  | p :: ps, q :: qs => if p = q then lxB ps qs else decide (p.1 < q.1) || (decide (p.1 = q.1) && decide (p.2 < q.2))
  | _, _ => false
theorem lxB_same : ∀ (ps : List (Int × Int)), lxB ps ps = false
  | [] => rfl
  | p :: ps => by simp only [lxB, if_true]; exact lxB_same ps
theorem lxB_at : ∀ (ps qs : List (Int × Int)) (i : Nat), i < ps.length → i < qs.length → (∀ j, j < i → sameAt ps qs j) → ¬ sameAt ps qs i →
    lxB ps qs = (decide (pA ps i < pA qs i) || (decide (pA ps i = pA qs i) && decide (pB ps i < pB qs i)))
  | [], _, i, h, _, _, _ => absurd h (Nat.not_lt_zero _)
  | _ :: _, [], i, _, h, _, _ => absurd h (Nat.not_lt_zero _)
  | p :: ps, q :: qs, 0, _, _, _, hn => by
    have hne : p ≠ q := fun e => hn (by subst e; exact ⟨rfl, rfl⟩)
    show (if p = q then _ else _) = _
    rw [if_neg hne]
    rfl
  | p :: ps, q :: qs, i + 1, h1, h2, hs, hn => by
    have h0 := hs 0 (by omega)
    have e : p = q := Prod.ext h0.1 h0.2
    subst e
    show (if p = p then _ else _) = _
    rw [if_pos rfl]
    exact lxB_at ps qs i (by simpa using h1) (by simpa using h2) (fun j hj => hs (j + 1) (by omega)) hn
theorem same_all {ps qs : List (Int × Int)} (hl : ps.length = qs.length) (h : ∀ j, j < ps.length → sameAt ps qs j) : ps = qs := by
  apply List.ext_getElem hl
  intro i h1 h2
  have := h i h1
  unfold sameAt pA pB at this
  rw [List.getElem?_eq_getElem h1, List.getElem?_eq_getElem h2] at this
  exact Prod.ext this.1 this.2
/-- The error and the answer of Better. -/
def btE (L : List (List Int)) (ps qs : List (Int × Int)) : Int := if coE L ps ≠ 0 then coE L ps else coE L qs
def btB (L : List (List Int)) (ps qs : List (Int × Int)) : Bool :=
  if btE L ps qs ≠ 0 then false else if ps.length ≠ qs.length then decide (qs.length < ps.length) else if coS L ps ≠ coS L qs then decide (coS L ps < coS L qs) else lxB ps qs
theorem bt_err {L : List (List Int)} {ps qs : List (Int × Int)} {x : Int} (h : btE L ps qs = x) (hx : x ≠ 0) : btB L ps qs = false := by unfold btB; rw [if_pos (by rw [h]; exact hx)]
theorem bt_e1 {L : List (List Int)} {ps qs : List (Int × Int)} (h : coE L ps ≠ 0) : btE L ps qs = coE L ps := if_pos h
theorem bt_e2 {L : List (List Int)} {ps qs : List (Int × Int)} (h : coE L ps = 0) : btE L ps qs = coE L qs := if_neg (fun q => q h)
theorem bt_len {L : List (List Int)} {ps qs : List (Int × Int)} (h : btE L ps qs = 0) (hl : ps.length ≠ qs.length) : btB L ps qs = decide (qs.length < ps.length) := by unfold btB; rw [if_neg (fun q => q h), if_pos hl]
theorem bt_cost {L : List (List Int)} {ps qs : List (Int × Int)} (h : btE L ps qs = 0) (hl : ps.length = qs.length) (hc : coS L ps ≠ coS L qs) : btB L ps qs = decide (coS L ps < coS L qs) := by unfold btB; rw [if_neg (fun q => q h), if_neg (fun q => q hl), if_pos hc]
theorem bt_lex {L : List (List Int)} {ps qs : List (Int × Int)} (h : btE L ps qs = 0) (hl : ps.length = qs.length) (hc : coS L ps = coS L qs) : btB L ps qs = lxB ps qs := by unfold btB; rw [if_neg (fun q => q h), if_neg (fun q => q hl), if_neg (fun q => q hc)]
theorem ordP_zero {ps qs : List (Int × Int)} {i : Nat} : ordP ps qs i = 0 ↔ sameAt ps qs i := by
  unfold ordP orI cmpI sameAt
  constructor
  · intro h
    repeat' split at h
    all_goals omega
  · rintro ⟨h1, h2⟩
    rw [h1, h2]
    repeat' split
    all_goals omega
theorem ordP_neg {ps qs : List (Int × Int)} {i : Nat} : decide (ordP ps qs i < 0) = (decide (pA ps i < pA qs i) || (decide (pA ps i = pA qs i) && decide (pB ps i < pB qs i))) := by
  unfold ordP orI cmpI
  by_cases h1 : pA ps i < pA qs i
  · rw [if_pos h1, if_pos (by decide)]; simp [h1]
  · by_cases h2 : pA qs i < pA ps i
    · rw [if_neg h1, if_pos h2, if_pos (by decide)]
      have : ¬ pA ps i = pA qs i := by omega
      simp [h1, this]
    · have e : pA ps i = pA qs i := by omega
      rw [if_neg h1, if_neg h2, if_neg (fun q => q rfl)]
      by_cases h3 : pB ps i < pB qs i
      · rw [if_pos h3]; simp [e, h3]
      · rw [if_neg h3]
        by_cases h4 : pB qs i < pB ps i
        · rw [if_pos h4]; simp [h1, h3]
        · rw [if_neg h4]; simp [h1, h3]
/-- Where the comparison stands. -/
structure Bo (L : List (List Int)) (ps qs : List (Int × Int)) (i : Nat) (o : Int) : Prop where
  z : o = 0 → ps.length = qs.length ∧ coS L ps = coS L qs ∧ ∀ j, j < i → sameAt ps qs j
  nz : o ≠ 0 → btB L ps qs = decide (o < 0)
  b : -1 ≤ o ∧ o ≤ 1
theorem cmpI_b {x y : Int} : -1 ≤ cmpI x y ∧ cmpI x y ≤ 1 := by
  unfold cmpI
  repeat' split
  all_goals omega
theorem orI_b {x y : Int} (hx : -1 ≤ x ∧ x ≤ 1) (hy : -1 ≤ y ∧ y ≤ 1) : -1 ≤ orI x y ∧ orI x y ≤ 1 := by
  unfold orI
  split <;> assumption
theorem cmpI_zero {x y : Int} (h : cmpI x y = 0) : x = y := by
  unfold cmpI at h
  repeat' split at h
  all_goals omega
theorem Bo.start {L : List (List Int)} {ps qs : List (Int × Int)} (h : btE L ps qs = 0) : Bo L ps qs 0 (orI (cmpI (qs.length : Int) (ps.length : Int)) (cmpI (coS L ps) (coS L qs))) := by
  refine ⟨fun h0 => ?_, fun h0 => ?_, orI_b cmpI_b cmpI_b⟩
  · unfold orI at h0
    split at h0
    · omega
    · rename_i hh
      have h1 := cmpI_zero (x := (qs.length : Int)) (y := (ps.length : Int)) (by omega)
      have h2 := cmpI_zero h0
      exact ⟨by omega, h2, fun j hj => by omega⟩
  · by_cases hl : ps.length = qs.length
    · have e : cmpI (qs.length : Int) (ps.length : Int) = 0 := by rw [hl]; exact cmpI_eq
      unfold orI at h0 ⊢
      rw [if_neg (fun q => q e)] at h0 ⊢
      have hc : coS L ps ≠ coS L qs := fun q => h0 (by rw [q]; exact cmpI_eq)
      rw [bt_cost h hl hc]
      unfold cmpI
      rcases Int.lt_or_lt_of_ne hc with q | q
      · rw [if_pos q]; simp [q]
      · rw [if_neg (by omega), if_pos q]
        have : ¬ coS L ps < coS L qs := by omega
        simp [this]
    · rw [bt_len h hl]
      unfold orI
      rcases Nat.lt_or_gt_of_ne hl with q | q
      · have e : cmpI (qs.length : Int) (ps.length : Int) = 1 := cmpI_gt (by omega)
        rw [e, if_pos (by decide)]
        have : ¬ qs.length < ps.length := by omega
        simp [this]
      · have e : cmpI (qs.length : Int) (ps.length : Int) = -1 := cmpI_lt (by omega)
        rw [e, if_pos (by decide)]
        simp [q]
theorem Bo.next {L : List (List Int)} {ps qs : List (Int × Int)} {i : Nat} (h : btE L ps qs = 0) (hb : Bo L ps qs i 0) (hi : i < ps.length) : Bo L ps qs (i + 1) (ordP ps qs i) := by
  obtain ⟨h1, h2, h3⟩ := hb.z rfl
  refine ⟨fun h0 => ⟨h1, h2, fun j hj => ?_⟩, fun h0 => ?_, orI_b cmpI_b cmpI_b⟩
  · by_cases e : j = i
    · subst e; exact ordP_zero.1 h0
    · exact h3 j (by omega)
  · rw [bt_lex h h1 h2, ordP_neg, lxB_at ps qs i hi (by omega) h3 (fun q => h0 (ordP_zero.2 q))]
theorem Bo.done {L : List (List Int)} {ps qs : List (Int × Int)} {i : Nat} {o : Int} (h : btE L ps qs = 0) (hb : Bo L ps qs i o) (hi : o ≠ 0 ∨ i = ps.length) : btB L ps qs = decide (o < 0) := by
  by_cases h0 : o = 0
  · subst h0
    obtain ⟨h1, h2, h3⟩ := hb.z rfl
    rcases hi with q | q
    · exact absurd rfl q
    · have : ps = qs := same_all h1 (fun j hj => h3 j (by omega))
      rw [bt_lex h h1 h2, this, lxB_same]
      rfl
  · exact hb.nz h0
end AsgRows
