/-
  Plain laws of layer 36 (plane): what Reach says of every path. No program in sight.
-/
import Derived.Test.YthaokofhepngbaaPlaneMathC
namespace PlaneMath

theorem rate_mono {dv v uv lo hi pull : Int} (h1 : dv ≤ v) (h2 : v ≤ uv) (hd : -100 ≤ dv) (hu : uv ≤ 100) (hb : bdB lo hi = true) (hp : 0 ≤ pull) :
    rate dv (-100) (-100) pull ≤ rate v lo hi pull ∧ rate v lo hi pull ≤ rate uv 100 100 pull := by
  obtain ⟨b1, b2, b3⟩ := bdB_iff.1 hb
  unfold rate
  constructor
  · split <;> split <;> (try split) <;> (try split) <;> omega
  · split <;> split <;> (try split) <;> (try split) <;> omega
theorem nxt_in {z v lo hi pull : Int} (h : nxtL z v = false) : inZ (z + v) = true ∧ nxtZ z v = z + v ∧ nxtV z v lo hi pull = rate v lo hi pull := by
  have hi' : inZ (z + v) = true := by
    unfold nxtL at h
    cases hz : inZ (z + v) with
    | true => rfl
    | false => rw [hz] at h; cases h
  refine ⟨hi', ?_, ?_⟩
  · unfold nxtZ; rw [hi']; rfl
  · unfold nxtV; rw [hi']; rfl
theorem in_nxt {z v lo hi pull : Int} (h : inZ (z + v) = true) : nxtZ z v = z + v ∧ nxtV z v lo hi pull = rate v lo hi pull := by
  constructor
  · unfold nxtZ; rw [h]; rfl
  · unfold nxtV; rw [h]; rfl
theorem itL_down {lo hi pull : Int} {k : Nat} {z v : Int} (h : itL lo hi pull (k + 1) z v = false) : itL lo hi pull k z v = false ∧ nxtL (itZ lo hi pull k z v) (itV lo hi pull k z v) = false := by
  rw [itL_succ] at h
  exact Bool.or_eq_false_iff.1 h
/-- Between the two bounds of Reach. -/
theorem between {pull : Int} (hp : 0 ≤ pull) {l : List (Int × Int)} {z v : Int} (hs : stB z v = true) (k : Nat) (hb : BdTo l k) (hd : itL (-100) (-100) pull k z v = false) (hu : itL 100 100 pull k z v = false) :
    itZ (-100) (-100) pull k z v ≤ (pst pull l k z v).1 ∧ (pst pull l k z v).1 ≤ itZ 100 100 pull k z v ∧ itV (-100) (-100) pull k z v ≤ (pst pull l k z v).2 ∧ (pst pull l k z v).2 ≤ itV 100 100 pull k z v := by
  induction k with
  | zero => exact ⟨Int.le_refl _, Int.le_refl _, Int.le_refl _, Int.le_refl _⟩
  | succ k ih =>
    obtain ⟨hd1, hd2⟩ := itL_down hd
    obtain ⟨hu1, hu2⟩ := itL_down hu
    obtain ⟨a1, a2, a3, a4⟩ := ih (fun i hi => hb i (by omega)) hd1 hu1
    obtain ⟨d1, d2, d3⟩ := nxt_in (lo := -100) (hi := -100) (pull := pull) hd2
    obtain ⟨u1, u2, u3⟩ := nxt_in (lo := 100) (hi := 100) (pull := pull) hu2
    have hdst := stB_iff.1 (it_st (pull := pull) (lo := -100) (hi := -100) (by decide) hp k hs)
    have hust := stB_iff.1 (it_st (pull := pull) (lo := 100) (hi := 100) (by decide) hp k hs)
    have hbk := hb k (by omega)
    have hin : inZ ((pst pull l k z v).1 + (pst pull l k z v).2) = true := by
      have x := inZ_iff.1 d1
      have y := inZ_iff.1 u1
      exact inZ_iff.2 (by omega)
    obtain ⟨c1, c2⟩ := in_nxt (lo := (l[k]?.getD (0, 0)).1) (hi := (l[k]?.getD (0, 0)).2) (pull := pull) hin
    obtain ⟨m1, m2⟩ := rate_mono a3 a4 (by omega) (by omega) hbk hp
    rw [pst_succ, itZ_succ, itZ_succ, itV_succ, itV_succ, d2, d3, u2, u3]
    show _ ≤ nxtZ _ _ ∧ nxtZ _ _ ≤ _ ∧ _ ≤ nxtV _ _ _ _ _ ∧ nxtV _ _ _ _ _ ≤ _
    rw [c1, c2]
    omega
theorem pst_rep {pull lo hi : Int} {n : Nat} {z v : Int} (k : Nat) (hk : k ≤ n) : pst pull (List.replicate n (lo, hi)) k z v = (itZ lo hi pull k z v, itV lo hi pull k z v) := by
  induction k with
  | zero => rfl
  | succ k ih =>
    rw [pst_succ, ih (by omega), itZ_succ, itV_succ, List.getElem?_replicate, if_pos (by omega)]
    rfl
theorem allBd_rep {lo hi : Int} (n : Nat) (h : bdB lo hi = true) : allBd (List.replicate n (lo, hi)) = true := by
  unfold allBd
  rw [List.all_eq_true]
  intro p hp
  rw [(List.mem_replicate.1 hp).2]
  exact h
theorem pthE_rep {z v pull lo hi : Int} {l : List (Int × Int)} (h : pthE z v pull l = 0) (hb : bdB lo hi = true) : pthE z v pull (List.replicate l.length (lo, hi)) = 0 := by
  obtain ⟨h1, h2, h3, h4, _⟩ := pth_ok h
  unfold pthE
  rw [if_neg (by rw [h1]; decide), if_neg (by omega), if_neg (by simpa using h4), allBd_rep _ hb]
  rfl
theorem rchE_cases {z v pull : Int} {n : Nat} : (rchE z v pull n = 0 ∧ rchB z v pull n = true ∧ itL (-100) (-100) pull n z v = false ∧ itL 100 100 pull n z v = false ∧ rchD z v pull n = itZ (-100) (-100) pull n z v ∧ rchU z v pull n = itZ 100 100 pull n z v) ∨
    (rchE z v pull n ≠ 0 ∧ rchD z v pull n = 0 ∧ rchU z v pull n = 0) := by
  cases hb : rchB z v pull n with
  | false => obtain ⟨a, b, c⟩ := rch_no hb; exact Or.inr ⟨by rw [c]; decide, a, b⟩
  | true =>
    cases hl : (itL (-100) (-100) pull n z v || itL 100 100 pull n z v) with
    | true => obtain ⟨a, b, c⟩ := rch_lim hb hl; exact Or.inr ⟨by rw [c]; decide, a, b⟩
    | false =>
      obtain ⟨a, b, c⟩ := rch_ok hb hl
      obtain ⟨x, y⟩ := Bool.or_eq_false_iff.1 hl
      exact Or.inl ⟨c, rfl, x, y, a, b⟩
end PlaneMath
