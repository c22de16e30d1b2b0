/-
  Layer 19 (assign): dual numbers exist; the turned matrix. No program in sight.
-/
import Derived.Test.YtbehpkggmomgeaaAsgMathD
namespace AsgMath

theorem V_dual {c : Nat → Nat → Int} {n m r : Nat} {T : Nat → Bool} {row y z : Nat → Int} (hr : r ≤ n) (hM : Mat c n m (n - r) T row) (hy : ∀ i, 0 ≤ y i)
    (ht : ∀ (i k : Nat), k < m → row k = (i : Int) → 1073741824 - c i k = y i + z k)
    (hy0 : ∀ i, n - r ≤ i → i < n → y i = 0 ∨ ∃ k, k < m ∧ row k = (i : Int))
    (hz0 : ∀ k, k < m → row k < 0 → T k = false → z k = 0) : sumN (fun j => y (n - 1 - j)) r + sumN (fun k => if T k then 0 else z k) m ≤ V c n m r T := by
  have h0 := V_ge r T row hr hM
  have h2 := rows_sum hy r hr hy0
  have h3 : val c m row = sumN (fun k => if row k < ((n - r : Nat) : Int) then 0 else y (row k).toNat) m + sumN (fun k => if T k then 0 else z k) m := by
    rw [← sumN_add]
    refine sumN_congr (fun k hk => ?_)
    rcases hM.rng k hk with e | ⟨i, e, q1, q2, q3, q4⟩
    · rw [if_pos (by omega), if_pos (by omega)]
      cases hT : T k with
      | true => rfl
      | false => rw [if_neg (by decide), hz0 k hk (by omega) hT]; rfl
    · rw [if_neg (by omega), if_neg (by omega), if_neg (by rw [q3]; decide), e]
      exact ht i k hk e
  omega
section
variable {c : Nat → Nat → Int} {n m fr : Nat} {T : Nat → Bool} {row a b : Nat → Int} {β : Int} {dist by' : Nat → Int}
/-- The dual numbers behind the last search. -/
theorem none_dual {r : Nat} (hr : r ≤ n) (hm : m ≤ 16) (hcost : ∀ i k, i < n → k < m → c i k ≤ 1048576) (hM : Mat c n m (n - r) T row) (hP : Pot c n m (n - r) T row a b β) (hD : DInv c n m (n - r) T row b dist by') (hF : Fixed c n m (n - r) T row dist) (hno : ∀ k, k < m → row k < 0 → T k = false → 1099511627776 ≤ dist k) :
    ∃ y z : Nat → Int, (∀ i, 0 ≤ y i) ∧ (∀ k, 0 ≤ z k) ∧ (∀ i k, n - r ≤ i → i < n → k < m → 0 ≤ c i k → T k = false → 1073741824 - c i k ≤ y i + z k) ∧ sumN (fun j => y (n - 1 - j)) r + sumN (fun k => if T k then 0 else z k) m ≤ V c n m r T := by
  have hδ : 0 ≤ 1073741824 - β := by have := hP.hi; omega
  have hfin := of_fin hm hM hP hD
  refine ⟨newA c m row dist a (1073741824 - β), fun k => max 0 (1073741824 - newB dist b (1073741824 - β) k), newA_nonneg hM hP hD hδ, fun k => (by omega : (0 : Int) ≤ max 0 (1073741824 - newB dist b (1073741824 - β) k)), fun i k h1 h2 hk hc hT => ?_, V_dual hr hM (newA_nonneg hM hP hD hδ) (fun i k hk hk' => ?_) (fun i h1 h2 => ?_) (fun k hk hk' hT => ?_)⟩
  · have := new_feas (δ := 1073741824 - β) hM hP hF h1 h2 hk hT hc (hcost i k h2 hk) hfin
    show 1073741824 - c i k ≤ newA c m row dist a (1073741824 - β) i + max 0 (1073741824 - newB dist b (1073741824 - β) k)
    omega
  · have h1 := new_tight (dist := dist) (δ := 1073741824 - β) hM hP hk hk'
    have h2 := hP.bmat k hk (by omega)
    have h3 := newB_le (dist := dist) (b := b) (δ := 1073741824 - β) (k := k)
    omega
  · by_cases hex : ∃ k, k < m ∧ row k = (i : Int)
    · exact Or.inr hex
    · have hrow : ∀ x, x < m → row x ≠ (i : Int) := fun x hx hx' => hex ⟨x, hx, hx'⟩
      left
      have h0 := hP.afree i h1 h2 hrow
      unfold newA
      rw [ofV_free hrow, h0, if_pos (by omega)]
      omega
  · have h1 := hno k hk hk' hT
    have h2 := hP.bfree k hk hk' hT
    have : newB dist b (1073741824 - β) k = 1073741824 - β + b k := by unfold newB; rw [if_neg (by omega)]
    omega
theorem fixed_exists (hm : m ≤ 16) (hcost : ∀ i k, i < n → k < m → c i k ≤ 1048576) (hM : Mat c n m fr T row) (hP : Pot c n m fr T row a b β) : ∀ (N : Nat) (dist by' : Nat → Int), DInv c n m fr T row b dist by' → sumN dist m ≤ N → ∃ dist by', DInv c n m fr T row b dist by' ∧ Fixed c n m fr T row dist := by
  intro N
  induction N with
  | zero =>
    intro dist by' hD hs
    refine ⟨dist, by', hD, fun i k h1 h2 hk hT hc hr hf => Classical.byContradiction (fun q => ?_)⟩
    have hd := hD.relax hm hcost hM hP h1 h2 hk hT hc hr hf (by omega)
    have h3 := sumN_upd (f := dist) (g := upd dist k (ofV c m row dist i + c i k)) (m := m) (k := k) hk (fun j _ hne => (upd_ne hne).symm)
    rw [upd_at] at h3
    have h4 := sumN_nonneg (f := upd dist k (ofV c m row dist i + c i k)) (m := m) (fun j hj => (hd.ge0 hj).1)
    omega
  | succ N ih =>
    intro dist by' hD hs
    by_cases hF : Fixed c n m fr T row dist
    · exact ⟨dist, by', hD, hF⟩
    · have hex : ∃ i k, fr ≤ i ∧ i < n ∧ k < m ∧ T k = false ∧ 0 ≤ c i k ∧ row k ≠ (i : Int) ∧ ofV c m row dist i < 1099511627776 ∧ ofV c m row dist i + c i k < dist k :=
        Classical.byContradiction (fun q => hF (fun i k h1 h2 hk hT hc hr hf => Classical.byContradiction (fun z => q ⟨i, k, h1, h2, hk, hT, hc, hr, hf, by omega⟩)))
      obtain ⟨i, k, h1, h2, hk, hT, hc, hr, hf, hlt⟩ := hex
      have hd := hD.relax hm hcost hM hP h1 h2 hk hT hc hr hf hlt
      have h3 := sumN_upd (f := dist) (g := upd dist k (ofV c m row dist i + c i k)) (m := m) (k := k) hk (fun j _ hne => (upd_ne hne).symm)
      rw [upd_at] at h3
      exact ih _ _ hd (by omega)
/-- A way, changed to its end. -/
theorem flip_end {e : Nat} (hF : Found c n m fr T row a b β dist by' e) : ∀ (d : Nat) (cur : Nat → Int) (k : Nat), Flip c n m fr T row a b β dist by' e cur k d → ∃ row', Mat c n m fr T row' ∧ (∃ a' b', Pot c n m fr T row' a' b' (dist e)) ∧ ∀ j, j < m → (0 ≤ row' j ↔ (0 ≤ row j ∨ j = e)) := by
  intro d
  induction d with
  | zero =>
    intro cur k h
    have hno : ∀ j, j < m → cur j ≠ by' k := fun j hj hc => by
      obtain ⟨-, d', hd, -⟩ := h.next hF hj hc
      omega
    exact ⟨_, h.last hF hno⟩
  | succ d ih =>
    intro cur k h
    by_cases hex : ∃ j, j < m ∧ cur j = by' k
    · obtain ⟨j, hj, hc⟩ := hex
      obtain ⟨-, d', hd, h2⟩ := h.next hF hj hc
      have : d' = d := by omega
      subst this
      exact ih _ _ h2
    · exact ⟨_, h.last hF (fun j hj hc => hex ⟨j, hj, hc⟩)⟩
end
/-- The least of some numbers. -/
theorem least_at {p : Nat → Prop} {f : Nat → Int} : ∀ (m : Nat), (∃ k, k < m ∧ p k) → ∃ e, e < m ∧ p e ∧ ∀ k, k < m → p k → f e ≤ f k
  | 0, ⟨k, hk, _⟩ => absurd hk (Nat.not_lt_zero _)
  | m + 1, ⟨k, hk, hp⟩ => by
    by_cases hex : ∃ k, k < m ∧ p k
    · obtain ⟨e, h1, h2, h3⟩ := least_at (f := f) m hex
      by_cases hm : p m ∧ f m < f e
      · exact ⟨m, by omega, hm.1, fun j hj hpj => by
          by_cases q : j = m
          · subst q; exact Int.le_refl _
          · have := h3 j (by omega) hpj; omega⟩
      · exact ⟨e, by omega, h2, fun j hj hpj => by
          by_cases q : j = m
          · subst q
            rcases Int.lt_or_le (f j) (f e) with z | z
            · exact absurd ⟨hpj, z⟩ hm
            · exact z
          · exact h3 j (by omega) hpj⟩
    · have : k = m := by
        rcases Nat.lt_or_ge k m with q | q
        · exact absurd ⟨k, q, hp⟩ hex
        · omega
      subst this
      exact ⟨k, by omega, hp, fun j hj hpj => by
        by_cases q : j = k
        · subst q; exact Int.le_refl _
        · exact absurd ⟨j, by omega, hpj⟩ hex⟩
/-- Dual numbers exist. -/
theorem dual_exists {c : Nat → Nat → Int} {n m r : Nat} {T : Nat → Bool} (hr : r ≤ n) (hm : m ≤ 16) (hcost : ∀ i k, i < n → k < m → c i k ≤ 1048576) : ∀ (N : Nat) (row a b : Nat → Int) (β : Int), Mat c n m (n - r) T row → Pot c n m (n - r) T row a b β → (m : Int) - prs m row ≤ N →
    ∃ y z : Nat → Int, (∀ i, 0 ≤ y i) ∧ (∀ k, 0 ≤ z k) ∧ (∀ i k, n - r ≤ i → i < n → k < m → 0 ≤ c i k → T k = false → 1073741824 - c i k ≤ y i + z k) ∧ sumN (fun j => y (n - 1 - j)) r + sumN (fun k => if T k then 0 else z k) m ≤ V c n m r T := by
  intro N
  induction N with
  | zero =>
    intro row a b β hM hP hN
    obtain ⟨dist, by', hD, hF⟩ := fixed_exists hm hcost hM hP (sumN (fun _ => 1099511627776) m).toNat (fun _ => 1099511627776) (fun _ => 0) (DInv.start (fun _ _ => rfl)) (by
      have := sumN_nonneg (f := fun _ => (1099511627776 : Int)) (m := m) (fun _ _ => by decide)
      omega)
    refine none_dual hr hm hcost hM hP hD hF (fun k hk hk' hT => Classical.byContradiction (fun q => ?_))
    obtain ⟨e, h1, ⟨h2, h3, h4⟩, h5⟩ := least_at (p := fun k => row k < 0 ∧ T k = false ∧ dist k < 1099511627776) (f := dist) m ⟨k, hk, hk', hT, by omega⟩
    have hre : row e = -1 := by
      rcases hM.rng e h1 with z | ⟨i, z, _⟩
      · exact z
      · omega
    have hFd : Found c n m (n - r) T row a b β dist by' e := ⟨hM, hP, hD, hF, h1, hre, h4, fun j hj hj' hTj => by
      by_cases z : dist j < 1099511627776
      · exact h5 j hj ⟨hj', hTj, z⟩
      · omega, hm, hcost⟩
    obtain ⟨d, hfl⟩ := hFd.flip
    obtain ⟨row', g1, g2, g3⟩ := flip_end hFd d row e hfl
    have := prs_more h1 hre g3
    have := prs_bound (row := row') m
    omega
  | succ N ih =>
    intro row a b β hM hP hN
    obtain ⟨dist, by', hD, hF⟩ := fixed_exists hm hcost hM hP (sumN (fun _ => 1099511627776) m).toNat (fun _ => 1099511627776) (fun _ => 0) (DInv.start (fun _ _ => rfl)) (by
      have := sumN_nonneg (f := fun _ => (1099511627776 : Int)) (m := m) (fun _ _ => by decide)
      omega)
    by_cases hex : ∃ k, k < m ∧ (row k < 0 ∧ T k = false ∧ dist k < 1099511627776)
    · obtain ⟨e, h1, ⟨h2, h3, h4⟩, h5⟩ := least_at (p := fun k => row k < 0 ∧ T k = false ∧ dist k < 1099511627776) (f := dist) m hex
      have hre : row e = -1 := by
        rcases hM.rng e h1 with z | ⟨i, z, _⟩
        · exact z
        · omega
      have hFd : Found c n m (n - r) T row a b β dist by' e := ⟨hM, hP, hD, hF, h1, hre, h4, fun j hj hj' hTj => by
        by_cases z : dist j < 1099511627776
        · exact h5 j hj ⟨hj', hTj, z⟩
        · omega, hm, hcost⟩
      obtain ⟨d, hfl⟩ := hFd.flip
      obtain ⟨row', g1, ⟨a', b', g2⟩, g3⟩ := flip_end hFd d row e hfl
      have := prs_more h1 hre g3
      exact ih row' a' b' _ g1 g2 (by omega)
    · exact none_dual hr hm hcost hM hP hD hF (fun k hk hk' hT => Classical.byContradiction (fun q => hex ⟨k, hk, hk', hT, by omega⟩))
theorem sumN_rev {y : Nat → Int} : ∀ (n : Nat), sumN (fun j => y (n - 1 - j)) n = sumN y n
  | 0 => rfl
  | n + 1 => by
    have h : ∀ (k : Nat) (f : Nat → Int), sumN f (k + 1) = f 0 + sumN (fun j => f (j + 1)) k := by
      intro k
      induction k with
      | zero => intro f; simp [sumN]
      | succ k ih =>
        intro f
        have := ih f
        simp only [sumN] at this ⊢
        omega
    rw [h n]
    have e : sumN (fun j => y (n + 1 - 1 - (j + 1))) n = sumN (fun j => y (n - 1 - j)) n := sumN_congr (fun j hj => by congr 1; omega)
    rw [e, sumN_rev n]
    simp only [sumN]
    have : n + 1 - 1 - 0 = n := by omega
    rw [this]
    omega
/-- The turned matrix is worth no more. -/
theorem V_turn {c : Nat → Nat → Int} {n m : Nat} (hm : m ≤ 16) (hcost : ∀ i k, i < n → k < m → c i k ≤ 1048576) : V (fun k i => c i k) m n m (fun _ => false) ≤ V c n m n (fun _ => false) := by
  obtain ⟨y, z, hy, hz, hf, hs⟩ := dual_exists (T := fun _ => false) (Nat.le_refl n) hm hcost m (fun _ => -1) (fun _ => 0) (fun _ => 0) 0 Mat.start Pot.start (by have := prs_bound (row := fun _ => -1) m; omega)
  have h := V_le (c := fun k i => c i k) (n := m) (m := n) hz hy m (fun _ => false) (Nat.le_refl m) (fun k i _ hk hi h0 _ => by
    have := hf i k (by omega) hi hk h0 rfl
    show 1073741824 - c i k ≤ z k + y i
    omega)
  rw [sumN_rev] at h hs
  have e1 : ∀ (f : Nat → Int) (k : Nat), sumN (fun k => if (fun _ => false) k = true then 0 else f k) k = sumN f k := fun f k => sumN_congr (fun j _ => if_neg Bool.false_ne_true)
  rw [e1] at h hs
  omega
end AsgMath
