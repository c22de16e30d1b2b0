/-
  Layer 19 (assign): the search for a cheapest way, and the change along it. No program in sight.
-/
import Derived.Test.YtbehpkggmomgeaaAsgMath
namespace AsgMath

/-- The column of a row. -/
def colOf (m : Nat) (row : Nat → Int) (i : Int) : Option Nat := (List.range m).find? (fun k => decide (row k = i))
theorem colOf_some {m : Nat} {row : Nat → Int} {i : Int} {k : Nat} (h : colOf m row i = some k) : k < m ∧ row k = i := by
  unfold colOf at h
  have h1 := List.find?_some h
  have h2 := List.mem_of_find?_eq_some h
  exact ⟨List.mem_range.1 h2, by simpa using h1⟩
theorem colOf_none {m : Nat} {row : Nat → Int} {i : Int} (h : colOf m row i = none) {k : Nat} (hk : k < m) : row k ≠ i := by
  unfold colOf at h
  have := (List.find?_eq_none.1 h) k (List.mem_range.2 hk)
  simpa using this
/-- What it costs to reach a row. -/
def ofV (c : Nat → Nat → Int) (m : Nat) (row dist : Nat → Int) (i : Nat) : Int :=
  match colOf m row (i : Int) with
  | some k => if 1099511627776 ≤ dist k then 1099511627776 else dist k - c i k
  | none => 0
theorem ofV_free {c : Nat → Nat → Int} {m : Nat} {row dist : Nat → Int} {i : Nat} (h : ∀ k, k < m → row k ≠ (i : Int)) : ofV c m row dist i = 0 := by
  unfold ofV
  cases e : colOf m row (i : Int) with
  | none => rfl
  | some k => exact absurd (colOf_some e).2 (h k (colOf_some e).1)
theorem ofV_at {c : Nat → Nat → Int} {n m fr : Nat} {T : Nat → Bool} {row dist : Nat → Int} {i k : Nat} (hM : Mat c n m fr T row) (hk : k < m) (h : row k = (i : Int)) : ofV c m row dist i = if 1099511627776 ≤ dist k then 1099511627776 else dist k - c i k := by
  unfold ofV
  cases e : colOf m row (i : Int) with
  | none => exact absurd h (colOf_none e hk)
  | some j =>
    obtain ⟨h1, h2⟩ := colOf_some e
    have : j = k := hM.inj j k h1 hk (by rw [h2, h]) (by omega)
    subst this
    rfl
theorem ofV_congr {c : Nat → Nat → Int} {m : Nat} {row dist dist' : Nat → Int} {i : Nat} (h : ∀ k, k < m → row k = (i : Int) → dist' k = dist k) : ofV c m row dist' i = ofV c m row dist i := by
  unfold ofV
  cases e : colOf m row (i : Int) with
  | none => rfl
  | some k =>
    have := h k (colOf_some e).1 (colOf_some e).2
    simp only [this]

/-- Numbers that show that pairs are cheapest among as many. -/
structure Pot (c : Nat → Nat → Int) (n m fr : Nat) (T : Nat → Bool) (row a b : Nat → Int) (β : Int) : Prop where
  feas : ∀ i k, fr ≤ i → i < n → k < m → T k = false → 0 ≤ c i k → b k ≤ a i + c i k
  tight : ∀ (i k : Nat), k < m → row k = (i : Int) → b k = a i + c i k
  a0 : ∀ i, 0 ≤ a i
  afree : ∀ i, fr ≤ i → i < n → (∀ k, k < m → row k ≠ (i : Int)) → a i = 0
  bfree : ∀ k, k < m → row k < 0 → T k = false → β ≤ b k
  bmat : ∀ k, k < m → 0 ≤ row k → b k ≤ β
  lo : 0 ≤ β
  hi : β ≤ 16777216

inductive Dep (m : Nat) (row by' : Nat → Int) : Nat → Nat → Prop
  | root {k : Nat} (h : ∀ j, j < m → row j ≠ by' k) : Dep m row by' k 0
  | step {k j d : Nat} (hj : j < m) (e : row j = by' k) (h : Dep m row by' j d) : Dep m row by' k (d + 1)
def cnt (dist : Nat → Int) : Nat → Int := sumN (fun k => if dist k < 1099511627776 then 1 else 0)
theorem cnt_le {dist : Nat → Int} : ∀ (m : Nat), cnt dist m ≤ m
  | 0 => Int.le_refl _
  | m + 1 => by
    have := cnt_le (dist := dist) m
    unfold cnt at *
    simp only [sumN]
    split <;> omega
structure DInv (c : Nat → Nat → Int) (n m fr : Nat) (T : Nat → Bool) (row b dist by' : Nat → Int) : Prop where
  tk : ∀ k, k < m → dist k < 1099511627776 → T k = false
  lo : ∀ k, k < m → dist k < 1099511627776 → b k ≤ dist k ∧ 0 ≤ dist k
  le : ∀ k, k < m → dist k ≤ 1099511627776
  par : ∀ k, k < m → dist k < 1099511627776 → ∃ i : Nat, by' k = (i : Int) ∧ fr ≤ i ∧ i < n ∧ 0 ≤ c i k ∧ row k ≠ (i : Int) ∧ ofV c m row dist i < 1099511627776 ∧ ofV c m row dist i + c i k ≤ dist k
  chain : ∀ k, k < m → dist k < 1099511627776 → ∃ d, Dep m row by' k d
  bound : ∀ k, k < m → dist k < 1099511627776 → dist k ≤ cnt dist m * 1048576
theorem DInv.start {c : Nat → Nat → Int} {n m fr : Nat} {T : Nat → Bool} {row b dist by' : Nat → Int} (h : ∀ k, k < m → dist k = 1099511627776) : DInv c n m fr T row b dist by' :=
  ⟨fun k hk q => by rw [h k hk] at q; exact absurd q (by decide), fun k hk q => by rw [h k hk] at q; exact absurd q (by decide), fun k hk => by rw [h k hk]; exact Int.le_refl _, fun k hk q => by rw [h k hk] at q; exact absurd q (by decide), fun k hk q => by rw [h k hk] at q; exact absurd q (by decide), fun k hk q => by rw [h k hk] at q; exact absurd q (by decide)⟩
theorem DInv.ge0 {c : Nat → Nat → Int} {n m fr : Nat} {T : Nat → Bool} {row b dist by' : Nat → Int} (h : DInv c n m fr T row b dist by') {k : Nat} (hk : k < m) : 0 ≤ dist k ∧ dist k ≤ 1099511627776 := by
  have h1 := h.le k hk
  by_cases hf : dist k < 1099511627776
  · have := h.lo k hk hf; omega
  · omega

section
variable {c : Nat → Nat → Int} {n m fr : Nat} {T : Nat → Bool} {row a b : Nat → Int} {β : Int} {dist by' : Nat → Int}
theorem Pot.b0 (h : Pot c n m fr T row a b β) (hM : Mat c n m fr T row) {k : Nat} (hk : k < m) (hT : T k = false) : 0 ≤ b k := by
  rcases hM.rng k hk with e | ⟨i, e, h1, h2, h3, h4⟩
  · have := h.bfree k hk (by omega) hT
    have := h.lo
    omega
  · have := h.tight i k hk e
    have := h.a0 i
    omega
/-- The cost of a row, above its number. -/
theorem of_lo (hM : Mat c n m fr T row) (hP : Pot c n m fr T row a b β) (hD : DInv c n m fr T row b dist by') {i : Nat} (h1 : fr ≤ i) (h2 : i < n) (hf : ofV c m row dist i < 1099511627776) : a i ≤ ofV c m row dist i ∧ ofV c m row dist i ≤ cnt dist m * 1048576 := by
  have hc0 : 0 ≤ cnt dist m := sumN_nonneg (fun j _ => by split <;> omega)
  cases e : colOf m row (i : Int) with
  | none =>
    rw [ofV_free (fun k hk => colOf_none e hk), hP.afree i h1 h2 (fun k hk => colOf_none e hk)]
    omega
  | some k =>
    obtain ⟨hk, hr⟩ := colOf_some e
    have ho := ofV_at (dist := dist) hM hk hr
    rw [ho] at hf ⊢
    by_cases hd : 1099511627776 ≤ dist k
    · rw [if_pos hd] at hf; omega
    · rw [if_neg hd] at hf ⊢
      have := hD.lo k hk (by omega)
      have := hD.bound k hk (by omega)
      have := hP.tight i k hk hr
      rcases hM.rng k hk with e | ⟨i', e', q1, q2, q3, q4⟩
      · omega
      · have : i' = i := by omega
        subst this
        omega
theorem Dep.uniq (hM : Mat c n m fr T row) (hby : ∀ k, 0 ≤ by' k ∨ ∀ j, j < m → row j ≠ by' k) {k d : Nat} (h : Dep m row by' k d) : ∀ {d' : Nat}, Dep m row by' k d' → d = d' := by
  induction h with
  | root h0 =>
    intro d' h'
    cases h' with
    | root _ => rfl
    | step hj e _ => exact absurd e (h0 _ hj)
  | step hj e h ih =>
    intro d' h'
    cases h' with
    | root h0 => exact absurd e (h0 _ hj)
    | step hj' e' h' =>
      rename_i k j d j' d'
      have : j = j' := by
        rcases hby k with q | q
        · exact hM.inj _ _ hj hj' (by rw [e, e']) (by omega)
        · exact absurd e (q _ hj)
      subst this
      rw [ih h']
/-- One step of the search. -/
theorem DInv.relax (hm : m ≤ 16) (hcost : ∀ i k, i < n → k < m → c i k ≤ 1048576) (hM : Mat c n m fr T row) (hP : Pot c n m fr T row a b β) (hD : DInv c n m fr T row b dist by') {i k : Nat} (h1 : fr ≤ i) (h2 : i < n) (hk : k < m) (hT : T k = false) (hc : 0 ≤ c i k) (hr : row k ≠ (i : Int)) (hf : ofV c m row dist i < 1099511627776) (hlt : ofV c m row dist i + c i k < dist k) :
    DInv c n m fr T row b (upd dist k (ofV c m row dist i + c i k)) (upd by' k (i : Int)) := by
  have hlo := of_lo hM hP hD h1 h2 hf
  have hcl := hcost i k h2 hk
  have hle := hD.le k hk
  have hb := hP.feas i k h1 h2 hk hT hc
  have ha := hP.a0 i
  have hcm := cnt_le (dist := dist) m
  generalize hd : ofV c m row dist i = d at *
  -- the cost of the rows behind the step
  have hof : ∀ i', ofV c m row dist i' < 1099511627776 → ofV c m row (upd dist k (d + c i k)) i' ≤ ofV c m row dist i' ∧ ofV c m row (upd dist k (d + c i k)) i' < 1099511627776 := by
    intro i' hi'
    cases e : colOf m row (i' : Int) with
    | none =>
      rw [ofV_free (fun j hj => colOf_none e hj)] at hi' ⊢
      rw [ofV_free (fun j hj => colOf_none e hj)]
      omega
    | some j =>
      obtain ⟨hj, hrj⟩ := colOf_some e
      rw [ofV_at hM hj hrj] at hi' ⊢
      rw [ofV_at hM hj hrj]
      by_cases hjk : j = k
      · subst hjk
        rw [upd_at]
        have hnk : ¬ (1099511627776 ≤ dist j) := fun hh => by rw [if_pos hh] at hi'; omega
        have hci : 0 ≤ c i' j := by
          rcases hM.rng j hk with q | ⟨i2, q, _, _, _, q4⟩
          · omega
          · have : i2 = i' := by omega
            subst this
            exact q4
        rw [if_neg hnk] at hi' ⊢
        rw [if_neg (by omega)]
        omega
      · rw [upd_ne hjk]
        exact ⟨Int.le_refl _, hi'⟩
  have hcnt : cnt dist m ≤ cnt (upd dist k (d + c i k)) m ∧ (dist k = 1099511627776 → cnt dist m + 1 ≤ cnt (upd dist k (d + c i k)) m) := by
    refine ⟨sumN_le (fun j _ => ?_), fun he => sumN_bump (fun j _ => ?_) hk ?_⟩
    · by_cases hjk : j = k
      · subst hjk; rw [upd_at]; split <;> split <;> omega
      · rw [upd_ne hjk]; exact Int.le_refl _
    · by_cases hjk : j = k
      · subst hjk; rw [upd_at]; split <;> split <;> omega
      · rw [upd_ne hjk]; exact Int.le_refl _
    · rw [upd_at, if_neg (by omega), if_pos (by omega)]; decide
  refine ⟨fun j hj h => ?_, fun j hj h => ?_, fun j hj => ?_, fun j hj h => ?_, fun j hj h => ?_, fun j hj h => ?_⟩
  · by_cases hjk : j = k
    · subst hjk; exact hT
    · rw [upd_ne hjk] at h; exact hD.tk j hj h
  · by_cases hjk : j = k
    · subst hjk; rw [upd_at]; omega
    · rw [upd_ne hjk] at h ⊢; exact hD.lo j hj h
  · by_cases hjk : j = k
    · subst hjk; rw [upd_at]; omega
    · rw [upd_ne hjk]; exact hD.le j hj
  · by_cases hjk : j = k
    · subst hjk
      refine ⟨i, upd_at, h1, h2, hc, hr, ?_, ?_⟩
      · rw [ofV_congr (dist := dist) (fun j hj hrj => upd_ne (fun e => hr (by rw [← e]; exact hrj))), hd]; exact hf
      · rw [ofV_congr (dist := dist) (fun j hj hrj => upd_ne (fun e => hr (by rw [← e]; exact hrj))), hd, upd_at]; exact Int.le_refl _
    · rw [upd_ne hjk] at h ⊢
      obtain ⟨i', e, q1, q2, q3, q4, q5, q6⟩ := hD.par j hj h
      have := hof i' q5
      rw [upd_ne hjk]
      exact ⟨i', e, q1, q2, q3, q4, this.2, by omega⟩
  · -- no way leads back
    have low : ∀ j dd, Dep m row by' j dd → j < m → dist j < 1099511627776 → (dist k = 1099511627776 ∨ dist j - b j < dist k - b k) → Dep m row (upd by' k (i : Int)) j dd := by
      intro j dd hdep
      induction hdep with
      | @root j h0 =>
        intro hj hfin hr'
        have hjk : j ≠ k := fun e => by subst e; omega
        exact .root (by rw [upd_ne hjk]; exact h0)
      | @step j j' dd hj' e hdep ih =>
        intro hj hfin hr'
        have hjk : j ≠ k := fun e => by subst e; omega
        obtain ⟨i', e', q1, q2, q3, q4, q5, q6⟩ := hD.par j hj hfin
        have hri : row j' = (i' : Int) := by rw [e, e']
        have ho := ofV_at (dist := dist) hM hj' hri
        have ht := hP.tight i' j' hj' hri
        have hfe := hP.feas i' j q1 q2 hj (hD.tk j hj hfin) q3
        by_cases hd' : 1099511627776 ≤ dist j'
        · rw [if_pos hd'] at ho; omega
        · rw [if_neg hd'] at ho
          exact .step hj' (by rw [upd_ne hjk]; exact e) (ih hj' (by omega) (by omega))
    have hk' : ∃ dd, Dep m row (upd by' k (i : Int)) k dd := by
      cases e : colOf m row (i : Int) with
      | none => exact ⟨0, .root (fun j hj => by rw [upd_at]; exact colOf_none e hj)⟩
      | some j =>
        obtain ⟨hj, hrj⟩ := colOf_some e
        have ho := ofV_at (dist := dist) hM hj hrj
        rw [hd] at ho
        have ht := hP.tight i j hj hrj
        by_cases hd' : 1099511627776 ≤ dist j
        · rw [if_pos hd'] at ho; omega
        · rw [if_neg hd'] at ho
          obtain ⟨dd, hdd⟩ := hD.chain j hj (by omega)
          exact ⟨dd + 1, .step hj (by rw [upd_at]; exact hrj) (low j dd hdd hj (by omega) (by omega))⟩
    have all : ∀ j dd, Dep m row by' j dd → j < m → (dist j < 1099511627776 ∨ j = k) → ∃ d', Dep m row (upd by' k (i : Int)) j d' := by
      intro j dd hdep
      induction hdep with
      | @root j h0 =>
        intro hj hfin
        by_cases hjk : j = k
        · subst hjk; exact hk'
        · exact ⟨0, .root (by rw [upd_ne hjk]; exact h0)⟩
      | @step j j' dd hj' e hdep ih =>
        intro hj hfin
        by_cases hjk : j = k
        · subst hjk; exact hk'
        · obtain ⟨i', e', q1, q2, q3, q4, q5, q6⟩ := hD.par j hj (by rcases hfin with q | q; exact q; exact absurd q hjk)
          have hri : row j' = (i' : Int) := by rw [e, e']
          have ho := ofV_at (dist := dist) hM hj' hri
          by_cases hd' : 1099511627776 ≤ dist j'
          · rw [if_pos hd'] at ho; omega
          · obtain ⟨d', h'⟩ := ih hj' (Or.inl (by omega))
            exact ⟨d' + 1, .step hj' (by rw [upd_ne hjk]; exact e) h'⟩
    by_cases hjk : j = k
    · subst hjk; exact hk'
    · rw [upd_ne hjk] at h
      obtain ⟨dd, hdd⟩ := hD.chain j hj h
      exact all j dd hdd hj (Or.inl h)
  · by_cases hjk : j = k
    · subst hjk
      rw [upd_at]
      by_cases he : dist j = 1099511627776
      · have := hcnt.2 he; omega
      · have := hcnt.1
        have := hD.bound j hk (by omega)
        omega
    · rw [upd_ne hjk] at h ⊢
      have := hcnt.1
      have := hD.bound j hj h
      omega
end
end AsgMath
