/-
  Layer 19 (assign): the numbers behind a search, the change along the way, the last search. No program in sight.
-/
import Derived.Test.YtbehpkggmomgeaaAsgMathB
namespace AsgMath
section
variable {c : Nat → Nat → Int} {n m fr : Nat} {T : Nat → Bool} {row a b : Nat → Int} {β : Int} {dist by' : Nat → Int}

/-- No step of the search is left. -/
def Fixed (c : Nat → Nat → Int) (n m fr : Nat) (T : Nat → Bool) (row dist : Nat → Int) : Prop :=
  ∀ i k, fr ≤ i → i < n → k < m → T k = false → 0 ≤ c i k → row k ≠ (i : Int) → ofV c m row dist i < 1099511627776 → dist k ≤ ofV c m row dist i + c i k
/-- No step of the search is left from the rows below i. -/
def FixTo (c : Nat → Nat → Int) (m fr : Nat) (T : Nat → Bool) (row dist : Nat → Int) (i : Nat) : Prop :=
  ∀ i' k, fr ≤ i' → i' < i → k < m → T k = false → 0 ≤ c i' k → row k ≠ (i' : Int) → ofV c m row dist i' < 1099511627776 → dist k ≤ ofV c m row dist i' + c i' k
/-- The same of row i, below column k. -/
def FixRow (c : Nat → Nat → Int) (m : Nat) (T : Nat → Bool) (row dist : Nat → Int) (i k : Nat) : Prop :=
  ∀ j, j < k → T j = false → 0 ≤ c i j → row j ≠ (i : Int) → ofV c m row dist i < 1099511627776 → dist j ≤ ofV c m row dist i + c i j
theorem FixTo.start : FixTo c m fr T row dist fr := fun i' _ h1 h2 => by omega
theorem FixRow.start {i : Nat} : FixRow c m T row dist i 0 := fun j hj => by omega
theorem FixRow.step {i k : Nat} (h : FixRow c m T row dist i k) (hk : T k = false → 0 ≤ c i k → row k ≠ (i : Int) → ofV c m row dist i < 1099511627776 → dist k ≤ ofV c m row dist i + c i k) : FixRow c m T row dist i (k + 1) := fun j hj => by
  by_cases e : j = k
  · subst e; exact hk
  · exact h j (by omega)
theorem FixTo.step {i : Nat} (h : FixTo c m fr T row dist i) (hr : FixRow c m T row dist i m) : FixTo c m fr T row dist (i + 1) := fun i' k h1 h2 hk => by
  by_cases e : i' = i
  · subst e; exact hr k hk
  · exact h i' k h1 (by omega) hk
theorem FixTo.all (h : FixTo c m fr T row dist n) : Fixed c n m fr T row dist := h
/-- What a round of the search holds, with its mark of a change. -/
structure Rnd (c : Nat → Nat → Int) (n m fr : Nat) (T : Nat → Bool) (row b : Nat → Int) (s0 : Int) (dist by' : Nat → Int) (ch : Bool) (i k : Nat) : Prop where
  D : DInv c n m fr T row b dist by'
  no : ch = false → sumN dist m = s0 ∧ FixTo c m fr T row dist i ∧ FixRow c m T row dist i k
  yes : ch = true → sumN dist m < s0
theorem Rnd.next {s0 : Int} {ch : Bool} {i : Nat} (h : Rnd c n m fr T row b s0 dist by' ch i m) : Rnd c n m fr T row b s0 dist by' ch (i + 1) 0 :=
  ⟨h.D, fun e => ⟨(h.no e).1, (h.no e).2.1.step (h.no e).2.2, .start⟩, h.yes⟩
/-- A row that is not reached. -/
theorem Rnd.skip {s0 : Int} {ch : Bool} {i : Nat} (h : Rnd c n m fr T row b s0 dist by' ch i 0) (hf : 1099511627776 ≤ ofV c m row dist i) : Rnd c n m fr T row b s0 dist by' ch (i + 1) 0 :=
  ⟨h.D, fun e => ⟨(h.no e).1, (h.no e).2.1.step (fun j _ _ _ _ q => by omega), .start⟩, h.yes⟩
/-- A column that is left as it is. -/
theorem Rnd.pass {s0 : Int} {ch : Bool} {i k : Nat} (h : Rnd c n m fr T row b s0 dist by' ch i k) (hk : T k = false → 0 ≤ c i k → row k ≠ (i : Int) → ¬ ofV c m row dist i + c i k < dist k) : Rnd c n m fr T row b s0 dist by' ch i (k + 1) :=
  ⟨h.D, fun e => ⟨(h.no e).1, (h.no e).2.1, (h.no e).2.2.step (fun q1 q2 q3 _ => by have := hk q1 q2 q3; omega)⟩, h.yes⟩
/-- A column that is reached at less. -/
theorem Rnd.hit (hm : m ≤ 16) (hcost : ∀ i k, i < n → k < m → c i k ≤ 1048576) (hM : Mat c n m fr T row) (hP : Pot c n m fr T row a b β) {s0 : Int} {ch : Bool} {i k : Nat} (h : Rnd c n m fr T row b s0 dist by' ch i k) (h1 : fr ≤ i) (h2 : i < n) (hk : k < m) (hT : T k = false) (hc : 0 ≤ c i k) (hr : row k ≠ (i : Int)) (hf : ofV c m row dist i < 1099511627776) (hlt : ofV c m row dist i + c i k < dist k) :
    Rnd c n m fr T row b s0 (upd dist k (ofV c m row dist i + c i k)) (upd by' k (i : Int)) true i (k + 1) ∧ ofV c m row (upd dist k (ofV c m row dist i + c i k)) i = ofV c m row dist i := by
  have hs := sumN_upd (f := dist) (g := upd dist k (ofV c m row dist i + c i k)) (m := m) (k := k) hk (fun j _ hne => (upd_ne hne).symm)
  rw [upd_at] at hs
  refine ⟨⟨h.D.relax hm hcost hM hP h1 h2 hk hT hc hr hf hlt, fun e => absurd e (by decide), fun _ => ?_⟩, ofV_congr (fun j hj hrj => upd_ne (fun e => hr (by rw [← e]; exact hrj)))⟩
  cases ch with
  | false => have := (h.no rfl).1; omega
  | true => have := h.yes rfl; omega
def newA (c : Nat → Nat → Int) (m : Nat) (row dist a : Nat → Int) (δ : Int) (i : Nat) : Int := if ofV c m row dist i < 1099511627776 then min (ofV c m row dist i) (δ + a i) else δ + a i
def newB (dist b : Nat → Int) (δ : Int) (k : Nat) : Int := if dist k < 1099511627776 then min (dist k) (δ + b k) else δ + b k
theorem newB_le {δ : Int} {k : Nat} : newB dist b δ k ≤ δ + b k := by unfold newB; split <;> omega
theorem newA_le {δ : Int} {i : Nat} : newA c m row dist a δ i ≤ δ + a i := by unfold newA; split <;> omega
theorem row_edge (hM : Mat c n m fr T row) {i k : Nat} (hk : k < m) (h : row k = (i : Int)) : fr ≤ i ∧ i < n ∧ T k = false ∧ 0 ≤ c i k := by
  rcases hM.rng k hk with e | ⟨i', e, h1⟩
  · omega
  · have : i' = i := by omega
    subst this
    exact h1
/-- A row's cost, by cases. -/
theorem of_cases (hM : Mat c n m fr T row) {i : Nat} : ((∀ k, k < m → row k ≠ (i : Int)) ∧ ofV c m row dist i = 0) ∨ ∃ k, k < m ∧ row k = (i : Int) ∧ fr ≤ i ∧ i < n ∧ T k = false ∧ 0 ≤ c i k ∧ ((1099511627776 ≤ dist k ∧ ofV c m row dist i = 1099511627776) ∨ (dist k < 1099511627776 ∧ ofV c m row dist i = dist k - c i k)) := by
  cases e : colOf m row (i : Int) with
  | none => exact Or.inl ⟨fun k hk => colOf_none e hk, ofV_free (fun k hk => colOf_none e hk)⟩
  | some k =>
    obtain ⟨hk, hr⟩ := colOf_some e
    obtain ⟨h1, h2, h3, h4⟩ := row_edge hM hk hr
    refine Or.inr ⟨k, hk, hr, h1, h2, h3, h4, ?_⟩
    have ho := ofV_at (dist := dist) hM hk hr
    by_cases hd : 1099511627776 ≤ dist k
    · rw [if_pos hd] at ho; exact Or.inl ⟨hd, ho⟩
    · rw [if_neg hd] at ho; exact Or.inr ⟨by omega, ho⟩
theorem newA_nonneg (hM : Mat c n m fr T row) (hP : Pot c n m fr T row a b β) (hD : DInv c n m fr T row b dist by') {δ : Int} (hδ : 0 ≤ δ) (i : Nat) : 0 ≤ newA c m row dist a δ i := by
  have := hP.a0 i
  unfold newA
  rcases of_cases (dist := dist) hM (i := i) with ⟨-, e⟩ | ⟨k, hk, hr, h1, h2, h3, h4, ⟨hd, e⟩ | ⟨hd, e⟩⟩
  · rw [e]; split <;> omega
  · rw [e]; split <;> omega
  · rw [e]
    have := hP.tight i k hk hr
    have := hD.lo k hk hd
    split <;> omega
theorem new_feas (hM : Mat c n m fr T row) (hP : Pot c n m fr T row a b β) (hF : Fixed c n m fr T row dist) {δ : Int} {i k : Nat} (h1 : fr ≤ i) (h2 : i < n) (hk : k < m) (hT : T k = false) (hc : 0 ≤ c i k) (hcl : c i k ≤ 1048576)
    (hfin : ∀ i, fr ≤ i → i < n → ofV c m row dist i < 1099511627776 → ofV c m row dist i ≤ 16777216) :
    newB dist b δ k ≤ newA c m row dist a δ i + c i k := by
  have h3 := hP.feas i k h1 h2 hk hT hc
  have h4 := newB_le (dist := dist) (b := b) (δ := δ) (k := k)
  unfold newA
  by_cases hf : ofV c m row dist i < 1099511627776
  · rw [if_pos hf]
    have h5 := hfin i h1 h2 hf
    have h6 : dist k ≤ ofV c m row dist i + c i k := by
      by_cases hr : row k = (i : Int)
      · have ho := ofV_at (dist := dist) hM hk hr
        by_cases hd : 1099511627776 ≤ dist k
        · rw [if_pos hd] at ho; omega
        · rw [if_neg hd] at ho; omega
      · exact hF i k h1 h2 hk hT hc hr hf
    have h7 : newB dist b δ k ≤ dist k := by unfold newB; rw [if_pos (by omega)]; omega
    omega
  · rw [if_neg hf]; omega
theorem new_tight (hM : Mat c n m fr T row) (hP : Pot c n m fr T row a b β) {δ : Int} {i k : Nat} (hk : k < m) (hr : row k = (i : Int)) : newB dist b δ k = newA c m row dist a δ i + c i k := by
  have h1 := hP.tight i k hk hr
  have ho := ofV_at (dist := dist) hM hk hr
  have hc := (row_edge hM hk hr).2.2.2
  unfold newB newA
  by_cases hd : 1099511627776 ≤ dist k
  · rw [if_pos hd] at ho
    rw [ho, if_neg (by omega), if_neg (by omega)]
    omega
  · rw [if_neg hd] at ho
    rw [ho, if_pos (by omega), if_pos (by omega)]
    omega
theorem of_fin (hm : m ≤ 16) (hM : Mat c n m fr T row) (hP : Pot c n m fr T row a b β) (hD : DInv c n m fr T row b dist by') : ∀ i, fr ≤ i → i < n → ofV c m row dist i < 1099511627776 → ofV c m row dist i ≤ 16777216 := fun i h1 h2 h => by
  have := (of_lo hM hP hD h1 h2 h).2
  have := cnt_le (dist := dist) m
  omega
theorem dist_fin (hm : m ≤ 16) (hD : DInv c n m fr T row b dist by') {k : Nat} (hk : k < m) (h : dist k < 1099511627776) : dist k ≤ 16777216 := by
  have := hD.bound k hk h
  have := cnt_le (dist := dist) m
  omega
/-- The step of a way is tight in the new numbers. -/
theorem way_tight (hM : Mat c n m fr T row) (hP : Pot c n m fr T row a b β) (hD : DInv c n m fr T row b dist by') (hF : Fixed c n m fr T row dist) {δ : Int} (_hδ : 0 ≤ δ) {k : Nat} (hk : k < m) (hf : dist k < 1099511627776) (hr : dist k - b k ≤ δ) :
    ∃ i : Nat, by' k = (i : Int) ∧ fr ≤ i ∧ i < n ∧ T k = false ∧ 0 ≤ c i k ∧ newB dist b δ k = newA c m row dist a δ i + c i k ∧ ∀ j, j < m → row j = (i : Int) → dist j < 1099511627776 ∧ dist j - b j ≤ δ := by
  obtain ⟨i, e, h1, h2, h3, h4, h5, h6⟩ := hD.par k hk hf
  have hT := hD.tk k hk hf
  have h7 := hF i k h1 h2 hk hT h3 h4 h5
  have h8 := hP.feas i k h1 h2 hk hT h3
  have h9 := hP.a0 i
  refine ⟨i, e, h1, h2, hT, h3, ?_, fun j hj hrj => ?_⟩
  · have hB : newB dist b δ k = dist k := by unfold newB; rw [if_pos hf]; omega
    have hA : newA c m row dist a δ i = ofV c m row dist i := by unfold newA; rw [if_pos h5]; omega
    omega
  · have ho := ofV_at (dist := dist) hM hj hrj
    have := hP.tight i j hj hrj
    by_cases hd : 1099511627776 ≤ dist j
    · rw [if_pos hd] at ho; omega
    · rw [if_neg hd] at ho; omega

/-- Where the change along the way stands at column k. -/
structure Flip (c : Nat → Nat → Int) (n m fr : Nat) (T : Nat → Bool) (row a b : Nat → Int) (β : Int) (dist by' : Nat → Int) (e : Nat) (cur : Nat → Int) (k d : Nat) : Prop where
  kl : k < m
  fin : dist k < 1099511627776
  red : dist k - b k ≤ dist e - β
  dep : Dep m row by' k d
  freek : cur k = -1
  mat : Mat c n m fr T cur
  tight : ∀ (i j : Nat), j < m → cur j = (i : Int) → newB dist b (dist e - β) j = newA c m row dist a (dist e - β) i + c i j
  rows : ∀ i : Nat, (∃ j, j < m ∧ cur j = (i : Int)) ↔ ∃ j, j < m ∧ row j = (i : Int)
  cols : ∀ j, j < m → j ≠ k → (0 ≤ cur j ↔ (0 ≤ row j ∨ j = e))
  kcol : k = e ∨ 0 ≤ row k
  same : ∀ j d', j < m → Dep m row by' j d' → d' < d → cur j = row j
/-- What a search has found. -/
structure Found (c : Nat → Nat → Int) (n m fr : Nat) (T : Nat → Bool) (row a b : Nat → Int) (β : Int) (dist by' : Nat → Int) (e : Nat) : Prop where
  M : Mat c n m fr T row
  P : Pot c n m fr T row a b β
  D : DInv c n m fr T row b dist by'
  F : Fixed c n m fr T row dist
  el : e < m
  efree : row e = -1
  efin : dist e < 1099511627776
  least : ∀ k, k < m → row k < 0 → T k = false → dist e ≤ dist k
  m16 : m ≤ 16
  cost : ∀ i k, i < n → k < m → c i k ≤ 1048576
theorem Found.delta {e : Nat} (h : Found c n m fr T row a b β dist by' e) : 0 ≤ dist e - β ∧ dist e - b e ≤ dist e - β := by
  have h1 := h.P.bfree e h.el (by have := h.efree; omega) (h.D.tk e h.el h.efin)
  have h2 := h.D.lo e h.el h.efin
  omega
theorem Found.flip {e : Nat} (h : Found c n m fr T row a b β dist by' e) : ∃ d, Flip c n m fr T row a b β dist by' e row e d := by
  obtain ⟨d, hd⟩ := h.D.chain e h.el h.efin
  exact ⟨d, h.el, h.efin, h.delta.2, hd, h.efree, h.M, fun i j hj hr => new_tight h.M h.P hj hr, fun i => Iff.rfl, fun j hj hne => ⟨Or.inl, fun q => q.elim id (fun q => absurd q hne)⟩, Or.inl rfl, fun _ _ _ _ _ => rfl⟩
/-- Depths are one number. -/
theorem Found.uniq {e : Nat} (h : Found c n m fr T row a b β dist by' e) {k d : Nat} (hd : Dep m row by' k d) : k < m → dist k < 1099511627776 → ∀ {d' : Nat}, Dep m row by' k d' → d = d' := by
  induction hd with
  | root h0 =>
    intro _ _ d' h'
    cases h' with
    | root _ => rfl
    | step hj e _ => exact absurd e (h0 _ hj)
  | @step k j d hj e hdep ih =>
    intro hkm hf d' h'
    cases h' with
    | root h0 => exact absurd e (h0 _ hj)
    | @step _ j' d' hj' e' h' =>
      obtain ⟨i, e0, q1, q2, q3, q4, q5, q6⟩ := h.D.par k hkm hf
      have hjj : j = j' := h.M.inj _ _ hj hj' (by rw [e, e']) (by omega)
      subst hjj
      have ho := ofV_at (dist := dist) h.M hj (by rw [e, e0])
      by_cases hd : 1099511627776 ≤ dist j
      · rw [if_pos hd] at ho; omega
      · rw [ih hj (by omega) h']
/-- The depths of the columns, as a function. -/
theorem Found.dpt {e : Nat} (h : Found c n m fr T row a b β dist by' e) : ∃ dp : Nat → Nat, ∀ k d, Dep m row by' k d → k < m → dist k < 1099511627776 → dp k = d := by
  refine ⟨fun k => open Classical in if h : ∃ d, Dep m row by' k d then Classical.choose h else 0, fun k d hd hk hf => ?_⟩
  have hex : ∃ d, Dep m row by' k d := ⟨d, hd⟩
  dsimp only
  rw [dif_pos hex]
  exact (h.uniq hd hk hf (Classical.choose_spec hex)).symm
/-- The next column of the way. -/
theorem Flip.next {e : Nat} {cur : Nat → Int} {k d : Nat} (hF : Found c n m fr T row a b β dist by' e) (h : Flip c n m fr T row a b β dist by' e cur k d) {j : Nat} (hj : j < m) (hc : cur j = by' k) :
    j ≠ k ∧ ∃ d', d = d' + 1 ∧ Flip c n m fr T row a b β dist by' e (upd (upd cur k (by' k)) j (-1)) j d' := by
  obtain ⟨i, e0, q1, q2, q3, q4, q5, q6⟩ := way_tight hF.M hF.P hF.D hF.F hF.delta.1 h.kl h.fin h.red
  rw [e0] at hc
  have hjk : j ≠ k := fun q => by subst q; have := h.freek; omega
  obtain ⟨j0, hj0, hr0⟩ := (h.rows i).1 ⟨j, hj, hc⟩
  cases hdep : h.dep with
  | root h0 => exact absurd hr0 (by rw [← e0]; exact h0 j0 hj0)
  | @step _ j1 d' hj1 e1 hd1 =>
    have : j1 = j0 := hF.M.inj _ _ hj1 hj0 (by rw [e1, e0, hr0]) (by omega)
    subst this
    have hs := h.same j1 d' hj1 hd1 (by omega)
    have : j1 = j := h.mat.inj _ _ hj1 hj (by rw [hs, hr0, hc]) (by omega)
    subst this
    obtain ⟨r1, r2⟩ := q6 j1 hj hr0
    refine ⟨hjk, d', rfl, hj, r1, r2, hd1, upd_at, ⟨fun x hx => ?_, fun x y hx hy hxy h0 => ?_⟩, fun i' x hx hx' => ?_, fun i' => ⟨fun ⟨x, hx, hx'⟩ => ?_, fun ⟨x, hx, hx'⟩ => ?_⟩, fun x hx hne => ?_, Or.inr (by omega), fun x d2 hx hd2 hlt => ?_⟩
    · by_cases a1 : x = j1
      · subst a1; exact Or.inl upd_at
      · rw [upd_ne a1]
        by_cases a2 : x = k
        · subst a2; rw [upd_at]; exact Or.inr ⟨i, e0, q1, q2, q3, q4⟩
        · rw [upd_ne a2]; exact h.mat.rng x hx
    · by_cases a1 : x = j1
      · subst a1; rw [upd_at] at h0; omega
      · by_cases b1 : y = j1
        · subst b1; rw [upd_at] at hxy; omega
        · rw [upd_ne a1] at h0
          rw [upd_ne a1, upd_ne b1] at hxy
          by_cases a2 : x = k
          · subst a2
            by_cases b2 : y = x
            · exact b2.symm
            · rw [upd_at, upd_ne b2] at hxy
              exact absurd (h.mat.inj y j1 hy hj (by omega) (by omega)) b1
          · rw [upd_ne a2] at h0
            by_cases b2 : y = k
            · subst b2
              rw [upd_at, upd_ne a2] at hxy
              exact absurd (h.mat.inj x j1 hx hj (by omega) (by omega)) a1
            · rw [upd_ne a2, upd_ne b2] at hxy
              exact h.mat.inj x y hx hy hxy h0
    · by_cases a1 : x = j1
      · subst a1; rw [upd_at] at hx'; omega
      · rw [upd_ne a1] at hx'
        by_cases a2 : x = k
        · subst a2
          rw [upd_at, e0] at hx'
          have : i' = i := by omega
          subst this
          exact q5
        · rw [upd_ne a2] at hx'; exact h.tight i' x hx hx'
    · by_cases a1 : x = j1
      · subst a1; rw [upd_at] at hx'; omega
      · rw [upd_ne a1] at hx'
        by_cases a2 : x = k
        · subst a2
          rw [upd_at, e0] at hx'
          exact ⟨j1, hj, by omega⟩
        · rw [upd_ne a2] at hx'; exact (h.rows i').1 ⟨x, hx, hx'⟩
    · obtain ⟨x2, hx2, e2⟩ := (h.rows i').2 ⟨x, hx, hx'⟩
      by_cases a1 : x2 = j1
      · subst a1
        exact ⟨k, h.kl, by rw [upd_ne (fun q => hjk q.symm), upd_at]; omega⟩
      · have a2 : x2 ≠ k := fun q => by subst q; have := h.freek; omega
        exact ⟨x2, hx2, by rw [upd_ne a1, upd_ne a2]; exact e2⟩
    · rw [upd_ne hne]
      by_cases a2 : x = k
      · subst a2
        rw [upd_at]
        rcases h.kcol with q | q
        · exact ⟨fun _ => Or.inr q, fun _ => by omega⟩
        · exact ⟨fun _ => Or.inl q, fun _ => by omega⟩
      · rw [upd_ne a2]; exact h.cols x hx a2
    · have a1 : x ≠ j1 := fun q => by
        subst q
        have := hF.uniq hd1 hj r1 hd2
        omega
      have a2 : x ≠ k := fun q => by
        subst q
        have := hF.uniq h.dep h.kl h.fin hd2
        omega
      rw [upd_ne a1, upd_ne a2]
      exact h.same x d2 hx hd2 (by omega)
/-- The end of the way. -/
theorem Flip.last {e : Nat} {cur : Nat → Int} {k d : Nat} (hF : Found c n m fr T row a b β dist by' e) (h : Flip c n m fr T row a b β dist by' e cur k d) (hno : ∀ j, j < m → cur j ≠ by' k) :
    Mat c n m fr T (upd cur k (by' k)) ∧ (∃ a' b', Pot c n m fr T (upd cur k (by' k)) a' b' (dist e)) ∧ (∀ j, j < m → (0 ≤ upd cur k (by' k) j ↔ (0 ≤ row j ∨ j = e))) := by
  obtain ⟨i, e0, q1, q2, q3, q4, q5, q6⟩ := way_tight hF.M hF.P hF.D hF.F hF.delta.1 h.kl h.fin h.red
  have hcols : ∀ j, j < m → (0 ≤ upd cur k (by' k) j ↔ (0 ≤ row j ∨ j = e)) := fun x hx => by
    by_cases a2 : x = k
    · subst a2
      rw [upd_at]
      rcases h.kcol with q | q
      · exact ⟨fun _ => Or.inr q, fun _ => by omega⟩
      · exact ⟨fun _ => Or.inl q, fun _ => by omega⟩
    · rw [upd_ne a2]; exact h.cols x hx a2
  have hδ := hF.delta.1
  have hfin := of_fin hF.m16 hF.M hF.P hF.D
  refine ⟨⟨fun x hx => ?_, fun x y hx hy hxy h0 => ?_⟩, ⟨newA c m row dist a (dist e - β), newB dist b (dist e - β), ?_⟩, hcols⟩
  · by_cases a2 : x = k
    · subst a2; rw [upd_at]; exact Or.inr ⟨i, e0, q1, q2, q3, q4⟩
    · rw [upd_ne a2]; exact h.mat.rng x hx
  · by_cases a2 : x = k
    · subst a2
      by_cases b2 : y = x
      · exact b2.symm
      · rw [upd_at, upd_ne b2] at hxy
        exact absurd hxy.symm (hno y hy)
    · rw [upd_ne a2] at h0
      by_cases b2 : y = k
      · subst b2
        rw [upd_at, upd_ne a2] at hxy
        exact absurd hxy (hno x hx)
      · rw [upd_ne a2, upd_ne b2] at hxy
        exact h.mat.inj x y hx hy hxy h0
  · refine ⟨fun i' x h1 h2 hx hT hc => new_feas hF.M hF.P hF.F h1 h2 hx hT hc (hF.cost i' x h2 hx) hfin, fun i' x hx hx' => ?_, newA_nonneg hF.M hF.P hF.D hδ, fun i' h1 h2 hfree => ?_, fun x hx hx' hT => ?_, fun x hx hx' => ?_, ?_, ?_⟩
    · by_cases a2 : x = k
      · subst a2
        rw [upd_at, e0] at hx'
        have : i' = i := by omega
        subst this
        exact q5
      · rw [upd_ne a2] at hx'; exact h.tight i' x hx hx'
    · have hrow : ∀ x, x < m → row x ≠ (i' : Int) := fun x hx hx' => by
        obtain ⟨x2, hx2, e2⟩ := (h.rows i').2 ⟨x, hx, hx'⟩
        have a2 : x2 ≠ k := fun q => by subst q; have := h.freek; omega
        exact hfree x2 hx2 (by rw [upd_ne a2]; exact e2)
      have h0 := hF.P.afree i' h1 h2 hrow
      unfold newA
      rw [ofV_free hrow, h0, if_pos (by omega)]
      omega
    · have hr : row x < 0 := by
        have := hcols x hx
        rcases Int.lt_or_le (row x) 0 with q | q
        · exact q
        · have := this.2 (Or.inl q); omega
      have h1 := hF.least x hx hr hT
      have h2 := hF.P.bfree x hx hr hT
      unfold newB
      split <;> omega
    · have h4 := newB_le (dist := dist) (b := b) (δ := dist e - β) (k := x)
      rcases (hcols x hx).1 hx' with q | q
      · have := hF.P.bmat x hx q
        omega
      · subst q
        unfold newB
        rw [if_pos hF.efin]
        omega
    · have := hF.D.lo e hF.el hF.efin; omega
    · exact dist_fin hF.m16 hF.D hF.el hF.efin
/-- The last search: no free column is reached. -/
theorem none_found {r : Nat} (hr : r ≤ n) (hm : m ≤ 16) (hcost : ∀ i k, i < n → k < m → c i k ≤ 1048576) (hM : Mat c n m (n - r) T row) (hP : Pot c n m (n - r) T row a b β) (hD : DInv c n m (n - r) T row b dist by') (hF : Fixed c n m (n - r) T row dist) (hno : ∀ k, k < m → row k < 0 → T k = false → 1099511627776 ≤ dist k) :
    val c m row = V c n m r T := by
  have hδ : 0 ≤ 1073741824 - β := by have := hP.hi; omega
  have hfin := of_fin hm hM hP hD
  refine V_eq (y := newA c m row dist a (1073741824 - β)) (z := fun k => max 0 (1073741824 - newB dist b (1073741824 - β) k)) hr hM (newA_nonneg hM hP hD hδ) (fun k => by omega) (fun i k h1 h2 hk hc hT => ?_) (fun i k hk hk' => ?_) (fun i h1 h2 => ?_) (fun k hk hk' hT => ?_)
  · have := new_feas (δ := 1073741824 - β) hM hP hF h1 h2 hk hT hc (hcost i k h2 hk) hfin
    omega
  · have h1 := new_tight (dist := dist) (δ := 1073741824 - β) hM hP hk hk'
    have h2 := hP.bmat k hk (by omega)
    have h3 := newB_le (dist := dist) (b := b) (δ := 1073741824 - β) (k := k)
    omega
  · by_cases hex : ∃ k, k < m ∧ row k = (i : Int)
    · exact Or.inr hex
    · have hrow : ∀ x, x < m → row x ≠ (i : Int) := fun x hx hx' => hex ⟨x, hx, hx'⟩
      left
      have h0 := hP.afree i h1 h2 hrow
      unfold newA
      rw [ofV_free hrow, h0, if_pos (by omega)]
      omega
  · have h1 := hno k hk hk' hT
    have h2 := hP.bfree k hk hk' hT
    have : newB dist b (1073741824 - β) k = 1073741824 - β + b k := by unfold newB; rw [if_neg (by omega)]
    omega
theorem Mat.start : Mat c n m fr T (fun _ => -1) := ⟨fun _ _ => Or.inl rfl, fun _ _ _ _ _ h => absurd h (by decide)⟩
theorem Pot.start : Pot c n m fr T (fun _ => -1) (fun _ => 0) (fun _ => 0) 0 :=
  ⟨fun i k _ _ _ _ h => by omega, fun i k _ h => by omega, fun _ => by omega, fun _ _ _ _ => rfl, fun _ _ _ _ => by omega, fun _ _ _ => by omega, by omega, by omega⟩
end
end AsgMath
