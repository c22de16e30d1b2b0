/-
  AsgMathC, AsgMathD, AsgRows, AsgCos
-/
import Derived.Test.YtikjjpjekchcjaaPr15
import Derived.WalkKit
import Derived.Test.YtikjjpjekchcjaaPr1
set_option linter.all false
set_option maxRecDepth 100000
set_option maxHeartbeats 64000000
section
namespace AsgMath
section
variable {c : Nat → Nat → Int} {n m fr : Nat} {T : Nat → Bool} {row a b : Nat → Int} {β : Int} {dist by' : Nat → Int}
def Fixed (c : Nat → Nat → Int) (n m fr : Nat) (T : Nat → Bool) (row dist : Nat → Int) : Prop :=
 ∀ i k, fr ≤ i → i < n → k < m → T k = false → 0 ≤ c i k → row k ≠ (i : Int) → ofV c m row dist i < 1099511627776 → dist k ≤ ofV c m row dist i + c i k
def FixTo (c : Nat → Nat → Int) (m fr : Nat) (T : Nat → Bool) (row dist : Nat → Int) (i : Nat) : Prop :=
 ∀ i' k, fr ≤ i' → i' < i → k < m → T k = false → 0 ≤ c i' k → row k ≠ (i' : Int) → ofV c m row dist i' < 1099511627776 → dist k ≤ ofV c m row dist i' + c i' k
def FixRow (c : Nat → Nat → Int) (m : Nat) (T : Nat → Bool) (row dist : Nat → Int) (i k : Nat) : Prop :=
 ∀ j, j < k → T j = false → 0 ≤ c i j → row j ≠ (i : Int) → ofV c m row dist i < 1099511627776 → dist j ≤ ofV c m row dist i + c i j
theorem FixTo.start : FixTo c m fr T row dist fr := fun i' _ h1 h2 => by omega
theorem FixRow.start {i : Nat} : FixRow c m T row dist i 0 := fun j hj => by omega
theorem FixRow.step {i k : Nat} (h : FixRow c m T row dist i k) (hk : T k = false → 0 ≤ c i k → row k ≠ (i : Int) → ofV c m row dist i < 1099511627776 → dist k ≤ ofV c m row dist i + c i k) : FixRow c m T row dist i (k + 1) := fun j hj => by
 by_cases e : j = k
 ·subst e; exact hk
 exact h j (by omega)
theorem FixTo.step {i : Nat} (h : FixTo c m fr T row dist i) (hr : FixRow c m T row dist i m) : FixTo c m fr T row dist (i + 1) := fun i' k h1 h2 hk => by
 by_cases e : i' = i
 ·subst e; exact hr k hk
 exact h i' k h1 (by omega) hk
theorem FixTo.all (h : FixTo c m fr T row dist n) : Fixed c n m fr T row dist := h
structure Rnd (c : Nat → Nat → Int) (n m fr : Nat) (T : Nat → Bool) (row b : Nat → Int) (s0 : Int) (dist by' : Nat → Int) (ch : Bool) (i k : Nat) : Prop where
 D : DInv c n m fr T row b dist by'
 no : ch = false → sumN dist m = s0 ∧ FixTo c m fr T row dist i ∧ FixRow c m T row dist i k
 yes : ch = true → sumN dist m < s0
theorem Rnd.next {s0 : Int} {ch : Bool} {i : Nat} (h : Rnd c n m fr T row b s0 dist by' ch i m) : Rnd c n m fr T row b s0 dist by' ch (i + 1) 0 :=
 ⟨h.D, fun e => ⟨(h.no e).1, (h.no e).2.1.step (h.no e).2.2, .start⟩, h.yes⟩
theorem Rnd.skip {s0 : Int} {ch : Bool} {i : Nat} (h : Rnd c n m fr T row b s0 dist by' ch i 0) (hf : 1099511627776 ≤ ofV c m row dist i) : Rnd c n m fr T row b s0 dist by' ch (i + 1) 0 :=
 ⟨h.D, fun e => ⟨(h.no e).1, (h.no e).2.1.step (fun j _ _ _ _ q => by omega), .start⟩, h.yes⟩
theorem Rnd.pass {s0 : Int} {ch : Bool} {i k : Nat} (h : Rnd c n m fr T row b s0 dist by' ch i k) (hk : T k = false → 0 ≤ c i k → row k ≠ (i : Int) → ¬ ofV c m row dist i + c i k < dist k) : Rnd c n m fr T row b s0 dist by' ch i (k + 1) :=
 ⟨h.D, fun e => ⟨(h.no e).1, (h.no e).2.1, (h.no e).2.2.step (fun q1 q2 q3 _ => by have := hk q1 q2 q3; omega)⟩, h.yes⟩
theorem Rnd.hit (hm : m ≤ 16) (hcost : ∀ i k, i < n → k < m → c i k ≤ 1048576) (hM : Mat c n m fr T row) (hP : Pot c n m fr T row a b β) {s0 : Int} {ch : Bool} {i k : Nat} (h : Rnd c n m fr T row b s0 dist by' ch i k) (h1 : fr ≤ i) (h2 : i < n) (hk : k < m) (hT : T k = false) (hc : 0 ≤ c i k) (hr : row k ≠ (i : Int)) (hf : ofV c m row dist i < 1099511627776) (hlt : ofV c m row dist i + c i k < dist k) :
    Rnd c n m fr T row b s0 (upd dist k (ofV c m row dist i + c i k)) (upd by' k (i : Int)) true i (k + 1) ∧ ofV c m row (upd dist k (ofV c m row dist i + c i k)) i = ofV c m row dist i := by
 have hs := sumN_upd (f := dist) (g := upd dist k (ofV c m row dist i + c i k)) (m := m) (k := k) hk (fun j _ hne => (upd_ne hne).symm)
 rw [upd_at] at hs
 refine ⟨⟨h.D.relax hm hcost hM hP h1 h2 hk hT hc hr hf hlt, fun e => absurd e (by decide), fun _ => ?_⟩, ofV_congr (fun j hj hrj => upd_ne (fun e => hr (by rw [← e]; exact hrj)))⟩
 cases ch with
 | false => have := (h.no rfl).1; omega
 | true => have := h.yes rfl; omega
def newA (c : Nat → Nat → Int) (m : Nat) (row dist a : Nat → Int) (δ : Int) (i : Nat) : Int := if ofV c m row dist i < 1099511627776 then min (ofV c m row dist i) (δ + a i) else δ + a i
def newB (dist b : Nat → Int) (δ : Int) (k : Nat) : Int := if dist k < 1099511627776 then min (dist k) (δ + b k) else δ + b k
theorem newB_le {δ : Int} {k : Nat} : newB dist b δ k ≤ δ + b k := by unfold newB; split <;> omega
theorem row_edge (hM : Mat c n m fr T row) {i k : Nat} (hk : k < m) (h : row k = (i : Int)) : fr ≤ i ∧ i < n ∧ T k = false ∧ 0 ≤ c i k := by
 rcases hM.rng k hk with e | ⟨i', e, h1⟩
 ·omega
 have : i' = i := by omega
 subst this
 exact h1
theorem of_cases (hM : Mat c n m fr T row) {i : Nat} : ((∀ k, k < m → row k ≠ (i : Int)) ∧ ofV c m row dist i = 0) ∨ ∃ k, k < m ∧ row k = (i : Int) ∧ fr ≤ i ∧ i < n ∧ T k = false ∧ 0 ≤ c i k ∧ ((1099511627776 ≤ dist k ∧ ofV c m row dist i = 1099511627776) ∨ (dist k < 1099511627776 ∧ ofV c m row dist i = dist k - c i k)) := by
 cases e : colOf m row (i : Int) with
 | none => exact Or.inl ⟨fun k hk => colOf_none e hk, ofV_free (fun k hk => colOf_none e hk)⟩
 | some k =>
  obtain ⟨hk, hr⟩ := colOf_some e
  obtain ⟨h1, h2, h3, h4⟩ := row_edge hM hk hr
  refine Or.inr ⟨k, hk, hr, h1, h2, h3, h4, ?_⟩
  have ho := ofV_at (dist := dist) hM hk hr
  by_cases hd : 1099511627776 ≤ dist k
  ·rw [if_pos hd] at ho; exact Or.inl ⟨hd, ho⟩
  rw [if_neg hd] at ho; exact Or.inr ⟨by omega, ho⟩
theorem newA_nonneg (hM : Mat c n m fr T row) (hP : Pot c n m fr T row a b β) (hD : DInv c n m fr T row b dist by') {δ : Int} (hδ : 0 ≤ δ) (i : Nat) : 0 ≤ newA c m row dist a δ i := by
 have := hP.a0 i
 unfold newA
 rcases of_cases (dist := dist) hM (i := i) with ⟨-, e⟩ | ⟨k, hk, hr, h1, h2, h3, h4, ⟨hd, e⟩ | ⟨hd, e⟩⟩
 ·rw [e]; split <;> omega
 ·rw [e]; split <;> omega
 rw [e]
 have := hP.tight i k hk hr
 have := hD.lo k hk hd
 split <;> omega
theorem new_feas (hM : Mat c n m fr T row) (hP : Pot c n m fr T row a b β) (hF : Fixed c n m fr T row dist) {δ : Int} {i k : Nat} (h1 : fr ≤ i) (h2 : i < n) (hk : k < m) (hT : T k = false) (hc : 0 ≤ c i k) (hcl : c i k ≤ 1048576)
    (hfin : ∀ i, fr ≤ i → i < n → ofV c m row dist i < 1099511627776 → ofV c m row dist i ≤ 16777216) :
    newB dist b δ k ≤ newA c m row dist a δ i + c i k := by
 have h3 := hP.feas i k h1 h2 hk hT hc
 have h4 := newB_le (dist := dist) (b := b) (δ := δ) (k := k)
 unfold newA
 by_cases hf : ofV c m row dist i < 1099511627776
 ·rw [if_pos hf]
  have h5 := hfin i h1 h2 hf
  have h6 : dist k ≤ ofV c m row dist i + c i k := by
   by_cases hr : row k = (i : Int)
   ·have ho := ofV_at (dist := dist) hM hk hr
    by_cases hd : 1099511627776 ≤ dist k
    ·rw [if_pos hd] at ho; omega
    rw [if_neg hd] at ho; omega
   exact hF i k h1 h2 hk hT hc hr hf
  have h7 : newB dist b δ k ≤ dist k := by unfold newB; rw [if_pos (by omega)]; omega
  omega
 rw [if_neg hf]; omega
theorem new_tight (hM : Mat c n m fr T row) (hP : Pot c n m fr T row a b β) {δ : Int} {i k : Nat} (hk : k < m) (hr : row k = (i : Int)) : newB dist b δ k = newA c m row dist a δ i + c i k := by
 have h1 := hP.tight i k hk hr
 have ho := ofV_at (dist := dist) hM hk hr
 have hc := (row_edge hM hk hr).2.2.2
 unfold newB newA
 by_cases hd : 1099511627776 ≤ dist k
 ·rw [if_pos hd] at ho
  rw [ho, if_neg (by omega), if_neg (by omega)]
  omega
 rw [if_neg hd] at ho
 rw [ho, if_pos (by omega), if_pos (by omega)]
 omega
theorem of_fin (hm : m ≤ 16) (hM : Mat c n m fr T row) (hP : Pot c n m fr T row a b β) (hD : DInv c n m fr T row b dist by') : ∀ i, fr ≤ i → i < n → ofV c m row dist i < 1099511627776 → ofV c m row dist i ≤ 16777216 := fun i h1 h2 h => by
 have := (of_lo hM hP hD h1 h2 h).2
 have := cnt_le (dist := dist) m
 omega
theorem dist_fin (hm : m ≤ 16) (hD : DInv c n m fr T row b dist by') {k : Nat} (hk : k < m) (h : dist k < 1099511627776) : dist k ≤ 16777216 := by
 have := hD.bound k hk h
 have := cnt_le (dist := dist) m
 omega
theorem way_tight (hM : Mat c n m fr T row) (hP : Pot c n m fr T row a b β) (hD : DInv c n m fr T row b dist by') (hF : Fixed c n m fr T row dist) {δ : Int} (_hδ : 0 ≤ δ) {k : Nat} (hk : k < m) (hf : dist k < 1099511627776) (hr : dist k - b k ≤ δ) :
    ∃ i : Nat, by' k = (i : Int) ∧ fr ≤ i ∧ i < n ∧ T k = false ∧ 0 ≤ c i k ∧ newB dist b δ k = newA c m row dist a δ i + c i k ∧ ∀ j, j < m → row j = (i : Int) → dist j < 1099511627776 ∧ dist j - b j ≤ δ := by
 obtain ⟨i, e, h1, h2, h3, h4, h5, h6⟩ := hD.par k hk hf
 have hT := hD.tk k hk hf
 have h7 := hF i k h1 h2 hk hT h3 h4 h5
 have h8 := hP.feas i k h1 h2 hk hT h3
 have h9 := hP.a0 i
 refine ⟨i, e, h1, h2, hT, h3, ?_, fun j hj hrj => ?_⟩
 ·have hB : newB dist b δ k = dist k := by unfold newB; rw [if_pos hf]; omega
  have hA : newA c m row dist a δ i = ofV c m row dist i := by unfold newA; rw [if_pos h5]; omega
  omega
 have ho := ofV_at (dist := dist) hM hj hrj
 have := hP.tight i j hj hrj
 by_cases hd : 1099511627776 ≤ dist j
 ·rw [if_pos hd] at ho; omega
 rw [if_neg hd] at ho; omega
structure Flip (c : Nat → Nat → Int) (n m fr : Nat) (T : Nat → Bool) (row a b : Nat → Int) (β : Int) (dist by' : Nat → Int) (e : Nat) (cur : Nat → Int) (k d : Nat) : Prop where
 kl : k < m
 fin : dist k < 1099511627776
 red : dist k - b k ≤ dist e - β
 dep : Dep m row by' k d
 freek : cur k = -1
 mat : Mat c n m fr T cur
 tight : ∀ (i j : Nat), j < m → cur j = (i : Int) → newB dist b (dist e - β) j = newA c m row dist a (dist e - β) i + c i j
 rows : ∀ i : Nat, (∃ j, j < m ∧ cur j = (i : Int)) ↔ ∃ j, j < m ∧ row j = (i : Int)
 cols : ∀ j, j < m → j ≠ k → (0 ≤ cur j ↔ (0 ≤ row j ∨ j = e))
 kcol : k = e ∨ 0 ≤ row k
 same : ∀ j d', j < m → Dep m row by' j d' → d' < d → cur j = row j
structure Found (c : Nat → Nat → Int) (n m fr : Nat) (T : Nat → Bool) (row a b : Nat → Int) (β : Int) (dist by' : Nat → Int) (e : Nat) : Prop where
 M : Mat c n m fr T row
 P : Pot c n m fr T row a b β
 D : DInv c n m fr T row b dist by'
 F : Fixed c n m fr T row dist
 el : e < m
 efree : row e = -1
 efin : dist e < 1099511627776
 least : ∀ k, k < m → row k < 0 → T k = false → dist e ≤ dist k
 m16 : m ≤ 16
 cost : ∀ i k, i < n → k < m → c i k ≤ 1048576
theorem Found.delta {e : Nat} (h : Found c n m fr T row a b β dist by' e) : 0 ≤ dist e - β ∧ dist e - b e ≤ dist e - β := by
 have h1 := h.P.bfree e h.el (by have := h.efree; omega) (h.D.tk e h.el h.efin)
 have h2 := h.D.lo e h.el h.efin
 omega
theorem Found.flip {e : Nat} (h : Found c n m fr T row a b β dist by' e) : ∃ d, Flip c n m fr T row a b β dist by' e row e d := by
 obtain ⟨d, hd⟩ := h.D.chain e h.el h.efin
 exact ⟨d, h.el, h.efin, h.delta.2, hd, h.efree, h.M, fun i j hj hr => new_tight h.M h.P hj hr, fun i => Iff.rfl, fun j hj hne => ⟨Or.inl, fun q => q.elim id (fun q => absurd q hne)⟩, Or.inl rfl, fun _ _ _ _ _ => rfl⟩
theorem Found.uniq {e : Nat} (h : Found c n m fr T row a b β dist by' e) {k d : Nat} (hd : Dep m row by' k d) : k < m → dist k < 1099511627776 → ∀ {d' : Nat}, Dep m row by' k d' → d = d' := by
 induction hd with
 | root h0 =>
  intro _ _ d' h'
  cases h' with
  | root _ => rfl
  | step hj e _ => exact absurd e (h0 _ hj)
 | @step k j d hj e hdep ih =>
  intro hkm hf d' h'
  cases h' with
  | root h0 => exact absurd e (h0 _ hj)
  | @step _ j' d' hj' e' h' =>
   obtain ⟨i, e0, q1, q2, q3, q4, q5, q6⟩ := h.D.par k hkm hf
   have hjj : j = j' := h.M.inj _ _ hj hj' (by rw [e, e']) (by omega)
   subst hjj
   have ho := ofV_at (dist := dist) h.M hj (by rw [e, e0])
   by_cases hd : 1099511627776 ≤ dist j
   ·rw [if_pos hd] at ho; omega
   rw [ih hj (by omega) h']
theorem Found.dpt {e : Nat} (h : Found c n m fr T row a b β dist by' e) : ∃ dp : Nat → Nat, ∀ k d, Dep m row by' k d → k < m → dist k < 1099511627776 → dp k = d := by
 refine ⟨fun k => open Classical in if h : ∃ d, Dep m row by' k d then Classical.choose h else 0, fun k d hd hk hf => ?_⟩
 have hex : ∃ d, Dep m row by' k d := ⟨d, hd⟩
 dsimp only
 rw [dif_pos hex]
 exact (h.uniq hd hk hf (Classical.choose_spec hex)).symm
theorem Flip.next {e : Nat} {cur : Nat → Int} {k d : Nat} (hF : Found c n m fr T row a b β dist by' e) (h : Flip c n m fr T row a b β dist by' e cur k d) {j : Nat} (hj : j < m) (hc : cur j = by' k) :
    j ≠ k ∧ ∃ d', d = d' + 1 ∧ Flip c n m fr T row a b β dist by' e (upd (upd cur k (by' k)) j (-1)) j d' := by
 obtain ⟨i, e0, q1, q2, q3, q4, q5, q6⟩ := way_tight hF.M hF.P hF.D hF.F hF.delta.1 h.kl h.fin h.red
 rw [e0] at hc
 have hjk : j ≠ k := fun q => by subst q; have := h.freek; omega
 obtain ⟨j0, hj0, hr0⟩ := (h.rows i).1 ⟨j, hj, hc⟩
 cases hdep : h.dep with
 | root h0 => exact absurd hr0 (by rw [← e0]; exact h0 j0 hj0)
 | @step _ j1 d' hj1 e1 hd1 =>
  have : j1 = j0 := hF.M.inj _ _ hj1 hj0 (by rw [e1, e0, hr0]) (by omega)
  subst this
  have hs := h.same j1 d' hj1 hd1 (by omega)
  have : j1 = j := h.mat.inj _ _ hj1 hj (by rw [hs, hr0, hc]) (by omega)
  subst this
  obtain ⟨r1, r2⟩ := q6 j1 hj hr0
  refine ⟨hjk, d', rfl, hj, r1, r2, hd1, upd_at, ⟨fun x hx => ?_, fun x y hx hy hxy h0 => ?_⟩, fun i' x hx hx' => ?_, fun i' => ⟨fun ⟨x, hx, hx'⟩ => ?_, fun ⟨x, hx, hx'⟩ => ?_⟩, fun x hx hne => ?_, Or.inr (by omega), fun x d2 hx hd2 hlt => ?_⟩
  ·by_cases a1 : x = j1
   ·subst a1; exact Or.inl upd_at
   rw [upd_ne a1]
   by_cases a2 : x = k
   ·subst a2; rw [upd_at]; exact Or.inr ⟨i, e0, q1, q2, q3, q4⟩
   rw [upd_ne a2]; exact h.mat.rng x hx
  ·by_cases a1 : x = j1
   ·subst a1; rw [upd_at] at h0; omega
   by_cases b1 : y = j1
   ·subst b1; rw [upd_at] at hxy; omega
   rw [upd_ne a1] at h0
   rw [upd_ne a1, upd_ne b1] at hxy
   by_cases a2 : x = k
   ·subst a2
    by_cases b2 : y = x
    ·exact b2.symm
    rw [upd_at, upd_ne b2] at hxy
    exact absurd (h.mat.inj y j1 hy hj (by omega) (by omega)) b1
   rw [upd_ne a2] at h0
   by_cases b2 : y = k
   ·subst b2
    rw [upd_at, upd_ne a2] at hxy
    exact absurd (h.mat.inj x j1 hx hj (by omega) (by omega)) a1
   rw [upd_ne a2, upd_ne b2] at hxy
   exact h.mat.inj x y hx hy hxy h0
  ·by_cases a1 : x = j1
   ·subst a1; rw [upd_at] at hx'; omega
   rw [upd_ne a1] at hx'
   by_cases a2 : x = k
   ·subst a2
    rw [upd_at, e0] at hx'
    have : i' = i := by omega
    subst this
    exact q5
   rw [upd_ne a2] at hx'; exact h.tight i' x hx hx'
  ·by_cases a1 : x = j1
   ·subst a1; rw [upd_at] at hx'; omega
   rw [upd_ne a1] at hx'
   by_cases a2 : x = k
   ·subst a2
    rw [upd_at, e0] at hx'
    exact ⟨j1, hj, by omega⟩
   rw [upd_ne a2] at hx'; exact (h.rows i').1 ⟨x, hx, hx'⟩
  ·obtain ⟨x2, hx2, e2⟩ := (h.rows i').2 ⟨x, hx, hx'⟩
   by_cases a1 : x2 = j1
   ·subst a1
    exact ⟨k, h.kl, by rw [upd_ne (fun q => hjk q.symm), upd_at]; omega⟩
   have a2 : x2 ≠ k := fun q => by subst q; have := h.freek; omega
   exact ⟨x2, hx2, by rw [upd_ne a1, upd_ne a2]; exact e2⟩
  ·rw [upd_ne hne]
   by_cases a2 : x = k
   ·subst a2
    rw [upd_at]
    rcases h.kcol with q | q
    ·exact ⟨fun _ => Or.inr q, fun _ => by omega⟩
    exact ⟨fun _ => Or.inl q, fun _ => by omega⟩
   rw [upd_ne a2]; exact h.cols x hx a2
  have a1 : x ≠ j1 := fun q => by
   subst q
   have := hF.uniq hd1 hj r1 hd2
   omega
  have a2 : x ≠ k := fun q => by
   subst q
   have := hF.uniq h.dep h.kl h.fin hd2
   omega
  rw [upd_ne a1, upd_ne a2]
  exact h.same x d2 hx hd2 (by omega)
theorem Flip.last {e : Nat} {cur : Nat → Int} {k d : Nat} (hF : Found c n m fr T row a b β dist by' e) (h : Flip c n m fr T row a b β dist by' e cur k d) (hno : ∀ j, j < m → cur j ≠ by' k) :
    Mat c n m fr T (upd cur k (by' k)) ∧ (∃ a' b', Pot c n m fr T (upd cur k (by' k)) a' b' (dist e)) ∧ (∀ j, j < m → (0 ≤ upd cur k (by' k) j ↔ (0 ≤ row j ∨ j = e))) := by
 obtain ⟨i, e0, q1, q2, q3, q4, q5, q6⟩ := way_tight hF.M hF.P hF.D hF.F hF.delta.1 h.kl h.fin h.red
 have hcols : ∀ j, j < m → (0 ≤ upd cur k (by' k) j ↔ (0 ≤ row j ∨ j = e)) := fun x hx => by
  by_cases a2 : x = k
  ·subst a2
   rw [upd_at]
   rcases h.kcol with q | q
   ·exact ⟨fun _ => Or.inr q, fun _ => by omega⟩
   exact ⟨fun _ => Or.inl q, fun _ => by omega⟩
  rw [upd_ne a2]; exact h.cols x hx a2
 have hδ := hF.delta.1
 have hfin := of_fin hF.m16 hF.M hF.P hF.D
 refine ⟨⟨fun x hx => ?_, fun x y hx hy hxy h0 => ?_⟩, ⟨newA c m row dist a (dist e - β), newB dist b (dist e - β), ?_⟩, hcols⟩
 ·by_cases a2 : x = k
  ·subst a2; rw [upd_at]; exact Or.inr ⟨i, e0, q1, q2, q3, q4⟩
  rw [upd_ne a2]; exact h.mat.rng x hx
 ·by_cases a2 : x = k
  ·subst a2
   by_cases b2 : y = x
   ·exact b2.symm
   rw [upd_at, upd_ne b2] at hxy
   exact absurd hxy.symm (hno y hy)
  rw [upd_ne a2] at h0
  by_cases b2 : y = k
  ·subst b2
   rw [upd_at, upd_ne a2] at hxy
   exact absurd hxy (hno x hx)
  rw [upd_ne a2, upd_ne b2] at hxy
  exact h.mat.inj x y hx hy hxy h0
 refine ⟨fun i' x h1 h2 hx hT hc => new_feas hF.M hF.P hF.F h1 h2 hx hT hc (hF.cost i' x h2 hx) hfin, fun i' x hx hx' => ?_, newA_nonneg hF.M hF.P hF.D hδ, fun i' h1 h2 hfree => ?_, fun x hx hx' hT => ?_, fun x hx hx' => ?_, ?_, ?_⟩
 ·by_cases a2 : x = k
  ·subst a2
   rw [upd_at, e0] at hx'
   have : i' = i := by omega
   subst this
   exact q5
  rw [upd_ne a2] at hx'; exact h.tight i' x hx hx'
 ·have hrow : ∀ x, x < m → row x ≠ (i' : Int) := fun x hx hx' => by
   obtain ⟨x2, hx2, e2⟩ := (h.rows i').2 ⟨x, hx, hx'⟩
   have a2 : x2 ≠ k := fun q => by subst q; have := h.freek; omega
   exact hfree x2 hx2 (by rw [upd_ne a2]; exact e2)
  have h0 := hF.P.afree i' h1 h2 hrow
  unfold newA
  rw [ofV_free hrow, h0, if_pos (by omega)]
  omega
 ·have hr : row x < 0 := by
   have := hcols x hx
   rcases Int.lt_or_le (row x) 0 with q | q
   ·exact q
   have := this.2 (Or.inl q); omega
  have h1 := hF.least x hx hr hT
  have h2 := hF.P.bfree x hx hr hT
  unfold newB
  split <;> omega
 ·have h4 := newB_le (dist := dist) (b := b) (δ := dist e - β) (k := x)
  rcases (hcols x hx).1 hx' with q | q
  ·have := hF.P.bmat x hx q
   omega
  subst q
  unfold newB
  rw [if_pos hF.efin]
  omega
 ·have := hF.D.lo e hF.el hF.efin; omega
 exact dist_fin hF.m16 hF.D hF.el hF.efin
theorem none_found {r : Nat} (hr : r ≤ n) (hm : m ≤ 16) (hcost : ∀ i k, i < n → k < m → c i k ≤ 1048576) (hM : Mat c n m (n - r) T row) (hP : Pot c n m (n - r) T row a b β) (hD : DInv c n m (n - r) T row b dist by') (hF : Fixed c n m (n - r) T row dist) (hno : ∀ k, k < m → row k < 0 → T k = false → 1099511627776 ≤ dist k) :
    val c m row = V c n m r T := by
 have hδ : 0 ≤ 1073741824 - β := by have := hP.hi; omega
 have hfin := of_fin hm hM hP hD
 refine V_eq (y := newA c m row dist a (1073741824 - β)) (z := fun k => max 0 (1073741824 - newB dist b (1073741824 - β) k)) hr hM (newA_nonneg hM hP hD hδ) (fun k => by omega) (fun i k h1 h2 hk hc hT => ?_) (fun i k hk hk' => ?_) (fun i h1 h2 => ?_) (fun k hk hk' hT => ?_)
 ·have := new_feas (δ := 1073741824 - β) hM hP hF h1 h2 hk hT hc (hcost i k h2 hk) hfin
  omega
 ·have h1 := new_tight (dist := dist) (δ := 1073741824 - β) hM hP hk hk'
  have h2 := hP.bmat k hk (by omega)
  have h3 := newB_le (dist := dist) (b := b) (δ := 1073741824 - β) (k := k)
  omega
 ·by_cases hex : ∃ k, k < m ∧ row k = (i : Int)
  ·exact Or.inr hex
  have hrow : ∀ x, x < m → row x ≠ (i : Int) := fun x hx hx' => hex ⟨x, hx, hx'⟩
  left
  have h0 := hP.afree i h1 h2 hrow
  unfold newA
  rw [ofV_free hrow, h0, if_pos (by omega)]
  omega
 have h1 := hno k hk hk' hT
 have h2 := hP.bfree k hk hk' hT
 have : newB dist b (1073741824 - β) k = 1073741824 - β + b k := by unfold newB; rw [if_neg (by omega)]
 omega
theorem Mat.start : Mat c n m fr T (fun _ => -1) := ⟨fun _ _ => Or.inl rfl, fun _ _ _ _ _ h => absurd h (by decide)⟩
theorem Pot.start : Pot c n m fr T (fun _ => -1) (fun _ => 0) (fun _ => 0) 0 :=
 ⟨fun i k _ _ _ _ h => by omega, fun i k _ h => by omega, fun _ => by omega, fun _ _ _ _ => rfl, fun _ _ _ _ => by omega, fun _ _ _ => by omega, by omega, by omega⟩
end
end AsgMath
end
section
namespace AsgMath
def firstK (p : Nat → Bool) (m : Nat) : Option Nat := (List.range m).find? p
theorem firstK_some {p : Nat → Bool} {m k : Nat} (h : firstK p m = some k) : k < m ∧ p k = true ∧ ∀ j, j < k → p j = false := by
 unfold firstK at h
 have h1 := List.find?_some h
 have h2 := List.mem_of_find?_eq_some h
 refine ⟨List.mem_range.1 h2, h1, fun j hj => ?_⟩
 obtain ⟨-, as1, bs, e, hn⟩ := List.find?_eq_some_iff_append.1 h
 have hl : as1.length = k := by
  have e1 : (List.range m)[as1.length]? = some k := by rw [e]; simp
  rw [List.getElem?_range] at e1
  ·simpa using e1
  have := congrArg List.length e
  simp at this
  omega
 have hm : j ∈ as1 := by
  have e1 : (List.range m)[j]? = some j := by
   rw [List.getElem?_range]
   have := List.mem_range.1 h2
   omega
  rw [e, List.getElem?_append_left (by omega)] at e1
  exact List.mem_of_getElem? e1
 have := hn j hm
 simpa using this
theorem firstK_none {p : Nat → Bool} {m : Nat} (h : firstK p m = none) {k : Nat} (hk : k < m) : p k = false := by
 unfold firstK at h
 have := (List.find?_eq_none.1 h) k (List.mem_range.2 hk)
 simpa using this
theorem firstK_of {p : Nat → Bool} {m k : Nat} (hk : k < m) (hp : p k = true) (h : ∀ j, j < k → p j = false) : firstK p m = some k := by
 cases e : firstK p m with
 | none => rw [firstK_none e hk] at hp; exact absurd hp (by decide)
 | some j =>
  obtain ⟨h1, h2, h3⟩ := firstK_some e
  have a : ¬ j < k := fun q => by rw [h j q] at h2; exact absurd h2 (by decide)
  have b : ¬ k < j := fun q => by rw [h3 k q] at hp; exact absurd hp (by decide)
  have : j = k := by omega
  rw [this]
theorem firstK_no {p : Nat → Bool} {m : Nat} (h : ∀ j, j < m → p j = false) : firstK p m = none := by
 cases e : firstK p m with
 | none => rfl
 | some j =>
  obtain ⟨h1, h2, h3⟩ := firstK_some e
  rw [h j h1] at h2
  exact absurd h2 (by decide)
def takeB (c : Nat → Nat → Int) (n m r : Nat) (T : Nat → Bool) (k : Nat) : Bool :=
 okB c T (n - (r + 1)) k && decide (1073741824 - c (n - (r + 1)) k + V c n m r (setT T k) = V c n m (r + 1) T)
def bestL (c : Nat → Nat → Int) (n m : Nat) : Nat → (Nat → Bool) → List (Nat × Nat)
 | 0, _ => []
 | r + 1, T => match firstK (takeB c n m r T) m with
  | some k => (n - (r + 1), k) :: bestL c n m r (setT T k)
  | none => bestL c n m r T
theorem takeB_iff {c : Nat → Nat → Int} {n m r k : Nat} {T : Nat → Bool} : takeB c n m r T k = true ↔ (0 ≤ c (n - (r + 1)) k ∧ T k = false) ∧ 1073741824 - c (n - (r + 1)) k + V c n m r (setT T k) = V c n m (r + 1) T := by
 unfold takeB
 rw [Bool.and_eq_true, okB_iff, decide_eq_true_iff]
theorem bestL_take {c : Nat → Nat → Int} {n m r k : Nat} {T : Nat → Bool} (h : firstK (takeB c n m r T) m = some k) : bestL c n m (r + 1) T = (n - (r + 1), k) :: bestL c n m r (setT T k) := by
 simp only [bestL, h]
theorem bestL_skip {c : Nat → Nat → Int} {n m r : Nat} {T : Nat → Bool} (h : firstK (takeB c n m r T) m = none) : bestL c n m (r + 1) T = bestL c n m r T ∧ V c n m (r + 1) T = V c n m r T := by
 refine ⟨by simp only [bestL, h], ?_⟩
 rcases bestK_cases (f := fun k => 1073741824 - c (n - (r + 1)) k + V c n m r (setT T k)) (p := okB c T (n - (r + 1))) (x := V c n m r T) (m := m) with e | ⟨k, hk, hp, e⟩
 ·exact e
 have h1 := firstK_none h hk
 have h2 : takeB c n m r T k = true := takeB_iff.2 ⟨okB_iff.1 hp, e.symm⟩
 rw [h1] at h2
 exact absurd h2 (by decide)
theorem V_parts {c : Nat → Nat → Int} {n m : Nat} (hn : n ≤ 16) (hc : ∀ i k, i < n → k < m → c i k ≤ 1048576) : ∀ (r : Nat) (T : Nat → Bool), r ≤ n → ∃ P C : Int, V c n m r T = 1073741824 * P - C ∧ 0 ≤ P ∧ P ≤ r ∧ 0 ≤ C ∧ C ≤ 1048576 * P
 | 0, T, _ => ⟨0, 0, rfl, by omega, by omega, by omega, by omega⟩
 | r + 1, T, hr => by
  cases e : firstK (takeB c n m r T) m with
  | none =>
   obtain ⟨P, C, h1, h2, h3, h4, h5⟩ := V_parts hn hc r T (by omega)
   exact ⟨P, C, by rw [(bestL_skip e).2]; exact h1, by omega, by omega, by omega, by omega⟩
  | some k =>
   obtain ⟨h1, h2, -⟩ := firstK_some e
   obtain ⟨⟨q1, q2⟩, q3⟩ := takeB_iff.1 h2
   obtain ⟨P, C, p1, p2, p3, p4, p5⟩ := V_parts hn hc r (setT T k) (by omega)
   have := hc (n - (r + 1)) k (by omega) h1
   exact ⟨P + 1, C + c (n - (r + 1)) k, by omega, by omega, by omega, by omega, by omega⟩
def prs (m : Nat) (row : Nat → Int) : Int := sumN (fun k => if row k < 0 then 0 else 1) m
def cst (c : Nat → Nat → Int) (m : Nat) (row : Nat → Int) : Int := sumN (fun k => if row k < 0 then 0 else c (row k).toNat k) m
theorem val_parts {c : Nat → Nat → Int} {row : Nat → Int} : ∀ {m : Nat}, val c m row = 1073741824 * prs m row - cst c m row
 | 0 => rfl
 | m + 1 => by
  have := val_parts (c := c) (row := row) (m := m)
  unfold val prs cst at *
  simp only [sumN]
  split <;> omega
theorem cst_bound {c : Nat → Nat → Int} {n m fr : Nat} {T : Nat → Bool} {row : Nat → Int} (hc : ∀ i k, i < n → k < m → c i k ≤ 1048576) (hM : Mat c n m fr T row) : ∀ j, j ≤ m → 0 ≤ cst c j row ∧ cst c j row ≤ 1048576 * j
 | 0, _ => by unfold cst; simp [sumN]
 | j + 1, hj => by
  have := cst_bound hc hM j (by omega)
  unfold cst at *
  simp only [sumN]
  rcases hM.rng j (by omega) with e | ⟨i, e, h1, h2, h3, h4⟩
  ·rw [if_pos (by omega)]; omega
  have h5 := hc i j h2 (by omega)
  have h6 : (row j).toNat = i := by omega
  rw [if_neg (by omega), h6]
  omega
theorem prs_bound {row : Nat → Int} : ∀ (m : Nat), 0 ≤ prs m row ∧ prs m row ≤ m
 | 0 => by unfold prs; simp [sumN]
 | m + 1 => by
  have := prs_bound (row := row) m
  unfold prs at *
  simp only [sumN]
  split <;> omega
theorem prs_more {row row' : Nat → Int} {m e : Nat} (he : e < m) (h0 : row e = -1) (h : ∀ j, j < m → (0 ≤ row' j ↔ (0 ≤ row j ∨ j = e))) : prs m row' = prs m row + 1 := by
 have h1 := sumN_upd (f := fun k => if row k < 0 then (0 : Int) else 1) (g := fun k => if row' k < 0 then (0 : Int) else 1) (m := m) (k := e) he (fun j hj hne => by
  have := h j hj
  by_cases hr : row j < 0
  ·rw [if_pos hr, if_pos (by rcases Int.lt_or_le (row' j) 0 with q | q; exact q; rcases this.1 q with z | z; omega; exact absurd z hne)]
  rw [if_neg hr, if_neg (by have := this.2 (Or.inl (by omega)); omega)])
 have e1 : (if row e < 0 then (0 : Int) else 1) = 0 := if_pos (by omega)
 have e2 : (if row' e < 0 then (0 : Int) else 1) = 1 := if_neg (by have := (h e he).2 (Or.inr rfl); omega)
 simp only [e1, e2] at h1
 unfold prs
 omega
end AsgMath
end
section
namespace AsgRows
def gi (l : List Int) (i : Nat) : Int := l[i]?.getD 0
def rowL (L : List (List Int)) (i : Nat) : List Int := L[i]?.getD []
def ent (L : List (List Int)) (i k : Nat) : Int := gi (rowL L i) k
def wid (L : List (List Int)) : Nat := (rowL L 0).length
def longM (L : List (List Int)) : Prop := 16 < L.length ∨ (0 < L.length ∧ 16 < wid L)
instance (L : List (List Int)) : Decidable (longM L) := by unfold longM; infer_instance
def chM (L : List (List Int)) : Int :=
 if longM L then 4 else if ∀ i ∈ List.range L.length, (rowL L i).length = wid L then
  (if ∀ i ∈ List.range L.length, ∀ k ∈ List.range (rowL L i).length, -1 ≤ ent L i k ∧ ent L i k ≤ 1048576 then 0 else 1) else 2
theorem chM_long {L : List (List Int)} (h : longM L) : chM L = 4 := if_pos h
theorem chM_form {L : List (List Int)} (h : ¬ longM L) {i : Nat} (hi : i < L.length) (hr : (rowL L i).length ≠ wid L) : chM L = 2 := by
 unfold chM
 rw [if_neg h, if_neg (fun hh => hr (hh i (List.mem_range.2 hi)))]
theorem chM_arg {L : List (List Int)} (h : ¬ longM L) (hf : ∀ i, i < L.length → (rowL L i).length = wid L) {i k : Nat} (hi : i < L.length) (hk : k < (rowL L i).length) (hr : ¬ (-1 ≤ ent L i k ∧ ent L i k ≤ 1048576)) : chM L = 1 := by
 unfold chM
 rw [if_neg h, if_pos (fun i hi => hf i (List.mem_range.1 hi)), if_neg (fun hh => hr (hh i (List.mem_range.2 hi) k (List.mem_range.2 hk)))]
theorem chM_zero {L : List (List Int)} (h : ¬ longM L) (hf : ∀ i, i < L.length → (rowL L i).length = wid L) (he : ∀ i, i < L.length → ∀ k, k < (rowL L i).length → -1 ≤ ent L i k ∧ ent L i k ≤ 1048576) : chM L = 0 := by
 unfold chM
 rw [if_neg h, if_pos (fun i hi => hf i (List.mem_range.1 hi)), if_pos (fun i hi k hk => he i (List.mem_range.1 hi) k (List.mem_range.1 hk))]
structure OkM (L : List (List Int)) : Prop where
 n16 : L.length ≤ 16
 m16 : 0 < L.length → wid L ≤ 16
 form : ∀ i, i < L.length → (rowL L i).length = wid L
 lo : ∀ i k, i < L.length → k < wid L → -1 ≤ ent L i k
 hi : ∀ i k, i < L.length → k < wid L → ent L i k ≤ 1048576
theorem chM_ok {L : List (List Int)} (h : chM L = 0) : OkM L := by
 unfold chM at h
 by_cases h1 : longM L
 ·rw [if_pos h1] at h; exact absurd h (by decide)
 rw [if_neg h1] at h
 by_cases h2 : ∀ i ∈ List.range L.length, (rowL L i).length = wid L
 ·rw [if_pos h2] at h
  by_cases h3 : ∀ i ∈ List.range L.length, ∀ k ∈ List.range (rowL L i).length, -1 ≤ ent L i k ∧ ent L i k ≤ 1048576
  ·unfold longM at h1
   have hf := fun i hi => h2 i (List.mem_range.2 hi)
   have he := fun i hi k hk => h3 i (List.mem_range.2 hi) k (List.mem_range.2 hk)
   exact ⟨by omega, fun h0 => by omega, hf, fun i k hi hk => (he i hi k (by rw [hf i hi]; exact hk)).1, fun i k hi hk => (he i hi k (by rw [hf i hi]; exact hk)).2⟩
  rw [if_neg h3] at h; exact absurd h (by decide)
 rw [if_neg h2] at h; exact absurd h (by decide)
theorem OkM.ch {L : List (List Int)} (h : OkM L) : chM L = 0 := by
 refine chM_zero (fun hl => ?_) h.form (fun i hi k hk => ?_)
 ·unfold longM at hl
  have := h.n16
  rcases hl with q | ⟨q0, q⟩
  ·omega
  have := h.m16 q0; omega
 rw [h.form i hi] at hk
 exact ⟨h.lo i k hi hk, h.hi i k hi hk⟩
end AsgRows
end
section
namespace AsgRows
def pA (ps : List (Int × Int)) (i : Nat) : Int := (ps[i]?.getD (0, 0)).1
def pB (ps : List (Int × Int)) (i : Nat) : Int := (ps[i]?.getD (0, 0)).2
def badP (L : List (List Int)) (a b : Int) : Prop := a < 0 ∨ (L.length : Int) ≤ a ∨ b < 0 ∨ (wid L : Int) ≤ b ∨ ent L a.toNat b.toNat < 0
instance (L : List (List Int)) (a b : Int) : Decidable (badP L a b) := by unfold badP; infer_instance
def clash (ps : List (Int × Int)) (i : Nat) : Prop := ∃ k ∈ List.range i, pA ps i ≤ pA ps k ∨ pB ps k = pB ps i
instance (ps : List (Int × Int)) (i : Nat) : Decidable (clash ps i) := by unfold clash; infer_instance
def cosE (L : List (List Int)) (ps : List (Int × Int)) : Nat → Int
 | 0 => 0
 | i + 1 => if cosE L ps i ≠ 0 then cosE L ps i else if badP L (pA ps i) (pB ps i) then 8 else if clash ps i then 16 else 0
def cosS (L : List (List Int)) (ps : List (Int × Int)) : Nat → Int
 | 0 => 0
 | i + 1 => cosS L ps i + ent L (pA ps i).toNat (pB ps i).toNat
def coE (L : List (List Int)) (ps : List (Int × Int)) : Int := if chM L ≠ 0 then chM L else cosE L ps ps.length
def coS (L : List (List Int)) (ps : List (Int × Int)) : Int := if coE L ps = 0 then cosS L ps ps.length else 0
theorem cosE_next {L : List (List Int)} {ps : List (Int × Int)} {i : Nat} (h0 : cosE L ps i = 0) (hb : ¬ badP L (pA ps i) (pB ps i)) (hc : ¬ clash ps i) : cosE L ps (i + 1) = 0 := by
 show (if cosE L ps i ≠ 0 then _ else _) = _
 rw [if_neg (by rw [h0]; decide), if_neg hb, if_neg hc]
structure Cs (L : List (List Int)) (ps : List (Int × Int)) (i : Nat) (last : Int) (T : Nat → Bool) : Prop where
 e0 : cosE L ps i = 0
 hi : ∀ j, j < i → pA ps j ≤ last
 at' : (i = 0 ∧ last = -1) ∨ ∃ j, j < i ∧ pA ps j = last
 us : ∀ b : Nat, b < 16 → (T b = true ↔ ∃ j, j < i ∧ pB ps j = (b : Int))
 lo : -1 ≤ last
 s0 : 0 ≤ cosS L ps i
 s1 : cosS L ps i ≤ 1048576 * i
theorem Cs.start {L : List (List Int)} {ps : List (Int × Int)} : Cs L ps 0 (-1) (fun _ => false) := ⟨rfl, fun j hj => by omega, Or.inl ⟨rfl, rfl⟩, fun b _ => ⟨fun h => absurd h (by decide), fun ⟨j, hj, _⟩ => by omega⟩, by omega, Int.le_refl _, by simp [cosS]⟩
theorem Cs.clash {L : List (List Int)} {ps : List (Int × Int)} {i b : Nat} {last : Int} {T : Nat → Bool} (h : Cs L ps i last T) (ha : 0 ≤ pA ps i) (hb : pB ps i = (b : Int)) (hb16 : b < 16) : AsgRows.clash ps i ↔ (pA ps i ≤ last ∨ T b = true) := by
 unfold AsgRows.clash
 constructor
 ·rintro ⟨k, hk, q⟩
  have hk := List.mem_range.1 hk
  rcases q with q | q
  ·have := h.hi k hk; exact Or.inl (by omega)
  exact Or.inr ((h.us b hb16).2 ⟨k, hk, by rw [q, hb]⟩)
 rintro (q | q)
 ·rcases h.at' with ⟨_, e⟩ | ⟨j, hj, e⟩
  ·omega
  exact ⟨j, List.mem_range.2 hj, Or.inl (by omega)⟩
 obtain ⟨j, hj, e⟩ := (h.us b hb16).1 q
 exact ⟨j, List.mem_range.2 hj, Or.inr (by rw [e, hb])⟩
theorem Cs.next {L : List (List Int)} {ps : List (Int × Int)} {i b : Nat} {last : Int} {T T' : Nat → Bool} (h : Cs L ps i last T) (hnb : ¬ badP L (pA ps i) (pB ps i)) (hb : pB ps i = (b : Int)) (hb16 : b < 16) (hl : last < pA ps i) (hT : T b = false) (hT' : ∀ k, T' k = if k = b then true else T k) (hx : ent L (pA ps i).toNat (pB ps i).toNat ≤ 1048576) : Cs L ps (i + 1) (pA ps i) T' := by
 have h0 : 0 ≤ pA ps i := by unfold badP at hnb; omega
 have he : 0 ≤ ent L (pA ps i).toNat (pB ps i).toNat := by unfold badP at hnb; omega
 have hc : ¬ AsgRows.clash ps i := fun q => by
  rcases (h.clash h0 hb hb16).1 q with r | r
  ·omega
  rw [hT] at r; exact absurd r (by decide)
 have e1 : cosS L ps (i + 1) = cosS L ps i + ent L (pA ps i).toNat (pB ps i).toNat := rfl
 have := h.s0
 have := h.s1
 refine ⟨cosE_next h.e0 hnb hc, fun j hj => ?_, Or.inr ⟨i, by omega, rfl⟩, fun k hk => ?_, by omega, by omega, by omega⟩
 ·by_cases e : j = i
  ·subst e; exact Int.le_refl _
  have := h.hi j (by omega); omega
 rw [hT' k]
 by_cases e : k = b
 ·subst e
  rw [if_pos rfl]
  exact ⟨fun _ => ⟨i, by omega, hb⟩, fun _ => rfl⟩
 rw [if_neg e, h.us k hk]
 constructor
 ·rintro ⟨j, hj, q⟩; exact ⟨j, by omega, q⟩
 rintro ⟨j, hj, q⟩
 by_cases e2 : j = i
 ·subst e2; omega
 exact ⟨j, by omega, q⟩
end AsgRows
end
