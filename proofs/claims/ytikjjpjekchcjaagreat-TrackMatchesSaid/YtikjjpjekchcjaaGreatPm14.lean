/-
  AsgMathB, AsgMathC
-/
import Derived.Test.YtikjjpjekchcjaaGreatPm13
set_option linter.all false
set_option maxRecDepth 100000
set_option maxHeartbeats 64000000
section
namespace AsgMath
def colOf (m : Nat) (row : Nat → Int) (i : Int) : Option Nat := (List.range m).find? (fun k => decide (row k = i))
theorem cX {m : Nat} {row : Nat → Int} {i : Int} {k : Nat} (h : colOf m row i = some k) : k < m ∧ row k = i := by
 unfold colOf at h
 have h1 := List.find?_some h
 have h2 := List.mem_of_find?_eq_some h
 exact ⟨List.mem_range.1 h2, by simpa using h1⟩
theorem dI {m : Nat} {row : Nat → Int} {i : Int} (h : colOf m row i = none) {k : Nat} (hk : k < m) : row k ≠ i := by
 unfold colOf at h
 have := (List.find?_eq_none.1 h) k (List.mem_range.2 hk)
 simpa using this
def ofV (c : Nat → Nat → Int) (m : Nat) (row dist : Nat → Int) (i : Nat) : Int :=
 match colOf m row (i : Int) with
 | some k => if 1099511627776 ≤ dist k then 1099511627776 else dist k - c i k
 | none => 0
theorem fM {c : Nat → Nat → Int} {m : Nat} {row dist : Nat → Int} {i : Nat} (h : ∀ k, k < m → row k ≠ (i : Int)) : ofV c m row dist i = 0 := by
 unfold ofV
 cases e : colOf m row (i : Int) with
 | none => rfl
 | some k => exact absurd (cX e).2 (h k (cX e).1)
theorem fT {c : Nat → Nat → Int} {n m fr : Nat} {T : Nat → Bool} {row dist : Nat → Int} {i k : Nat} (hM : Mat c n m fr T row) (hk : k < m) (h : row k = (i : Int)) : ofV c m row dist i = if 1099511627776 ≤ dist k then 1099511627776 else dist k - c i k := by
 unfold ofV
 cases e : colOf m row (i : Int) with
 | none => exact absurd h (dI e hk)
 | some j =>
  obtain ⟨h1, h2⟩ := cX e
  have : j = k := hM.inj j k h1 hk (by rw [h2, h]) (by omega)
  subst this
  rfl
theorem kK {c : Nat → Nat → Int} {m : Nat} {row dist dist' : Nat → Int} {i : Nat} (h : ∀ k, k < m → row k = (i : Int) → dist' k = dist k) : ofV c m row dist' i = ofV c m row dist i := by
 unfold ofV
 cases e : colOf m row (i : Int) with
 | none => rfl
 | some k =>
  have := h k (cX e).1 (cX e).2
  simp only [this]
structure Pot (c : Nat → Nat → Int) (n m fr : Nat) (T : Nat → Bool) (row a b : Nat → Int) (β : Int) : Prop where
 feas : ∀ i k, fr ≤ i → i < n → k < m → T k = false → 0 ≤ c i k → b k ≤ a i + c i k
 tight : ∀ (i k : Nat), k < m → row k = (i : Int) → b k = a i + c i k
 a0 : ∀ i, 0 ≤ a i
 afree : ∀ i, fr ≤ i → i < n → (∀ k, k < m → row k ≠ (i : Int)) → a i = 0
 bfree : ∀ k, k < m → row k < 0 → T k = false → β ≤ b k
 bmat : ∀ k, k < m → 0 ≤ row k → b k ≤ β
 lo : 0 ≤ β
 hi : β ≤ 16777216
inductive Dep (m : Nat) (row by' : Nat → Int) : Nat → Nat → Prop
 | root {k : Nat} (h : ∀ j, j < m → row j ≠ by' k) : Dep m row by' k 0
 | step {k j d : Nat} (hj : j < m) (e : row j = by' k) (h : Dep m row by' j d) : Dep m row by' k (d + 1)
def cnt (dist : Nat → Int) : Nat → Int := sumN (fun k => if dist k < 1099511627776 then 1 else 0)
theorem qF {dist : Nat → Int} : ∀ (m : Nat), cnt dist m ≤ m
 | 0 => Int.le_refl _
 | m + 1 => by
  have := qF (dist := dist) m
  unfold cnt at *
  simp only [sumN]
  split <;> omega
structure DInv (c : Nat → Nat → Int) (n m fr : Nat) (T : Nat → Bool) (row b dist by' : Nat → Int) : Prop where
 tk : ∀ k, k < m → dist k < 1099511627776 → T k = false
 lo : ∀ k, k < m → dist k < 1099511627776 → b k ≤ dist k ∧ 0 ≤ dist k
 le : ∀ k, k < m → dist k ≤ 1099511627776
 par : ∀ k, k < m → dist k < 1099511627776 → ∃ i : Nat, by' k = (i : Int) ∧ fr ≤ i ∧ i < n ∧ 0 ≤ c i k ∧ row k ≠ (i : Int) ∧ ofV c m row dist i < 1099511627776 ∧ ofV c m row dist i + c i k ≤ dist k
 chain : ∀ k, k < m → dist k < 1099511627776 → ∃ d, Dep m row by' k d
 bound : ∀ k, k < m → dist k < 1099511627776 → dist k ≤ cnt dist m * 1048576
theorem DInv.start {c : Nat → Nat → Int} {n m fr : Nat} {T : Nat → Bool} {row b dist by' : Nat → Int} (h : ∀ k, k < m → dist k = 1099511627776) : DInv c n m fr T row b dist by' :=
 ⟨fun k hk q => by rw [h k hk] at q; exact absurd q (by decide), fun k hk q => by rw [h k hk] at q; exact absurd q (by decide), fun k hk => by rw [h k hk]; exact Int.le_refl _, fun k hk q => by rw [h k hk] at q; exact absurd q (by decide), fun k hk q => by rw [h k hk] at q; exact absurd q (by decide), fun k hk q => by rw [h k hk] at q; exact absurd q (by decide)⟩
theorem DInv.ge0 {c : Nat → Nat → Int} {n m fr : Nat} {T : Nat → Bool} {row b dist by' : Nat → Int} (h : DInv c n m fr T row b dist by') {k : Nat} (hk : k < m) : 0 ≤ dist k ∧ dist k ≤ 1099511627776 := by
 have h1 := h.le k hk
 by_cases hf : dist k < 1099511627776
 ·have := h.lo k hk hf; omega
 omega
section
variable {c : Nat → Nat → Int} {n m fr : Nat} {T : Nat → Bool} {row a b : Nat → Int} {β : Int} {dist by' : Nat → Int}
theorem Pot.b0 (h : Pot c n m fr T row a b β) (hM : Mat c n m fr T row) {k : Nat} (hk : k < m) (hT : T k = false) : 0 ≤ b k := by
 rcases hM.rng k hk with e | ⟨i, e, h1, h2, h3, h4⟩
 ·have := h.bfree k hk (by omega) hT
  have := h.lo
  omega
 have := h.tight i k hk e
 have := h.a0 i
 omega
theorem of_lo (hM : Mat c n m fr T row) (hP : Pot c n m fr T row a b β) (hD : DInv c n m fr T row b dist by') {i : Nat} (h1 : fr ≤ i) (h2 : i < n) (hf : ofV c m row dist i < 1099511627776) : a i ≤ ofV c m row dist i ∧ ofV c m row dist i ≤ cnt dist m * 1048576 := by
 have hc0 : 0 ≤ cnt dist m := fN (fun j _ => by split <;> omega)
 cases e : colOf m row (i : Int) with
 | none =>
  rw [fM (fun k hk => dI e hk), hP.afree i h1 h2 (fun k hk => dI e hk)]
  omega
 | some k =>
  obtain ⟨hk, hr⟩ := cX e
  have ho := fT (dist := dist) hM hk hr
  rw [ho] at hf ⊢
  by_cases hd : 1099511627776 ≤ dist k
  ·rw [if_pos hd] at hf; omega
  rw [if_neg hd] at hf ⊢
  have := hD.lo k hk (by omega)
  have := hD.bound k hk (by omega)
  have := hP.tight i k hk hr
  rcases hM.rng k hk with e | ⟨i', e', q1, q2, q3, q4⟩
  ·omega
  have : i' = i := by omega
  subst this
  omega
theorem Dep.uniq (hM : Mat c n m fr T row) (hby : ∀ k, 0 ≤ by' k ∨ ∀ j, j < m → row j ≠ by' k) {k d : Nat} (h : Dep m row by' k d) : ∀ {d' : Nat}, Dep m row by' k d' → d = d' := by
 induction h with
 | root h0 =>
  intro d' h'
  cases h' with
  | root _ => rfl
  | step hj e _ => exact absurd e (h0 _ hj)
 | step hj e h ih =>
  intro d' h'
  cases h' with
  | root h0 => exact absurd e (h0 _ hj)
  | step hj' e' h' =>
   rename_i k j d j' d'
   have : j = j' := by
    rcases hby k with q | q
    ·exact hM.inj _ _ hj hj' (by rw [e, e']) (by omega)
    exact absurd e (q _ hj)
   subst this
   rw [ih h']
theorem DInv.relax (hm : m ≤ 16) (hcost : ∀ i k, i < n → k < m → c i k ≤ 1048576) (hM : Mat c n m fr T row) (hP : Pot c n m fr T row a b β) (hD : DInv c n m fr T row b dist by') {i k : Nat} (h1 : fr ≤ i) (h2 : i < n) (hk : k < m) (hT : T k = false) (hc : 0 ≤ c i k) (hr : row k ≠ (i : Int)) (hf : ofV c m row dist i < 1099511627776) (hlt : ofV c m row dist i + c i k < dist k) :
    DInv c n m fr T row b (upd dist k (ofV c m row dist i + c i k)) (upd by' k (i : Int)) := by
 have hlo := of_lo hM hP hD h1 h2 hf
 have hcl := hcost i k h2 hk
 have hle := hD.le k hk
 have hb := hP.feas i k h1 h2 hk hT hc
 have ha := hP.a0 i
 have hcm := qF (dist := dist) m
 generalize hd : ofV c m row dist i = d at *
 -- the cost of the rows behind the step
 have hof : ∀ i', ofV c m row dist i' < 1099511627776 → ofV c m row (upd dist k (d + c i k)) i' ≤ ofV c m row dist i' ∧ ofV c m row (upd dist k (d + c i k)) i' < 1099511627776 := by
  intro i' hi'
  cases e : colOf m row (i' : Int) with
  | none =>
   rw [fM (fun j hj => dI e hj)] at hi' ⊢
   rw [fM (fun j hj => dI e hj)]
   omega
  | some j =>
   obtain ⟨hj, hrj⟩ := cX e
   rw [fT hM hj hrj] at hi' ⊢
   rw [fT hM hj hrj]
   by_cases hjk : j = k
   ·subst hjk
    rw [bO]
    have hnk : ¬ (1099511627776 ≤ dist j) := fun hh => by rw [if_pos hh] at hi'; omega
    have hci : 0 ≤ c i' j := by
     rcases hM.rng j hk with q | ⟨i2, q, _, _, _, q4⟩
     ·omega
     have : i2 = i' := by omega
     subst this
     exact q4
    rw [if_neg hnk] at hi' ⊢
    rw [if_neg (by omega)]
    omega
   rw [bD hjk]
   exact ⟨Int.le_refl _, hi'⟩
 have hcnt : cnt dist m ≤ cnt (upd dist k (d + c i k)) m ∧ (dist k = 1099511627776 → cnt dist m + 1 ≤ cnt (upd dist k (d + c i k)) m) := by
  refine ⟨kC (fun j _ => ?_), fun he => kG (fun j _ => ?_) hk ?_⟩
  ·by_cases hjk : j = k
   ·subst hjk; rw [bO]; split <;> split <;> omega
   rw [bD hjk]; exact Int.le_refl _
  ·by_cases hjk : j = k
   ·subst hjk; rw [bO]; split <;> split <;> omega
   rw [bD hjk]; exact Int.le_refl _
  rw [bO, if_neg (by omega), if_pos (by omega)]; decide
 refine ⟨fun j hj h => ?_, fun j hj h => ?_, fun j hj => ?_, fun j hj h => ?_, fun j hj h => ?_, fun j hj h => ?_⟩
 ·by_cases hjk : j = k
  ·subst hjk; exact hT
  rw [bD hjk] at h; exact hD.tk j hj h
 ·by_cases hjk : j = k
  ·subst hjk; rw [bO]; omega
  rw [bD hjk] at h ⊢; exact hD.lo j hj h
 ·by_cases hjk : j = k
  ·subst hjk; rw [bO]; omega
  rw [bD hjk]; exact hD.le j hj
 ·by_cases hjk : j = k
  ·subst hjk
   refine ⟨i, bO, h1, h2, hc, hr, ?_, ?_⟩
   ·rw [kK (dist := dist) (fun j hj hrj => bD (fun e => hr (by rw [← e]; exact hrj))), hd]; exact hf
   rw [kK (dist := dist) (fun j hj hrj => bD (fun e => hr (by rw [← e]; exact hrj))), hd, bO]; exact Int.le_refl _
  rw [bD hjk] at h ⊢
  obtain ⟨i', e, q1, q2, q3, q4, q5, q6⟩ := hD.par j hj h
  have := hof i' q5
  rw [bD hjk]
  exact ⟨i', e, q1, q2, q3, q4, this.2, by omega⟩
 · --no way leads back
  have low : ∀ j dd, Dep m row by' j dd → j < m → dist j < 1099511627776 → (dist k = 1099511627776 ∨ dist j - b j < dist k - b k) → Dep m row (upd by' k (i : Int)) j dd := by
   intro j dd hdep
   induction hdep with
   | @root j h0 =>
    intro hj hfin hr'
    have hjk : j ≠ k := fun e => by subst e; omega
    exact .root (by rw [bD hjk]; exact h0)
   | @step j j' dd hj' e hdep ih =>
    intro hj hfin hr'
    have hjk : j ≠ k := fun e => by subst e; omega
    obtain ⟨i', e', q1, q2, q3, q4, q5, q6⟩ := hD.par j hj hfin
    have hri : row j' = (i' : Int) := by rw [e, e']
    have ho := fT (dist := dist) hM hj' hri
    have ht := hP.tight i' j' hj' hri
    have hfe := hP.feas i' j q1 q2 hj (hD.tk j hj hfin) q3
    by_cases hd' : 1099511627776 ≤ dist j'
    ·rw [if_pos hd'] at ho; omega
    rw [if_neg hd'] at ho
    exact .step hj' (by rw [bD hjk]; exact e) (ih hj' (by omega) (by omega))
  have hk' : ∃ dd, Dep m row (upd by' k (i : Int)) k dd := by
   cases e : colOf m row (i : Int) with
   | none => exact ⟨0, .root (fun j hj => by rw [bO]; exact dI e hj)⟩
   | some j =>
    obtain ⟨hj, hrj⟩ := cX e
    have ho := fT (dist := dist) hM hj hrj
    rw [hd] at ho
    have ht := hP.tight i j hj hrj
    by_cases hd' : 1099511627776 ≤ dist j
    ·rw [if_pos hd'] at ho; omega
    rw [if_neg hd'] at ho
    obtain ⟨dd, hdd⟩ := hD.chain j hj (by omega)
    exact ⟨dd + 1, .step hj (by rw [bO]; exact hrj) (low j dd hdd hj (by omega) (by omega))⟩
  have all : ∀ j dd, Dep m row by' j dd → j < m → (dist j < 1099511627776 ∨ j = k) → ∃ d', Dep m row (upd by' k (i : Int)) j d' := by
   intro j dd hdep
   induction hdep with
   | @root j h0 =>
    intro hj hfin
    by_cases hjk : j = k
    ·subst hjk; exact hk'
    exact ⟨0, .root (by rw [bD hjk]; exact h0)⟩
   | @step j j' dd hj' e hdep ih =>
    intro hj hfin
    by_cases hjk : j = k
    ·subst hjk; exact hk'
    obtain ⟨i', e', q1, q2, q3, q4, q5, q6⟩ := hD.par j hj (by rcases hfin with q | q; exact q; exact absurd q hjk)
    have hri : row j' = (i' : Int) := by rw [e, e']
    have ho := fT (dist := dist) hM hj' hri
    by_cases hd' : 1099511627776 ≤ dist j'
    ·rw [if_pos hd'] at ho; omega
    obtain ⟨d', h'⟩ := ih hj' (Or.inl (by omega))
    exact ⟨d' + 1, .step hj' (by rw [bD hjk]; exact e) h'⟩
  by_cases hjk : j = k
  ·subst hjk; exact hk'
  rw [bD hjk] at h
  obtain ⟨dd, hdd⟩ := hD.chain j hj h
  exact all j dd hdd hj (Or.inl h)
 by_cases hjk : j = k
 ·subst hjk
  rw [bO]
  by_cases he : dist j = 1099511627776
  ·have := hcnt.2 he; omega
  have := hcnt.1
  have := hD.bound j hk (by omega)
  omega
 rw [bD hjk] at h ⊢
 have := hcnt.1
 have := hD.bound j hj h
 omega
end
end AsgMath
end
section
namespace AsgMath
section
variable {c : Nat → Nat → Int} {n m fr : Nat} {T : Nat → Bool} {row a b : Nat → Int} {β : Int} {dist by' : Nat → Int}
def Fixed (c : Nat → Nat → Int) (n m fr : Nat) (T : Nat → Bool) (row dist : Nat → Int) : Prop :=
 ∀ i k, fr ≤ i → i < n → k < m → T k = false → 0 ≤ c i k → row k ≠ (i : Int) → ofV c m row dist i < 1099511627776 → dist k ≤ ofV c m row dist i + c i k
def FixTo (c : Nat → Nat → Int) (m fr : Nat) (T : Nat → Bool) (row dist : Nat → Int) (i : Nat) : Prop :=
 ∀ i' k, fr ≤ i' → i' < i → k < m → T k = false → 0 ≤ c i' k → row k ≠ (i' : Int) → ofV c m row dist i' < 1099511627776 → dist k ≤ ofV c m row dist i' + c i' k
def FixRow (c : Nat → Nat → Int) (m : Nat) (T : Nat → Bool) (row dist : Nat → Int) (i k : Nat) : Prop :=
 ∀ j, j < k → T j = false → 0 ≤ c i j → row j ≠ (i : Int) → ofV c m row dist i < 1099511627776 → dist j ≤ ofV c m row dist i + c i j
theorem FixTo.start : FixTo c m fr T row dist fr := fun i' _ h1 h2 => by omega
theorem FixRow.start {i : Nat} : FixRow c m T row dist i 0 := fun j hj => by omega
theorem FixRow.step {i k : Nat} (h : FixRow c m T row dist i k) (hk : T k = false → 0 ≤ c i k → row k ≠ (i : Int) → ofV c m row dist i < 1099511627776 → dist k ≤ ofV c m row dist i + c i k) : FixRow c m T row dist i (k + 1) := fun j hj => by
 by_cases e : j = k
 ·subst e; exact hk
 exact h j (by omega)
theorem FixTo.step {i : Nat} (h : FixTo c m fr T row dist i) (hr : FixRow c m T row dist i m) : FixTo c m fr T row dist (i + 1) := fun i' k h1 h2 hk => by
 by_cases e : i' = i
 ·subst e; exact hr k hk
 exact h i' k h1 (by omega) hk
theorem FixTo.all (h : FixTo c m fr T row dist n) : Fixed c n m fr T row dist := h
structure Rnd (c : Nat → Nat → Int) (n m fr : Nat) (T : Nat → Bool) (row b : Nat → Int) (s0 : Int) (dist by' : Nat → Int) (ch : Bool) (i k : Nat) : Prop where
 D : DInv c n m fr T row b dist by'
 no : ch = false → sumN dist m = s0 ∧ FixTo c m fr T row dist i ∧ FixRow c m T row dist i k
 yes : ch = true → sumN dist m < s0
theorem Rnd.next {s0 : Int} {ch : Bool} {i : Nat} (h : Rnd c n m fr T row b s0 dist by' ch i m) : Rnd c n m fr T row b s0 dist by' ch (i + 1) 0 :=
 ⟨h.D, fun e => ⟨(h.no e).1, (h.no e).2.1.step (h.no e).2.2, .start⟩, h.yes⟩
theorem Rnd.skip {s0 : Int} {ch : Bool} {i : Nat} (h : Rnd c n m fr T row b s0 dist by' ch i 0) (hf : 1099511627776 ≤ ofV c m row dist i) : Rnd c n m fr T row b s0 dist by' ch (i + 1) 0 :=
 ⟨h.D, fun e => ⟨(h.no e).1, (h.no e).2.1.step (fun j _ _ _ _ q => by omega), .start⟩, h.yes⟩
theorem Rnd.pass {s0 : Int} {ch : Bool} {i k : Nat} (h : Rnd c n m fr T row b s0 dist by' ch i k) (hk : T k = false → 0 ≤ c i k → row k ≠ (i : Int) → ¬ ofV c m row dist i + c i k < dist k) : Rnd c n m fr T row b s0 dist by' ch i (k + 1) :=
 ⟨h.D, fun e => ⟨(h.no e).1, (h.no e).2.1, (h.no e).2.2.step (fun q1 q2 q3 _ => by have := hk q1 q2 q3; omega)⟩, h.yes⟩
theorem Rnd.hit (hm : m ≤ 16) (hcost : ∀ i k, i < n → k < m → c i k ≤ 1048576) (hM : Mat c n m fr T row) (hP : Pot c n m fr T row a b β) {s0 : Int} {ch : Bool} {i k : Nat} (h : Rnd c n m fr T row b s0 dist by' ch i k) (h1 : fr ≤ i) (h2 : i < n) (hk : k < m) (hT : T k = false) (hc : 0 ≤ c i k) (hr : row k ≠ (i : Int)) (hf : ofV c m row dist i < 1099511627776) (hlt : ofV c m row dist i + c i k < dist k) :
    Rnd c n m fr T row b s0 (upd dist k (ofV c m row dist i + c i k)) (upd by' k (i : Int)) true i (k + 1) ∧ ofV c m row (upd dist k (ofV c m row dist i + c i k)) i = ofV c m row dist i := by
 have hs := iO (f := dist) (g := upd dist k (ofV c m row dist i + c i k)) (m := m) (k := k) hk (fun j _ hne => (bD hne).symm)
 rw [bO] at hs
 refine ⟨⟨h.D.relax hm hcost hM hP h1 h2 hk hT hc hr hf hlt, fun e => absurd e (by decide), fun _ => ?_⟩, kK (fun j hj hrj => bD (fun e => hr (by rw [← e]; exact hrj)))⟩
 cases ch with
 | false => have := (h.no rfl).1; omega
 | true => have := h.yes rfl; omega
def newA (c : Nat → Nat → Int) (m : Nat) (row dist a : Nat → Int) (δ : Int) (i : Nat) : Int := if ofV c m row dist i < 1099511627776 then min (ofV c m row dist i) (δ + a i) else δ + a i
def newB (dist b : Nat → Int) (δ : Int) (k : Nat) : Int := if dist k < 1099511627776 then min (dist k) (δ + b k) else δ + b k
theorem oY {δ : Int} {k : Nat} : newB dist b δ k ≤ δ + b k := by unfold newB; split <;> omega
theorem qT (hM : Mat c n m fr T row) {i k : Nat} (hk : k < m) (h : row k = (i : Int)) : fr ≤ i ∧ i < n ∧ T k = false ∧ 0 ≤ c i k := by
 rcases hM.rng k hk with e | ⟨i', e, h1⟩
 ·omega
 have : i' = i := by omega
 subst this
 exact h1
theorem of_cases (hM : Mat c n m fr T row) {i : Nat} : ((∀ k, k < m → row k ≠ (i : Int)) ∧ ofV c m row dist i = 0) ∨ ∃ k, k < m ∧ row k = (i : Int) ∧ fr ≤ i ∧ i < n ∧ T k = false ∧ 0 ≤ c i k ∧ ((1099511627776 ≤ dist k ∧ ofV c m row dist i = 1099511627776) ∨ (dist k < 1099511627776 ∧ ofV c m row dist i = dist k - c i k)) := by
 cases e : colOf m row (i : Int) with
 | none => exact Or.inl ⟨fun k hk => dI e hk, fM (fun k hk => dI e hk)⟩
 | some k =>
  obtain ⟨hk, hr⟩ := cX e
  obtain ⟨h1, h2, h3, h4⟩ := qT hM hk hr
  refine Or.inr ⟨k, hk, hr, h1, h2, h3, h4, ?_⟩
  have ho := fT (dist := dist) hM hk hr
  by_cases hd : 1099511627776 ≤ dist k
  ·rw [if_pos hd] at ho; exact Or.inl ⟨hd, ho⟩
  rw [if_neg hd] at ho; exact Or.inr ⟨by omega, ho⟩
theorem kW (hM : Mat c n m fr T row) (hP : Pot c n m fr T row a b β) (hD : DInv c n m fr T row b dist by') {δ : Int} (hδ : 0 ≤ δ) (i : Nat) : 0 ≤ newA c m row dist a δ i := by
 have := hP.a0 i
 unfold newA
 rcases of_cases (dist := dist) hM (i := i) with ⟨-, e⟩ | ⟨k, hk, hr, h1, h2, h3, h4, ⟨hd, e⟩ | ⟨hd, e⟩⟩
 ·rw [e]; split <;> omega
 ·rw [e]; split <;> omega
 rw [e]
 have := hP.tight i k hk hr
 have := hD.lo k hk hd
 split <;> omega
theorem rE (hM : Mat c n m fr T row) (hP : Pot c n m fr T row a b β) (hF : Fixed c n m fr T row dist) {δ : Int} {i k : Nat} (h1 : fr ≤ i) (h2 : i < n) (hk : k < m) (hT : T k = false) (hc : 0 ≤ c i k) (hcl : c i k ≤ 1048576)
    (hfin : ∀ i, fr ≤ i → i < n → ofV c m row dist i < 1099511627776 → ofV c m row dist i ≤ 16777216) :
    newB dist b δ k ≤ newA c m row dist a δ i + c i k := by
 have h3 := hP.feas i k h1 h2 hk hT hc
 have h4 := oY (dist := dist) (b := b) (δ := δ) (k := k)
 unfold newA
 by_cases hf : ofV c m row dist i < 1099511627776
 ·rw [if_pos hf]
  have h5 := hfin i h1 h2 hf
  have h6 : dist k ≤ ofV c m row dist i + c i k := by
   by_cases hr : row k = (i : Int)
   ·have ho := fT (dist := dist) hM hk hr
    by_cases hd : 1099511627776 ≤ dist k
    ·rw [if_pos hd] at ho; omega
    rw [if_neg hd] at ho; omega
   exact hF i k h1 h2 hk hT hc hr hf
  have h7 : newB dist b δ k ≤ dist k := by unfold newB; rw [if_pos (by omega)]; omega
  omega
 rw [if_neg hf]; omega
theorem nU (hM : Mat c n m fr T row) (hP : Pot c n m fr T row a b β) {δ : Int} {i k : Nat} (hk : k < m) (hr : row k = (i : Int)) : newB dist b δ k = newA c m row dist a δ i + c i k := by
 have h1 := hP.tight i k hk hr
 have ho := fT (dist := dist) hM hk hr
 have hc := (qT hM hk hr).2.2.2
 unfold newB newA
 by_cases hd : 1099511627776 ≤ dist k
 ·rw [if_pos hd] at ho
  rw [ho, if_neg (by omega), if_neg (by omega)]
  omega
 rw [if_neg hd] at ho
 rw [ho, if_pos (by omega), if_pos (by omega)]
 omega
theorem of_fin (hm : m ≤ 16) (hM : Mat c n m fr T row) (hP : Pot c n m fr T row a b β) (hD : DInv c n m fr T row b dist by') : ∀ i, fr ≤ i → i < n → ofV c m row dist i < 1099511627776 → ofV c m row dist i ≤ 16777216 := fun i h1 h2 h => by
 have := (of_lo hM hP hD h1 h2 h).2
 have := qF (dist := dist) m
 omega
theorem dist_fin (hm : m ≤ 16) (hD : DInv c n m fr T row b dist by') {k : Nat} (hk : k < m) (h : dist k < 1099511627776) : dist k ≤ 16777216 := by
 have := hD.bound k hk h
 have := qF (dist := dist) m
 omega
theorem nI (hM : Mat c n m fr T row) (hP : Pot c n m fr T row a b β) (hD : DInv c n m fr T row b dist by') (hF : Fixed c n m fr T row dist) {δ : Int} (_hδ : 0 ≤ δ) {k : Nat} (hk : k < m) (hf : dist k < 1099511627776) (hr : dist k - b k ≤ δ) :
    ∃ i : Nat, by' k = (i : Int) ∧ fr ≤ i ∧ i < n ∧ T k = false ∧ 0 ≤ c i k ∧ newB dist b δ k = newA c m row dist a δ i + c i k ∧ ∀ j, j < m → row j = (i : Int) → dist j < 1099511627776 ∧ dist j - b j ≤ δ := by
 obtain ⟨i, e, h1, h2, h3, h4, h5, h6⟩ := hD.par k hk hf
 have hT := hD.tk k hk hf
 have h7 := hF i k h1 h2 hk hT h3 h4 h5
 have h8 := hP.feas i k h1 h2 hk hT h3
 have h9 := hP.a0 i
 refine ⟨i, e, h1, h2, hT, h3, ?_, fun j hj hrj => ?_⟩
 ·have hB : newB dist b δ k = dist k := by unfold newB; rw [if_pos hf]; omega
  have hA : newA c m row dist a δ i = ofV c m row dist i := by unfold newA; rw [if_pos h5]; omega
  omega
 have ho := fT (dist := dist) hM hj hrj
 have := hP.tight i j hj hrj
 by_cases hd : 1099511627776 ≤ dist j
 ·rw [if_pos hd] at ho; omega
 rw [if_neg hd] at ho; omega
structure Flip (c : Nat → Nat → Int) (n m fr : Nat) (T : Nat → Bool) (row a b : Nat → Int) (β : Int) (dist by' : Nat → Int) (e : Nat) (cur : Nat → Int) (k d : Nat) : Prop where
 kl : k < m
 fin : dist k < 1099511627776
 red : dist k - b k ≤ dist e - β
 dep : Dep m row by' k d
 freek : cur k = -1
 mat : Mat c n m fr T cur
 tight : ∀ (i j : Nat), j < m → cur j = (i : Int) → newB dist b (dist e - β) j = newA c m row dist a (dist e - β) i + c i j
 rows : ∀ i : Nat, (∃ j, j < m ∧ cur j = (i : Int)) ↔ ∃ j, j < m ∧ row j = (i : Int)
 cols : ∀ j, j < m → j ≠ k → (0 ≤ cur j ↔ (0 ≤ row j ∨ j = e))
 kcol : k = e ∨ 0 ≤ row k
 same : ∀ j d', j < m → Dep m row by' j d' → d' < d → cur j = row j
structure Found (c : Nat → Nat → Int) (n m fr : Nat) (T : Nat → Bool) (row a b : Nat → Int) (β : Int) (dist by' : Nat → Int) (e : Nat) : Prop where
 M : Mat c n m fr T row
 P : Pot c n m fr T row a b β
 D : DInv c n m fr T row b dist by'
 F : Fixed c n m fr T row dist
 el : e < m
 efree : row e = -1
 efin : dist e < 1099511627776
 least : ∀ k, k < m → row k < 0 → T k = false → dist e ≤ dist k
 m16 : m ≤ 16
 cost : ∀ i k, i < n → k < m → c i k ≤ 1048576
theorem Found.delta {e : Nat} (h : Found c n m fr T row a b β dist by' e) : 0 ≤ dist e - β ∧ dist e - b e ≤ dist e - β := by
 have h1 := h.P.bfree e h.el (by have := h.efree; omega) (h.D.tk e h.el h.efin)
 have h2 := h.D.lo e h.el h.efin
 omega
theorem Found.flip {e : Nat} (h : Found c n m fr T row a b β dist by' e) : ∃ d, Flip c n m fr T row a b β dist by' e row e d := by
 obtain ⟨d, hd⟩ := h.D.chain e h.el h.efin
 exact ⟨d, h.el, h.efin, h.delta.2, hd, h.efree, h.M, fun i j hj hr => nU h.M h.P hj hr, fun i => Iff.rfl, fun j hj hne => ⟨Or.inl, fun q => q.elim id (fun q => absurd q hne)⟩, Or.inl rfl, fun _ _ _ _ _ => rfl⟩
theorem Found.uniq {e : Nat} (h : Found c n m fr T row a b β dist by' e) {k d : Nat} (hd : Dep m row by' k d) : k < m → dist k < 1099511627776 → ∀ {d' : Nat}, Dep m row by' k d' → d = d' := by
 induction hd with
 | root h0 =>
  intro _ _ d' h'
  cases h' with
  | root _ => rfl
  | step hj e _ => exact absurd e (h0 _ hj)
 | @step k j d hj e hdep ih =>
  intro hkm hf d' h'
  cases h' with
  | root h0 => exact absurd e (h0 _ hj)
  | @step _ j' d' hj' e' h' =>
   obtain ⟨i, e0, q1, q2, q3, q4, q5, q6⟩ := h.D.par k hkm hf
   have hjj : j = j' := h.M.inj _ _ hj hj' (by rw [e, e']) (by omega)
   subst hjj
   have ho := fT (dist := dist) h.M hj (by rw [e, e0])
   by_cases hd : 1099511627776 ≤ dist j
   ·rw [if_pos hd] at ho; omega
   rw [ih hj (by omega) h']
theorem Found.dpt {e : Nat} (h : Found c n m fr T row a b β dist by' e) : ∃ dp : Nat → Nat, ∀ k d, Dep m row by' k d → k < m → dist k < 1099511627776 → dp k = d := by
 refine ⟨fun k => open Classical in if h : ∃ d, Dep m row by' k d then Classical.choose h else 0, fun k d hd hk hf => ?_⟩
 have hex : ∃ d, Dep m row by' k d := ⟨d, hd⟩
 dsimp only
 rw [dif_pos hex]
 exact (h.uniq hd hk hf (Classical.choose_spec hex)).symm
theorem Flip.next {e : Nat} {cur : Nat → Int} {k d : Nat} (hF : Found c n m fr T row a b β dist by' e) (h : Flip c n m fr T row a b β dist by' e cur k d) {j : Nat} (hj : j < m) (hc : cur j = by' k) :
    j ≠ k ∧ ∃ d', d = d' + 1 ∧ Flip c n m fr T row a b β dist by' e (upd (upd cur k (by' k)) j (-1)) j d' := by
 obtain ⟨i, e0, q1, q2, q3, q4, q5, q6⟩ := nI hF.M hF.P hF.D hF.F hF.delta.1 h.kl h.fin h.red
 rw [e0] at hc
 have hjk : j ≠ k := fun q => by subst q; have := h.freek; omega
 obtain ⟨j0, hj0, hr0⟩ := (h.rows i).1 ⟨j, hj, hc⟩
 cases hdep : h.dep with
 | root h0 => exact absurd hr0 (by rw [← e0]; exact h0 j0 hj0)
 | @step _ j1 d' hj1 e1 hd1 =>
  have : j1 = j0 := hF.M.inj _ _ hj1 hj0 (by rw [e1, e0, hr0]) (by omega)
  subst this
  have hs := h.same j1 d' hj1 hd1 (by omega)
  have : j1 = j := h.mat.inj _ _ hj1 hj (by rw [hs, hr0, hc]) (by omega)
  subst this
  obtain ⟨r1, r2⟩ := q6 j1 hj hr0
  refine ⟨hjk, d', rfl, hj, r1, r2, hd1, bO, ⟨fun x hx => ?_, fun x y hx hy hxy h0 => ?_⟩, fun i' x hx hx' => ?_, fun i' => ⟨fun ⟨x, hx, hx'⟩ => ?_, fun ⟨x, hx, hx'⟩ => ?_⟩, fun x hx hne => ?_, Or.inr (by omega), fun x d2 hx hd2 hlt => ?_⟩
  ·by_cases a1 : x = j1
   ·subst a1; exact Or.inl bO
   rw [bD a1]
   by_cases a2 : x = k
   ·subst a2; rw [bO]; exact Or.inr ⟨i, e0, q1, q2, q3, q4⟩
   rw [bD a2]; exact h.mat.rng x hx
  ·by_cases a1 : x = j1
   ·subst a1; rw [bO] at h0; omega
   by_cases b1 : y = j1
   ·subst b1; rw [bO] at hxy; omega
   rw [bD a1] at h0
   rw [bD a1, bD b1] at hxy
   by_cases a2 : x = k
   ·subst a2
    by_cases b2 : y = x
    ·exact b2.symm
    rw [bO, bD b2] at hxy
    exact absurd (h.mat.inj y j1 hy hj (by omega) (by omega)) b1
   rw [bD a2] at h0
   by_cases b2 : y = k
   ·subst b2
    rw [bO, bD a2] at hxy
    exact absurd (h.mat.inj x j1 hx hj (by omega) (by omega)) a1
   rw [bD a2, bD b2] at hxy
   exact h.mat.inj x y hx hy hxy h0
  ·by_cases a1 : x = j1
   ·subst a1; rw [bO] at hx'; omega
   rw [bD a1] at hx'
   by_cases a2 : x = k
   ·subst a2
    rw [bO, e0] at hx'
    have : i' = i := by omega
    subst this
    exact q5
   rw [bD a2] at hx'; exact h.tight i' x hx hx'
  ·by_cases a1 : x = j1
   ·subst a1; rw [bO] at hx'; omega
   rw [bD a1] at hx'
   by_cases a2 : x = k
   ·subst a2
    rw [bO, e0] at hx'
    exact ⟨j1, hj, by omega⟩
   rw [bD a2] at hx'; exact (h.rows i').1 ⟨x, hx, hx'⟩
  ·obtain ⟨x2, hx2, e2⟩ := (h.rows i').2 ⟨x, hx, hx'⟩
   by_cases a1 : x2 = j1
   ·subst a1
    exact ⟨k, h.kl, by rw [bD (fun q => hjk q.symm), bO]; omega⟩
   have a2 : x2 ≠ k := fun q => by subst q; have := h.freek; omega
   exact ⟨x2, hx2, by rw [bD a1, bD a2]; exact e2⟩
  ·rw [bD hne]
   by_cases a2 : x = k
   ·subst a2
    rw [bO]
    rcases h.kcol with q | q
    ·exact ⟨fun _ => Or.inr q, fun _ => by omega⟩
    exact ⟨fun _ => Or.inl q, fun _ => by omega⟩
   rw [bD a2]; exact h.cols x hx a2
  have a1 : x ≠ j1 := fun q => by
   subst q
   have := hF.uniq hd1 hj r1 hd2
   omega
  have a2 : x ≠ k := fun q => by
   subst q
   have := hF.uniq h.dep h.kl h.fin hd2
   omega
  rw [bD a1, bD a2]
  exact h.same x d2 hx hd2 (by omega)
theorem Flip.last {e : Nat} {cur : Nat → Int} {k d : Nat} (hF : Found c n m fr T row a b β dist by' e) (h : Flip c n m fr T row a b β dist by' e cur k d) (hno : ∀ j, j < m → cur j ≠ by' k) :
    Mat c n m fr T (upd cur k (by' k)) ∧ (∃ a' b', Pot c n m fr T (upd cur k (by' k)) a' b' (dist e)) ∧ (∀ j, j < m → (0 ≤ upd cur k (by' k) j ↔ (0 ≤ row j ∨ j = e))) := by
 obtain ⟨i, e0, q1, q2, q3, q4, q5, q6⟩ := nI hF.M hF.P hF.D hF.F hF.delta.1 h.kl h.fin h.red
 have hcols : ∀ j, j < m → (0 ≤ upd cur k (by' k) j ↔ (0 ≤ row j ∨ j = e)) := fun x hx => by
  by_cases a2 : x = k
  ·subst a2
   rw [bO]
   rcases h.kcol with q | q
   ·exact ⟨fun _ => Or.inr q, fun _ => by omega⟩
   exact ⟨fun _ => Or.inl q, fun _ => by omega⟩
  rw [bD a2]; exact h.cols x hx a2
 have hδ := hF.delta.1
 have hfin := of_fin hF.m16 hF.M hF.P hF.D
 refine ⟨⟨fun x hx => ?_, fun x y hx hy hxy h0 => ?_⟩, ⟨newA c m row dist a (dist e - β), newB dist b (dist e - β), ?_⟩, hcols⟩
 ·by_cases a2 : x = k
  ·subst a2; rw [bO]; exact Or.inr ⟨i, e0, q1, q2, q3, q4⟩
  rw [bD a2]; exact h.mat.rng x hx
 ·by_cases a2 : x = k
  ·subst a2
   by_cases b2 : y = x
   ·exact b2.symm
   rw [bO, bD b2] at hxy
   exact absurd hxy.symm (hno y hy)
  rw [bD a2] at h0
  by_cases b2 : y = k
  ·subst b2
   rw [bO, bD a2] at hxy
   exact absurd hxy (hno x hx)
  rw [bD a2, bD b2] at hxy
  exact h.mat.inj x y hx hy hxy h0
 refine ⟨fun i' x h1 h2 hx hT hc => rE hF.M hF.P hF.F h1 h2 hx hT hc (hF.cost i' x h2 hx) hfin, fun i' x hx hx' => ?_, kW hF.M hF.P hF.D hδ, fun i' h1 h2 hfree => ?_, fun x hx hx' hT => ?_, fun x hx hx' => ?_, ?_, ?_⟩
 ·by_cases a2 : x = k
  ·subst a2
   rw [bO, e0] at hx'
   have : i' = i := by omega
   subst this
   exact q5
  rw [bD a2] at hx'; exact h.tight i' x hx hx'
 ·have hrow : ∀ x, x < m → row x ≠ (i' : Int) := fun x hx hx' => by
   obtain ⟨x2, hx2, e2⟩ := (h.rows i').2 ⟨x, hx, hx'⟩
   have a2 : x2 ≠ k := fun q => by subst q; have := h.freek; omega
   exact hfree x2 hx2 (by rw [bD a2]; exact e2)
  have h0 := hF.P.afree i' h1 h2 hrow
  unfold newA
  rw [fM hrow, h0, if_pos (by omega)]
  omega
 ·have hr : row x < 0 := by
   have := hcols x hx
   rcases Int.lt_or_le (row x) 0 with q | q
   ·exact q
   have := this.2 (Or.inl q); omega
  have h1 := hF.least x hx hr hT
  have h2 := hF.P.bfree x hx hr hT
  unfold newB
  split <;> omega
 ·have h4 := oY (dist := dist) (b := b) (δ := dist e - β) (k := x)
  rcases (hcols x hx).1 hx' with q | q
  ·have := hF.P.bmat x hx q
   omega
  subst q
  unfold newB
  rw [if_pos hF.efin]
  omega
 ·have := hF.D.lo e hF.el hF.efin; omega
 exact dist_fin hF.m16 hF.D hF.el hF.efin
theorem none_found {r : Nat} (hr : r ≤ n) (hm : m ≤ 16) (hcost : ∀ i k, i < n → k < m → c i k ≤ 1048576) (hM : Mat c n m (n - r) T row) (hP : Pot c n m (n - r) T row a b β) (hD : DInv c n m (n - r) T row b dist by') (hF : Fixed c n m (n - r) T row dist) (hno : ∀ k, k < m → row k < 0 → T k = false → 1099511627776 ≤ dist k) :
    val c m row = V c n m r T := by
 have hδ : 0 ≤ 1073741824 - β := by have := hP.hi; omega
 have hfin := of_fin hm hM hP hD
 refine V_eq (y := newA c m row dist a (1073741824 - β)) (z := fun k => max 0 (1073741824 - newB dist b (1073741824 - β) k)) hr hM (kW hM hP hD hδ) (fun k => by omega) (fun i k h1 h2 hk hc hT => ?_) (fun i k hk hk' => ?_) (fun i h1 h2 => ?_) (fun k hk hk' hT => ?_)
 ·have := rE (δ := 1073741824 - β) hM hP hF h1 h2 hk hT hc (hcost i k h2 hk) hfin
  omega
 ·have h1 := nU (dist := dist) (δ := 1073741824 - β) hM hP hk hk'
  have h2 := hP.bmat k hk (by omega)
  have h3 := oY (dist := dist) (b := b) (δ := 1073741824 - β) (k := k)
  omega
 ·by_cases hex : ∃ k, k < m ∧ row k = (i : Int)
  ·exact Or.inr hex
  have hrow : ∀ x, x < m → row x ≠ (i : Int) := fun x hx hx' => hex ⟨x, hx, hx'⟩
  left
  have h0 := hP.afree i h1 h2 hrow
  unfold newA
  rw [fM hrow, h0, if_pos (by omega)]
  omega
 have h1 := hno k hk hk' hT
 have h2 := hP.bfree k hk hk' hT
 have : newB dist b (1073741824 - β) k = 1073741824 - β + b k := by unfold newB; rw [if_neg (by omega)]
 omega
theorem Mat.start : Mat c n m fr T (fun _ => -1) := ⟨fun _ _ => Or.inl rfl, fun _ _ _ _ _ h => absurd h (by decide)⟩
theorem Pot.start : Pot c n m fr T (fun _ => -1) (fun _ => 0) (fun _ => 0) 0 :=
 ⟨fun i k _ _ _ _ h => by omega, fun i k _ h => by omega, fun _ => by omega, fun _ _ _ _ => rfl, fun _ _ _ _ => by omega, fun _ _ _ => by omega, by omega, by omega⟩
end
end AsgMath
end
