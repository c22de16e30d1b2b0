/-
  Plain laws of layer 37 (pilot): what a pilot follows. No program in sight.
-/
import Derived.Test.YtjidpkcoaoflbaaPlaneMathB
namespace PilotMath

/-- An advisory: its sense, its rate, and whether it only limits the rate. -/
structure Adv where
  s : Int
  r : Int
  k : Bool
  deriving DecidableEq
def adv0 : Adv := ⟨0, 0, false⟩
def advB (a b : Adv) : Bool := a.s == b.s && a.r == b.r && a.k == b.k
theorem advB_true {a b : Adv} : advB a b = true ↔ a = b := by
  unfold advB
  cases a; cases b
  simp [and_assoc]
theorem advB_false {a b : Adv} (h : a ≠ b) : advB a b = false := by
  cases hb : advB a b with
  | false => rfl
  | true => exact absurd (advB_true.1 hb) h
theorem advB_self (a : Adv) : advB a a = true := advB_true.2 rfl

def advLeast (a : Adv) : Int := if a.k then -100 else 0
/-- The error of an advisory, and its bounds. -/
def bndE (a : Adv) : Int := if 2 < a.s then 6 else if (a.s = 0 ∧ (a.r ≠ 0 ∨ a.k = true)) ∨ a.r < advLeast a ∨ 100 < a.r then 1 else 0
def bndL (a : Adv) : Int := if bndE a = 0 then (if a.s = 1 then a.r else -100) else 0
def bndH (a : Adv) : Int := if bndE a = 0 then (if a.s = 2 then -a.r else 100) else 0
theorem bnd_err {a : Adv} (h : bndE a ≠ 0) : bndL a = 0 ∧ bndH a = 0 := by
  unfold bndL bndH
  rw [if_neg h, if_neg h]
  exact ⟨rfl, rfl⟩
theorem bndE_vals (a : Adv) : bndE a = 0 ∨ bndE a = 1 ∨ bndE a = 6 := by
  unfold bndE
  split
  · exact Or.inr (Or.inr rfl)
  · split
    · exact Or.inr (Or.inl rfl)
    · exact Or.inl rfl
theorem bnd_ok {a : Adv} (h : bndE a = 0) : PlaneMath.bdB (bndL a) (bndH a) = true := by
  have hE := h
  unfold bndE at h
  by_cases h1 : 2 < a.s
  · rw [if_pos h1] at h; cases h
  · rw [if_neg h1] at h
    by_cases h2 : (a.s = 0 ∧ (a.r ≠ 0 ∨ a.k = true)) ∨ a.r < advLeast a ∨ 100 < a.r
    · rw [if_pos h2] at h; cases h
    · rw [PlaneMath.bdB_iff]
      unfold bndL bndH
      rw [if_pos hE, if_pos hE]
      have hl : -100 ≤ advLeast a := by unfold advLeast; split <;> omega
      split <;> split <;> omega
theorem bndE_zero : bndE adv0 = 0 := by decide

/-- The error of a pilot. -/
def plE (d pl ms : Int) : Int := if d < 0 ∨ 16 < d ∨ pl < 1 ∨ 32 < pl ∨ ms < 0 ∨ 100 < ms then 1 else 0
theorem plE_ok {d pl ms : Int} (h : plE d pl ms = 0) : 0 ≤ d ∧ d ≤ 16 ∧ 1 ≤ pl ∧ pl ≤ 32 ∧ 0 ≤ ms ∧ ms ≤ 100 := by
  unfold plE at h
  split at h
  · cases h
  · omega
theorem plE_no {d pl ms : Int} (h : d < 0 ∨ 16 < d ∨ pl < 1 ∨ 32 < pl ∨ ms < 0 ∨ 100 < ms) : plE d pl ms = 1 := if_pos h
theorem plE_yes {d pl ms : Int} (h : ¬ (d < 0 ∨ 16 < d ∨ pl < 1 ∨ 32 < pl ∨ ms < 0 ∨ 100 < ms)) : plE d pl ms = 0 := if_neg h

/-- The error of the first advisory of a list that has one. -/
def firstE : List Adv → Int
  | [] => 0
  | a :: l => if bndE a = 0 then firstE l else bndE a
theorem firstE_append (l m : List Adv) : firstE (l ++ m) = if firstE l = 0 then firstE m else firstE l := by
  induction l with
  | nil => rfl
  | cons a l ih =>
    show (if bndE a = 0 then firstE (l ++ m) else bndE a) = if (if bndE a = 0 then firstE l else bndE a) = 0 then firstE m else if bndE a = 0 then firstE l else bndE a
    by_cases h : bndE a = 0
    · rw [if_pos h, if_pos h, ih]
    · rw [if_neg h, if_neg h, if_neg h]
def ga (l : List Adv) (k : Nat) : Adv := l[k]?.getD adv0
/-- The first k have no error. -/
def OkTo (l : List Adv) (k : Nat) : Prop := ∀ i, i < k → bndE (ga l i) = 0
theorem okTo_succ {l : List Adv} {k : Nat} (h : OkTo l k) (hk : bndE (ga l k) = 0) : OkTo l (k + 1) := fun i hi => by
  by_cases e : i = k
  · subst e; exact hk
  · exact h i (by omega)
theorem firstE_at {l : List Adv} {k : Nat} (hk : k < l.length) (h : OkTo l k) (hb : bndE (ga l k) ≠ 0) : firstE l = bndE (ga l k) := by
  induction l generalizing k with
  | nil => simp at hk
  | cons a l ih =>
    cases k with
    | zero =>
      have hb' : bndE a ≠ 0 := hb
      show (if bndE a = 0 then _ else _) = bndE a; rw [if_neg hb']
    | succ k =>
      have h0 : bndE a = 0 := h 0 (by omega)
      show (if bndE a = 0 then firstE l else _) = _
      rw [if_pos h0]
      exact ih (by simpa using hk) (fun i hi => h (i + 1) (by omega)) hb
theorem firstE_ok {l : List Adv} (h : OkTo l l.length) : firstE l = 0 := by
  induction l with
  | nil => rfl
  | cons a l ih =>
    have h0 : bndE a = 0 := h 0 (by simp)
    show (if bndE a = 0 then firstE l else _) = _
    rw [if_pos h0]
    exact ih fun i hi => h (i + 1) (by simpa using hi)
theorem firstE_zero {l : List Adv} (h : firstE l = 0) : ∀ a ∈ l, bndE a = 0 := by
  induction l with
  | nil => intro a ha; cases ha
  | cons b l ih =>
    intro a ha
    have h' : (if bndE b = 0 then firstE l else bndE b) = 0 := h
    by_cases hb : bndE b = 0
    · rw [if_pos hb] at h'
      cases ha with
      | head => exact hb
      | tail _ ha => exact ih h' a ha
    · rw [if_neg hb] at h'; exact absurd h' hb
theorem firstE_mem {l : List Adv} (h : ∀ a ∈ l, bndE a = 0) : firstE l = 0 := by
  apply firstE_ok
  intro i hi
  unfold ga
  rw [List.getElem?_eq_getElem hi]
  exact h _ (List.getElem_mem hi)

/-- A state: the queue, what became due last, what is flown, the count. -/
structure St where
  q : List Adv
  due : Adv
  fl : Adv
  c : Int
def st0 (d : Nat) : St := ⟨List.replicate d adv0, adv0, adv0, 0⟩
/-- The error of a command. -/
def cmdE (d pl ms : Int) (x : St) (a : Adv) : Int :=
  if plE d pl ms ≠ 0 then plE d pl ms else if (x.q.length : Int) ≠ d then 2 else if firstE (x.q ++ [x.due, x.fl, a]) ≠ 0 then firstE (x.q ++ [x.due, x.fl, a]) else if x.c < 0 ∨ 1073741824 < x.c then 7 else 0
def nxFirst (x : St) (a : Adv) : Adv := ga (x.q ++ [a]) 0
def nxCount (x : St) : Int := min (x.c + 1) 1073741824
/-- The state after a command, for a valid state. -/
def nx (ms : Int) (x : St) (a : Adv) : St :=
  if nxFirst x a = x.due then ⟨(x.q ++ [a]).tail, x.due, x.fl, x.c⟩
  else ⟨(x.q ++ [a]).tail, nxFirst x a, if ms = 0 ∨ nxCount x % ms ≠ 0 then nxFirst x a else x.fl, nxCount x⟩
theorem nx_len (ms : Int) (x : St) (a : Adv) : (nx ms x a).q.length = x.q.length := by
  unfold nx
  split <;> simp
/-- A state that a run may have. -/
structure Good (x : St) : Prop where
  q : ∀ a ∈ x.q, bndE a = 0 ∧ 0 ≤ a.s
  due : bndE x.due = 0 ∧ 0 ≤ x.due.s
  fl : bndE x.fl = 0 ∧ 0 ≤ x.fl.s
  c0 : 0 ≤ x.c
  c1 : x.c ≤ 1073741824
theorem nxFirst_mem (x : St) (a : Adv) : nxFirst x a ∈ x.q ++ [a] := by
  unfold nxFirst ga
  cases h : x.q with
  | nil => simp
  | cons b l => simp
theorem good_nx {ms : Int} {x : St} {a : Adv} (h : Good x) (ha : bndE a = 0 ∧ 0 ≤ a.s) : Good (nx ms x a) := by
  have hm : ∀ b ∈ x.q ++ [a], bndE b = 0 ∧ 0 ≤ b.s := by
    intro b hb
    rcases List.mem_append.1 hb with hb | hb
    · exact h.q b hb
    · simp at hb; subst hb; exact ha
  have hf := hm _ (nxFirst_mem x a)
  have ht : ∀ b ∈ (x.q ++ [a]).tail, bndE b = 0 ∧ 0 ≤ b.s := fun b hb => hm b (List.mem_of_mem_tail hb)
  have h0 := h.c0
  have h1 := h.c1
  unfold nx
  split
  · exact ⟨ht, h.due, h.fl, h.c0, h.c1⟩
  · refine ⟨ht, hf, ?_, ?_, ?_⟩
    · show bndE (if _ then _ else _) = 0 ∧ _
      split
      · exact hf
      · exact h.fl
    · show 0 ≤ nxCount x; unfold nxCount; omega
    · show nxCount x ≤ _; unfold nxCount; omega
theorem good_st0 (d : Nat) : Good (st0 d) := by
  refine ⟨fun a ha => ?_, ⟨bndE_zero, Int.le_refl 0⟩, ⟨bndE_zero, Int.le_refl 0⟩, Int.le_refl 0, (by decide : (0 : Int) ≤ 1073741824)⟩
  have := List.eq_of_mem_replicate ha
  subst this
  exact ⟨bndE_zero, by decide⟩
theorem good_cmd {d pl ms : Int} {x : St} {a : Adv} (h : Good x) (ha : bndE a = 0) (hp : plE d pl ms = 0) (hd : (x.q.length : Int) = d) : cmdE d pl ms x a = 0 := by
  unfold cmdE
  have hf : firstE (x.q ++ [x.due, x.fl, a]) = 0 := firstE_mem fun b hb => by
    rcases List.mem_append.1 hb with hb | hb
    · exact (h.q b hb).1
    · simp at hb
      rcases hb with rfl | rfl | rfl
      · exact h.due.1
      · exact h.fl.1
      · exact ha
  have h0 := h.c0
  have h1 := h.c1
  rw [if_neg (by rw [hp]; decide), if_neg (by simpa using hd), if_neg (by rw [hf]; decide), if_neg (by omega)]

/-- The state behind k commands. -/
def stK (ms : Int) (d : Nat) (l : List Adv) : Nat → St
  | 0 => st0 d
  | k + 1 => nx ms (stK ms d l k) (ga l k)
theorem stK_len (ms : Int) (d : Nat) (l : List Adv) (k : Nat) : (stK ms d l k).q.length = d := by
  induction k with
  | zero => simp [stK, st0]
  | succ k ih => unfold stK; rw [nx_len, ih]
theorem stK_good {ms : Int} {d : Nat} {l : List Adv} (h : ∀ i, i < l.length → 0 ≤ (ga l i).s) (hok : OkTo l l.length) (k : Nat) (hk : k ≤ l.length) : Good (stK ms d l k) := by
  induction k with
  | zero => exact good_st0 d
  | succ k ih => exact good_nx (ih (by omega)) ⟨hok k (by omega), h k (by omega)⟩
/-- The bounds under which the aircraft flies in cycle k + 1. -/
def bdK (ms : Int) (d : Nat) (l : List Adv) (k : Nat) : Int × Int := (bndL (stK ms d l (k + 1)).fl, bndH (stK ms d l (k + 1)).fl)
end PilotMath
