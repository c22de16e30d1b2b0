/-
  TrkCyc
-/
import Derived.Test.YtikjjpjekchcjaaGreatPm15
set_option linter.all false
set_option maxRecDepth 100000
set_option maxHeartbeats 64000000
namespace TrkMath
open AltMath GrayMath
/-! ### plots -/
def lvOf (y : Pl) : Lv := if 0 ≤ y.code then (altA y.code, altS y.code) else (0, 0)
theorem gI {y : Pl} (h : 0 ≤ y.code) : lvOf y = (altA y.code, altS y.code) := if_pos h
theorem jI {y : Pl} (h : ¬ 0 ≤ y.code) : lvOf y = (0, 0) := if_neg h
def plBad (y : Pl) : Prop := ¬ (0 ≤ y.r ∧ y.r ≤ 8192) ∨ ¬ (-1 ≤ y.code ∧ y.code ≤ 8191) ∨ ¬ (-1 ≤ y.addr ∧ y.addr ≤ 16777215)
instance (y : Pl) : Decidable (plBad y) := by unfold plBad; infer_instance
def plE (y : Pl) : Int := if plBad y then 1 else if 0 ≤ y.code then altE y.code else 0
theorem dQ {y : Pl} (h : plBad y) : plE y = 1 := if_pos h
theorem mI {y : Pl} (h : ¬ plBad y) (hc : 0 ≤ y.code) : plE y = altE y.code := by unfold plE; rw [if_neg h, if_pos hc]
theorem qW {y : Pl} (h : ¬ plBad y) (hc : ¬ 0 ≤ y.code) : plE y = 0 := by unfold plE; rw [if_neg h, if_neg hc]
theorem fL {y : Pl} (h : plE y = 0) : ¬ plBad y ∧ (0 ≤ y.code → altE y.code = 0) := by
 by_cases hb : plBad y
 ·rw [dQ hb] at h; cases h
 exact ⟨hb, fun hc => by rw [mI hb hc] at h; exact h⟩
def plsE : List Pl → Int
 | [] => 0
 | y :: ys => if plE y ≠ 0 then plE y else plsE ys
theorem drop_gp {L : List Pl} {k : Nat} (hk : k < L.length) : L.drop k = gp L k :: L.drop (k + 1) := by
 unfold gp
 rw [List.drop_eq_getElem_cons hk, List.getElem?_eq_getElem hk, Option.getD_some]
theorem iQ {L : List Pl} {k : Nat} (hk : k < L.length) (h : plE (gp L k) ≠ 0) : plsE (L.drop k) = plE (gp L k) := by
 rw [drop_gp hk]; unfold plsE; rw [if_pos h]
theorem plsE_go {L : List Pl} {k : Nat} (hk : k < L.length) (h : plE (gp L k) = 0) : plsE (L.drop k) = plsE (L.drop (k + 1)) := by
 rw [drop_gp hk]
 conv => lhs; unfold plsE
 rw [if_neg (by rw [h]; exact fun e => e rfl)]
theorem plsE_zero {L : List Pl} (h : plsE L = 0) : ∀ k, k < L.length → plE (gp L k) = 0 := by
 intro k hk
 induction L generalizing k with
 | nil => exact absurd hk (Nat.not_lt_zero _)
 | cons y ys ih =>
  by_cases h0 : plE y = 0
  ·have h1 : plsE ys = 0 := by
    unfold plsE at h
    rw [if_neg (by rw [h0]; exact fun e => e rfl)] at h
    exact h
   cases k with
   | zero => exact h0
   | succ k => exact ih h1 k (by simpa using hk)
  unfold plsE at h
  rw [if_pos h0] at h
  exact absurd h h0
theorem mD {c : Int} (h : altE c = 0) : (-1000 ≤ altA c ∧ altA c ≤ 50000) ∧ (altS c = 25 ∨ altS c = 100) := by
 unfold altE at h
 unfold altA altS
 unfold altT at h ⊢
 split at h
 ·cases h
 rename_i h1
 rw [if_neg h1]
 split at h
 ·rename_i h2
  rw [if_pos h2]
  split at h
  ·rename_i h3
   rw [if_pos h3]
   unfold inR at h3
   simp only [Bool.and_eq_true, decide_eq_true_eq] at h3
   exact ⟨h3, Or.inl rfl⟩
  cases h
 rename_i h2
 rw [if_neg h2]
 split at h
 ·cases h
 rename_i k hk
 split at h
 ·rename_i h3
  rw [if_pos h3]
  unfold inR at h3
  simp only [Bool.and_eq_true, decide_eq_true_eq] at h3
  exact ⟨h3, Or.inr rfl⟩
 cases h
theorem jH {y : Pl} (h : plE y = 0) : LvOk (lvOf y) := by
 intro hs
 by_cases hc : 0 ≤ y.code
 ·rw [gI hc]
  have h1 := mD ((fL h).2 hc)
  unfold meE
  rw [if_neg]
  dsimp only
  omega
 rw [jI hc] at hs
 exact absurd hs (by decide)
theorem mK {y : Pl} (h : plE y = 0) : 0 < (lvOf y).2 ↔ 0 ≤ y.code := by
 by_cases hc : 0 ≤ y.code
 ·rw [gI hc]
  have h1 := mD ((fL h).2 hc)
  exact ⟨fun _ => hc, fun _ => by dsimp only; omega⟩
 rw [jI hc]
 exact ⟨fun e => absurd e (by decide), fun e => absurd e hc⟩
def cyE (p : Par) (now next : Int) (L : List Tk) (P : List Pl) : Int :=
 if ckE p now next L ≠ 0 then ckE p now next L else if now = 1073741824 ∨ 1073741808 < next then 7 else if 16 < P.length then 4 else plsE P
theorem qE {p : Par} {now next : Int} {L : List Tk} {P : List Pl} (h : ckE p now next L ≠ 0) : cyE p now next L P = ckE p now next L := if_pos h
theorem iY {p : Par} {now next : Int} {L : List Tk} {P : List Pl} (h : ckE p now next L = 0) (h2 : now = 1073741824 ∨ 1073741808 < next) : cyE p now next L P = 7 := by
 unfold cyE; rw [if_neg (fun e => e h), if_pos h2]
theorem mQ {p : Par} {now next : Int} {L : List Tk} {P : List Pl} (h : ckE p now next L = 0) (h2 : ¬ (now = 1073741824 ∨ 1073741808 < next)) (h3 : 16 < P.length) : cyE p now next L P = 4 := by
 unfold cyE; rw [if_neg (fun e => e h), if_neg h2, if_pos h3]
theorem mA {p : Par} {now next : Int} {L : List Tk} {P : List Pl} (h : ckE p now next L = 0) (h2 : ¬ (now = 1073741824 ∨ 1073741808 < next)) (h3 : ¬ 16 < P.length) : cyE p now next L P = plsE P := by
 unfold cyE; rw [if_neg (fun e => e h), if_neg h2, if_neg h3]
theorem mP {p : Par} {now next : Int} {L : List Tk} {P : List Pl} (h : cyE p now next L P = 0) : ckE p now next L = 0 ∧ ¬ (now = 1073741824 ∨ 1073741808 < next) ∧ P.length ≤ 16 ∧ plsE P = 0 := by
 by_cases h1 : ckE p now next L = 0
 ·by_cases h2 : now = 1073741824 ∨ 1073741808 < next
  ·rw [iY h1 h2] at h; cases h
  by_cases h3 : 16 < P.length
  ·rw [mQ h1 h2 h3] at h; cases h
  rw [mA h1 h2 h3] at h
  exact ⟨h1, h2, by omega, h⟩
 rw [qE h1] at h; exact absurd h h1
/-! ### the step -/
def gk (L : List Tk) (k : Nat) : Tk := L[k]?.getD tk0
def stpT (p : Par) (t : Tk) : Tk := { t with lo := loK (stF t.lo t.hi p.pull.toNat) 201, hi := hiK (stF t.lo t.hi p.pull.toNat) 201 }
def stpA (p : Par) (L : List Tk) : Nat → List Tk × List Ev
 | 0 => ([], [])
 | k + 1 => if emptyB (stpT p (gk L k)).lo (stpT p (gk L k)).hi then ((stpA p L k).1, (stpA p L k).2 ++ [⟨4, (gk L k).id, -1⟩]) else ((stpA p L k).1 ++ [stpT p (gk L k)], (stpA p L k).2)
theorem fY {p : Par} {L : List Tk} {k : Nat} (h : emptyB (stpT p (gk L k)).lo (stpT p (gk L k)).hi = true) : stpA p L (k + 1) = ((stpA p L k).1, (stpA p L k).2 ++ [⟨4, (gk L k).id, -1⟩]) := by
 conv => lhs; unfold stpA
 rw [if_pos h]
theorem eU {p : Par} {L : List Tk} {k : Nat} (h : emptyB (stpT p (gk L k)).lo (stpT p (gk L k)).hi = false) : stpA p L (k + 1) = ((stpA p L k).1 ++ [stpT p (gk L k)], (stpA p L k).2) := by
 conv => lhs; unfold stpA
 rw [if_neg (by rw [h]; decide)]
/-! ### the pairs -/
def rowV (p : Par) (P : List Pl) (t : Tk) : List Int := P.map fun y => costV p t y (lvOf y)
def rowsV (p : Par) (L : List Tk) (P : List Pl) : List (List Int) := L.map (rowV p P)
def prsV (p : Par) (L : List Tk) (P : List Pl) : List (Nat × Nat) := AsgMath.bestL (AsgRows.ent (rowsV p L P)) (rowsV p L P).length (AsgRows.wid (rowsV p L P)) (rowsV p L P).length (fun _ => false)
def ofF (l : List (Nat × Nat)) (i : Nat) : Option Nat := (l.find? (fun q => q.1 == i)).map (·.2)
def usB (l : List (Nat × Nat)) (k : Nat) : Bool := l.any (fun q => q.2 == k)
/-! ### the update -/
def hit1 (t : Tk) : Int := min (t.hits + 1) 1073741824
def updT (p : Par) (t : Tk) (y : Pl) (l : Lv) : Tk :=
 { id := t.id, addr := if t.addr < 0 then y.addr else t.addr, rg := upX t.rg y.r (t.misses + 1), lo := meaL t.lo t.hi l, hi := meaH t.lo t.hi l, hits := hit1 t, misses := 0, firm := t.firm || decide (p.need ≤ hit1 t) }
def misT (t : Tk) : Tk := { t with misses := t.misses + 1 }
def updT1 (p : Par) (P : List Pl) (t : Tk) : Option Nat → List Tk
 | none => if p.most ≤ t.misses + 1 then [] else [misT t]
 | some k => [updT p t (gp P k) (lvOf (gp P k))]
def updE1 (p : Par) (t : Tk) : Option Nat → List Ev
 | none => if p.most ≤ t.misses + 1 then [⟨4, t.id, -1⟩] else [⟨3, t.id, -1⟩]
 | some k => if t.firm = false ∧ p.need ≤ hit1 t then [⟨1, t.id, k⟩, ⟨2, t.id, k⟩] else [⟨1, t.id, k⟩]
def updA (p : Par) (P : List Pl) (of : Nat → Option Nat) (L : List Tk) : Nat → List Tk × List Ev
 | 0 => ([], [])
 | k + 1 => ((updA p P of L k).1 ++ updT1 p P (gk L k) (of k), (updA p P of L k).2 ++ updE1 p (gk L k) (of k))
theorem iU (p : Par) (P : List Pl) (of : Nat → Option Nat) (L : List Tk) (k : Nat) : updA p P of L (k + 1) = ((updA p P of L k).1 ++ updT1 p P (gk L k) (of k), (updA p P of L k).2 ++ updE1 p (gk L k) (of k)) := rfl
/-! ### the start -/
def newT (p : Par) (id : Int) (y : Pl) (l : Lv) : Tk := { id := id, addr := y.addr, rg := nwX y.r, lo := loK (neF l.1 l.2) 201, hi := hiK (neF l.1 l.2) 201, hits := 1, misses := 0, firm := decide (p.need = 1) }
structure StR where
 tk : List Tk
 ev : List Ev
 next : Int
def skipB (us : Nat → Bool) (P : List Pl) (n k : Nat) : Prop := us k = true ∨ ¬ 0 < (lvOf (gp P k)).2 ∨ 16 ≤ n
instance (us : Nat → Bool) (P : List Pl) (n k : Nat) : Decidable (skipB us P n k) := by unfold skipB; infer_instance
def staA (p : Par) (P : List Pl) (us : Nat → Bool) (L : List Tk) (next : Int) : Nat → StR
 | 0 => ⟨L, [], next⟩
 | k + 1 => if skipB us P (staA p P us L next k).tk.length k then staA p P us L next k else
     ⟨(staA p P us L next k).tk ++ [newT p (staA p P us L next k).next (gp P k) (lvOf (gp P k))], (staA p P us L next k).ev ++ [⟨5, (staA p P us L next k).next, k⟩], (staA p P us L next k).next + 1⟩
theorem cZ {p : Par} {P : List Pl} {us : Nat → Bool} {L : List Tk} {next : Int} {k : Nat} (h : skipB us P (staA p P us L next k).tk.length k) : staA p P us L next (k + 1) = staA p P us L next k := by
 conv => lhs; unfold staA
 rw [if_pos h]
theorem kD {p : Par} {P : List Pl} {us : Nat → Bool} {L : List Tk} {next : Int} {k : Nat} (h : ¬ skipB us P (staA p P us L next k).tk.length k) : staA p P us L next (k + 1) =
      ⟨(staA p P us L next k).tk ++ [newT p (staA p P us L next k).next (gp P k) (lvOf (gp P k))], (staA p P us L next k).ev ++ [⟨5, (staA p P us L next k).next, k⟩], (staA p P us L next k).next + 1⟩ := by
 conv => lhs; unfold staA
 rw [if_neg h]
/-! ### the cycle -/
def cyS (p : Par) (L : List Tk) : List Tk × List Ev := stpA p L L.length
def cyP (p : Par) (L : List Tk) (P : List Pl) : List (Nat × Nat) := prsV p (cyS p L).1 P
def cyU (p : Par) (L : List Tk) (P : List Pl) : List Tk × List Ev := updA p P (ofF (cyP p L P)) (cyS p L).1 (cyS p L).1.length
def cyN (p : Par) (next : Int) (L : List Tk) (P : List Pl) : StR := staA p P (usB (cyP p L P)) (cyU p L P).1 next P.length
def cyT (p : Par) (next : Int) (L : List Tk) (P : List Pl) : List Tk := (cyN p next L P).tk
def cyV (p : Par) (next : Int) (L : List Tk) (P : List Pl) : List Ev := (cyS p L).2 ++ (cyU p L P).2 ++ (cyN p next L P).ev
def cyX (p : Par) (next : Int) (L : List Tk) (P : List Pl) : Int := (cyN p next L P).next
/-! ### what Check says -/
structure TkOk (p : Par) (t : Tk) : Prop where
 addr : -1 ≤ t.addr ∧ t.addr ≤ 16777215
 rg : rgE t.rg = 0
 hits : 1 ≤ t.hits ∧ t.hits ≤ 1073741824
 mis : 0 ≤ t.misses ∧ t.misses ≤ p.most - 1
 firm : t.firm = decide (p.need ≤ t.hits)
 ch : chB t.lo t.hi = 0
 some : emptyB t.lo t.hi = false
theorem emptyE_ch {lo hi : List Int} (h : emptyE lo hi = 0) : chB lo hi = 0 := by
 unfold emptyE at h
 split at h
 ·rename_i h9
  unfold spE at h9
  split at h9
  ·rename_i h1
   unfold chB at h9
   split at h9
   ·split at h9 <;> cases h9
   cases h9
  rename_i h1
  exact Decidable.not_not.1 h1
 unfold spE at h
 split at h
 ·rename_i h1
  exact absurd h h1
 rename_i h1
 exact Decidable.not_not.1 h1
theorem emptyE_of {lo hi : List Int} (h : chB lo hi = 0) : emptyE lo hi = 0 := by
 unfold emptyE
 split
 ·rfl
 rename_i h9
 unfold spE at h9 ⊢
 rw [if_neg (fun e => e h)] at h9 ⊢
 split
 ·rename_i h1
  rw [if_pos h1] at h9
  exact absurd rfl h9
 rfl
theorem TkOk.of {p : Par} {t : Tk} (h : tkE p t = 0) : TkOk p t := by
 obtain ⟨h1, h2, h3⟩ := tkE_zero h
 unfold tkBad at h1
 refine ⟨?_, ?_, ?_, ?_, ?_, emptyE_ch h2, h3⟩
 ·exact Decidable.not_not.1 (fun e => h1 (Or.inl e))
 ·exact Decidable.not_not.1 (fun e => h1 (Or.inr (Or.inl e)))
 ·exact Decidable.not_not.1 (fun e => h1 (Or.inr (Or.inr (Or.inl e))))
 ·exact Decidable.not_not.1 (fun e => h1 (Or.inr (Or.inr (Or.inr (Or.inl e)))))
 exact Decidable.not_not.1 (fun e => h1 (Or.inr (Or.inr (Or.inr (Or.inr e)))))
theorem TkOk.zero {p : Par} {t : Tk} (h : TkOk p t) : tkE p t = 0 := by
 refine nD ?_ (emptyE_of h.ch) h.some
 unfold tkBad
 rintro (e | e | e | e | e)
 ·exact e h.addr
 ·exact e h.rg
 ·exact e h.hits
 ·exact e h.mis
 exact e h.firm
theorem ckL_zero {p : Par} {next : Int} : ∀ {L : List Tk} {last : Int}, ckL p next last L = 0 → ∀ k, k < L.length → (last < (gk L k).id ∧ (gk L k).id < next ∧ TkOk p (gk L k)) ∧ ∀ j, j < k → (gk L j).id < (gk L k).id := by
 intro L
 induction L with
 | nil => intro last _ k hk; exact absurd hk (Nat.not_lt_zero _)
 | cons t ts ih =>
  intro last h k hk
  unfold ckL at h
  split at h
  ·cases h
  rename_i h1
  split at h
  ·rename_i h2; exact absurd h h2
  rename_i h2
  have ht : tkE p t = 0 := Decidable.not_not.1 h2
  cases k with
  | zero =>
   refine ⟨⟨?_, ?_, TkOk.of ht⟩, fun j hj => absurd hj (Nat.not_lt_zero _)⟩
   ·show last < t.id
    omega
   show t.id < next
   omega
  | succ k =>
   have h3 := ih h k (by simpa using hk)
   have e : gk (t :: ts) (k + 1) = gk ts k := rfl
   rw [e]
   refine ⟨⟨by omega, h3.1.2⟩, fun j hj => ?_⟩
   cases j with
   | zero => exact h3.1.1
   | succ j => exact h3.2 j (by omega)
theorem ckL_of {p : Par} {next : Int} : ∀ {L : List Tk} {last : Int}, (∀ k, k < L.length → last < (gk L k).id ∧ (gk L k).id < next ∧ TkOk p (gk L k)) → (∀ j k, j < k → k < L.length → (gk L j).id < (gk L k).id) → ckL p next last L = 0 := by
 intro L
 induction L with
 | nil => intro last _ _; rfl
 | cons t ts ih =>
  intro last h hs
  have h0 := h 0 (by simp)
  have e0 : gk (t :: ts) 0 = t := rfl
  rw [e0] at h0
  unfold ckL
  rw [if_neg (by omega), if_neg (by rw [h0.2.2.zero]; exact fun e => e rfl)]
  refine ih (fun k hk => ?_) (fun j k hj hk => ?_)
  ·have h1 := h (k + 1) (by simpa using hk)
   have h2 := hs 0 (k + 1) (by omega) (by simpa using hk)
   exact ⟨h2, h1.2⟩
  exact hs (j + 1) (k + 1) (by omega) (by simpa using hk)
theorem ckE_zero {p : Par} {now next : Int} {L : List Tk} (h : ckE p now next L = 0) : ¬ headBad p now next ∧ L.length ≤ 16 ∧ ckL p next (-1) L = 0 := by
 by_cases h1 : headBad p now next
 ·rw [eE h1] at h; cases h
 by_cases h2 : 16 < L.length
 ·rw [mR h1 h2] at h; cases h
 rw [iT h1 h2] at h
 exact ⟨h1, by omega, h⟩
theorem headOk {p : Par} {now next : Int} (h : ¬ headBad p now next) : ParOk p ∧ (0 ≤ now ∧ now ≤ 1073741824) ∧ (0 ≤ next ∧ next ≤ 1073741824) := by
 unfold headBad at h
 refine ⟨nN (Decidable.not_not.1 fun e => h (Or.inl e)), Decidable.not_not.1 fun e => h (Or.inr (Or.inl e)), Decidable.not_not.1 fun e => h (Or.inr (Or.inr e))⟩
theorem headNot {p : Par} {now next : Int} (h : ParOk p ∧ (0 ≤ now ∧ now ≤ 1073741824) ∧ (0 ≤ next ∧ next ≤ 1073741824)) : ¬ headBad p now next := by
 unfold headBad
 rintro (e | e | e)
 ·exact e (kE h.1)
 ·exact e h.2.1
 exact e h.2.2
/-! ### behind the step -/
theorem TkOk.stp {p : Par} {t : Tk} (h : TkOk p t) (he : emptyB (stpT p t).lo (stpT p t).hi = false) : TkOk p (stpT p t) :=
 ⟨h.addr, h.rg, h.hits, h.mis, h.firm, ch_st, he⟩
theorem stpA_mem {p : Par} {L : List Tk} : ∀ {k : Nat} {t : Tk}, t ∈ (stpA p L k).1 → ∃ j, j < k ∧ t = stpT p (gk L j) ∧ emptyB (stpT p (gk L j)).lo (stpT p (gk L j)).hi = false := by
 intro k
 induction k with
 | zero => intro t h; cases h
 | succ k ih =>
  intro t h
  cases he : emptyB (stpT p (gk L k)).lo (stpT p (gk L k)).hi with
  | true =>
   rw [fY he] at h
   obtain ⟨j, h1, h2⟩ := ih h
   exact ⟨j, by omega, h2⟩
  | false =>
   rw [eU he] at h
   rcases List.mem_append.1 h with h | h
   ·obtain ⟨j, h1, h2⟩ := ih h
    exact ⟨j, by omega, h2⟩
   exact ⟨k, by omega, List.mem_singleton.1 h, he⟩
theorem gG {p : Par} {L : List Tk} : ∀ k, (stpA p L k).1.length ≤ k := by
 intro k
 induction k with
 | zero => exact Nat.le_refl _
 | succ k ih =>
  cases he : emptyB (stpT p (gk L k)).lo (stpT p (gk L k)).hi with
  | true => rw [fY he]; show (stpA p L k).1.length ≤ k + 1; omega
  | false => rw [eU he]; show ((stpA p L k).1 ++ [stpT p (gk L k)]).length ≤ k + 1; rw [List.length_append, List.length_singleton]; omega
theorem iP {p : Par} {L : List Tk} : ∀ k, (stpA p L k).2.length ≤ k := by
 intro k
 induction k with
 | zero => exact Nat.le_refl _
 | succ k ih =>
  cases he : emptyB (stpT p (gk L k)).lo (stpT p (gk L k)).hi with
  | true => rw [fY he]; show ((stpA p L k).2 ++ [_]).length ≤ k + 1; rw [List.length_append, List.length_singleton]; omega
  | false => rw [eU he]; show (stpA p L k).2.length ≤ k + 1; omega
theorem lB {L : List Tk} {k : Nat} (h : k < L.length) : gk L k ∈ L := by
 unfold gk
 rw [List.getElem?_eq_getElem h, Option.getD_some]
 exact List.getElem_mem h
theorem ckL_mem {p : Par} {next last : Int} {L : List Tk} (h : ckL p next last L = 0) : ∀ t ∈ L, TkOk p t := by
 intro t ht
 obtain ⟨k, hk, rfl⟩ := List.getElem_of_mem ht
 have := (ckL_zero h k hk).1.2.2
 unfold gk at this
 rw [List.getElem?_eq_getElem hk, Option.getD_some] at this
 exact this
theorem stp_ok {p : Par} {L : List Tk} (h : ∀ t ∈ L, TkOk p t) {k : Nat} (hk : k ≤ L.length) : ∀ t ∈ (stpA p L k).1, TkOk p t := by
 intro t ht
 obtain ⟨j, h1, rfl, h2⟩ := stpA_mem ht
 exact (h _ (lB (by omega))).stp h2
/-! ### the pairs -/
theorem costV_lo (p : Par) (t : Tk) (y : Pl) (l : Lv) : -1 ≤ costV p t y l := by
 have h : 0 ≤ offV t y := by unfold offV; omega
 unfold costV
 split
 ·omega
 split
 ·omega
 split <;> omega
theorem costV_hi {p : Par} (hp : ParOk p) (t : Tk) (y : Pl) (l : Lv) : costV p t y l ≤ 131072 := by
 unfold costV
 split
 ·omega
 rename_i h1
 have h2 : offV t y ≤ 256 * p.gate := by
  rcases Int.lt_or_le (256 * p.gate) (offV t y) with q | q
  ·exact absurd (Or.inl q) h1
  exact q
 have := hp.1
 split
 ·omega
 split <;> omega
theorem costV_fit {p : Par} {t : Tk} {y : Pl} {l : Lv} (h : 0 ≤ costV p t y l) : ¬ farB p t y ∧ emptyB (meaL t.lo t.hi l) (meaH t.lo t.hi l) = false := by
 by_cases h1 : farB p t y
 ·rw [bU h1] at h; exact absurd h (by decide)
 cases h2 : emptyB (meaL t.lo t.hi l) (meaH t.lo t.hi l) with
 | true => rw [bV h1 h2] at h; exact absurd h (by decide)
 | false => exact ⟨h1, rfl⟩
theorem eQ (p : Par) (P : List Pl) (t : Tk) : (rowV p P t).length = P.length := List.length_map _
theorem d6 (p : Par) (L : List Tk) (P : List Pl) : (rowsV p L P).length = L.length := List.length_map _
theorem e8 {p : Par} {L : List Tk} {P : List Pl} {i : Nat} (hi : i < L.length) : AsgRows.rowL (rowsV p L P) i = rowV p P (gk L i) := by
 unfold AsgRows.rowL rowsV gk
 rw [List.getElem?_map, List.getElem?_eq_getElem hi]
 rfl
theorem iV {p : Par} {L : List Tk} {P : List Pl} {i k : Nat} (hi : i < L.length) (hk : k < P.length) : AsgRows.ent (rowsV p L P) i k = costV p (gk L i) (gp P k) (lvOf (gp P k)) := by
 unfold AsgRows.ent
 rw [e8 hi]
 unfold AsgRows.gi rowV gp
 rw [List.getElem?_map, List.getElem?_eq_getElem hk]
 rfl
theorem eY {p : Par} {L : List Tk} {P : List Pl} (h : 0 < L.length) : AsgRows.wid (rowsV p L P) = P.length := by
 unfold AsgRows.wid
 rw [e8 h, eQ]
theorem qS {p : Par} {L : List Tk} {P : List Pl} (hp : ParOk p) (h1 : L.length ≤ 16) (h2 : P.length ≤ 16) : AsgRows.chM (rowsV p L P) = 0 := by
 refine AsgRows.chM_zero ?_ ?_ ?_
 ·unfold AsgRows.longM
  rw [d6]
  rintro (h | ⟨h, h'⟩)
  ·omega
  rw [eY h] at h'
  omega
 ·intro i hi
  rw [d6] at hi
  rw [e8 hi, eQ, eY (by omega)]
 intro i hi k hk
 rw [d6] at hi
 rw [e8 hi, eQ] at hk
 rw [iV hi hk]
 have := costV_lo p (gk L i) (gp P k) (lvOf (gp P k))
 have := costV_hi hp (gk L i) (gp P k) (lvOf (gp P k))
 omega
structure PrOk (p : Par) (L : List Tk) (P : List Pl) (l : List (Nat × Nat)) : Prop where
 row : ∀ q ∈ l, q.1 < L.length
 col : ∀ q ∈ l, q.2 < P.length
 fit : ∀ q ∈ l, 0 ≤ costV p (gk L q.1) (gp P q.2) (lvOf (gp P q.2))
 inc : ∀ i j (hi : i < l.length) (hj : j < l.length), i < j → (l[i]).1 < (l[j]).1
 dis : ∀ i j (hi : i < l.length) (hj : j < l.length), i ≠ j → (l[i]).2 ≠ (l[j]).2
theorem oV (p : Par) (L : List Tk) (P : List Pl) : PrOk p L P (prsV p L P) := by
 obtain ⟨T', h⟩ := AsgMath.Pv.best (L := rowsV p L P) rfl rfl (rowsV p L P).length [] (fun _ => false) (Nat.le_refl _) AsgMath.Pv.nil
 rw [List.nil_append] at h
 have h : AsgMath.Pv (rowsV p L P) (prsV p L P) (rowsV p L P).length T' := h
 have hr : ∀ q ∈ prsV p L P, q.1 < L.length := fun q hq => by
  obtain ⟨j, hj, rfl⟩ := List.getElem_of_mem hq
  have := (h.row j hj).2
  rwa [d6] at this
 have hc : ∀ q ∈ prsV p L P, q.2 < P.length := fun q hq => by
  have h0 := hr q hq
  obtain ⟨j, hj, rfl⟩ := List.getElem_of_mem hq
  have := (h.col j hj).1
  rwa [eY (by omega)] at this
 refine ⟨hr, hc, fun q hq => ?_, h.inc, h.dis⟩
 have h1 := hr q hq
 have h2 := hc q hq
 obtain ⟨j, hj, rfl⟩ := List.getElem_of_mem hq
 have := h.ent j hj
 rwa [iV h1 h2] at this
theorem iR {l : List (Nat × Nat)} {i k : Nat} (h : ofF l i = some k) : (i, k) ∈ l := by
 unfold ofF at h
 obtain ⟨q, hq, rfl⟩ := Option.map_eq_some_iff.1 h
 have h1 := List.find?_some hq
 have h2 := List.mem_of_find?_eq_some hq
 have : q.1 = i := by simpa using h1
 rw [← this]
 exact h2
theorem ofF_none {l : List (Nat × Nat)} {i : Nat} (h : ofF l i = none) : ∀ q ∈ l, q.1 ≠ i := by
 intro q hq
 unfold ofF at h
 have h1 := Option.map_eq_none_iff.1 h
 have := List.find?_eq_none.1 h1 q hq
 simpa using this
theorem PrOk.uniq {p : Par} {L : List Tk} {P : List Pl} {l : List (Nat × Nat)} (h : PrOk p L P l) {q q' : Nat × Nat} (hq : q ∈ l) (hq' : q' ∈ l) (he : q.1 = q'.1) : q = q' := by
 obtain ⟨i, hi, rfl⟩ := List.getElem_of_mem hq
 obtain ⟨j, hj, rfl⟩ := List.getElem_of_mem hq'
 rcases Nat.lt_trichotomy i j with c | c | c
 ·have := h.inc i j hi hj c; omega
 ·subst c; rfl
 have := h.inc j i hj hi c; omega
theorem PrOk.of {p : Par} {L : List Tk} {P : List Pl} {l : List (Nat × Nat)} (h : PrOk p L P l) {i k : Nat} (hq : (i, k) ∈ l) : ofF l i = some k := by
 cases e : ofF l i with
 | none => exact absurd rfl (ofF_none e _ hq)
 | some k' =>
  have := h.uniq (iR e) hq rfl
  rw [(Prod.mk.inj this).2]
theorem oS {l : List (Nat × Nat)} {k : Nat} : usB l k = true ↔ ∃ i, (i, k) ∈ l := by
 unfold usB
 rw [List.any_eq_true]
 constructor
 ·rintro ⟨q, hq, e⟩
  have : q.2 = k := by simpa using e
  exact ⟨q.1, by rw [← this]; exact hq⟩
 rintro ⟨i, hi⟩
 exact ⟨_, hi, by simp⟩
theorem PrOk.us {p : Par} {L : List Tk} {P : List Pl} {l : List (Nat × Nat)} (h : PrOk p L P l) {k : Nat} : usB l k = true ↔ ∃ i, ofF l i = some k := by
 rw [oS]
 exact ⟨fun ⟨i, hi⟩ => ⟨i, h.of hi⟩, fun ⟨i, hi⟩ => ⟨i, iR hi⟩⟩
end TrkMath
