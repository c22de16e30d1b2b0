/-
  AsgMathD, AsgRows, AsgCos, AsgBet, AsgTm
-/
import Derived.Test.YtikjjpjekchcjaaGreatPm14
set_option linter.all false
set_option maxRecDepth 100000
set_option maxHeartbeats 64000000
section
namespace AsgMath
def firstK (p : Nat → Bool) (m : Nat) : Option Nat := (List.range m).find? p
theorem fQ {p : Nat → Bool} {m k : Nat} (h : firstK p m = some k) : k < m ∧ p k = true ∧ ∀ j, j < k → p j = false := by
 unfold firstK at h
 have h1 := List.find?_some h
 have h2 := List.mem_of_find?_eq_some h
 refine ⟨List.mem_range.1 h2, h1, fun j hj => ?_⟩
 obtain ⟨-, as1, bs, e, hn⟩ := List.find?_eq_some_iff_append.1 h
 have hl : as1.length = k := by
  have e1 : (List.range m)[as1.length]? = some k := by rw [e]; simp
  rw [List.getElem?_range] at e1
  ·simpa using e1
  have := congrArg List.length e
  simp at this
  omega
 have hm : j ∈ as1 := by
  have e1 : (List.range m)[j]? = some j := by
   rw [List.getElem?_range]
   have := List.mem_range.1 h2
   omega
  rw [e, List.getElem?_append_left (by omega)] at e1
  exact List.mem_of_getElem? e1
 have := hn j hm
 simpa using this
theorem kX {p : Nat → Bool} {m : Nat} (h : firstK p m = none) {k : Nat} (hk : k < m) : p k = false := by
 unfold firstK at h
 have := (List.find?_eq_none.1 h) k (List.mem_range.2 hk)
 simpa using this
theorem iX {p : Nat → Bool} {m k : Nat} (hk : k < m) (hp : p k = true) (h : ∀ j, j < k → p j = false) : firstK p m = some k := by
 cases e : firstK p m with
 | none => rw [kX e hk] at hp; exact absurd hp (by decide)
 | some j =>
  obtain ⟨h1, h2, h3⟩ := fQ e
  have a : ¬ j < k := fun q => by rw [h j q] at h2; exact absurd h2 (by decide)
  have b : ¬ k < j := fun q => by rw [h3 k q] at hp; exact absurd hp (by decide)
  have : j = k := by omega
  rw [this]
theorem kO {p : Nat → Bool} {m : Nat} (h : ∀ j, j < m → p j = false) : firstK p m = none := by
 cases e : firstK p m with
 | none => rfl
 | some j =>
  obtain ⟨h1, h2, h3⟩ := fQ e
  rw [h j h1] at h2
  exact absurd h2 (by decide)
def takeB (c : Nat → Nat → Int) (n m r : Nat) (T : Nat → Bool) (k : Nat) : Bool :=
 okB c T (n - (r + 1)) k && decide (1073741824 - c (n - (r + 1)) k + V c n m r (setT T k) = V c n m (r + 1) T)
def bestL (c : Nat → Nat → Int) (n m : Nat) : Nat → (Nat → Bool) → List (Nat × Nat)
 | 0, _ => []
 | r + 1, T => match firstK (takeB c n m r T) m with
  | some k => (n - (r + 1), k) :: bestL c n m r (setT T k)
  | none => bestL c n m r T
theorem dN {c : Nat → Nat → Int} {n m r k : Nat} {T : Nat → Bool} : takeB c n m r T k = true ↔ (0 ≤ c (n - (r + 1)) k ∧ T k = false) ∧ 1073741824 - c (n - (r + 1)) k + V c n m r (setT T k) = V c n m (r + 1) T := by
 unfold takeB
 rw [Bool.and_eq_true, fV, decide_eq_true_iff]
theorem gS {c : Nat → Nat → Int} {n m r k : Nat} {T : Nat → Bool} (h : firstK (takeB c n m r T) m = some k) : bestL c n m (r + 1) T = (n - (r + 1), k) :: bestL c n m r (setT T k) := by
 simp only [bestL, h]
theorem fG {c : Nat → Nat → Int} {n m r : Nat} {T : Nat → Bool} (h : firstK (takeB c n m r T) m = none) : bestL c n m (r + 1) T = bestL c n m r T ∧ V c n m (r + 1) T = V c n m r T := by
 refine ⟨by simp only [bestL, h], ?_⟩
 rcases iF (f := fun k => 1073741824 - c (n - (r + 1)) k + V c n m r (setT T k)) (p := okB c T (n - (r + 1))) (x := V c n m r T) (m := m) with e | ⟨k, hk, hp, e⟩
 ·exact e
 have h1 := kX h hk
 have h2 : takeB c n m r T k = true := dN.2 ⟨fV.1 hp, e.symm⟩
 rw [h1] at h2
 exact absurd h2 (by decide)
theorem mE {c : Nat → Nat → Int} {n m : Nat} (hn : n ≤ 16) (hc : ∀ i k, i < n → k < m → c i k ≤ 1048576) : ∀ (r : Nat) (T : Nat → Bool), r ≤ n → ∃ P C : Int, V c n m r T = 1073741824 * P - C ∧ 0 ≤ P ∧ P ≤ r ∧ 0 ≤ C ∧ C ≤ 1048576 * P
 | 0, T, _ => ⟨0, 0, rfl, by omega, by omega, by omega, by omega⟩
 | r + 1, T, hr => by
  cases e : firstK (takeB c n m r T) m with
  | none =>
   obtain ⟨P, C, h1, h2, h3, h4, h5⟩ := mE hn hc r T (by omega)
   exact ⟨P, C, by rw [(fG e).2]; exact h1, by omega, by omega, by omega, by omega⟩
  | some k =>
   obtain ⟨h1, h2, -⟩ := fQ e
   obtain ⟨⟨q1, q2⟩, q3⟩ := dN.1 h2
   obtain ⟨P, C, p1, p2, p3, p4, p5⟩ := mE hn hc r (setT T k) (by omega)
   have := hc (n - (r + 1)) k (by omega) h1
   exact ⟨P + 1, C + c (n - (r + 1)) k, by omega, by omega, by omega, by omega, by omega⟩
def prs (m : Nat) (row : Nat → Int) : Int := sumN (fun k => if row k < 0 then 0 else 1) m
def cst (c : Nat → Nat → Int) (m : Nat) (row : Nat → Int) : Int := sumN (fun k => if row k < 0 then 0 else c (row k).toNat k) m
theorem nJ {c : Nat → Nat → Int} {row : Nat → Int} : ∀ {m : Nat}, val c m row = 1073741824 * prs m row - cst c m row
 | 0 => rfl
 | m + 1 => by
  have := nJ (c := c) (row := row) (m := m)
  unfold val prs cst at *
  simp only [sumN]
  split <;> omega
theorem kQ {c : Nat → Nat → Int} {n m fr : Nat} {T : Nat → Bool} {row : Nat → Int} (hc : ∀ i k, i < n → k < m → c i k ≤ 1048576) (hM : Mat c n m fr T row) : ∀ j, j ≤ m → 0 ≤ cst c j row ∧ cst c j row ≤ 1048576 * j
 | 0, _ => by unfold cst; simp [sumN]
 | j + 1, hj => by
  have := kQ hc hM j (by omega)
  unfold cst at *
  simp only [sumN]
  rcases hM.rng j (by omega) with e | ⟨i, e, h1, h2, h3, h4⟩
  ·rw [if_pos (by omega)]; omega
  have h5 := hc i j h2 (by omega)
  have h6 : (row j).toNat = i := by omega
  rw [if_neg (by omega), h6]
  omega
theorem iW {row : Nat → Int} : ∀ (m : Nat), 0 ≤ prs m row ∧ prs m row ≤ m
 | 0 => by unfold prs; simp [sumN]
 | m + 1 => by
  have := iW (row := row) m
  unfold prs at *
  simp only [sumN]
  split <;> omega
theorem prs_more {row row' : Nat → Int} {m e : Nat} (he : e < m) (h0 : row e = -1) (h : ∀ j, j < m → (0 ≤ row' j ↔ (0 ≤ row j ∨ j = e))) : prs m row' = prs m row + 1 := by
 have h1 := iO (f := fun k => if row k < 0 then (0 : Int) else 1) (g := fun k => if row' k < 0 then (0 : Int) else 1) (m := m) (k := e) he (fun j hj hne => by
  have := h j hj
  by_cases hr : row j < 0
  ·rw [if_pos hr, if_pos (by rcases Int.lt_or_le (row' j) 0 with q | q; exact q; rcases this.1 q with z | z; omega; exact absurd z hne)]
  rw [if_neg hr, if_neg (by have := this.2 (Or.inl (by omega)); omega)])
 have e1 : (if row e < 0 then (0 : Int) else 1) = 0 := if_pos (by omega)
 have e2 : (if row' e < 0 then (0 : Int) else 1) = 1 := if_neg (by have := (h e he).2 (Or.inr rfl); omega)
 simp only [e1, e2] at h1
 unfold prs
 omega
end AsgMath
end
section
namespace AsgRows
def gi (l : List Int) (i : Nat) : Int := l[i]?.getD 0
def rowL (L : List (List Int)) (i : Nat) : List Int := L[i]?.getD []
def ent (L : List (List Int)) (i k : Nat) : Int := gi (rowL L i) k
def wid (L : List (List Int)) : Nat := (rowL L 0).length
def longM (L : List (List Int)) : Prop := 16 < L.length ∨ (0 < L.length ∧ 16 < wid L)
instance (L : List (List Int)) : Decidable (longM L) := by unfold longM; infer_instance
def chM (L : List (List Int)) : Int :=
 if longM L then 4 else if ∀ i ∈ List.range L.length, (rowL L i).length = wid L then
  (if ∀ i ∈ List.range L.length, ∀ k ∈ List.range (rowL L i).length, -1 ≤ ent L i k ∧ ent L i k ≤ 1048576 then 0 else 1) else 2
theorem j9 {L : List (List Int)} (h : longM L) : chM L = 4 := if_pos h
theorem chM_form {L : List (List Int)} (h : ¬ longM L) {i : Nat} (hi : i < L.length) (hr : (rowL L i).length ≠ wid L) : chM L = 2 := by
 unfold chM
 rw [if_neg h, if_neg (fun hh => hr (hh i (List.mem_range.2 hi)))]
theorem mB {L : List (List Int)} (h : ¬ longM L) (hf : ∀ i, i < L.length → (rowL L i).length = wid L) {i k : Nat} (hi : i < L.length) (hk : k < (rowL L i).length) (hr : ¬ (-1 ≤ ent L i k ∧ ent L i k ≤ 1048576)) : chM L = 1 := by
 unfold chM
 rw [if_neg h, if_pos (fun i hi => hf i (List.mem_range.1 hi)), if_neg (fun hh => hr (hh i (List.mem_range.2 hi) k (List.mem_range.2 hk)))]
theorem chM_zero {L : List (List Int)} (h : ¬ longM L) (hf : ∀ i, i < L.length → (rowL L i).length = wid L) (he : ∀ i, i < L.length → ∀ k, k < (rowL L i).length → -1 ≤ ent L i k ∧ ent L i k ≤ 1048576) : chM L = 0 := by
 unfold chM
 rw [if_neg h, if_pos (fun i hi => hf i (List.mem_range.1 hi)), if_pos (fun i hi k hk => he i (List.mem_range.1 hi) k (List.mem_range.1 hk))]
structure OkM (L : List (List Int)) : Prop where
 n16 : L.length ≤ 16
 m16 : 0 < L.length → wid L ≤ 16
 form : ∀ i, i < L.length → (rowL L i).length = wid L
 lo : ∀ i k, i < L.length → k < wid L → -1 ≤ ent L i k
 hi : ∀ i k, i < L.length → k < wid L → ent L i k ≤ 1048576
theorem chM_ok {L : List (List Int)} (h : chM L = 0) : OkM L := by
 unfold chM at h
 by_cases h1 : longM L
 ·rw [if_pos h1] at h; exact absurd h (by decide)
 rw [if_neg h1] at h
 by_cases h2 : ∀ i ∈ List.range L.length, (rowL L i).length = wid L
 ·rw [if_pos h2] at h
  by_cases h3 : ∀ i ∈ List.range L.length, ∀ k ∈ List.range (rowL L i).length, -1 ≤ ent L i k ∧ ent L i k ≤ 1048576
  ·unfold longM at h1
   have hf := fun i hi => h2 i (List.mem_range.2 hi)
   have he := fun i hi k hk => h3 i (List.mem_range.2 hi) k (List.mem_range.2 hk)
   exact ⟨by omega, fun h0 => by omega, hf, fun i k hi hk => (he i hi k (by rw [hf i hi]; exact hk)).1, fun i k hi hk => (he i hi k (by rw [hf i hi]; exact hk)).2⟩
  rw [if_neg h3] at h; exact absurd h (by decide)
 rw [if_neg h2] at h; exact absurd h (by decide)
theorem OkM.ch {L : List (List Int)} (h : OkM L) : chM L = 0 := by
 refine chM_zero (fun hl => ?_) h.form (fun i hi k hk => ?_)
 ·unfold longM at hl
  have := h.n16
  rcases hl with q | ⟨q0, q⟩
  ·omega
  have := h.m16 q0; omega
 rw [h.form i hi] at hk
 exact ⟨h.lo i k hi hk, h.hi i k hi hk⟩
end AsgRows
end
section
namespace AsgRows
def pA (ps : List (Int × Int)) (i : Nat) : Int := (ps[i]?.getD (0, 0)).1
def pB (ps : List (Int × Int)) (i : Nat) : Int := (ps[i]?.getD (0, 0)).2
def badP (L : List (List Int)) (a b : Int) : Prop := a < 0 ∨ (L.length : Int) ≤ a ∨ b < 0 ∨ (wid L : Int) ≤ b ∨ ent L a.toNat b.toNat < 0
instance (L : List (List Int)) (a b : Int) : Decidable (badP L a b) := by unfold badP; infer_instance
def clash (ps : List (Int × Int)) (i : Nat) : Prop := ∃ k ∈ List.range i, pA ps i ≤ pA ps k ∨ pB ps k = pB ps i
instance (ps : List (Int × Int)) (i : Nat) : Decidable (clash ps i) := by unfold clash; infer_instance
def cosE (L : List (List Int)) (ps : List (Int × Int)) : Nat → Int
 | 0 => 0
 | i + 1 => if cosE L ps i ≠ 0 then cosE L ps i else if badP L (pA ps i) (pB ps i) then 8 else if clash ps i then 16 else 0
def cosS (L : List (List Int)) (ps : List (Int × Int)) : Nat → Int
 | 0 => 0
 | i + 1 => cosS L ps i + ent L (pA ps i).toNat (pB ps i).toNat
def coE (L : List (List Int)) (ps : List (Int × Int)) : Int := if chM L ≠ 0 then chM L else cosE L ps ps.length
def coS (L : List (List Int)) (ps : List (Int × Int)) : Int := if coE L ps = 0 then cosS L ps ps.length else 0
theorem oE {L : List (List Int)} {ps : List (Int × Int)} {i : Nat} (h0 : cosE L ps i = 0) (hb : ¬ badP L (pA ps i) (pB ps i)) (hc : ¬ clash ps i) : cosE L ps (i + 1) = 0 := by
 show (if cosE L ps i ≠ 0 then _ else _) = _
 rw [if_neg (by rw [h0]; decide), if_neg hb, if_neg hc]
structure Cs (L : List (List Int)) (ps : List (Int × Int)) (i : Nat) (last : Int) (T : Nat → Bool) : Prop where
 e0 : cosE L ps i = 0
 hi : ∀ j, j < i → pA ps j ≤ last
 at' : (i = 0 ∧ last = -1) ∨ ∃ j, j < i ∧ pA ps j = last
 us : ∀ b : Nat, b < 16 → (T b = true ↔ ∃ j, j < i ∧ pB ps j = (b : Int))
 lo : -1 ≤ last
 s0 : 0 ≤ cosS L ps i
 s1 : cosS L ps i ≤ 1048576 * i
theorem Cs.start {L : List (List Int)} {ps : List (Int × Int)} : Cs L ps 0 (-1) (fun _ => false) := ⟨rfl, fun j hj => by omega, Or.inl ⟨rfl, rfl⟩, fun b _ => ⟨fun h => absurd h (by decide), fun ⟨j, hj, _⟩ => by omega⟩, by omega, Int.le_refl _, by simp [cosS]⟩
theorem Cs.clash {L : List (List Int)} {ps : List (Int × Int)} {i b : Nat} {last : Int} {T : Nat → Bool} (h : Cs L ps i last T) (ha : 0 ≤ pA ps i) (hb : pB ps i = (b : Int)) (hb16 : b < 16) : AsgRows.clash ps i ↔ (pA ps i ≤ last ∨ T b = true) := by
 unfold AsgRows.clash
 constructor
 ·rintro ⟨k, hk, q⟩
  have hk := List.mem_range.1 hk
  rcases q with q | q
  ·have := h.hi k hk; exact Or.inl (by omega)
  exact Or.inr ((h.us b hb16).2 ⟨k, hk, by rw [q, hb]⟩)
 rintro (q | q)
 ·rcases h.at' with ⟨_, e⟩ | ⟨j, hj, e⟩
  ·omega
  exact ⟨j, List.mem_range.2 hj, Or.inl (by omega)⟩
 obtain ⟨j, hj, e⟩ := (h.us b hb16).1 q
 exact ⟨j, List.mem_range.2 hj, Or.inr (by rw [e, hb])⟩
theorem Cs.next {L : List (List Int)} {ps : List (Int × Int)} {i b : Nat} {last : Int} {T T' : Nat → Bool} (h : Cs L ps i last T) (hnb : ¬ badP L (pA ps i) (pB ps i)) (hb : pB ps i = (b : Int)) (hb16 : b < 16) (hl : last < pA ps i) (hT : T b = false) (hT' : ∀ k, T' k = if k = b then true else T k) (hx : ent L (pA ps i).toNat (pB ps i).toNat ≤ 1048576) : Cs L ps (i + 1) (pA ps i) T' := by
 have h0 : 0 ≤ pA ps i := by unfold badP at hnb; omega
 have he : 0 ≤ ent L (pA ps i).toNat (pB ps i).toNat := by unfold badP at hnb; omega
 have hc : ¬ AsgRows.clash ps i := fun q => by
  rcases (h.clash h0 hb hb16).1 q with r | r
  ·omega
  rw [hT] at r; exact absurd r (by decide)
 have e1 : cosS L ps (i + 1) = cosS L ps i + ent L (pA ps i).toNat (pB ps i).toNat := rfl
 have := h.s0
 have := h.s1
 refine ⟨oE h.e0 hnb hc, fun j hj => ?_, Or.inr ⟨i, by omega, rfl⟩, fun k hk => ?_, by omega, by omega, by omega⟩
 ·by_cases e : j = i
  ·subst e; exact Int.le_refl _
  have := h.hi j (by omega); omega
 rw [hT' k]
 by_cases e : k = b
 ·subst e
  rw [if_pos rfl]
  exact ⟨fun _ => ⟨i, by omega, hb⟩, fun _ => rfl⟩
 rw [if_neg e, h.us k hk]
 constructor
 ·rintro ⟨j, hj, q⟩; exact ⟨j, by omega, q⟩
 rintro ⟨j, hj, q⟩
 by_cases e2 : j = i
 ·subst e2; omega
 exact ⟨j, by omega, q⟩
end AsgRows
end
section
namespace AsgRows
def cmpI (x y : Int) : Int := if x < y then -1 else if y < x then 1 else 0
def orI (x y : Int) : Int := if x ≠ 0 then x else y
theorem cmpI_lt {x y : Int} (h : x < y) : cmpI x y = -1 := if_pos h
theorem cmpI_gt {x y : Int} (h : y < x) : cmpI x y = 1 := by unfold cmpI; rw [if_neg (by omega), if_pos h]
theorem cmpI_eq {x : Int} : cmpI x x = 0 := by unfold cmpI; rw [if_neg (by omega), if_neg (by omega)]
def ordP (ps qs : List (Int × Int)) (i : Nat) : Int := orI (cmpI (pA ps i) (pA qs i)) (cmpI (pB ps i) (pB qs i))
def sameAt (ps qs : List (Int × Int)) (i : Nat) : Prop := pA ps i = pA qs i ∧ pB ps i = pB qs i
def lxB : List (Int × Int) → List (Int × Int) → Bool
 | p :: ps, q :: qs => if p = q then lxB ps qs else decide (p.1 < q.1) || (decide (p.1 = q.1) && decide (p.2 < q.2))
 | _, _ => false
theorem rJ : ∀ (ps : List (Int × Int)), lxB ps ps = false
 | [] => rfl
 | p :: ps => by simp only [lxB, if_true]; exact rJ ps
theorem lxB_at : ∀ (ps qs : List (Int × Int)) (i : Nat), i < ps.length → i < qs.length → (∀ j, j < i → sameAt ps qs j) → ¬ sameAt ps qs i →
    lxB ps qs = (decide (pA ps i < pA qs i) || (decide (pA ps i = pA qs i) && decide (pB ps i < pB qs i)))
 | [], _, i, h, _, _, _ => absurd h (Nat.not_lt_zero _)
 | _ :: _, [], i, _, h, _, _ => absurd h (Nat.not_lt_zero _)
 | p :: ps, q :: qs, 0, _, _, _, hn => by
  have hne : p ≠ q := fun e => hn (by subst e; exact ⟨rfl, rfl⟩)
  show (if p = q then _ else _) = _
  rw [if_neg hne]
  rfl
 | p :: ps, q :: qs, i + 1, h1, h2, hs, hn => by
  have h0 := hs 0 (by omega)
  have e : p = q := Prod.ext h0.1 h0.2
  subst e
  show (if p = p then _ else _) = _
  rw [if_pos rfl]
  exact lxB_at ps qs i (by simpa using h1) (by simpa using h2) (fun j hj => hs (j + 1) (by omega)) hn
theorem same_all {ps qs : List (Int × Int)} (hl : ps.length = qs.length) (h : ∀ j, j < ps.length → sameAt ps qs j) : ps = qs := by
 apply List.ext_getElem hl
 intro i h1 h2
 have := h i h1
 unfold sameAt pA pB at this
 rw [List.getElem?_eq_getElem h1, List.getElem?_eq_getElem h2] at this
 exact Prod.ext this.1 this.2
def btE (L : List (List Int)) (ps qs : List (Int × Int)) : Int := if coE L ps ≠ 0 then coE L ps else coE L qs
def btB (L : List (List Int)) (ps qs : List (Int × Int)) : Bool :=
 if btE L ps qs ≠ 0 then false else if ps.length ≠ qs.length then decide (qs.length < ps.length) else if coS L ps ≠ coS L qs then decide (coS L ps < coS L qs) else lxB ps qs
theorem bt_len {L : List (List Int)} {ps qs : List (Int × Int)} (h : btE L ps qs = 0) (hl : ps.length ≠ qs.length) : btB L ps qs = decide (qs.length < ps.length) := by unfold btB; rw [if_neg (fun q => q h), if_pos hl]
theorem bt_cost {L : List (List Int)} {ps qs : List (Int × Int)} (h : btE L ps qs = 0) (hl : ps.length = qs.length) (hc : coS L ps ≠ coS L qs) : btB L ps qs = decide (coS L ps < coS L qs) := by unfold btB; rw [if_neg (fun q => q h), if_neg (fun q => q hl), if_pos hc]
theorem bt_lex {L : List (List Int)} {ps qs : List (Int × Int)} (h : btE L ps qs = 0) (hl : ps.length = qs.length) (hc : coS L ps = coS L qs) : btB L ps qs = lxB ps qs := by unfold btB; rw [if_neg (fun q => q h), if_neg (fun q => q hl), if_neg (fun q => q hc)]
theorem nR {ps qs : List (Int × Int)} {i : Nat} : ordP ps qs i = 0 ↔ sameAt ps qs i := by
 unfold ordP orI cmpI sameAt
 constructor
 ·intro h
  repeat' split at h
  all_goals omega
 rintro ⟨h1, h2⟩
 rw [h1, h2]
 repeat' split
 all_goals omega
theorem ordP_neg {ps qs : List (Int × Int)} {i : Nat} : decide (ordP ps qs i < 0) = (decide (pA ps i < pA qs i) || (decide (pA ps i = pA qs i) && decide (pB ps i < pB qs i))) := by
 unfold ordP orI cmpI
 by_cases h1 : pA ps i < pA qs i
 ·rw [if_pos h1, if_pos (by decide)]; simp [h1]
 by_cases h2 : pA qs i < pA ps i
 ·rw [if_neg h1, if_pos h2, if_pos (by decide)]
  have : ¬ pA ps i = pA qs i := by omega
  simp [h1, this]
 have e : pA ps i = pA qs i := by omega
 rw [if_neg h1, if_neg h2, if_neg (fun q => q rfl)]
 by_cases h3 : pB ps i < pB qs i
 ·rw [if_pos h3]; simp [e, h3]
 rw [if_neg h3]
 by_cases h4 : pB qs i < pB ps i
 ·rw [if_pos h4]; simp [h1, h3]
 rw [if_neg h4]; simp [h1, h3]
structure Bo (L : List (List Int)) (ps qs : List (Int × Int)) (i : Nat) (o : Int) : Prop where
 z : o = 0 → ps.length = qs.length ∧ coS L ps = coS L qs ∧ ∀ j, j < i → sameAt ps qs j
 nz : o ≠ 0 → btB L ps qs = decide (o < 0)
 b : -1 ≤ o ∧ o ≤ 1
theorem qG {x y : Int} : -1 ≤ cmpI x y ∧ cmpI x y ≤ 1 := by
 unfold cmpI
 repeat' split
 all_goals omega
theorem orI_b {x y : Int} (hx : -1 ≤ x ∧ x ≤ 1) (hy : -1 ≤ y ∧ y ≤ 1) : -1 ≤ orI x y ∧ orI x y ≤ 1 := by
 unfold orI
 split <;> assumption
theorem oF {x y : Int} (h : cmpI x y = 0) : x = y := by
 unfold cmpI at h
 repeat' split at h
 all_goals omega
theorem Bo.start {L : List (List Int)} {ps qs : List (Int × Int)} (h : btE L ps qs = 0) : Bo L ps qs 0 (orI (cmpI (qs.length : Int) (ps.length : Int)) (cmpI (coS L ps) (coS L qs))) := by
 refine ⟨fun h0 => ?_, fun h0 => ?_, orI_b qG qG⟩
 ·unfold orI at h0
  split at h0
  ·omega
  rename_i hh
  have h1 := oF (x := (qs.length : Int)) (y := (ps.length : Int)) (by omega)
  have h2 := oF h0
  exact ⟨by omega, h2, fun j hj => by omega⟩
 by_cases hl : ps.length = qs.length
 ·have e : cmpI (qs.length : Int) (ps.length : Int) = 0 := by rw [hl]; exact cmpI_eq
  unfold orI at h0 ⊢
  rw [if_neg (fun q => q e)] at h0 ⊢
  have hc : coS L ps ≠ coS L qs := fun q => h0 (by rw [q]; exact cmpI_eq)
  rw [bt_cost h hl hc]
  unfold cmpI
  rcases Int.lt_or_lt_of_ne hc with q | q
  ·rw [if_pos q]; simp [q]
  rw [if_neg (by omega), if_pos q]
  have : ¬ coS L ps < coS L qs := by omega
  simp [this]
 rw [bt_len h hl]
 unfold orI
 rcases Nat.lt_or_gt_of_ne hl with q | q
 ·have e : cmpI (qs.length : Int) (ps.length : Int) = 1 := cmpI_gt (by omega)
  rw [e, if_pos (by decide)]
  have : ¬ qs.length < ps.length := by omega
  simp [this]
 have e : cmpI (qs.length : Int) (ps.length : Int) = -1 := cmpI_lt (by omega)
 rw [e, if_pos (by decide)]
 simp [q]
theorem Bo.next {L : List (List Int)} {ps qs : List (Int × Int)} {i : Nat} (h : btE L ps qs = 0) (hb : Bo L ps qs i 0) (hi : i < ps.length) : Bo L ps qs (i + 1) (ordP ps qs i) := by
 obtain ⟨h1, h2, h3⟩ := hb.z rfl
 refine ⟨fun h0 => ⟨h1, h2, fun j hj => ?_⟩, fun h0 => ?_, orI_b qG qG⟩
 ·by_cases e : j = i
  ·subst e; exact nR.1 h0
  exact h3 j (by omega)
 rw [bt_lex h h1 h2, ordP_neg, lxB_at ps qs i hi (by omega) h3 (fun q => h0 (nR.2 q))]
theorem Bo.done {L : List (List Int)} {ps qs : List (Int × Int)} {i : Nat} {o : Int} (h : btE L ps qs = 0) (hb : Bo L ps qs i o) (hi : o ≠ 0 ∨ i = ps.length) : btB L ps qs = decide (o < 0) := by
 by_cases h0 : o = 0
 ·subst h0
  obtain ⟨h1, h2, h3⟩ := hb.z rfl
  rcases hi with q | q
  ·exact absurd rfl q
  have : ps = qs := same_all h1 (fun j hj => h3 j (by omega))
  rw [bt_lex h h1 h2, this, rJ]
  rfl
 exact hb.nz h0
end AsgRows
end
section
namespace AsgMath
open AsgRows
def toPm (l : List (Nat × Nat)) : List (Int × Int) := l.map fun p => ((p.1 : Int), (p.2 : Int))
structure Pv (L : List (List Int)) (l : List (Nat × Nat)) (i : Nat) (T : Nat → Bool) : Prop where
 row : ∀ j (h : j < l.length), (l[j]).1 < i ∧ (l[j]).1 < L.length
 col : ∀ j (h : j < l.length), (l[j]).2 < wid L ∧ T (l[j]).2 = true
 ent : ∀ j (h : j < l.length), 0 ≤ ent L (l[j]).1 (l[j]).2
 inc : ∀ j k (hj : j < l.length) (hk : k < l.length), j < k → (l[j]).1 < (l[k]).1
 dis : ∀ j k (hj : j < l.length) (hk : k < l.length), j ≠ k → (l[j]).2 ≠ (l[k]).2
theorem Pv.nil {L : List (List Int)} {i : Nat} {T : Nat → Bool} : Pv L [] i T := ⟨fun _ h => absurd h (Nat.not_lt_zero _), fun _ h => absurd h (Nat.not_lt_zero _), fun _ h => absurd h (Nat.not_lt_zero _), fun _ _ h => absurd h (Nat.not_lt_zero _), fun _ _ h => absurd h (Nat.not_lt_zero _)⟩
theorem Pv.up {L : List (List Int)} {l : List (Nat × Nat)} {i : Nat} {T : Nat → Bool} (h : Pv L l i T) : Pv L l (i + 1) T := ⟨fun j hj => ⟨by have := (h.row j hj).1; omega, (h.row j hj).2⟩, h.col, h.ent, h.inc, h.dis⟩
theorem Pv.snoc {L : List (List Int)} {l : List (Nat × Nat)} {i k : Nat} {T : Nat → Bool} (h : Pv L l i T) (hi : i < L.length) (hk : k < wid L) (hT : T k = false) (hx : 0 ≤ AsgRows.ent L i k) : Pv L (l ++ [(i, k)]) (i + 1) (setT T k) := by
 have key : ∀ j (hj : j < (l ++ [(i, k)]).length), (∃ h' : j < l.length, (l ++ [(i, k)])[j] = l[j]) ∨ (j = l.length ∧ (l ++ [(i, k)])[j] = (i, k)) := fun j hj => by
  rw [List.length_append] at hj
  simp only [List.length_cons, List.length_nil] at hj
  by_cases e : j < l.length
  ·exact Or.inl ⟨e, List.getElem_append_left e⟩
  have e2 : j = l.length := by omega
  subst e2
  exact Or.inr ⟨rfl, by simp⟩
 refine ⟨fun j hj => ?_, fun j hj => ?_, fun j hj => ?_, fun j x hj hx' hlt => ?_, fun j x hj hx' hne => ?_⟩
 ·rcases key j hj with ⟨h', e⟩ | ⟨_, e⟩
  ·rw [e]; have := h.row j h'; omega
  rw [e]; exact ⟨Nat.lt_succ_self _, hi⟩
 ·rcases key j hj with ⟨h', e⟩ | ⟨_, e⟩
  ·rw [e]
   have := h.col j h'
   refine ⟨this.1, ?_⟩
   unfold setT
   split
   ·rfl
   exact this.2
  rw [e]; exact ⟨hk, if_pos rfl⟩
 ·rcases key j hj with ⟨h', e⟩ | ⟨_, e⟩
  ·rw [e]; exact h.ent j h'
  rw [e]; exact hx
 ·rcases key j hj with ⟨h1, e1⟩ | ⟨g1, e1⟩
  ·rcases key x hx' with ⟨h2, e2⟩ | ⟨g2, e2⟩
   ·rw [e1, e2]; exact h.inc j x h1 h2 hlt
   rw [e1, e2]; exact (h.row j h1).1
  rcases key x hx' with ⟨h2, e2⟩ | ⟨g2, e2⟩ <;> omega
 rcases key j hj with ⟨h1, e1⟩ | ⟨g1, e1⟩
 ·rcases key x hx' with ⟨h2, e2⟩ | ⟨g2, e2⟩
  ·rw [e1, e2]; exact h.dis j x h1 h2 hne
  rw [e1, e2]
  intro q
  have := (h.col j h1).2
  rw [show (l[j]).2 = k from q, hT] at this
  exact absurd this (by decide)
 rcases key x hx' with ⟨h2, e2⟩ | ⟨g2, e2⟩
 ·rw [e1, e2]
  intro q
  have := (h.col x h2).2
  rw [show (l[x]).2 = k from q.symm, hT] at this
  exact absurd this (by decide)
 omega
theorem Pv.best {L : List (List Int)} {n m : Nat} (hn : L.length = n) (hm : wid L = m) : ∀ (r : Nat) (l : List (Nat × Nat)) (T : Nat → Bool), r ≤ n → Pv L l (n - r) T → ∃ T', Pv L (l ++ bestL (AsgRows.ent L) n m r T) n T'
 | 0, l, T, _, h => ⟨T, by rw [Nat.sub_zero] at h; simpa [bestL] using h⟩
 | r + 1, l, T, hr, h => by
  have e1 : n - (r + 1) + 1 = n - r := by omega
  cases e : firstK (takeB (AsgRows.ent L) n m r T) m with
  | none =>
   rw [(fG e).1]
   have h2 := h.up
   rw [e1] at h2
   exact Pv.best hn hm r l T (by omega) h2
  | some k =>
   rw [gS e]
   obtain ⟨hk, ht, -⟩ := fQ e
   obtain ⟨⟨q1, q2⟩, -⟩ := dN.1 ht
   have h2 := h.snoc (k := k) (by omega) (by omega) q2 q1
   rw [e1] at h2
   obtain ⟨T', h3⟩ := Pv.best hn hm r (l ++ [(n - (r + 1), k)]) (setT T k) (by omega) h2
   exact ⟨T', by rw [List.append_assoc] at h3; exact h3⟩
theorem pA_toP {l : List (Nat × Nat)} {j : Nat} (h : j < l.length) : pA (toPm l) j = ((l[j]).1 : Int) ∧ pB (toPm l) j = ((l[j]).2 : Int) := by
 unfold pA pB toPm
 rw [List.getElem?_map, List.getElem?_eq_getElem h]
 exact ⟨rfl, rfl⟩
theorem Pv.cos {L : List (List Int)} {l : List (Nat × Nat)} {i : Nat} {T : Nat → Bool} (h : Pv L l i T) : ∀ j, j ≤ l.length → cosE L (toPm l) j = 0
 | 0, _ => rfl
 | j + 1, hj => by
  have hjl : j < l.length := by omega
  obtain ⟨a1, a2⟩ := pA_toP hjl
  refine oE (Pv.cos h j (by omega)) ?_ ?_
  ·rw [a1, a2]
   unfold badP
   have := (h.row j hjl).2
   have := (h.col j hjl).1
   have := h.ent j hjl
   rw [Int.toNat_natCast, Int.toNat_natCast]
   omega
  rintro ⟨k, hk, q⟩
  have hk := List.mem_range.1 hk
  obtain ⟨b1, b2⟩ := pA_toP (show k < l.length by omega)
  rw [a1, b1, a2, b2] at q
  have h1 := h.inc k j (by omega) hjl hk
  have h2 := h.dis k j (by omega) hjl (by omega)
  rcases q with q | q
  ·omega
  exact h2 (by omega)
theorem Pv.coE {L : List (List Int)} {l : List (Nat × Nat)} {i : Nat} {T : Nat → Bool} (h0 : chM L = 0) (h : Pv L l i T) : coE L (toPm l) = 0 := by
 have hl : (toPm l).length = l.length := by unfold toPm; simp
 unfold AsgRows.coE
 rw [if_neg (fun q => q h0), hl]
 exact h.cos _ (Nat.le_refl _)
def cl (L : List (List Int)) : List (Nat × Nat) → Int
 | [] => 0
 | p :: ps => AsgRows.ent L p.1 p.2 + cl L ps
theorem cl_app {L : List (List Int)} : ∀ (a b : List (Nat × Nat)), cl L (a ++ b) = cl L a + cl L b
 | [], b => by simp [cl]
 | p :: a, b => by
  have := cl_app (L := L) a b
  simp only [List.cons_append, cl]
  omega
theorem cosS_cl {L : List (List Int)} {l : List (Nat × Nat)} : ∀ j, j ≤ l.length → cosS L (toPm l) j = cl L (l.take j)
 | 0, _ => by simp [cosS, cl]
 | j + 1, hj => by
  have hjl : j < l.length := by omega
  obtain ⟨a1, a2⟩ := pA_toP hjl
  show cosS L (toPm l) j + _ = _
  rw [cosS_cl j (by omega), a1, a2, Int.toNat_natCast, Int.toNat_natCast, List.take_succ_eq_append_getElem hjl, cl_app]
  simp [cl]
theorem Pv.coS {L : List (List Int)} {l : List (Nat × Nat)} {i : Nat} {T : Nat → Bool} (h0 : chM L = 0) (h : Pv L l i T) : coS L (toPm l) = cl L l := by
 have hl : (toPm l).length = l.length := by unfold toPm; simp
 unfold AsgRows.coS
 rw [if_pos (h.coE h0), hl, cosS_cl _ (Nat.le_refl _), List.take_length]
end AsgMath
end
