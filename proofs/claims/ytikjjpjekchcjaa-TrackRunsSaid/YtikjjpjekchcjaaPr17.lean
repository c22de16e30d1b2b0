/-
  AsgBet, AsgTm
-/
import Derived.Test.YtikjjpjekchcjaaPr16
import Derived.Test.YtikjjpjekchcjaaPr1
set_option linter.all false
set_option maxRecDepth 100000
set_option maxHeartbeats 64000000
section
namespace AsgRows
def cmpI (x y : Int) : Int := if x < y then -1 else if y < x then 1 else 0
def orI (x y : Int) : Int := if x ≠ 0 then x else y
theorem cmpI_lt {x y : Int} (h : x < y) : cmpI x y = -1 := if_pos h
theorem cmpI_gt {x y : Int} (h : y < x) : cmpI x y = 1 := by unfold cmpI; rw [if_neg (by omega), if_pos h]
theorem cmpI_eq {x : Int} : cmpI x x = 0 := by unfold cmpI; rw [if_neg (by omega), if_neg (by omega)]
def ordP (ps qs : List (Int × Int)) (i : Nat) : Int := orI (cmpI (pA ps i) (pA qs i)) (cmpI (pB ps i) (pB qs i))
def sameAt (ps qs : List (Int × Int)) (i : Nat) : Prop := pA ps i = pA qs i ∧ pB ps i = pB qs i
def lxB : List (Int × Int) → List (Int × Int) → Bool
 | p :: ps, q :: qs => if p = q then lxB ps qs else decide (p.1 < q.1) || (decide (p.1 = q.1) && decide (p.2 < q.2))
 | _, _ => false
theorem lxB_same : ∀ (ps : List (Int × Int)), lxB ps ps = false
 | [] => rfl
 | p :: ps => by simp only [lxB, if_true]; exact lxB_same ps
theorem lxB_at : ∀ (ps qs : List (Int × Int)) (i : Nat), i < ps.length → i < qs.length → (∀ j, j < i → sameAt ps qs j) → ¬ sameAt ps qs i →
    lxB ps qs = (decide (pA ps i < pA qs i) || (decide (pA ps i = pA qs i) && decide (pB ps i < pB qs i)))
 | [], _, i, h, _, _, _ => absurd h (Nat.not_lt_zero _)
 | _ :: _, [], i, _, h, _, _ => absurd h (Nat.not_lt_zero _)
 | p :: ps, q :: qs, 0, _, _, _, hn => by
  have hne : p ≠ q := fun e => hn (by subst e; exact ⟨rfl, rfl⟩)
  show (if p = q then _ else _) = _
  rw [if_neg hne]
  rfl
 | p :: ps, q :: qs, i + 1, h1, h2, hs, hn => by
  have h0 := hs 0 (by omega)
  have e : p = q := Prod.ext h0.1 h0.2
  subst e
  show (if p = p then _ else _) = _
  rw [if_pos rfl]
  exact lxB_at ps qs i (by simpa using h1) (by simpa using h2) (fun j hj => hs (j + 1) (by omega)) hn
theorem same_all {ps qs : List (Int × Int)} (hl : ps.length = qs.length) (h : ∀ j, j < ps.length → sameAt ps qs j) : ps = qs := by
 apply List.ext_getElem hl
 intro i h1 h2
 have := h i h1
 unfold sameAt pA pB at this
 rw [List.getElem?_eq_getElem h1, List.getElem?_eq_getElem h2] at this
 exact Prod.ext this.1 this.2
def btE (L : List (List Int)) (ps qs : List (Int × Int)) : Int := if coE L ps ≠ 0 then coE L ps else coE L qs
def btB (L : List (List Int)) (ps qs : List (Int × Int)) : Bool :=
 if btE L ps qs ≠ 0 then false else if ps.length ≠ qs.length then decide (qs.length < ps.length) else if coS L ps ≠ coS L qs then decide (coS L ps < coS L qs) else lxB ps qs
theorem bt_len {L : List (List Int)} {ps qs : List (Int × Int)} (h : btE L ps qs = 0) (hl : ps.length ≠ qs.length) : btB L ps qs = decide (qs.length < ps.length) := by unfold btB; rw [if_neg (fun q => q h), if_pos hl]
theorem bt_cost {L : List (List Int)} {ps qs : List (Int × Int)} (h : btE L ps qs = 0) (hl : ps.length = qs.length) (hc : coS L ps ≠ coS L qs) : btB L ps qs = decide (coS L ps < coS L qs) := by unfold btB; rw [if_neg (fun q => q h), if_neg (fun q => q hl), if_pos hc]
theorem bt_lex {L : List (List Int)} {ps qs : List (Int × Int)} (h : btE L ps qs = 0) (hl : ps.length = qs.length) (hc : coS L ps = coS L qs) : btB L ps qs = lxB ps qs := by unfold btB; rw [if_neg (fun q => q h), if_neg (fun q => q hl), if_neg (fun q => q hc)]
theorem ordP_zero {ps qs : List (Int × Int)} {i : Nat} : ordP ps qs i = 0 ↔ sameAt ps qs i := by
 unfold ordP orI cmpI sameAt
 constructor
 ·intro h
  repeat' split at h
  all_goals omega
 rintro ⟨h1, h2⟩
 rw [h1, h2]
 repeat' split
 all_goals omega
theorem ordP_neg {ps qs : List (Int × Int)} {i : Nat} : decide (ordP ps qs i < 0) = (decide (pA ps i < pA qs i) || (decide (pA ps i = pA qs i) && decide (pB ps i < pB qs i))) := by
 unfold ordP orI cmpI
 by_cases h1 : pA ps i < pA qs i
 ·rw [if_pos h1, if_pos (by decide)]; simp [h1]
 by_cases h2 : pA qs i < pA ps i
 ·rw [if_neg h1, if_pos h2, if_pos (by decide)]
  have : ¬ pA ps i = pA qs i := by omega
  simp [h1, this]
 have e : pA ps i = pA qs i := by omega
 rw [if_neg h1, if_neg h2, if_neg (fun q => q rfl)]
 by_cases h3 : pB ps i < pB qs i
 ·rw [if_pos h3]; simp [e, h3]
 rw [if_neg h3]
 by_cases h4 : pB qs i < pB ps i
 ·rw [if_pos h4]; simp [h1, h3]
 rw [if_neg h4]; simp [h1, h3]
structure Bo (L : List (List Int)) (ps qs : List (Int × Int)) (i : Nat) (o : Int) : Prop where
 z : o = 0 → ps.length = qs.length ∧ coS L ps = coS L qs ∧ ∀ j, j < i → sameAt ps qs j
 nz : o ≠ 0 → btB L ps qs = decide (o < 0)
 b : -1 ≤ o ∧ o ≤ 1
theorem cmpI_b {x y : Int} : -1 ≤ cmpI x y ∧ cmpI x y ≤ 1 := by
 unfold cmpI
 repeat' split
 all_goals omega
theorem orI_b {x y : Int} (hx : -1 ≤ x ∧ x ≤ 1) (hy : -1 ≤ y ∧ y ≤ 1) : -1 ≤ orI x y ∧ orI x y ≤ 1 := by
 unfold orI
 split <;> assumption
theorem cmpI_zero {x y : Int} (h : cmpI x y = 0) : x = y := by
 unfold cmpI at h
 repeat' split at h
 all_goals omega
theorem Bo.start {L : List (List Int)} {ps qs : List (Int × Int)} (h : btE L ps qs = 0) : Bo L ps qs 0 (orI (cmpI (qs.length : Int) (ps.length : Int)) (cmpI (coS L ps) (coS L qs))) := by
 refine ⟨fun h0 => ?_, fun h0 => ?_, orI_b cmpI_b cmpI_b⟩
 ·unfold orI at h0
  split at h0
  ·omega
  rename_i hh
  have h1 := cmpI_zero (x := (qs.length : Int)) (y := (ps.length : Int)) (by omega)
  have h2 := cmpI_zero h0
  exact ⟨by omega, h2, fun j hj => by omega⟩
 by_cases hl : ps.length = qs.length
 ·have e : cmpI (qs.length : Int) (ps.length : Int) = 0 := by rw [hl]; exact cmpI_eq
  unfold orI at h0 ⊢
  rw [if_neg (fun q => q e)] at h0 ⊢
  have hc : coS L ps ≠ coS L qs := fun q => h0 (by rw [q]; exact cmpI_eq)
  rw [bt_cost h hl hc]
  unfold cmpI
  rcases Int.lt_or_lt_of_ne hc with q | q
  ·rw [if_pos q]; simp [q]
  rw [if_neg (by omega), if_pos q]
  have : ¬ coS L ps < coS L qs := by omega
  simp [this]
 rw [bt_len h hl]
 unfold orI
 rcases Nat.lt_or_gt_of_ne hl with q | q
 ·have e : cmpI (qs.length : Int) (ps.length : Int) = 1 := cmpI_gt (by omega)
  rw [e, if_pos (by decide)]
  have : ¬ qs.length < ps.length := by omega
  simp [this]
 have e : cmpI (qs.length : Int) (ps.length : Int) = -1 := cmpI_lt (by omega)
 rw [e, if_pos (by decide)]
 simp [q]
theorem Bo.next {L : List (List Int)} {ps qs : List (Int × Int)} {i : Nat} (h : btE L ps qs = 0) (hb : Bo L ps qs i 0) (hi : i < ps.length) : Bo L ps qs (i + 1) (ordP ps qs i) := by
 obtain ⟨h1, h2, h3⟩ := hb.z rfl
 refine ⟨fun h0 => ⟨h1, h2, fun j hj => ?_⟩, fun h0 => ?_, orI_b cmpI_b cmpI_b⟩
 ·by_cases e : j = i
  ·subst e; exact ordP_zero.1 h0
  exact h3 j (by omega)
 rw [bt_lex h h1 h2, ordP_neg, lxB_at ps qs i hi (by omega) h3 (fun q => h0 (ordP_zero.2 q))]
theorem Bo.done {L : List (List Int)} {ps qs : List (Int × Int)} {i : Nat} {o : Int} (h : btE L ps qs = 0) (hb : Bo L ps qs i o) (hi : o ≠ 0 ∨ i = ps.length) : btB L ps qs = decide (o < 0) := by
 by_cases h0 : o = 0
 ·subst h0
  obtain ⟨h1, h2, h3⟩ := hb.z rfl
  rcases hi with q | q
  ·exact absurd rfl q
  have : ps = qs := same_all h1 (fun j hj => h3 j (by omega))
  rw [bt_lex h h1 h2, this, lxB_same]
  rfl
 exact hb.nz h0
end AsgRows
end
section
namespace AsgMath
open AsgRows
def toPm (l : List (Nat × Nat)) : List (Int × Int) := l.map fun p => ((p.1 : Int), (p.2 : Int))
structure Pv (L : List (List Int)) (l : List (Nat × Nat)) (i : Nat) (T : Nat → Bool) : Prop where
 row : ∀ j (h : j < l.length), (l[j]).1 < i ∧ (l[j]).1 < L.length
 col : ∀ j (h : j < l.length), (l[j]).2 < wid L ∧ T (l[j]).2 = true
 ent : ∀ j (h : j < l.length), 0 ≤ ent L (l[j]).1 (l[j]).2
 inc : ∀ j k (hj : j < l.length) (hk : k < l.length), j < k → (l[j]).1 < (l[k]).1
 dis : ∀ j k (hj : j < l.length) (hk : k < l.length), j ≠ k → (l[j]).2 ≠ (l[k]).2
theorem Pv.nil {L : List (List Int)} {i : Nat} {T : Nat → Bool} : Pv L [] i T := ⟨fun _ h => absurd h (Nat.not_lt_zero _), fun _ h => absurd h (Nat.not_lt_zero _), fun _ h => absurd h (Nat.not_lt_zero _), fun _ _ h => absurd h (Nat.not_lt_zero _), fun _ _ h => absurd h (Nat.not_lt_zero _)⟩
theorem Pv.up {L : List (List Int)} {l : List (Nat × Nat)} {i : Nat} {T : Nat → Bool} (h : Pv L l i T) : Pv L l (i + 1) T := ⟨fun j hj => ⟨by have := (h.row j hj).1; omega, (h.row j hj).2⟩, h.col, h.ent, h.inc, h.dis⟩
theorem Pv.snoc {L : List (List Int)} {l : List (Nat × Nat)} {i k : Nat} {T : Nat → Bool} (h : Pv L l i T) (hi : i < L.length) (hk : k < wid L) (hT : T k = false) (hx : 0 ≤ AsgRows.ent L i k) : Pv L (l ++ [(i, k)]) (i + 1) (setT T k) := by
 have key : ∀ j (hj : j < (l ++ [(i, k)]).length), (∃ h' : j < l.length, (l ++ [(i, k)])[j] = l[j]) ∨ (j = l.length ∧ (l ++ [(i, k)])[j] = (i, k)) := fun j hj => by
  rw [List.length_append] at hj
  simp only [List.length_cons, List.length_nil] at hj
  by_cases e : j < l.length
  ·exact Or.inl ⟨e, List.getElem_append_left e⟩
  have e2 : j = l.length := by omega
  subst e2
  exact Or.inr ⟨rfl, by simp⟩
 refine ⟨fun j hj => ?_, fun j hj => ?_, fun j hj => ?_, fun j x hj hx' hlt => ?_, fun j x hj hx' hne => ?_⟩
 ·rcases key j hj with ⟨h', e⟩ | ⟨_, e⟩
  ·rw [e]; have := h.row j h'; omega
  rw [e]; exact ⟨Nat.lt_succ_self _, hi⟩
 ·rcases key j hj with ⟨h', e⟩ | ⟨_, e⟩
  ·rw [e]
   have := h.col j h'
   refine ⟨this.1, ?_⟩
   unfold setT
   split
   ·rfl
   exact this.2
  rw [e]; exact ⟨hk, if_pos rfl⟩
 ·rcases key j hj with ⟨h', e⟩ | ⟨_, e⟩
  ·rw [e]; exact h.ent j h'
  rw [e]; exact hx
 ·rcases key j hj with ⟨h1, e1⟩ | ⟨g1, e1⟩
  ·rcases key x hx' with ⟨h2, e2⟩ | ⟨g2, e2⟩
   ·rw [e1, e2]; exact h.inc j x h1 h2 hlt
   rw [e1, e2]; exact (h.row j h1).1
  rcases key x hx' with ⟨h2, e2⟩ | ⟨g2, e2⟩ <;> omega
 rcases key j hj with ⟨h1, e1⟩ | ⟨g1, e1⟩
 ·rcases key x hx' with ⟨h2, e2⟩ | ⟨g2, e2⟩
  ·rw [e1, e2]; exact h.dis j x h1 h2 hne
  rw [e1, e2]
  intro q
  have := (h.col j h1).2
  rw [show (l[j]).2 = k from q, hT] at this
  exact absurd this (by decide)
 rcases key x hx' with ⟨h2, e2⟩ | ⟨g2, e2⟩
 ·rw [e1, e2]
  intro q
  have := (h.col x h2).2
  rw [show (l[x]).2 = k from q.symm, hT] at this
  exact absurd this (by decide)
 omega
theorem Pv.best {L : List (List Int)} {n m : Nat} (hn : L.length = n) (hm : wid L = m) : ∀ (r : Nat) (l : List (Nat × Nat)) (T : Nat → Bool), r ≤ n → Pv L l (n - r) T → ∃ T', Pv L (l ++ bestL (AsgRows.ent L) n m r T) n T'
 | 0, l, T, _, h => ⟨T, by rw [Nat.sub_zero] at h; simpa [bestL] using h⟩
 | r + 1, l, T, hr, h => by
  have e1 : n - (r + 1) + 1 = n - r := by omega
  cases e : firstK (takeB (AsgRows.ent L) n m r T) m with
  | none =>
   rw [(bestL_skip e).1]
   have h2 := h.up
   rw [e1] at h2
   exact Pv.best hn hm r l T (by omega) h2
  | some k =>
   rw [bestL_take e]
   obtain ⟨hk, ht, -⟩ := firstK_some e
   obtain ⟨⟨q1, q2⟩, -⟩ := takeB_iff.1 ht
   have h2 := h.snoc (k := k) (by omega) (by omega) q2 q1
   rw [e1] at h2
   obtain ⟨T', h3⟩ := Pv.best hn hm r (l ++ [(n - (r + 1), k)]) (setT T k) (by omega) h2
   exact ⟨T', by rw [List.append_assoc] at h3; exact h3⟩
theorem pA_toP {l : List (Nat × Nat)} {j : Nat} (h : j < l.length) : pA (toPm l) j = ((l[j]).1 : Int) ∧ pB (toPm l) j = ((l[j]).2 : Int) := by
 unfold pA pB toPm
 rw [List.getElem?_map, List.getElem?_eq_getElem h]
 exact ⟨rfl, rfl⟩
theorem Pv.cos {L : List (List Int)} {l : List (Nat × Nat)} {i : Nat} {T : Nat → Bool} (h : Pv L l i T) : ∀ j, j ≤ l.length → cosE L (toPm l) j = 0
 | 0, _ => rfl
 | j + 1, hj => by
  have hjl : j < l.length := by omega
  obtain ⟨a1, a2⟩ := pA_toP hjl
  refine cosE_next (Pv.cos h j (by omega)) ?_ ?_
  ·rw [a1, a2]
   unfold badP
   have := (h.row j hjl).2
   have := (h.col j hjl).1
   have := h.ent j hjl
   rw [Int.toNat_natCast, Int.toNat_natCast]
   omega
  rintro ⟨k, hk, q⟩
  have hk := List.mem_range.1 hk
  obtain ⟨b1, b2⟩ := pA_toP (show k < l.length by omega)
  rw [a1, b1, a2, b2] at q
  have h1 := h.inc k j (by omega) hjl hk
  have h2 := h.dis k j (by omega) hjl (by omega)
  rcases q with q | q
  ·omega
  exact h2 (by omega)
theorem Pv.coE {L : List (List Int)} {l : List (Nat × Nat)} {i : Nat} {T : Nat → Bool} (h0 : chM L = 0) (h : Pv L l i T) : coE L (toPm l) = 0 := by
 have hl : (toPm l).length = l.length := by unfold toPm; simp
 unfold AsgRows.coE
 rw [if_neg (fun q => q h0), hl]
 exact h.cos _ (Nat.le_refl _)
def cl (L : List (List Int)) : List (Nat × Nat) → Int
 | [] => 0
 | p :: ps => AsgRows.ent L p.1 p.2 + cl L ps
theorem cl_app {L : List (List Int)} : ∀ (a b : List (Nat × Nat)), cl L (a ++ b) = cl L a + cl L b
 | [], b => by simp [cl]
 | p :: a, b => by
  have := cl_app (L := L) a b
  simp only [List.cons_append, cl]
  omega
theorem cosS_cl {L : List (List Int)} {l : List (Nat × Nat)} : ∀ j, j ≤ l.length → cosS L (toPm l) j = cl L (l.take j)
 | 0, _ => by simp [cosS, cl]
 | j + 1, hj => by
  have hjl : j < l.length := by omega
  obtain ⟨a1, a2⟩ := pA_toP hjl
  show cosS L (toPm l) j + _ = _
  rw [cosS_cl j (by omega), a1, a2, Int.toNat_natCast, Int.toNat_natCast, List.take_succ_eq_append_getElem hjl, cl_app]
  simp [cl]
theorem Pv.coS {L : List (List Int)} {l : List (Nat × Nat)} {i : Nat} {T : Nat → Bool} (h0 : chM L = 0) (h : Pv L l i T) : coS L (toPm l) = cl L l := by
 have hl : (toPm l).length = l.length := by unfold toPm; simp
 unfold AsgRows.coS
 rw [if_pos (h.coE h0), hl, cosS_cl _ (Nat.le_refl _), List.take_length]
end AsgMath
end
