/-
  Layer 19 (assign): the best assignment is valid; how its extensions compare. No program in sight.
-/
import Derived.Test.YtbehpkggmomgeaaAsgMathD
import Derived.Test.YtbehpkggmomgeaaAsgBet
namespace AsgMath
open AsgRows

def toPm (l : List (Nat × Nat)) : List (Int × Int) := l.map fun p => ((p.1 : Int), (p.2 : Int))
/-- A list of pairs of rows below i, in their order, whose columns are those that are taken. -/
structure Pv (L : List (List Int)) (l : List (Nat × Nat)) (i : Nat) (T : Nat → Bool) : Prop where
  row : ∀ j (h : j < l.length), (l[j]).1 < i ∧ (l[j]).1 < L.length
  col : ∀ j (h : j < l.length), (l[j]).2 < wid L ∧ T (l[j]).2 = true
  ent : ∀ j (h : j < l.length), 0 ≤ ent L (l[j]).1 (l[j]).2
  inc : ∀ j k (hj : j < l.length) (hk : k < l.length), j < k → (l[j]).1 < (l[k]).1
  dis : ∀ j k (hj : j < l.length) (hk : k < l.length), j ≠ k → (l[j]).2 ≠ (l[k]).2
theorem Pv.nil {L : List (List Int)} {i : Nat} {T : Nat → Bool} : Pv L [] i T := ⟨fun _ h => absurd h (Nat.not_lt_zero _), fun _ h => absurd h (Nat.not_lt_zero _), fun _ h => absurd h (Nat.not_lt_zero _), fun _ _ h => absurd h (Nat.not_lt_zero _), fun _ _ h => absurd h (Nat.not_lt_zero _)⟩
theorem Pv.up {L : List (List Int)} {l : List (Nat × Nat)} {i : Nat} {T : Nat → Bool} (h : Pv L l i T) : Pv L l (i + 1) T := ⟨fun j hj => ⟨by have := (h.row j hj).1; omega, (h.row j hj).2⟩, h.col, h.ent, h.inc, h.dis⟩
theorem Pv.snoc {L : List (List Int)} {l : List (Nat × Nat)} {i k : Nat} {T : Nat → Bool} (h : Pv L l i T) (hi : i < L.length) (hk : k < wid L) (hT : T k = false) (hx : 0 ≤ AsgRows.ent L i k) : Pv L (l ++ [(i, k)]) (i + 1) (setT T k) := by
  have key : ∀ j (hj : j < (l ++ [(i, k)]).length), (∃ h' : j < l.length, (l ++ [(i, k)])[j] = l[j]) ∨ (j = l.length ∧ (l ++ [(i, k)])[j] = (i, k)) := fun j hj => by
    rw [List.length_append] at hj
    simp only [List.length_cons, List.length_nil] at hj
    by_cases e : j < l.length
    · exact Or.inl ⟨e, List.getElem_append_left e⟩
    · have e2 : j = l.length := by omega
      subst e2
      exact Or.inr ⟨rfl, by simp⟩
  refine ⟨fun j hj => ?_, fun j hj => ?_, fun j hj => ?_, fun j x hj hx' hlt => ?_, fun j x hj hx' hne => ?_⟩
  · rcases key j hj with ⟨h', e⟩ | ⟨_, e⟩
    · rw [e]; have := h.row j h'; omega
    · rw [e]; exact ⟨Nat.lt_succ_self _, hi⟩
  · rcases key j hj with ⟨h', e⟩ | ⟨_, e⟩
    · rw [e]
      have := h.col j h'
      refine ⟨this.1, ?_⟩
      unfold setT
      split
      · rfl
      · exact this.2
    · rw [e]; exact ⟨hk, if_pos rfl⟩
  · rcases key j hj with ⟨h', e⟩ | ⟨_, e⟩
    · rw [e]; exact h.ent j h'
    · rw [e]; exact hx
  · rcases key j hj with ⟨h1, e1⟩ | ⟨g1, e1⟩
    · rcases key x hx' with ⟨h2, e2⟩ | ⟨g2, e2⟩
      · rw [e1, e2]; exact h.inc j x h1 h2 hlt
      · rw [e1, e2]; exact (h.row j h1).1
    · rcases key x hx' with ⟨h2, e2⟩ | ⟨g2, e2⟩ <;> omega
  · rcases key j hj with ⟨h1, e1⟩ | ⟨g1, e1⟩
    · rcases key x hx' with ⟨h2, e2⟩ | ⟨g2, e2⟩
      · rw [e1, e2]; exact h.dis j x h1 h2 hne
      · rw [e1, e2]
        intro q
        have := (h.col j h1).2
        rw [show (l[j]).2 = k from q, hT] at this
        exact absurd this (by decide)
    · rcases key x hx' with ⟨h2, e2⟩ | ⟨g2, e2⟩
      · rw [e1, e2]
        intro q
        have := (h.col x h2).2
        rw [show (l[x]).2 = k from q.symm, hT] at this
        exact absurd this (by decide)
      · omega
/-- A prefix with the best assignment of the rest is valid. -/
theorem Pv.best {L : List (List Int)} {n m : Nat} (hn : L.length = n) (hm : wid L = m) : ∀ (r : Nat) (l : List (Nat × Nat)) (T : Nat → Bool), r ≤ n → Pv L l (n - r) T → ∃ T', Pv L (l ++ bestL (AsgRows.ent L) n m r T) n T'
  | 0, l, T, _, h => ⟨T, by rw [Nat.sub_zero] at h; simpa [bestL] using h⟩
  | r + 1, l, T, hr, h => by
    have e1 : n - (r + 1) + 1 = n - r := by omega
    cases e : firstK (takeB (AsgRows.ent L) n m r T) m with
    | none =>
      rw [(bestL_skip e).1]
      have h2 := h.up
      rw [e1] at h2
      exact Pv.best hn hm r l T (by omega) h2
    | some k =>
      rw [bestL_take e]
      obtain ⟨hk, ht, -⟩ := firstK_some e
      obtain ⟨⟨q1, q2⟩, -⟩ := takeB_iff.1 ht
      have h2 := h.snoc (k := k) (by omega) (by omega) q2 q1
      rw [e1] at h2
      obtain ⟨T', h3⟩ := Pv.best hn hm r (l ++ [(n - (r + 1), k)]) (setT T k) (by omega) h2
      exact ⟨T', by rw [List.append_assoc] at h3; exact h3⟩
theorem pA_toP {l : List (Nat × Nat)} {j : Nat} (h : j < l.length) : pA (toPm l) j = ((l[j]).1 : Int) ∧ pB (toPm l) j = ((l[j]).2 : Int) := by
  unfold pA pB toPm
  rw [List.getElem?_map, List.getElem?_eq_getElem h]
  exact ⟨rfl, rfl⟩
/-- A valid list has no error. -/
theorem Pv.cos {L : List (List Int)} {l : List (Nat × Nat)} {i : Nat} {T : Nat → Bool} (h : Pv L l i T) : ∀ j, j ≤ l.length → cosE L (toPm l) j = 0
  | 0, _ => rfl
  | j + 1, hj => by
    have hjl : j < l.length := by omega
    obtain ⟨a1, a2⟩ := pA_toP hjl
    refine cosE_next (Pv.cos h j (by omega)) ?_ ?_
    · rw [a1, a2]
      unfold badP
      have := (h.row j hjl).2
      have := (h.col j hjl).1
      have := h.ent j hjl
      rw [Int.toNat_natCast, Int.toNat_natCast]
      omega
    · rintro ⟨k, hk, q⟩
      have hk := List.mem_range.1 hk
      obtain ⟨b1, b2⟩ := pA_toP (show k < l.length by omega)
      rw [a1, b1, a2, b2] at q
      have h1 := h.inc k j (by omega) hjl hk
      have h2 := h.dis k j (by omega) hjl (by omega)
      rcases q with q | q
      · omega
      · exact h2 (by omega)
theorem Pv.coE {L : List (List Int)} {l : List (Nat × Nat)} {i : Nat} {T : Nat → Bool} (h0 : chM L = 0) (h : Pv L l i T) : coE L (toPm l) = 0 := by
  have hl : (toPm l).length = l.length := by unfold toPm; simp
  unfold AsgRows.coE
  rw [if_neg (fun q => q h0), hl]
  exact h.cos _ (Nat.le_refl _)
/-- The cost of a list. -/
def cl (L : List (List Int)) : List (Nat × Nat) → Int
  | [] => 0
  | p :: ps => AsgRows.ent L p.1 p.2 + cl L ps
theorem cl_app {L : List (List Int)} : ∀ (a b : List (Nat × Nat)), cl L (a ++ b) = cl L a + cl L b
  | [], b => by simp [cl]
  | p :: a, b => by
    have := cl_app (L := L) a b
    simp only [List.cons_append, cl]
    omega
theorem cosS_cl {L : List (List Int)} {l : List (Nat × Nat)} : ∀ j, j ≤ l.length → cosS L (toPm l) j = cl L (l.take j)
  | 0, _ => by simp [cosS, cl]
  | j + 1, hj => by
    have hjl : j < l.length := by omega
    obtain ⟨a1, a2⟩ := pA_toP hjl
    show cosS L (toPm l) j + _ = _
    rw [cosS_cl j (by omega), a1, a2, Int.toNat_natCast, Int.toNat_natCast, List.take_succ_eq_append_getElem hjl, cl_app]
    simp [cl]
theorem Pv.coS {L : List (List Int)} {l : List (Nat × Nat)} {i : Nat} {T : Nat → Bool} (h0 : chM L = 0) (h : Pv L l i T) : coS L (toPm l) = cl L l := by
  have hl : (toPm l).length = l.length := by unfold toPm; simp
  unfold AsgRows.coS
  rw [if_pos (h.coE h0), hl, cosS_cl _ (Nat.le_refl _), List.take_length]
/-- The value of the best assignment, by its list. -/
theorem V_list {L : List (List Int)} {n m : Nat} (hc : ∀ i k, i < n → k < m → AsgRows.ent L i k ≤ 1048576) : ∀ (r : Nat) (T : Nat → Bool), r ≤ n → V (AsgRows.ent L) n m r T = 1073741824 * ((bestL (AsgRows.ent L) n m r T).length : Int) - cl L (bestL (AsgRows.ent L) n m r T) ∧ 0 ≤ cl L (bestL (AsgRows.ent L) n m r T) ∧ cl L (bestL (AsgRows.ent L) n m r T) ≤ 1048576 * r
  | 0, _, _ => by simp [V, bestL, cl]
  | r + 1, T, hr => by
    cases e : firstK (takeB (AsgRows.ent L) n m r T) m with
    | none =>
      obtain ⟨h1, h2⟩ := bestL_skip e
      rw [h1, h2]
      have := V_list hc r T (by omega)
      omega
    | some k =>
      rw [bestL_take e]
      obtain ⟨hk, ht, -⟩ := firstK_some e
      obtain ⟨⟨q1, q2⟩, q3⟩ := takeB_iff.1 ht
      have := V_list hc r (setT T k) (by omega)
      have := hc (n - (r + 1)) k (by omega) hk
      simp only [List.length_cons, cl]
      omega
/-- The rows of a best assignment. -/
theorem bestL_rows {c : Nat → Nat → Int} {n m : Nat} : ∀ (r : Nat) (T : Nat → Bool), ∀ p ∈ bestL c n m r T, n - r ≤ p.1
  | 0, _, p, h => by simp [bestL] at h
  | r + 1, T, p, h => by
    cases e : firstK (takeB c n m r T) m with
    | none => rw [(bestL_skip e).1] at h; have := bestL_rows r T p h; omega
    | some k =>
      rw [bestL_take e] at h
      rcases List.mem_cons.1 h with rfl | h
      · exact Nat.le_refl _
      · have := bestL_rows r (setT T k) p h; omega
theorem lxB_pre : ∀ (a x y : List (Int × Int)), lxB (a ++ x) (a ++ y) = lxB x y
  | [], _, _ => rfl
  | p :: a, x, y => by
    show (if p = p then lxB (a ++ x) (a ++ y) else _) = _
    rw [if_pos rfl]
    exact lxB_pre a x y
theorem toPm_app (a b : List (Nat × Nat)) : toPm (a ++ b) = toPm a ++ toPm b := by unfold toPm; simp
/-- Two extensions of one list, compared. -/
theorem bt_ext {L : List (List Int)} {l x y : List (Nat × Nat)} {i j : Nat} {T T' : Nat → Bool} (h0 : chM L = 0) (hx : Pv L (l ++ x) i T) (hy : Pv L (l ++ y) j T') (cx : 0 ≤ cl L x) (cx1 : cl L x ≤ 20971520) (cy : 0 ≤ cl L y) (cy1 : cl L y ≤ 20971520) :
    btE L (toPm (l ++ x)) (toPm (l ++ y)) = 0 ∧
    (1073741824 * (y.length : Int) - cl L y < 1073741824 * (x.length : Int) - cl L x → btB L (toPm (l ++ x)) (toPm (l ++ y)) = true) ∧
    (1073741824 * (x.length : Int) - cl L x < 1073741824 * (y.length : Int) - cl L y → btB L (toPm (l ++ x)) (toPm (l ++ y)) = false) ∧
    (1073741824 * (x.length : Int) - cl L x = 1073741824 * (y.length : Int) - cl L y → btB L (toPm (l ++ x)) (toPm (l ++ y)) = lxB (toPm x) (toPm y)) := by
  have e1 := hx.coE h0
  have e2 := hy.coE h0
  have hE : btE L (toPm (l ++ x)) (toPm (l ++ y)) = 0 := by rw [bt_e2 e1, e2]
  have s1 := hx.coS h0
  have s2 := hy.coS h0
  rw [cl_app] at s1 s2
  have l1 : (toPm (l ++ x)).length = l.length + x.length := by unfold toPm; simp
  have l2 : (toPm (l ++ y)).length = l.length + y.length := by unfold toPm; simp
  refine ⟨hE, fun h => ?_, fun h => ?_, fun h => ?_⟩
  · by_cases hl : x.length = y.length
    · rw [bt_cost hE (by omega) (by omega), decide_eq_true (by omega)]
    · rw [bt_len hE (by omega), decide_eq_true (by omega)]
  · by_cases hl : x.length = y.length
    · rw [bt_cost hE (by omega) (by omega), decide_eq_false (by omega)]
    · rw [bt_len hE (by omega), decide_eq_false (by omega)]
  · rw [bt_lex hE (by omega) (by omega), toPm_app, toPm_app, lxB_pre]
end AsgMath
