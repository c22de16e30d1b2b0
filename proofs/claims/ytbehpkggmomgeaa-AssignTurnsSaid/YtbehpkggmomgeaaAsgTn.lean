/-
  Layer 19 (assign): what the law's own tried holds between two columns. No program in sight.
-/
import Derived.Test.YtbehpkggmomgeaaAsgTm
namespace AsgMath
open AsgRows

def fV (c : Nat → Nat → Int) (n m r : Nat) (T : Nat → Bool) (j : Nat) : Int := 1073741824 - c (n - (r + 1)) j + V c n m r (setT T j)
def bV (c : Nat → Nat → Int) (n m r : Nat) (T : Nat → Bool) (k : Nat) : Int := bestK (fV c n m r T) (okB c T (n - (r + 1))) (V c n m r T) k
def tkY (c : Nat → Nat → Int) (n m r : Nat) (T : Nat → Bool) (k j : Nat) : Bool := okB c T (n - (r + 1)) j && decide (fV c n m r T j = bV c n m r T k)
def nextL (c : Nat → Nat → Int) (n m r : Nat) (T : Nat → Bool) (j : Nat) : List (Nat × Nat) := (n - (r + 1), j) :: bestL c n m r (setT T j)
/-- The best one of the skip and the first k columns. -/
def Yk (c : Nat → Nat → Int) (n m r : Nat) (T : Nat → Bool) (k : Nat) : List (Nat × Nat) :=
  match firstK (tkY c n m r T k) k with
  | some j => nextL c n m r T j
  | none => bestL c n m r T
section
variable {c : Nat → Nat → Int} {n m r : Nat} {T : Nat → Bool}
theorem Yk_zero : Yk c n m r T 0 = bestL c n m r T := rfl
theorem Yk_some {k j : Nat} (h : firstK (tkY c n m r T k) k = some j) : Yk c n m r T k = nextL c n m r T j := by simp only [Yk, h]
theorem Yk_none {k : Nat} (h : firstK (tkY c n m r T k) k = none) : Yk c n m r T k = bestL c n m r T := by simp only [Yk, h]
theorem Yk_last : Yk c n m r T m = bestL c n m (r + 1) T := rfl
theorem bV_step {k : Nat} : bV c n m r T (k + 1) = if okB c T (n - (r + 1)) k = true then max (bV c n m r T k) (fV c n m r T k) else bV c n m r T k := rfl
theorem bV_ge {k j : Nat} (hj : j < k) (ho : okB c T (n - (r + 1)) j = true) : fV c n m r T j ≤ bV c n m r T k := bestK_ge hj ho
/-- A column that may not be taken. -/
theorem Yk_pass {k : Nat} (h : okB c T (n - (r + 1)) k = false) : Yk c n m r T (k + 1) = Yk c n m r T k := by
  have hb : bV c n m r T (k + 1) = bV c n m r T k := by rw [bV_step, if_neg (by rw [h]; decide)]
  have hk : tkY c n m r T (k + 1) k = false := by unfold tkY; rw [h, Bool.false_and]
  have hj : ∀ j, tkY c n m r T (k + 1) j = tkY c n m r T k j := fun j => by unfold tkY; rw [hb]
  cases e : firstK (tkY c n m r T k) k with
  | none =>
    rw [Yk_none e, Yk_none (firstK_no (fun j hj' => by
      by_cases q : j = k
      · subst q; exact hk
      · rw [hj]; exact firstK_none e (by omega)))]
  | some j =>
    obtain ⟨h1, h2, h3⟩ := firstK_some e
    rw [Yk_some e, Yk_some (firstK_of (k := j) (by omega) (by rw [hj]; exact h2) (fun x hx => by rw [hj]; exact h3 x hx))]
theorem tk_up {k : Nat} (ho : okB c T (n - (r + 1)) k = true) (h : bV c n m r T k < fV c n m r T k) : Yk c n m r T (k + 1) = nextL c n m r T k := by
  have hb : bV c n m r T (k + 1) = fV c n m r T k := by rw [bV_step, if_pos ho]; omega
  refine Yk_some (firstK_of (by omega) (by unfold tkY; rw [ho, hb]; simp) (fun j hj => ?_))
  unfold tkY
  rw [hb]
  by_cases h1 : okB c T (n - (r + 1)) j = true
  · have := bV_ge (m := m) hj h1
    rw [h1, decide_eq_false (by omega)]
    rfl
  · rw [show okB c T (n - (r + 1)) j = false by simpa using h1]
    rfl
theorem tk_low {k : Nat} (ho : okB c T (n - (r + 1)) k = true) (h : fV c n m r T k < bV c n m r T k) : Yk c n m r T (k + 1) = Yk c n m r T k := by
  have hb : bV c n m r T (k + 1) = bV c n m r T k := by rw [bV_step, if_pos ho]; omega
  have hk : tkY c n m r T (k + 1) k = false := by unfold tkY; rw [hb, decide_eq_false (by omega), Bool.and_false]
  have hj : ∀ j, tkY c n m r T (k + 1) j = tkY c n m r T k j := fun j => by unfold tkY; rw [hb]
  cases e : firstK (tkY c n m r T k) k with
  | none =>
    rw [Yk_none e, Yk_none (firstK_no (fun j hj' => by
      by_cases q : j = k
      · subst q; exact hk
      · rw [hj]; exact firstK_none e (by omega)))]
  | some j =>
    obtain ⟨h1, h2, h3⟩ := firstK_some e
    rw [Yk_some e, Yk_some (firstK_of (k := j) (by omega) (by rw [hj]; exact h2) (fun x hx => by rw [hj]; exact h3 x hx))]
theorem tk_same {k : Nat} (ho : okB c T (n - (r + 1)) k = true) (h : fV c n m r T k = bV c n m r T k) :
    (∃ j, j < k ∧ firstK (tkY c n m r T k) k = some j ∧ Yk c n m r T (k + 1) = Yk c n m r T k) ∨ (firstK (tkY c n m r T k) k = none ∧ Yk c n m r T (k + 1) = nextL c n m r T k) := by
  have hb : bV c n m r T (k + 1) = bV c n m r T k := by rw [bV_step, if_pos ho]; omega
  have hj : ∀ j, tkY c n m r T (k + 1) j = tkY c n m r T k j := fun j => by unfold tkY; rw [hb]
  cases e : firstK (tkY c n m r T k) k with
  | none =>
    refine Or.inr ⟨rfl, Yk_some (firstK_of (by omega) (by unfold tkY; rw [ho, hb, h]; simp) (fun x hx => ?_))⟩
    rw [hj]; exact firstK_none e hx
  | some j =>
    obtain ⟨h1, h2, h3⟩ := firstK_some e
    refine Or.inl ⟨j, h1, rfl, ?_⟩
    rw [Yk_some e, Yk_some (firstK_of (k := j) (by omega) (by rw [hj]; exact h2) (fun x hx => by rw [hj]; exact h3 x hx))]
end
/-- A list's worth. -/
def wt (L : List (List Int)) (l : List (Nat × Nat)) : Int := 1073741824 * (l.length : Int) - cl L l
theorem next_wt {L : List (List Int)} {n m r j : Nat} {T : Nat → Bool} (hc : ∀ i k, i < n → k < m → ent L i k ≤ 1048576) (hr : r + 1 ≤ n) : wt L (nextL (ent L) n m r T j) = fV (ent L) n m r T j ∧ cl L (nextL (ent L) n m r T j) = ent L (n - (r + 1)) j + cl L (bestL (ent L) n m r (setT T j)) := by
  have := V_list hc r (setT T j) (by omega)
  refine ⟨?_, rfl⟩
  unfold wt nextL fV
  simp only [List.length_cons, cl]
  omega
/-- One column of tried. -/
theorem tried_step {L : List (List Int)} {n m r k : Nat} {T : Nat → Bool} {l : List (Nat × Nat)} (h0 : chM L = 0) (hn : L.length = n) (hm : wid L = m) (hn16 : n ≤ 16) (hr : r + 1 ≤ n) (hk : k < m) (ho : okB (ent L) T (n - (r + 1)) k = true) (hP : Pv L l (n - (r + 1)) T) :
    btE L (toPm (l ++ nextL (ent L) n m r T k)) (toPm (l ++ Yk (ent L) n m r T k)) = 0 ∧
    Yk (ent L) n m r T (k + 1) = if btB L (toPm (l ++ nextL (ent L) n m r T k)) (toPm (l ++ Yk (ent L) n m r T k)) = true then nextL (ent L) n m r T k else Yk (ent L) n m r T k := by
  have ok := chM_ok h0
  have hc : ∀ i k, i < n → k < m → ent L i k ≤ 1048576 := fun i k hi hk => ok.hi i k (by rw [hn]; exact hi) (by rw [hm]; exact hk)
  have e1 : n - (r + 1) + 1 = n - r := by omega
  obtain ⟨q1, q2⟩ := okB_iff.1 ho
  have nextP : ∀ j, j < m → okB (ent L) T (n - (r + 1)) j = true → ∃ T', Pv L (l ++ nextL (ent L) n m r T j) n T' := fun j hj hoj => by
    obtain ⟨q1, q2⟩ := okB_iff.1 hoj
    have h2 := hP.snoc (k := j) (by omega) (by omega) q2 q1
    rw [e1] at h2
    obtain ⟨T', h3⟩ := Pv.best hn hm r (l ++ [(n - (r + 1), j)]) (setT T j) (by omega) h2
    exact ⟨T', by rw [List.append_assoc] at h3; exact h3⟩
  have skipP : ∃ T', Pv L (l ++ bestL (ent L) n m r T) n T' := by
    have h2 := hP.up
    rw [e1] at h2
    exact Pv.best hn hm r l T (by omega) h2
  have vs := V_list hc r T (by omega)
  have vk := V_list hc r (setT T k) (by omega)
  obtain ⟨w1, w2⟩ := next_wt (T := T) (j := k) hc hr
  have ck := hc (n - (r + 1)) k (by omega) hk
  obtain ⟨T1, p1⟩ := nextP k hk ho
  cases e : firstK (tkY (ent L) n m r T k) k with
  | none =>
    rw [Yk_none e]
    obtain ⟨T2, p2⟩ := skipP
    obtain ⟨b0, b1, b2, b3⟩ := bt_ext h0 p1 p2 (by omega) (by omega) (by omega) (by omega)
    have hV : bV (ent L) n m r T k = V (ent L) n m r T := by
      rcases bestK_cases (f := fV (ent L) n m r T) (p := okB (ent L) T (n - (r + 1))) (x := V (ent L) n m r T) (m := k) with q | ⟨j, hj, hp, q⟩
      · exact q
      · have := firstK_none e hj
        unfold tkY at this
        rw [hp, decide_eq_true (show fV (ent L) n m r T j = bV (ent L) n m r T k from q.symm)] at this
        exact absurd this (by decide)
    refine ⟨b0, ?_⟩
    unfold wt at w1
    rcases Int.lt_trichotomy (fV (ent L) n m r T k) (bV (ent L) n m r T k) with q | q | q
    · rw [b2 (by omega), if_neg (by decide), tk_low ho q, Yk_none e]
    · rcases tk_same ho q with ⟨j, hj, e2, -⟩ | ⟨-, hY⟩
      · rw [e] at e2; cases e2
      · have hlx : lxB (toPm (nextL (ent L) n m r T k)) (toPm (bestL (ent L) n m r T)) = true := by
          cases hB : bestL (ent L) n m r T with
          | nil =>
            rw [hB] at vs
            unfold nextL at w1
            simp only [List.length_cons, List.length_nil, cl] at w1 vs
            omega
          | cons p ps =>
            have hrow := bestL_rows (c := ent L) (n := n) (m := m) r T p (by rw [hB]; exact List.mem_cons_self)
            unfold nextL toPm
            simp only [List.map_cons, lxB]
            have hne : ¬ ((((n - (r + 1) : Nat) : Int), (k : Int)) = ((p.1 : Int), (p.2 : Int))) := fun z => by
              have := congrArg Prod.fst z
              simp only at this
              omega
            rw [if_neg hne]
            have hlt : (((n - (r + 1) : Nat) : Int)) < (p.1 : Int) := by omega
            simp only [decide_eq_true hlt, Bool.true_or]
        rw [b3 (by omega), hlx, if_pos rfl, hY]
    · rw [b1 (by omega), if_pos rfl, tk_up ho q]
  | some j =>
    rw [Yk_some e]
    obtain ⟨h1, h2, h3⟩ := firstK_some e
    unfold tkY at h2
    rw [Bool.and_eq_true, decide_eq_true_iff] at h2
    obtain ⟨oj, vj⟩ := h2
    obtain ⟨o1, o2⟩ := okB_iff.1 oj
    obtain ⟨T2, p2⟩ := nextP j (by omega) oj
    obtain ⟨x1, x2⟩ := next_wt (T := T) (j := j) hc hr
    have vvj := V_list hc r (setT T j) (by omega)
    have cj := hc (n - (r + 1)) j (by omega) (by omega)
    obtain ⟨b0, b1, b2, b3⟩ := bt_ext h0 p1 p2 (by omega) (by omega) (by omega) (by omega)
    refine ⟨b0, ?_⟩
    unfold wt at w1 x1
    rcases Int.lt_trichotomy (fV (ent L) n m r T k) (bV (ent L) n m r T k) with q | q | q
    · rw [b2 (by omega), if_neg (by decide), tk_low ho q, Yk_some e]
    · rcases tk_same ho q with ⟨j', hj', e2, hY⟩ | ⟨e2, -⟩
      · have hlx : lxB (toPm (nextL (ent L) n m r T k)) (toPm (nextL (ent L) n m r T j)) = false := by
          unfold nextL toPm
          simp only [List.map_cons, lxB]
          have hne : ¬ ((((n - (r + 1) : Nat) : Int), (k : Int)) = (((n - (r + 1) : Nat) : Int), (j : Int))) := fun z => by
            have := congrArg Prod.snd z
            simp only at this
            omega
          rw [if_neg hne]
          have hlt : ¬ (k : Int) < (j : Int) := by omega
          simp [hlt]
        rw [b3 (by omega), hlx, if_neg (by decide), hY, Yk_some e]
      · rw [e] at e2; cases e2
    · rw [b1 (by omega), if_pos rfl, tk_up ho q]
end AsgMath
