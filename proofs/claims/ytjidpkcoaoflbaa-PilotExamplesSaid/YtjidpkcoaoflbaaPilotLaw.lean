/-
  Plain laws of layer 37 (pilot): what is flown when, with a delay, a longer one, and how the rate goes to the bounds. No program in sight.
-/
import Derived.Test.YtjidpkcoaoflbaaRunMath
namespace PilotMath
open PlaneMath

/-- What becomes due in cycle j + 1. -/
def dq (d : Nat) (l : List Adv) (j : Nat) : Adv := if j < d then adv0 else ga l (j - d)
theorem getElem_tail {α : Type} (l : List α) (i : Nat) : l.tail[i]? = l[i + 1]? := by cases l <;> simp
theorem nx_q (ms : Int) (x : St) (a : Adv) : (nx ms x a).q = (x.q ++ [a]).tail := by
  unfold nx
  split <;> rfl
theorem q_get (ms : Int) (d : Nat) (l : List Adv) (k : Nat) : ∀ i, i < d → (stK ms d l k).q[i]? = some (dq d l (k + i)) := by
  induction k with
  | zero =>
    intro i hi
    show (List.replicate d adv0)[i]? = _
    rw [List.getElem?_replicate, if_pos hi]
    unfold dq
    rw [if_pos (by omega)]
  | succ k ih =>
    intro i hi
    show (nx ms (stK ms d l k) (ga l k)).q[i]? = _
    rw [nx_q, getElem_tail]
    have hlen := stK_len ms d l k
    by_cases h : i + 1 < d
    · rw [List.getElem?_append_left (by omega), ih _ h, show k + (i + 1) = k + 1 + i by omega]
    · rw [List.getElem?_append_right (by omega), hlen, show i + 1 - d = 0 by omega]
      unfold dq
      rw [if_neg (by omega), show k + 1 + i - d = k by omega]
      rfl
theorem first_dq (ms : Int) (d : Nat) (l : List Adv) (k : Nat) : nxFirst (stK ms d l k) (ga l k) = dq d l k := by
  unfold nxFirst
  have hlen := stK_len ms d l k
  by_cases h : 0 < d
  · have := q_get ms d l k 0 h
    unfold ga at *
    rw [List.getElem?_append_left (by omega), this]
    rfl
  · have h0 : (stK ms d l k).q = [] := List.length_eq_zero_iff.1 (by omega)
    rw [h0]
    unfold dq
    rw [if_neg (by omega), show k - d = k by omega]
    rfl
/-- What is kept beside the queue, a cycle later. -/
def tr (ms : Int) (f : Adv) (t : Adv × Adv × Int) : Adv × Adv × Int :=
  if f = t.1 then t else (f, if ms = 0 ∨ min (t.2.2 + 1) 1073741824 % ms ≠ 0 then f else t.2.1, min (t.2.2 + 1) 1073741824)
def tri (x : St) : Adv × Adv × Int := (x.due, x.fl, x.c)
theorem tri_nx (ms : Int) (x : St) (a : Adv) : tri (nx ms x a) = tr ms (nxFirst x a) (tri x) := by
  unfold nx tr tri nxCount
  by_cases h : nxFirst x a = x.due
  · rw [if_pos h, if_pos h]
  · rw [if_neg h, if_neg h]
theorem tri_succ (ms : Int) (d : Nat) (l : List Adv) (k : Nat) : tri (stK ms d l (k + 1)) = tr ms (dq d l k) (tri (stK ms d l k)) := by
  show tri (nx ms (stK ms d l k) (ga l k)) = _
  rw [tri_nx, first_dq]
theorem tri_zero (ms : Int) (d : Nat) (l : List Adv) : tri (stK ms d l 0) = (adv0, adv0, 0) := rfl
theorem tr_due (ms : Int) (f : Adv) (t : Adv × Adv × Int) : (tr ms f t).1 = f := by
  unfold tr
  split
  · rename_i h; exact h.symm
  · rfl

/-! ### Miss 0, Miss 1 -/
theorem fl_due (d : Nat) (l : List Adv) (k : Nat) : (stK 0 d l k).fl = (stK 0 d l k).due := by
  induction k with
  | zero => rfl
  | succ k ih =>
    have h := tri_succ 0 d l k
    have e1 : (stK 0 d l (k + 1)).fl = (tr 0 (dq d l k) (tri (stK 0 d l k))).2.1 := by rw [← h]; rfl
    have e2 : (stK 0 d l (k + 1)).due = (tr 0 (dq d l k) (tri (stK 0 d l k))).1 := by rw [← h]; rfl
    rw [e1, e2]
    unfold tr
    split
    · exact ih
    · simp
theorem fl_zero (d : Nat) (l : List Adv) (k : Nat) : (stK 0 d l (k + 1)).fl = dq d l k := by
  rw [fl_due]
  have h := tri_succ 0 d l k
  have e2 : (stK 0 d l (k + 1)).due = (tr 0 (dq d l k) (tri (stK 0 d l k))).1 := by rw [← h]; rfl
  rw [e2, tr_due]
theorem fl_one (d : Nat) (l : List Adv) (k : Nat) : (stK 1 d l k).fl = adv0 := by
  induction k with
  | zero => rfl
  | succ k ih =>
    have h := tri_succ 1 d l k
    have e1 : (stK 1 d l (k + 1)).fl = (tr 1 (dq d l k) (tri (stK 1 d l k))).2.1 := by rw [← h]; rfl
    rw [e1]
    unfold tr
    split
    · exact ih
    · rw [if_neg (by omega)]; exact ih
/-- What the law PilotDelay wants. -/
def wantD (ms : Int) (d : Nat) (l : List Adv) (k : Nat) : Adv := if d ≤ k ∧ ms = 0 then ga l (k - d) else adv0
theorem delay_fl {ms : Int} (h : ms = 0 ∨ ms = 1) (d : Nat) (l : List Adv) (k : Nat) : (stK ms d l (k + 1)).fl = wantD ms d l k := by
  unfold wantD
  rcases h with rfl | rfl
  · rw [fl_zero]
    unfold dq
    by_cases h : k < d
    · rw [if_pos h, if_neg (by omega)]
    · rw [if_neg h, if_pos ⟨by omega, rfl⟩]
  · rw [fl_one, if_neg (by omega)]
theorem bad_cmd {d pl ms : Int} {x : St} {a : Adv} (h : Good x) (ha : bndE a ≠ 0) (hp : plE d pl ms = 0) (hd : (x.q.length : Int) = d) : cmdE d pl ms x a = bndE a := by
  unfold cmdE
  have h1 : firstE (x.q ++ [x.due, x.fl]) = 0 := firstE_mem fun b hb => by
    rcases List.mem_append.1 hb with hb | hb
    · exact (h.q b hb).1
    · simp at hb
      rcases hb with rfl | rfl
      · exact h.due.1
      · exact h.fl.1
  have hf : firstE (x.q ++ [x.due, x.fl, a]) = bndE a := by
    rw [show x.q ++ [x.due, x.fl, a] = (x.q ++ [x.due, x.fl]) ++ [a] by simp, firstE_append, if_pos h1]
    show (if bndE a = 0 then 0 else bndE a) = _
    rw [if_neg ha]
  rw [if_neg (by rw [hp]; decide), if_neg (by simpa using hd), if_pos (by rw [hf]; exact ha), hf]

/-! ### A longer delay -/
theorem tri_same (ms : Int) (d m : Nat) (l : List Adv) (k : Nat) (hk : k ≤ d + m) : tri (stK ms (d + m) l k) = (adv0, adv0, 0) := by
  induction k with
  | zero => rfl
  | succ k ih =>
    rw [tri_succ, ih (by omega)]
    unfold dq
    rw [if_pos (by omega)]
    unfold tr
    rw [if_pos rfl]
theorem tri_late (ms : Int) (d m : Nat) (l : List Adv) (k : Nat) : tri (stK ms (d + m) l (m + k)) = tri (stK ms d l k) := by
  induction k with
  | zero => exact tri_same ms d m l m (by omega)
  | succ k ih =>
    rw [show m + (k + 1) = (m + k) + 1 by omega, tri_succ, ih, tri_succ]
    have : dq (d + m) l (m + k) = dq d l k := by
      unfold dq
      by_cases h : k < d
      · rw [if_pos h, if_pos (by omega)]
      · rw [if_neg h, if_neg (by omega), show m + k - (d + m) = k - d by omega]
    rw [this]
theorem fl_late (ms : Int) (d m : Nat) (l : List Adv) (k : Nat) : (stK ms (d + m) l (m + k)).fl = (stK ms d l k).fl := by
  have h := tri_late ms d m l k
  unfold tri at h
  exact congrArg (fun t : Adv × Adv × Int => t.2.1) h
theorem fl_none (ms : Int) (d : Nat) (l : List Adv) (k : Nat) (hk : k ≤ d) : (stK ms d l k).fl = adv0 := by
  have h := tri_same ms d 0 l k (by omega)
  unfold tri at h
  exact congrArg (fun t : Adv × Adv × Int => t.2.1) h
theorem bd0 : bndL adv0 = -100 ∧ bndH adv0 = 100 := by decide
theorem nxt_rest {z pull : Int} (hz : -1000 ≤ z ∧ z ≤ 50000) : nxtZ z 0 = z ∧ nxtV z 0 (-100) 100 pull = 0 := by
  have hi : inZ (z + 0) = true := inZ_iff.2 (by omega)
  constructor
  · unfold nxtZ; rw [hi]; simp
  · unfold nxtV; rw [hi]; simp [rate]
theorem pst_rest {ms pl : Int} {d : Nat} {l : List Adv} {z : Int} (hz : -1000 ≤ z ∧ z ≤ 50000) (k : Nat) (hk : k ≤ d) (hl : k ≤ l.length) : pst pl (rnB ms d l) k z 0 = (z, 0) := by
  induction k with
  | zero => rfl
  | succ k ih =>
    rw [pst_succ, ih (by omega) (by omega), rnB_get (by omega)]
    unfold bdK
    rw [fl_none ms d l (k + 1) hk]
    rw [bd0.1, bd0.2]
    have := nxt_rest (pull := pl) hz
    simp only
    rw [this.1, this.2]
theorem pst_late {ms pl : Int} {d m : Nat} {l : List Adv} {z : Int} (hz : -1000 ≤ z ∧ z ≤ 50000) (k : Nat) (hl : m + k ≤ l.length) : pst pl (rnB ms (d + m) l) (m + k) z 0 = pst pl (rnB ms d l) k z 0 := by
  induction k with
  | zero => exact pst_rest hz m (by omega) (by omega)
  | succ k ih =>
    rw [show m + (k + 1) = (m + k) + 1 by omega, pst_succ, pst_succ, ih (by omega), rnB_get (by omega), rnB_get (by omega)]
    unfold bdK
    rw [show m + k + 1 = m + (k + 1) by omega, fl_late]
/-- The k-th state of a run. -/
def gpl (l : List (Int × Int)) (k : Nat) : Int × Int := l[k]?.getD (0, 0)
theorem psts_get (pull : Int) (l : List (Int × Int)) (z v : Int) {n k : Nat} (hk : k < n) : gpl (psts pull l z v n) k = pst pull l k z v := by
  unfold gpl psts
  simp [hk]
theorem later {d m : Nat} {pl ms z : Int} {l : List Adv} (h1 : rnE d pl ms z 0 l = 0) (h2 : rnE ((d : Int) + m) pl ms z 0 l = 0) {k : Nat} (hk : k ≤ l.length) :
    gpl (rnL ((d : Int) + m) pl ms z 0 l) k = if k < m then (z, 0) else gpl (rnL d pl ms z 0 l) (k - m) := by
  have hz : -1000 ≤ z ∧ z ≤ 50000 := by
    have := stB_iff.1 (stE_of (rnE_ok h1).2.1)
    omega
  rw [rnL_ok h1, rnL_ok h2, show ((d : Int) + m).toNat = d + m by omega, Int.toNat_natCast, psts_get _ _ _ _ (by omega)]
  by_cases h : k < m
  · rw [if_pos h, pst_rest hz k (by omega) hk]
  · rw [if_neg h, psts_get _ _ _ _ (by omega)]
    have := pst_late (ms := ms) (pl := pl) (d := d) (m := m) (l := l) hz (k - m) (by omega)
    rwa [show m + (k - m) = k by omega] at this

/-! ### The rate goes to the bounds -/
theorem ga_rep (a : Adv) (n k : Nat) (hk : k < n) : ga (List.replicate n a) k = a := by
  unfold ga
  rw [List.getElem?_replicate, if_pos hk]
  rfl
theorem tri_rep {ms : Int} (hm : 0 ≤ ms) (h1 : ms ≠ 1) (d n : Nat) (a : Adv) (k : Nat) (hk : d + k + 1 ≤ n) : (tri (stK ms d (List.replicate n a) (d + k + 1))).1 = a ∧ (tri (stK ms d (List.replicate n a) (d + k + 1))).2.1 = a := by
  induction k with
  | zero =>
    have hq : dq d (List.replicate n a) d = a := by
      unfold dq
      rw [if_neg (by omega), ga_rep _ _ _ (by omega)]
    have h0 : tri (stK ms d (List.replicate n a) d) = (adv0, adv0, 0) := tri_same ms d 0 _ d (by omega)
    rw [Nat.add_zero, tri_succ, hq, h0]
    unfold tr
    by_cases e : a = adv0
    · rw [if_pos e]; exact ⟨e.symm, e.symm⟩
    · rw [if_neg e]
      refine ⟨rfl, ?_⟩
      show (if _ then a else adv0) = a
      have : min ((0 : Int) + 1) 1073741824 = 1 := by decide
      rw [this]
      by_cases hz : ms = 0
      · rw [if_pos (Or.inl hz)]
      · rw [if_pos (Or.inr (by rw [Int.emod_eq_of_lt (by omega) (by omega)]; decide))]
  | succ k ih =>
    have hq : dq d (List.replicate n a) (d + k + 1) = a := by
      unfold dq
      rw [if_neg (by omega), ga_rep _ _ _ (by omega)]
    have ih := ih (by omega)
    rw [show d + (k + 1) + 1 = (d + k + 1) + 1 by omega, tri_succ, hq]
    unfold tr
    rw [if_pos ih.1.symm]
    exact ih
theorem fl_rep {ms : Int} (hm : 0 ≤ ms) (h1 : ms ≠ 1) (d n : Nat) (a : Adv) (k : Nat) (hk : d < k) (hn : k ≤ n) : (stK ms d (List.replicate n a) k).fl = a := by
  have := (tri_rep hm h1 d n a (k - d - 1) (by omega)).2
  rwa [show d + (k - d - 1) + 1 = k by omega] at this
theorem rate_step {v lo hi pull : Int} (hb : bdB lo hi = true) (hp : 0 ≤ pull) : rate v lo hi pull - v ≤ pull ∧ v - rate v lo hi pull ≤ pull := by
  have hb := bdB_iff.1 hb
  unfold rate
  split
  · omega
  · split <;> omega
/-- How far a rate is from the bounds at most. -/
theorem rate_near {v lo hi pull r : Int} (hb : bdB lo hi = true) (h1 : lo - r ≤ v) (h2 : v ≤ hi + r) : lo - max (r - pull) 0 ≤ rate v lo hi pull ∧ rate v lo hi pull ≤ hi + max (r - pull) 0 := by
  have hb := bdB_iff.1 hb
  unfold rate
  split
  · omega
  · split <;> omega
/-- No limit was reached in the first k cycles. -/
def InTo (pull : Int) (bs : List (Int × Int)) (z v : Int) (k : Nat) : Prop := ∀ i, i < k → inZ ((pst pull bs i z v).1 + (pst pull bs i z v).2) = true
theorem pst_in {pull : Int} {bs : List (Int × Int)} {z v : Int} {k : Nat} (h : inZ ((pst pull bs k z v).1 + (pst pull bs k z v).2) = true) : (pst pull bs (k + 1) z v).2 = rate (pst pull bs k z v).2 (bs[k]?.getD (0, 0)).1 (bs[k]?.getD (0, 0)).2 pull := by
  rw [pst_succ]
  show nxtV _ _ _ _ _ = _
  unfold nxtV
  rw [h]
  rfl
theorem reach_near {ms pl z v : Int} {d n : Nat} {a : Adv} (hm : 0 ≤ ms) (h1 : ms ≠ 1) (hp : 0 ≤ pl) (ha : bndE a = 0) (hs : stB z v = true) (hbd : BdTo (rnB ms d (List.replicate n a)) n) (k : Nat) (hk : d + k ≤ n) (hin : InTo pl (rnB ms d (List.replicate n a)) z v (d + k)) :
    bndL a - max (200 - k * pl) 0 ≤ (pst pl (rnB ms d (List.replicate n a)) (d + k) z v).2 ∧ (pst pl (rnB ms d (List.replicate n a)) (d + k) z v).2 ≤ bndH a + max (200 - k * pl) 0 := by
  have hb := bnd_ok ha
  have hb' := bdB_iff.1 hb
  induction k with
  | zero =>
    have hst := stB_iff.1 (pst_st hp hs (d + 0) fun i hi => hbd i (by omega))
    have e : ((0 : Nat) : Int) * pl = 0 := by simp
    rw [e]
    omega
  | succ k ih =>
    have ih := ih (by omega) fun i hi => hin i (by omega)
    have hr := pst_in (hin (d + k) (by omega))
    rw [rnB_get (by simp; omega)] at hr
    unfold bdK at hr
    rw [fl_rep hm h1 d n a (d + k + 1) (by omega) (by omega)] at hr
    rw [show d + (k + 1) = d + k + 1 by omega, hr]
    have hn := rate_near (v := (pst pl (rnB ms d (List.replicate n a)) (d + k) z v).2) (pull := pl) (r := max (200 - k * pl) 0) hb ih.1 ih.2
    have e : ((k + 1 : Nat) : Int) * pl = k * pl + pl := by rw [Int.natCast_add, Int.add_mul]; simp
    rw [e]
    simp only at hn ⊢
    omega
/-- What the law PilotReaches asks of cycle k + 1. -/
theorem reaches {ms pl z v : Int} {d n : Nat} {a : Adv} (hm : 0 ≤ ms) (hp : 1 ≤ pl) (ha : bndE a = 0) (ha0 : 0 ≤ a.s) (hs : stB z v = true) (k : Nat) (hk : k < n) (hin : InTo pl (rnB ms d (List.replicate n a)) z v (k + 1)) :
    (pst pl (rnB ms d (List.replicate n a)) (k + 1) z v).2 - (pst pl (rnB ms d (List.replicate n a)) k z v).2 ≤ pl ∧ (pst pl (rnB ms d (List.replicate n a)) k z v).2 - (pst pl (rnB ms d (List.replicate n a)) (k + 1) z v).2 ≤ pl ∧
    (ms ≠ 1 → 200 ≤ ((k : Int) + 1 - d) * pl → bndL a ≤ (pst pl (rnB ms d (List.replicate n a)) (k + 1) z v).2 ∧ (pst pl (rnB ms d (List.replicate n a)) (k + 1) z v).2 ≤ bndH a) := by
  have hpos : ∀ i, i < (List.replicate n a).length → 0 ≤ (ga (List.replicate n a) i).s := fun i hi => by rw [ga_rep _ _ _ (by simpa using hi)]; exact ha0
  have hok : OkTo (List.replicate n a) (List.replicate n a).length := fun i hi => by rw [ga_rep _ _ _ (by simpa using hi)]; exact ha
  have hbd : BdTo (rnB ms d (List.replicate n a)) n := rnB_bd hpos hok n (by simp)
  have hr := pst_in (hin k (by omega))
  have hst := rate_step (v := (pst pl (rnB ms d (List.replicate n a)) k z v).2) (pull := pl) (hbd k hk) (by omega)
  refine ⟨by rw [hr]; exact hst.1, by rw [hr]; exact hst.2, fun h1 h200 => ?_⟩
  have hdk : d ≤ k + 1 := by
    by_cases h : d ≤ k + 1
    · exact h
    · exfalso
      have : ((k : Int) + 1 - d) * pl ≤ 0 := Int.mul_nonpos_of_nonpos_of_nonneg (by omega) (by omega)
      omega
  have h := reach_near (pl := pl) (z := z) (v := v) hm h1 (by omega) ha hs hbd (k + 1 - d) (by omega) (by rw [show d + (k + 1 - d) = k + 1 by omega]; exact hin)
  rw [show d + (k + 1 - d) = k + 1 by omega] at h
  have e : ((k + 1 - d : Nat) : Int) = (k : Int) + 1 - d := by omega
  rw [e] at h
  omega
end PilotMath
