/-
  Layer 19 (assign): a pair that is not used is forbidden; the turned matrix's best assignment. No program in sight.
-/
import Derived.Test.YtbehpkggmomgeaaAsgDu
import Derived.Test.YtbehpkggmomgeaaAsgTm
namespace AsgMath
open AsgRows

section
variable {c c' : Nat → Nat → Int} {n m : Nat} {A B : Nat}
/-- c' is c without the pair (A, B). -/
def Forb (c c' : Nat → Nat → Int) (n m A B : Nat) : Prop := ∀ i k, i < n → k < m → if i = A ∧ k = B then c' i k = -1 else c' i k = c i k
theorem forb_ok (h : Forb c c' n m A B) {i k : Nat} {T : Nat → Bool} (hi : i < n) (hk : k < m) (ho : okB c' T i k = true) : okB c T i k = true ∧ c' i k = c i k := by
  obtain ⟨h1, h2⟩ := okB_iff.1 ho
  have := h i k hi hk
  by_cases e : i = A ∧ k = B
  · rw [if_pos e] at this; omega
  · rw [if_neg e] at this
    exact ⟨okB_iff.2 ⟨by omega, h2⟩, this⟩
theorem forb_le (h : Forb c c' n m A B) : ∀ (r : Nat) (T : Nat → Bool), r ≤ n → V c' n m r T ≤ V c n m r T
  | 0, _, _ => Int.le_refl _
  | r + 1, T, hr => by
    have ih := fun T => forb_le h r T (by omega)
    simp only [V]
    refine bestK_le (Int.le_trans (ih T) bestK_ge0) (fun k hk ho => ?_)
    obtain ⟨h1, h2⟩ := forb_ok h (show n - (r + 1) < n by omega) hk ho
    have h3 := bestK_ge (f := fun k => 1073741824 - c (n - (r + 1)) k + V c n m r (setT T k)) (x := V c n m r T) hk h1
    have h4 := ih (setT T k)
    show 1073741824 - c' (n - (r + 1)) k + V c' n m r (setT T k) ≤ _
    omega
theorem forb_take (h : Forb c c' n m A B) {r k : Nat} {T : Nat → Bool} (hr : r + 1 ≤ n) (hk : k < m) (hV : V c' n m (r + 1) T = V c n m (r + 1) T) (ht : takeB c' n m r T k = true) : takeB c n m r T k = true := by
  obtain ⟨⟨a1, a2⟩, a3⟩ := takeB_iff.1 ht
  obtain ⟨h1, h2⟩ := forb_ok h (show n - (r + 1) < n by omega) hk (okB_iff.2 ⟨a1, a2⟩)
  have h3 : 1073741824 - c (n - (r + 1)) k + V c n m r (setT T k) ≤ V c n m (r + 1) T := bestK_ge (f := fun k => 1073741824 - c (n - (r + 1)) k + V c n m r (setT T k)) (x := V c n m r T) hk h1
  have h4 := forb_le h r (setT T k) (by omega)
  exact takeB_iff.2 ⟨okB_iff.1 h1, by omega⟩
theorem forb_best (h : Forb c c' n m A B) : ∀ (r : Nat) (T : Nat → Bool), r ≤ n → (A, B) ∉ bestL c n m r T → V c' n m r T = V c n m r T ∧ bestL c' n m r T = bestL c n m r T
  | 0, _, _, _ => ⟨rfl, rfl⟩
  | r + 1, T, hr, hno => by
    have hle := forb_le h (r + 1) T hr
    cases e : firstK (takeB c n m r T) m with
    | none =>
      obtain ⟨s1, s2⟩ := bestL_skip e
      rw [s1] at hno
      obtain ⟨i1, i2⟩ := forb_best h r T (by omega) hno
      have h0 : V c' n m r T ≤ V c' n m (r + 1) T := bestK_ge0
      have hV : V c' n m (r + 1) T = V c n m (r + 1) T := by omega
      have e2 : firstK (takeB c' n m r T) m = none := firstK_no (fun j hj => by
        cases hb : takeB c' n m r T j with
        | false => rfl
        | true => rw [← firstK_none e hj]; exact (forb_take h hr hj hV hb).symm)
      exact ⟨hV, by rw [s1, (bestL_skip e2).1, i2]⟩
    | some k =>
      rw [bestL_take e] at hno
      obtain ⟨hk, ht, hf⟩ := firstK_some e
      have hne : ¬ (n - (r + 1) = A ∧ k = B) := fun q => hno (by rw [q.1, q.2]; exact List.mem_cons_self)
      have hno2 : (A, B) ∉ bestL c n m r (setT T k) := fun q => hno (List.mem_cons_of_mem _ q)
      obtain ⟨i1, i2⟩ := forb_best h r (setT T k) (by omega) hno2
      have hcc := h (n - (r + 1)) k (by omega) hk
      rw [if_neg hne] at hcc
      obtain ⟨⟨a1, a2⟩, a3⟩ := takeB_iff.1 ht
      have ho : okB c' T (n - (r + 1)) k = true := okB_iff.2 ⟨by omega, a2⟩
      have h3 : 1073741824 - c' (n - (r + 1)) k + V c' n m r (setT T k) ≤ V c' n m (r + 1) T := bestK_ge (f := fun k => 1073741824 - c' (n - (r + 1)) k + V c' n m r (setT T k)) (x := V c' n m r T) hk ho
      have hV : V c' n m (r + 1) T = V c n m (r + 1) T := by omega
      have e2 : firstK (takeB c' n m r T) m = some k := firstK_of hk (takeB_iff.2 ⟨okB_iff.1 ho, by omega⟩) (fun j hj => by
        cases hb : takeB c' n m r T j with
        | false => rfl
        | true => rw [← hf j hj]; exact (forb_take h hr (by omega) hV hb).symm)
      exact ⟨hV, by rw [bestL_take e, bestL_take e2, i2]⟩
end
/-- The turned matrix: as many pairs, the same cost. -/
theorem turn_best {L L' : List (List Int)} {n m : Nat} (h16 : n ≤ 16) (m16 : m ≤ 16) (hc : ∀ i k, i < n → k < m → ent L i k ≤ 1048576) (he : ∀ k i, k < m → i < n → ent L' k i = ent L i k) :
    (bestL (ent L') m n m (fun _ => false)).length = (bestL (ent L) n m n (fun _ => false)).length ∧ cl L' (bestL (ent L') m n m (fun _ => false)) = cl L (bestL (ent L) n m n (fun _ => false)) := by
  have v1 := V_list (L := L) (n := n) (m := m) hc n (fun _ => false) (Nat.le_refl _)
  have v2 := V_list (L := L') (n := m) (m := n) (fun k i hk hi => by rw [he k i hk hi]; exact hc i k hi hk) m (fun _ => false) (Nat.le_refl _)
  have t1 := V_turn (c := ent L) (n := n) (m := m) m16 hc
  have t2 : V (ent L) n m n (fun _ => false) ≤ V (fun k i => ent L i k) m n m (fun _ => false) := V_turn (c := fun k i => ent L i k) (n := m) (m := n) h16 (fun k i hk hi => hc i k hi hk)
  have e1 : V (fun k i => ent L i k) m n m (fun _ => false) = V (ent L') m n m (fun _ => false) := V_congr m _ _ (Nat.le_refl _) (fun k i _ hk hi => (he k i hk hi).symm) (fun _ _ => rfl)
  rw [e1] at t1 t2
  omega
end AsgMath
