/-
  Layer 37 (pilot): slices of advisories.
-/
import Derived.Test.YtjidpkcoaoflbaaPilotC
import Derived.Test.YtjidpkcoaoflbaaOwnLib
import Derived.Test.YtjidpkcoaoflbaaCopyLib
import Derived.Test.YtjidpkcoaoflbaaCopyWide
namespace Go.Proofs.Ytjidpkcoaoflbaa
open Go.RowKit PilotMath MyHeap

def flat3 (l : List Adv) : List Value := l.flatMap fun a => [.int .u8 a.s, .int .i64 a.r, .bool a.k]
theorem flat3_nil : flat3 [] = [] := rfl
theorem flat3_cons (a : Adv) (l : List Adv) : flat3 (a :: l) = .int .u8 a.s :: .int .i64 a.r :: .bool a.k :: flat3 l := rfl
theorem flat3_append (l m : List Adv) : flat3 (l ++ m) = flat3 l ++ flat3 m := by simp [flat3]
theorem flat3_one (a : Adv) : flat3 [a] = [.int .u8 a.s, .int .i64 a.r, .bool a.k] := rfl
theorem flat3_length (l : List Adv) : (flat3 l).length = l.length * 3 := by
  induction l with
  | nil => rfl
  | cons a l ih => rw [flat3_cons]; simp only [List.length_cons, ih]; omega
theorem flat3_get (l : List Adv) (i : Nat) (hi : i < l.length) : (flat3 l)[i * 3]? = some (.int .u8 (ga l i).s) ∧ (flat3 l)[i * 3 + 1]? = some (.int .i64 (ga l i).r) ∧ (flat3 l)[i * 3 + 2]? = some (.bool (ga l i).k) := by
  induction l generalizing i with
  | nil => simp at hi
  | cons a l ih =>
    rw [flat3_cons]
    cases i with
    | zero => exact ⟨rfl, rfl, rfl⟩
    | succ i =>
      have := ih i (by simpa using hi)
      rw [show (i + 1) * 3 = i * 3 + 1 + 1 + 1 by omega]
      exact this
theorem flat3_cell (l : List Adv) : ∀ u ∈ flat3 l, u.oneCell' = true := by
  intro u hu
  unfold flat3 at hu
  obtain ⟨p, _, hp⟩ := List.mem_flatMap.1 hu
  simp at hp
  rcases hp with rfl | rfl | rfl <;> rfl

/-- A slice of advisories that reads as l. -/
structure Advs (w : World) (a : Option Addr) (n : Nat) (l : List Adv) : Prop where
  len : l.length = n
  bound : n ≤ 9223372036854775807
  cells : n = 0 ∨ ∃ b off, a = some ⟨b, off, none⟩ ∧ ∀ i, i < n → w.cell? ⟨b, off + i * 3, none⟩ = some (.int .u8 (ga l i).s) ∧ w.cell? ⟨b, off + i * 3 + 1, none⟩ = some (.int .i64 (ga l i).r) ∧ w.cell? ⟨b, off + i * 3 + 2, none⟩ = some (.bool (ga l i).k)
theorem Advs.below {w w' : World} {a : Option Addr} {n : Nat} {l : List Adv} (h : Advs w a n l) (hb : Below w.heap.size w w') : Advs w' a n l := by
  refine ⟨h.len, h.bound, ?_⟩
  rcases h.cells with h0 | ⟨b, off, rfl, hc⟩
  · exact Or.inl h0
  · exact Or.inr ⟨b, off, rfl, fun i hi => ⟨keep1 hb (hc i hi).1, keep1 hb (hc i hi).2.1, keep1 hb (hc i hi).2.2⟩⟩
theorem advs_at {w : World} {a : Option Addr} {n : Nat} {l : List Adv} (h : Advs w a n l) {k : Nat} (hk : k < n) : ∃ b off, a = some ⟨b, off, none⟩ ∧ w.cell? ⟨b, off + k * 3, none⟩ = some (.int .u8 (ga l k).s) ∧ w.cell? ⟨b, off + k * 3 + 1, none⟩ = some (.int .i64 (ga l k).r) ∧ w.cell? ⟨b, off + k * 3 + 2, none⟩ = some (.bool (ga l k).k) := by
  rcases h.cells with h0 | ⟨b, off, e, hc⟩
  · omega
  · exact ⟨b, off, e, hc k hk⟩
theorem advs_nil (w : World) (a : Option Addr) : Advs w a 0 [] := ⟨rfl, by decide, Or.inl rfl⟩
theorem advs_block {w : World} {b : Nat} {cs : Array Value} {T : TypeId} {fr : Nat × Nat} {l : List Adv} {n : Nat} (h : w.heap[b]? = some (.cells cs T fr)) (hcs : cs.toList = flat3 l) (hn : l.length = n) (hm : n ≤ 9223372036854775807) : Advs w (some ⟨b, 0, none⟩) n l := by
  subst hn
  refine ⟨rfl, hm, Or.inr ⟨b, 0, rfl, fun i hi => ?_⟩⟩
  have hx := flat3_get l i hi
  rw [← hcs] at hx
  rw [Nat.zero_add]
  exact ⟨cell_of_block h (by simpa using hx.1), cell_of_block h (by simpa using hx.2.1), cell_of_block h (by simpa using hx.2.2)⟩
theorem advs_own {w : World} {base : Nat} {e : TypeId} {v : Value} {l : List Adv} (h : w.ownsRow base e 3 v l.length (flat3 l)) (hm : l.length ≤ 9223372036854775807) : ∃ a c, v = .slice a l.length c ∧ Advs w a l.length l ∧ l.length ≤ c ∧ (a = none → l.length = 0 ∧ c = 0) := by
  rcases h.2 with ⟨rfl, h0⟩ | ⟨g, cap, cur, rfl, hg, hh, hc, hcm, hcs, htake⟩
  · exact ⟨none, 0, by rw [h0], ⟨rfl, hm, Or.inl h0⟩, by omega, fun _ => ⟨h0, rfl⟩⟩
  · refine ⟨some ⟨g, 0, none⟩, cap, rfl, ⟨rfl, hm, ?_⟩, hc, fun e => by cases e⟩
    rcases Nat.eq_zero_or_pos l.length with h0 | h0
    · exact Or.inl h0
    · refine Or.inr ⟨g, 0, rfl, fun i hi => ?_⟩
      have hx := flat3_get l i hi
      rw [← htake, List.getElem?_take_of_lt (by omega), List.getElem?_take_of_lt (by omega), List.getElem?_take_of_lt (by omega)] at hx
      rw [Nat.zero_add]
      exact ⟨cell_of_block hh (by simpa using hx.1), cell_of_block hh (by simpa using hx.2.1), cell_of_block hh (by simpa using hx.2.2)⟩
theorem advs_src {w : World} {a : Option Addr} {n : Nat} {l : List Adv} (h : Advs w a n l) : ∀ ad, a = some ad → ∀ (j : Nat) (u : Value), (flat3 l)[j]? = some u → w.cell? (ad.add j) = some u := by
  intro ad ha j u hu
  have hlt : j < l.length * 3 := by rw [← flat3_length]; exact (List.getElem?_eq_some_iff.1 hu).1
  have hl := h.len
  obtain ⟨b', off', e, h0, h1, h2⟩ := advs_at h (k := j / 3) (by omega)
  cases e
  cases ha
  obtain ⟨g0, g1, g2⟩ := flat3_get l (j / 3) (by omega)
  have hadd : (⟨b', off', none⟩ : Addr).add j = ⟨b', off' + j, none⟩ := by unfold Addr.add; split <;> simp_all
  rw [hadd]
  rcases (show j = j / 3 * 3 ∨ j = j / 3 * 3 + 1 ∨ j = j / 3 * 3 + 2 by omega) with e | e | e
  · rw [e, g0] at hu
    rw [e, h0]; exact hu
  · rw [e, g1] at hu
    rw [e, ← Nat.add_assoc, h1]; exact hu
  · rw [e, g2] at hu
    rw [e, ← Nat.add_assoc, h2]; exact hu
theorem ga_tail (l : List Adv) (i : Nat) : ga l.tail i = ga l (i + 1) := by
  unfold ga
  cases l <;> simp
/-- The rest of a slice. -/
theorem advs_tail {w : World} {b off n : Nat} {l : List Adv} (h : Advs w (some ⟨b, off, none⟩) (n + 1) l) : Advs w (some ⟨b, off + 3, none⟩) n l.tail := by
  refine ⟨by have := h.len; simp; omega, by have := h.bound; omega, ?_⟩
  refine Or.inr ⟨b, off + 3, rfl, fun i hi => ?_⟩
  obtain ⟨b', off', e, h0, h1, h2⟩ := advs_at h (k := i + 1) (by omega)
  cases e
  rw [ga_tail, show off + 3 + i * 3 = off + (i + 1) * 3 by omega]
  exact ⟨h0, h1, h2⟩

/-- A row of n advisories of the call's own, whatever it holds. -/
def Row3 (w : World) (base : Nat) (a : Option Addr) (n : Nat) : Prop := n = 0 ∨ ∃ g cs T, a = some ⟨g, 0, none⟩ ∧ base ≤ g ∧ w.heap[g]? = some (.cells cs T (0, 0)) ∧ n * 3 ≤ cs.size
theorem Row3.below {w w' : World} {base : Nat} {a : Option Addr} {n : Nat} (h : Row3 w base a n) (hb : Below w.heap.size w w') : Row3 w' base a n := by
  rcases h with h0 | ⟨g, cs, T, e, hg, hh, hs⟩
  · exact Or.inl h0
  · exact Or.inr ⟨g, cs, T, e, hg, keepO hb hh, hs⟩
theorem Row3.base {w : World} {base base' : Nat} {a : Option Addr} {n : Nat} (h : Row3 w base a n) (hb : base' ≤ base) : Row3 w base' a n := by
  rcases h with h0 | ⟨g, cs, T, e, hg, hh, hs⟩
  · exact Or.inl h0
  · exact Or.inr ⟨g, cs, T, e, Nat.le_trans hb hg, hh, hs⟩
theorem row3_at {w : World} {base : Nat} {a : Option Addr} {n : Nat} (h : Row3 w base a n) {k : Nat} (hk : k < n) : ∃ g, a = some ⟨g, 0, none⟩ ∧ base ≤ g ∧ g < w.heap.size ∧ (∃ u, w.cell? ⟨g, k * 3, none⟩ = some u) ∧ (∃ u, w.cell? ⟨g, k * 3 + 1, none⟩ = some u) ∧ (∃ u, w.cell? ⟨g, k * 3 + 2, none⟩ = some u) ∧ w.frozen? ⟨g, k * 3, none⟩ = false ∧ w.frozen? ⟨g, k * 3 + 1, none⟩ = false ∧ w.frozen? ⟨g, k * 3 + 2, none⟩ = false ∧
    ∀ x y z, Row3 (((w.setCell ⟨g, k * 3, none⟩ x).setCell ⟨g, k * 3 + 1, none⟩ y).setCell ⟨g, k * 3 + 2, none⟩ z) base a n := by
  rcases h with h0 | ⟨g, cs, T, e, hg, hh, hs⟩
  · omega
  · exact ⟨g, e, hg, lt_of_block hh, ⟨_, cell_of_block hh (Array.getElem?_eq_getElem (by omega))⟩, ⟨_, cell_of_block hh (Array.getElem?_eq_getElem (by omega))⟩, ⟨_, cell_of_block hh (Array.getElem?_eq_getElem (by omega))⟩, free_of_block hh, free_of_block hh, free_of_block hh, fun x y z => Or.inr ⟨g, _, T, e, hg, block_setCell (block_setCell (block_setCell hh)), by simpa using hs⟩⟩

/-- A state as a value. -/
def stV (q : Value) (x : St) : Value := .agg #[q, .int .u8 x.due.s, .int .i64 x.due.r, .bool x.due.k, .int .u8 x.fl.s, .int .i64 x.fl.r, .bool x.fl.k, .int .i64 x.c]
/-- A queue that was made since base. -/
def QNew (w : World) (base : Nat) (a : Option Addr) (c : Nat) (q : List Adv) : Prop := Advs w a q.length q ∧ Row3 w base a q.length ∧ q.length ≤ c ∧ (a = none → q.length = 0 ∧ c = 0)
theorem QNew.below {w w' : World} {base : Nat} {a : Option Addr} {c : Nat} {q : List Adv} (h : QNew w base a c q) (hb : Below w.heap.size w w') : QNew w' base a c q := ⟨h.1.below hb, h.2.1.below hb, h.2.2⟩
theorem QNew.base {w : World} {base base' : Nat} {a : Option Addr} {c : Nat} {q : List Adv} (h : QNew w base a c q) (hb : base' ≤ base) : QNew w base' a c q := ⟨h.1, h.2.1.base hb, h.2.2⟩
theorem qNew_nil (w : World) (base : Nat) : QNew w base none 0 [] := ⟨advs_nil _ _, Or.inl rfl, Nat.le_refl _, fun _ => ⟨rfl, rfl⟩⟩
theorem qNew_block {w : World} {b base : Nat} {cs : Array Value} {T : TypeId} {l : List Adv} (h : w.heap[b]? = some (.cells cs T (0, 0))) (hcs : cs.toList = flat3 l) (hm : l.length ≤ 9223372036854775807) (hb : base ≤ b) : QNew w base (some ⟨b, 0, none⟩) l.length l := by
  refine ⟨advs_block h hcs rfl hm, Or.inr ⟨b, cs, T, rfl, hb, h, ?_⟩, Nat.le_refl _, fun e => by cases e⟩
  have := congrArg List.length hcs
  rw [flat3_length] at this
  simp at this
  omega
end Go.Proofs.Ytjidpkcoaoflbaa
