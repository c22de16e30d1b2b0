/-
  Layer 19 (assign): the cost of an assignment. No program in sight.
-/
import Derived.Test.YtbehpkggmomgeaaAsgRows
namespace AsgRows

def pA (ps : List (Int × Int)) (i : Nat) : Int := (ps[i]?.getD (0, 0)).1
def pB (ps : List (Int × Int)) (i : Nat) : Int := (ps[i]?.getD (0, 0)).2
/-- A pair that is not one of the matrix. -/
def badP (L : List (List Int)) (a b : Int) : Prop := a < 0 ∨ (L.length : Int) ≤ a ∨ b < 0 ∨ (wid L : Int) ≤ b ∨ ent L a.toNat b.toNat < 0
instance (L : List (List Int)) (a b : Int) : Decidable (badP L a b) := by unfold badP; infer_instance
def clash (ps : List (Int × Int)) (i : Nat) : Prop := ∃ k ∈ List.range i, pA ps i ≤ pA ps k ∨ pB ps k = pB ps i
instance (ps : List (Int × Int)) (i : Nat) : Decidable (clash ps i) := by unfold clash; infer_instance
def cosE (L : List (List Int)) (ps : List (Int × Int)) : Nat → Int
  | 0 => 0
  | i + 1 => if cosE L ps i ≠ 0 then cosE L ps i else if badP L (pA ps i) (pB ps i) then 8 else if clash ps i then 16 else 0
def cosS (L : List (List Int)) (ps : List (Int × Int)) : Nat → Int
  | 0 => 0
  | i + 1 => cosS L ps i + ent L (pA ps i).toNat (pB ps i).toNat
/-- The error and the cost. -/
def coE (L : List (List Int)) (ps : List (Int × Int)) : Int := if chM L ≠ 0 then chM L else cosE L ps ps.length
def coS (L : List (List Int)) (ps : List (Int × Int)) : Int := if coE L ps = 0 then cosS L ps ps.length else 0
theorem cosE_stop {L : List (List Int)} {ps : List (Int × Int)} {i : Nat} {x : Int} (hx : x ≠ 0) (h : cosE L ps i = x) : ∀ d, cosE L ps (i + d) = x
  | 0 => h
  | d + 1 => by
    have ih := cosE_stop hx h d
    show (if cosE L ps (i + d) ≠ 0 then cosE L ps (i + d) else _) = x
    rw [if_pos (by rw [ih]; exact hx), ih]
theorem cosE_bad {L : List (List Int)} {ps : List (Int × Int)} {i : Nat} (h0 : cosE L ps i = 0) (hi : i < ps.length) (hb : badP L (pA ps i) (pB ps i)) : cosE L ps ps.length = 8 := by
  have h1 : cosE L ps (i + 1) = 8 := by
    show (if cosE L ps i ≠ 0 then _ else _) = _
    rw [if_neg (by rw [h0]; decide), if_pos hb]
  have := cosE_stop (by decide) h1 (ps.length - (i + 1))
  rwa [show i + 1 + (ps.length - (i + 1)) = ps.length by omega] at this
theorem cosE_clash {L : List (List Int)} {ps : List (Int × Int)} {i : Nat} (h0 : cosE L ps i = 0) (hi : i < ps.length) (hb : ¬ badP L (pA ps i) (pB ps i)) (hc : clash ps i) : cosE L ps ps.length = 16 := by
  have h1 : cosE L ps (i + 1) = 16 := by
    show (if cosE L ps i ≠ 0 then _ else _) = _
    rw [if_neg (by rw [h0]; decide), if_neg hb, if_pos hc]
  have := cosE_stop (by decide) h1 (ps.length - (i + 1))
  rwa [show i + 1 + (ps.length - (i + 1)) = ps.length by omega] at this
theorem cosE_next {L : List (List Int)} {ps : List (Int × Int)} {i : Nat} (h0 : cosE L ps i = 0) (hb : ¬ badP L (pA ps i) (pB ps i)) (hc : ¬ clash ps i) : cosE L ps (i + 1) = 0 := by
  show (if cosE L ps i ≠ 0 then _ else _) = _
  rw [if_neg (by rw [h0]; decide), if_neg hb, if_neg hc]
theorem co_ch {L : List (List Int)} {ps : List (Int × Int)} (h : chM L ≠ 0) : coE L ps = chM L ∧ coS L ps = 0 := by
  have : coE L ps = chM L := if_pos h
  exact ⟨this, if_neg (by rw [this]; exact h)⟩
theorem co_err {L : List (List Int)} {ps : List (Int × Int)} {x : Int} (h : chM L = 0) (hx : x ≠ 0) (he : cosE L ps ps.length = x) : coE L ps = x ∧ coS L ps = 0 := by
  have : coE L ps = x := by unfold coE; rw [if_neg (fun q => q h), he]
  exact ⟨this, if_neg (by rw [this]; exact hx)⟩
theorem co_ok {L : List (List Int)} {ps : List (Int × Int)} (h : chM L = 0) (he : cosE L ps ps.length = 0) : coE L ps = 0 ∧ coS L ps = cosS L ps ps.length := by
  have : coE L ps = 0 := by unfold coE; rw [if_neg (fun q => q h), he]
  exact ⟨this, if_pos this⟩
/-- What holds ahead of pair i. -/
structure Cs (L : List (List Int)) (ps : List (Int × Int)) (i : Nat) (last : Int) (T : Nat → Bool) : Prop where
  e0 : cosE L ps i = 0
  hi : ∀ j, j < i → pA ps j ≤ last
  at' : (i = 0 ∧ last = -1) ∨ ∃ j, j < i ∧ pA ps j = last
  us : ∀ b : Nat, b < 16 → (T b = true ↔ ∃ j, j < i ∧ pB ps j = (b : Int))
  lo : -1 ≤ last
  s0 : 0 ≤ cosS L ps i
  s1 : cosS L ps i ≤ 1048576 * i
theorem Cs.start {L : List (List Int)} {ps : List (Int × Int)} : Cs L ps 0 (-1) (fun _ => false) := ⟨rfl, fun j hj => by omega, Or.inl ⟨rfl, rfl⟩, fun b _ => ⟨fun h => absurd h (by decide), fun ⟨j, hj, _⟩ => by omega⟩, by omega, Int.le_refl _, by simp [cosS]⟩
theorem Cs.clash {L : List (List Int)} {ps : List (Int × Int)} {i b : Nat} {last : Int} {T : Nat → Bool} (h : Cs L ps i last T) (ha : 0 ≤ pA ps i) (hb : pB ps i = (b : Int)) (hb16 : b < 16) : AsgRows.clash ps i ↔ (pA ps i ≤ last ∨ T b = true) := by
  unfold AsgRows.clash
  constructor
  · rintro ⟨k, hk, q⟩
    have hk := List.mem_range.1 hk
    rcases q with q | q
    · have := h.hi k hk; exact Or.inl (by omega)
    · exact Or.inr ((h.us b hb16).2 ⟨k, hk, by rw [q, hb]⟩)
  · rintro (q | q)
    · rcases h.at' with ⟨_, e⟩ | ⟨j, hj, e⟩
      · omega
      · exact ⟨j, List.mem_range.2 hj, Or.inl (by omega)⟩
    · obtain ⟨j, hj, e⟩ := (h.us b hb16).1 q
      exact ⟨j, List.mem_range.2 hj, Or.inr (by rw [e, hb])⟩
theorem Cs.next {L : List (List Int)} {ps : List (Int × Int)} {i b : Nat} {last : Int} {T T' : Nat → Bool} (h : Cs L ps i last T) (hnb : ¬ badP L (pA ps i) (pB ps i)) (hb : pB ps i = (b : Int)) (hb16 : b < 16) (hl : last < pA ps i) (hT : T b = false) (hT' : ∀ k, T' k = if k = b then true else T k) (hx : ent L (pA ps i).toNat (pB ps i).toNat ≤ 1048576) : Cs L ps (i + 1) (pA ps i) T' := by
  have h0 : 0 ≤ pA ps i := by unfold badP at hnb; omega
  have he : 0 ≤ ent L (pA ps i).toNat (pB ps i).toNat := by unfold badP at hnb; omega
  have hc : ¬ AsgRows.clash ps i := fun q => by
    rcases (h.clash h0 hb hb16).1 q with r | r
    · omega
    · rw [hT] at r; exact absurd r (by decide)
  have e1 : cosS L ps (i + 1) = cosS L ps i + ent L (pA ps i).toNat (pB ps i).toNat := rfl
  have := h.s0
  have := h.s1
  refine ⟨cosE_next h.e0 hnb hc, fun j hj => ?_, Or.inr ⟨i, by omega, rfl⟩, fun k hk => ?_, by omega, by omega, by omega⟩
  · by_cases e : j = i
    · subst e; exact Int.le_refl _
    · have := h.hi j (by omega); omega
  · rw [hT' k]
    by_cases e : k = b
    · subst e
      rw [if_pos rfl]
      exact ⟨fun _ => ⟨i, by omega, hb⟩, fun _ => rfl⟩
    · rw [if_neg e, h.us k hk]
      constructor
      · rintro ⟨j, hj, q⟩; exact ⟨j, by omega, q⟩
      · rintro ⟨j, hj, q⟩
        by_cases e2 : j = i
        · subst e2; omega
        · exact ⟨j, by omega, q⟩
end AsgRows
