/-
  Layer 19 (assign): matrices as lists of lists. No program in sight.
-/
import Derived.WalkKit
namespace AsgRows

def gi (l : List Int) (i : Nat) : Int := l[i]?.getD 0
def rowL (L : List (List Int)) (i : Nat) : List Int := L[i]?.getD []
def ent (L : List (List Int)) (i k : Nat) : Int := gi (rowL L i) k
def wid (L : List (List Int)) : Nat := (rowL L 0).length
def longM (L : List (List Int)) : Prop := 16 < L.length ∨ (0 < L.length ∧ 16 < wid L)
instance (L : List (List Int)) : Decidable (longM L) := by unfold longM; infer_instance
/-- The error of a matrix. -/
def chM (L : List (List Int)) : Int :=
  if longM L then 4 else if ∀ i ∈ List.range L.length, (rowL L i).length = wid L then
    (if ∀ i ∈ List.range L.length, ∀ k ∈ List.range (rowL L i).length, -1 ≤ ent L i k ∧ ent L i k ≤ 1048576 then 0 else 1) else 2
theorem chM_long {L : List (List Int)} (h : longM L) : chM L = 4 := if_pos h
theorem chM_form {L : List (List Int)} (h : ¬ longM L) {i : Nat} (hi : i < L.length) (hr : (rowL L i).length ≠ wid L) : chM L = 2 := by
  unfold chM
  rw [if_neg h, if_neg (fun hh => hr (hh i (List.mem_range.2 hi)))]
theorem chM_arg {L : List (List Int)} (h : ¬ longM L) (hf : ∀ i, i < L.length → (rowL L i).length = wid L) {i k : Nat} (hi : i < L.length) (hk : k < (rowL L i).length) (hr : ¬ (-1 ≤ ent L i k ∧ ent L i k ≤ 1048576)) : chM L = 1 := by
  unfold chM
  rw [if_neg h, if_pos (fun i hi => hf i (List.mem_range.1 hi)), if_neg (fun hh => hr (hh i (List.mem_range.2 hi) k (List.mem_range.2 hk)))]
theorem chM_zero {L : List (List Int)} (h : ¬ longM L) (hf : ∀ i, i < L.length → (rowL L i).length = wid L) (he : ∀ i, i < L.length → ∀ k, k < (rowL L i).length → -1 ≤ ent L i k ∧ ent L i k ≤ 1048576) : chM L = 0 := by
  unfold chM
  rw [if_neg h, if_pos (fun i hi => hf i (List.mem_range.1 hi)), if_pos (fun i hi k hk => he i (List.mem_range.1 hi) k (List.mem_range.1 hk))]
/-- A matrix without an error. -/
structure OkM (L : List (List Int)) : Prop where
  n16 : L.length ≤ 16
  m16 : 0 < L.length → wid L ≤ 16
  form : ∀ i, i < L.length → (rowL L i).length = wid L
  lo : ∀ i k, i < L.length → k < wid L → -1 ≤ ent L i k
  hi : ∀ i k, i < L.length → k < wid L → ent L i k ≤ 1048576
theorem chM_ok {L : List (List Int)} (h : chM L = 0) : OkM L := by
  unfold chM at h
  by_cases h1 : longM L
  · rw [if_pos h1] at h; exact absurd h (by decide)
  · rw [if_neg h1] at h
    by_cases h2 : ∀ i ∈ List.range L.length, (rowL L i).length = wid L
    · rw [if_pos h2] at h
      by_cases h3 : ∀ i ∈ List.range L.length, ∀ k ∈ List.range (rowL L i).length, -1 ≤ ent L i k ∧ ent L i k ≤ 1048576
      · unfold longM at h1
        have hf := fun i hi => h2 i (List.mem_range.2 hi)
        have he := fun i hi k hk => h3 i (List.mem_range.2 hi) k (List.mem_range.2 hk)
        exact ⟨by omega, fun h0 => by omega, hf, fun i k hi hk => (he i hi k (by rw [hf i hi]; exact hk)).1, fun i k hi hk => (he i hi k (by rw [hf i hi]; exact hk)).2⟩
      · rw [if_neg h3] at h; exact absurd h (by decide)
    · rw [if_neg h2] at h; exact absurd h (by decide)
theorem OkM.ch {L : List (List Int)} (h : OkM L) : chM L = 0 := by
  refine chM_zero (fun hl => ?_) h.form (fun i hi k hk => ?_)
  · unfold longM at hl
    have := h.n16
    rcases hl with q | ⟨q0, q⟩
    · omega
    · have := h.m16 q0; omega
  · rw [h.form i hi] at hk
    exact ⟨h.lo i k hi hk, h.hi i k hi hk⟩
end AsgRows
