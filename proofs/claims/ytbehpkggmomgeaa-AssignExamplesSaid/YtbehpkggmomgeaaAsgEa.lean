/-
  Layer 19 (assign): best assignments of matrices of one number, and of a cheap diagonal. No program in sight.
-/
import Derived.Test.YtbehpkggmomgeaaAsgM
namespace Go.Proofs.Ytbehpkggmomgeaa
open AsgMath AsgRows

/-- A matrix of one number. -/
def sqL (n m : Nat) (x : Int) : List (List Int) := List.replicate n (List.replicate m x)
theorem sqL_len {n m : Nat} {x : Int} : (sqL n m x).length = n := List.length_replicate
theorem sqL_row {n m i : Nat} {x : Int} (hi : i < n) : rowL (sqL n m x) i = List.replicate m x := by unfold rowL sqL; rw [List.getElem?_replicate, if_pos hi]; rfl
theorem sqL_ent {n m i k : Nat} {x : Int} (hi : i < n) (hk : k < m) : ent (sqL n m x) i k = x := by unfold ent; rw [sqL_row hi]; unfold gi; rw [List.getElem?_replicate, if_pos hk]; rfl
/-- The columns of the first rows. -/
def Ts (σ : Nat → Nat) (i : Nat) : Nat → Bool := fun k => (List.range i).any (fun j => σ j == k)
theorem Ts_zero {σ : Nat → Nat} : Ts σ 0 = fun _ => false := rfl
theorem Ts_succ {σ : Nat → Nat} {i : Nat} : Ts σ (i + 1) = setT (Ts σ i) (σ i) := by
  funext k
  unfold Ts setT
  rw [List.range_succ, List.any_append]
  by_cases h : k = σ i
  · rw [if_pos h]; subst h; simp
  · rw [if_neg h]; simp [Ne.symm h]
theorem Ts_no {σ : Nat → Nat} {i k : Nat} (h : ∀ j, j < i → σ j ≠ k) : Ts σ i k = false := by
  unfold Ts
  rw [List.any_eq_false]
  intro j hj
  have := h j (List.mem_range.1 hj)
  simpa using this
theorem Ts_yes {σ : Nat → Nat} {i j : Nat} (h : j < i) : Ts σ i (σ j) = true := by
  unfold Ts
  rw [List.any_eq_true]
  exact ⟨j, List.mem_range.2 h, by simp⟩
/-- A cheap diagonal. -/
structure Diag (c : Nat → Nat → Int) (n m : Nat) (σ : Nat → Nat) (x : Int) : Prop where
  x0 : 0 ≤ x
  x1 : x ≤ 1048576
  lt : ∀ i, i < n → σ i < m
  inj : ∀ i j, i < n → j < i → σ j ≠ σ i
  at' : ∀ i, i < n → c i (σ i) = x
  lo : ∀ i k, i < n → k < m → c i k < 0 ∨ x ≤ c i k
  left : ∀ i k, i < n → k < σ i → (∃ j, j < i ∧ σ j = k) ∨ c i k < 0 ∨ x < c i k
theorem Diag.up {c : Nat → Nat → Int} {n m : Nat} {σ : Nat → Nat} {x : Int} (h : Diag c n m σ x) : ∀ (r : Nat) (T : Nat → Bool), r ≤ n → V c n m r T ≤ (r : Int) * (1073741824 - x)
  | 0, T, _ => by rw [show ((0 : Nat) : Int) * (1073741824 - x) = 0 from Int.zero_mul _]; exact Int.le_refl _
  | r + 1, T, hr => by
    have e : ((r + 1 : Nat) : Int) * (1073741824 - x) = (r : Int) * (1073741824 - x) + (1073741824 - x) := by rw [Int.natCast_succ, Int.add_mul, Int.one_mul]
    have h1 := h.x1
    rw [e]
    simp only [V]
    refine bestK_le ?_ (fun k hk hp => ?_)
    · have := h.up r T (by omega)
      omega
    · have h2 := (okB_iff.1 hp).1
      have h3 := h.up r (setT T k) (by omega)
      have h4 := h.lo (n - (r + 1)) k (by omega) hk
      show 1073741824 - c (n - (r + 1)) k + V c n m r (setT T k) ≤ _
      omega
theorem Diag.V_eq {c : Nat → Nat → Int} {n m : Nat} {σ : Nat → Nat} {x : Int} (h : Diag c n m σ x) : ∀ (r i : Nat), i + r = n → V c n m r (Ts σ i) = (r : Int) * (1073741824 - x)
  | 0, i, _ => by rw [show ((0 : Nat) : Int) * (1073741824 - x) = 0 from Int.zero_mul _]; rfl
  | r + 1, i, hi => by
    have h1 := h.up (r + 1) (Ts σ i) (by omega)
    have e : ((r + 1 : Nat) : Int) * (1073741824 - x) = (r : Int) * (1073741824 - x) + (1073741824 - x) := by rw [Int.natCast_succ, Int.add_mul, Int.one_mul]
    have h2 := h.V_eq r (i + 1) (by omega)
    have e2 : n - (r + 1) = i := by omega
    have h3 : (fun k => 1073741824 - c (n - (r + 1)) k + V c n m r (setT (Ts σ i) k)) (σ i) ≤ V c n m (r + 1) (Ts σ i) := by
      simp only [V]
      refine bestK_ge (f := fun k => 1073741824 - c (n - (r + 1)) k + V c n m r (setT (Ts σ i) k)) (h.lt i (by omega)) ?_
      rw [okB_iff, e2, h.at' i (by omega)]
      exact ⟨h.x0, Ts_no (fun j hj => h.inj i j (by omega) hj)⟩
    simp only [e2, h.at' i (by omega)] at h3
    rw [← Ts_succ, h2] at h3
    omega
theorem Diag.take {c : Nat → Nat → Int} {n m : Nat} {σ : Nat → Nat} {x : Int} (h : Diag c n m σ x) (r i : Nat) (hi : i + (r + 1) = n) : firstK (takeB c n m r (Ts σ i)) m = some (σ i) := by
  have e : ((r + 1 : Nat) : Int) * (1073741824 - x) = (r : Int) * (1073741824 - x) + (1073741824 - x) := by rw [Int.natCast_succ, Int.add_mul, Int.one_mul]
  have e2 : n - (r + 1) = i := by omega
  refine firstK_of (h.lt i (by omega)) ?_ (fun j hj => ?_)
  · rw [takeB_iff, e2, h.at' i (by omega), ← Ts_succ, h.V_eq r (i + 1) (by omega), h.V_eq (r + 1) i hi]
    exact ⟨⟨h.x0, Ts_no (fun j hj => h.inj i j (by omega) hj)⟩, by omega⟩
  · cases hb : takeB c n m r (Ts σ i) j with
    | false => rfl
    | true =>
      rw [takeB_iff, e2, h.V_eq (r + 1) i hi] at hb
      obtain ⟨⟨h1, h2⟩, h3⟩ := hb
      rcases h.left i j (by omega) hj with ⟨q, hq, rfl⟩ | q | q
      · rw [Ts_yes hq] at h2; exact absurd h2 (by decide)
      · omega
      · have := h.up r (setT (Ts σ i) j) (by omega)
        omega
theorem Diag.best {c : Nat → Nat → Int} {n m : Nat} {σ : Nat → Nat} {x : Int} (h : Diag c n m σ x) : ∀ (r i : Nat), i + r = n → bestL c n m r (Ts σ i) = (List.range' i r).map (fun i => (i, σ i))
  | 0, i, _ => rfl
  | r + 1, i, hi => by
    rw [bestL_take (h.take r i hi), ← Ts_succ, h.best r (i + 1) (by omega), show n - (r + 1) = i by omega]
    rfl
theorem none_best {c : Nat → Nat → Int} {n m : Nat} (h : ∀ i k, i < n → k < m → c i k < 0) : ∀ (r : Nat) (T : Nat → Bool), r ≤ n → bestL c n m r T = []
  | 0, _, _ => rfl
  | r + 1, T, hr => by
    rw [(bestL_skip (firstK_no (fun j hj => ?_))).1, none_best h r T (by omega)]
    cases hb : takeB c n m r T j with
    | false => rfl
    | true =>
      have := (takeB_iff.1 hb).1.1
      have := h (n - (r + 1)) j (by omega) hj
      omega
/-- A matrix of sixteen rows and columns, in whose row i the number at σ i is x. -/
structure Sq16 (L : List (List Int)) : Prop where
  len : L.length = 16
  row : ∀ i, i < 16 → (rowL L i).length = 16
theorem Sq16.ch {L : List (List Int)} (h : Sq16 L) (hx : ∀ i k, i < 16 → k < 16 → -1 ≤ ent L i k ∧ ent L i k ≤ 1048576) : chM L = 0 := by
  have hw : wid L = 16 := h.row 0 (by decide)
  refine chM_zero (fun q => ?_) (fun i hi => by rw [h.row i (by rw [← h.len]; exact hi), hw]) (fun i hi k hk => hx i k (by rw [← h.len]; exact hi) (by rw [h.row i (by rw [← h.len]; exact hi)] at hk; exact hk))
  unfold longM at q
  rw [h.len, hw] at q
  omega
theorem Sq16.best {L : List (List Int)} (h : Sq16 L) : bestM L = bestL (ent L) 16 16 16 (fun _ => false) := by
  have hw : wid L = 16 := h.row 0 (by decide)
  unfold bestM
  rw [h.len, hw]
theorem sq16 (x : Int) : Sq16 (sqL 16 16 x) := ⟨sqL_len, fun i hi => by rw [sqL_row hi, List.length_replicate]⟩
def diagP (σ : Nat → Nat) : List (Int × Int) := (List.range' 0 16).map (fun (i : Nat) => ((i : Int), ((σ i : Nat) : Int)))
theorem Sq16.diag {L : List (List Int)} (h : Sq16 L) {σ : Nat → Nat} {x : Int} (hd : Diag (ent L) 16 16 σ x) (h0 : chM L = 0) : bsL L = diagP σ := by
  unfold bsL
  rw [if_pos h0, h.best, ← Ts_zero (σ := σ), hd.best 16 0 rfl]
  unfold toP diagP
  rw [List.map_map]
  rfl
theorem all_best : chM (sqL 16 16 5) = 0 ∧ bsL (sqL 16 16 5) = diagP id := by
  have h0 := (sq16 5).ch (fun i k hi hk => by rw [sqL_ent hi hk]; decide)
  refine ⟨h0, (sq16 5).diag (x := 5) ⟨by decide, by decide, fun i hi => hi, fun i j _ hj q => by have : j = i := q; omega, fun i hi => sqL_ent hi hi, fun i k hi hk => Or.inr (by rw [sqL_ent hi hk]; exact Int.le_refl _), fun i k hi hk => Or.inl ⟨k, hk, rfl⟩⟩ h0⟩
/-- The cheap diagonal from the right to the left. -/
structure Anti (L : List (List Int)) (i : Nat) : Prop where
  sq : Sq16 L
  at' : ∀ r j, r < 16 → j < 16 → ent L r j = if r < i ∧ j = 15 - r then 1 else 9
theorem Anti.best {L : List (List Int)} (h : Anti L 16) : chM L = 0 ∧ bsL L = diagP (fun i => 15 - i) := by
  have h0 := h.sq.ch (fun i k hi hk => by rw [h.at' i k hi hk]; split <;> decide)
  refine ⟨h0, h.sq.diag (x := 1) ⟨by decide, by decide, fun i hi => by omega, fun i j hi hj q => by have q' : 15 - j = 15 - i := q; omega, fun i hi => by rw [h.at' i (15 - i) hi (by omega), if_pos ⟨hi, rfl⟩], fun i k hi hk => Or.inr (by rw [h.at' i k hi hk]; split <;> decide), fun i k hi hk => Or.inr (Or.inr ?_)⟩ h0⟩
  have hk : k < 15 - i := hk
  rw [h.at' i k hi (by omega), if_neg (by omega)]
  decide
theorem none_all : chM (sqL 16 16 (-1)) = 0 ∧ bsL (sqL 16 16 (-1)) = [] := by
  have h0 := (sq16 (-1)).ch (fun i k hi hk => by rw [sqL_ent hi hk]; decide)
  refine ⟨h0, ?_⟩
  unfold bsL
  rw [if_pos h0, (sq16 (-1)).best, none_best (fun i k hi hk => by rw [sqL_ent hi hk]; decide) 16 _ (by decide)]
  rfl
theorem tall_best : chM (sqL 16 2 0) = 0 ∧ bsL (sqL 16 2 0) = [(0, 0), (1, 1)] := by
  refine ⟨?_, ?_⟩ <;> kernel_rfl
theorem diagP_at (σ : Nat → Nat) {i : Nat} (hi : i < 16) : (diagP σ)[i]?.getD (0, 0) = ((i : Int), (σ i : Int)) := by
  unfold diagP
  rw [List.getElem?_map, List.getElem?_range' hi]
  simp
theorem diagP_len (σ : Nat → Nat) : (diagP σ).length = 16 := by unfold diagP; rw [List.length_map, List.length_range']
/-- The matrices of the list of errors. -/
theorem ch1 : chM (sqL 17 1 (-9)) = 4 := by kernel_rfl
theorem ch2 : chM (sqL 1 17 (-9) ++ [[]]) = 4 := by kernel_rfl
theorem ch3 : chM (sqL 2 3 (-9) ++ [[]]) = 2 := by kernel_rfl
theorem ch4 : chM (sqL 1 0 0 ++ [[1]]) = 2 := by kernel_rfl
theorem ch5 : chM (sqL 2 2 (-2)) = 1 := by kernel_rfl
theorem ch6 : chM (sqL 1 1 1048577) = 1 := by kernel_rfl
theorem ch7 : chM (sqL 16 16 1048576) = 0 := by kernel_rfl
theorem ch8 : chM (sqL 3 0 0) = 0 := by kernel_rfl
theorem ch9 : chM [] = 0 := by kernel_rfl
end Go.Proofs.Ytbehpkggmomgeaa
