/-
  Layer 36 (plane): the law PlaneReach, walked.
-/
import Derived.Test.YthaokofhepngbaaPlaneR
import Derived.Test.YthaokofhepngbaaPairLib
import Derived.Deep.DeepCutAuto
namespace Go.Proofs.Ythaokofhepngbaa
open Go.RowKit PlaneMath MyHeap MyOwn

theorem infoPair : (Try.prog.info? 38).map (fun i => (i.zero, i.size, i.bytes)) = some (some (.agg #[.int .i64 0, .int .i64 0]), 2, 16) := by kernel_rfl

/-- A row of pairs of the call's own, of which the first k are (x, x). -/
def Fill (w : World) (b n k : Nat) (x : Int) : Prop :=
  ∃ cs, w.heap[b]? = some (.cells cs 38 (0, 0)) ∧ cs.size = n * 2 ∧ ∀ i, i < k → cs[i * 2]? = some (.int .i64 x) ∧ cs[i * 2 + 1]? = some (.int .i64 x)
theorem Fill.at {w : World} {b n k : Nat} {x : Int} (h : Fill w b n k x) {j : Nat} (hj : j < n * 2) : (∃ v, w.cell? ⟨b, j, none⟩ = some v) ∧ w.frozen? ⟨b, j, none⟩ = false := by
  obtain ⟨cs, hh, hs, _⟩ := h
  exact ⟨⟨cs[j]'(by omega), cell_of_block hh (Array.getElem?_eq_getElem _)⟩, free_of_block hh⟩
theorem Fill.store {w : World} {b n k : Nat} {x : Int} (h : Fill w b n k x) (hk : k < n) : Fill ((w.setCell ⟨b, k * 2, none⟩ (.int .i64 x)).setCell ⟨b, k * 2 + 1, none⟩ (.int .i64 x)) b n (k + 1) x := by
  obtain ⟨cs, hh, hs, hc⟩ := h
  refine ⟨_, block_setCell (block_setCell hh), by simpa using hs, fun i hi => ?_⟩
  by_cases e : i = k
  · subst e
    constructor
    · rw [Array.getElem?_setIfInBounds_ne (by omega), Array.getElem?_setIfInBounds_self_of_lt (by omega)]
    · rw [Array.getElem?_setIfInBounds_self_of_lt (by simp; omega)]
  · have := hc i (by omega)
    constructor
    · rw [Array.getElem?_setIfInBounds_ne (by omega), Array.getElem?_setIfInBounds_ne (by omega)]; exact this.1
    · rw [Array.getElem?_setIfInBounds_ne (by omega), Array.getElem?_setIfInBounds_ne (by omega)]; exact this.2
theorem Fill.other {w : World} {b b' n k : Nat} {x : Int} (h : Fill w b n k x) (hne : b ≠ b') (i : Nat) (v : Value) : Fill (w.setCell ⟨b', i, none⟩ v) b n k x := by
  obtain ⟨cs, hh, hs, hc⟩ := h
  exact ⟨cs, (Below.heap_setCell _ _ _ _ (by simpa using hne)).trans hh, hs, hc⟩
theorem Fill.prs {w : World} {b n : Nat} {x : Int} (h : Fill w b n n x) (hm : n ≤ 1000000) : Prs w (some ⟨b, 0, none⟩) n (List.replicate n (x, x)) := by
  obtain ⟨cs, hh, hs, hc⟩ := h
  refine ⟨by simp, hm, Or.inr ⟨b, 0, rfl, fun i hi => ?_⟩⟩
  rw [Nat.zero_add, List.getElem?_replicate, if_pos hi]
  exact ⟨cell_of_block hh (hc i hi).1, cell_of_block hh (hc i hi).2⟩
theorem prs_rd {w : World} {a : Option Addr} {n : Nat} {l : List (Int × Int)} (h : Go.MyPair.Rd w a n l) (hm : n ≤ 1000000) : Prs w a n l := ⟨h.len, hm, h.cells⟩

set_option maxRecDepth 100000 in
set_option maxHeartbeats 4000000 in
theorem ReachLaw_long (a : Option Addr) (n c : Nat) (z v pull : Int) (w : World) (hn : 300 < n) :
    Calls Try.prog 5 #[.agg #[.int .i64 z, .int .i64 v], .slice a n c, .int .i64 pull] w fun e w' => e = .returned (.bool true) ∧ Below w.heap.size w w' := by
  have hd : decide (300 < (n : Int)) = true := decide_eq_true (by omega)
  go_enter Try.func5, Try.ntmps5
  go_wp2_with fail
  refine (long_nil _ _ _ _).mono ?_; rintro e w1 ⟨rfl, rfl⟩
  go_wp2_with fail
  refine (awake_call _).mono ?_; rintro e w2 ⟨rfl, hb2⟩
  have hB : Below w.heap.size w w2 := ((Below.refl _ w).alloc (Nat.le_refl _) _).trans (hb2.mono (by simp))
  clear hb2
  go_wp2
  go_ret
  exact ⟨rfl, hB⟩

theorem e_ne {x : Int} (h : x ≠ 0) : (x != 0) = true ∧ (x == 0) = false := by simp [h]

set_option maxRecDepth 100000 in
set_option maxHeartbeats 8000000 in
theorem ReachLaw_err (a : Option Addr) (n c : Nat) (l : List (Int × Int)) (z v pull : Int) (w : World) (hl : Prs w a n l) (hn : n ≤ 300) (hE : rchE z v pull n ≠ 0 ∨ pthE z v pull l ≠ 0) :
    Calls Try.prog 5 #[.agg #[.int .i64 z, .int .i64 v], .slice a n c, .int .i64 pull] w fun e w' => e = .returned (.bool true) ∧ Below w.heap.size w w' := by
  have hd : decide (300 < (n : Int)) = false := decide_eq_false (by omega)
  have HL := Lib.hid hl
  clear hl
  have HC := Lib.hid (rchE_cases (z := z) (v := v) (pull := pull) (n := n))
  have HE := Lib.hid hE
  clear hE
  go_enter Try.func5, Try.ntmps5
  go_wp2_with fail
  refine (long_nil _ _ _ _).mono ?_; rintro e w1 ⟨rfl, rfl⟩
  go_wp2_with fail
  refine (awake_call _).mono ?_; rintro e w2 ⟨rfl, hb2⟩
  have k3 := keepO hb2 (block_new w (.cells #[.int .i64 z, .int .i64 v] 23) rfl)
  have hB2 : Below w.heap.size w w2 := ((Below.refl _ w).alloc (Nat.le_refl _) _).trans (hb2.mono (by simp))
  have hw2 := hB2.size
  have H2 := Lib.hid (And.intro k3 hB2)
  obtain ⟨p0, p1, _, _⟩ := two_old k3
  clear hb2 hB2 k3
  go_wp2_with fail
  refine (Reach_call _ _ _ _ _).mono ?_; rintro e w3 ⟨rfl, hb3⟩
  have k3 := keepO hb3 H2.out.1
  have hB3 := H2.out.2.trans (hb3.mono hw2)
  have hw3 := hB3.size
  have H3 := Lib.hid (And.intro k3 hB3)
  clear p0 p1
  obtain ⟨p0, p1, _, _⟩ := two_old k3
  clear hb3 hB3 k3 H2
  go_wp2_with fail
  refine (Path_call _ _ _ l _ _ _ _ (HL.out.below H3.out.2)).mono ?_; intro e w4 hpost
  obtain ⟨a4, c4, rfl, _, _, hb4⟩ := pthPost_at hpost rfl rfl (by
    unfold pthL
    split
    · rw [psts_length, HL.out.len]; omega
    · simp)
  have H4 := Lib.hid (H3.out.2.trans (hb4.mono hw3))
  clear hpost hb4 p0 p1
  by_cases hr : rchE z v pull n = 0
  · have hp : pthE z v pull l ≠ 0 := by
      rcases HE.out with h | h
      · exact absurd hr h
      · exact h
    obtain ⟨e1, e2⟩ := e_ne hp
    have HP := Lib.hid hp
    clear hp
    rw [hr]
    clear hr
    go_wp2
    go_ret
    exact ⟨rfl, H4.out⟩
  · have hdu : rchD z v pull n = 0 ∧ rchU z v pull n = 0 := by
      rcases HC.out with h | h
      · exact absurd h.1 hr
      · exact h.2
    obtain ⟨e1, e2⟩ := e_ne hr
    have HP := Lib.hid hr
    clear hr
    rw [hdu.1, hdu.2]
    clear hdu
    go_wp2
    go_ret
    exact ⟨rfl, H4.out⟩
end Go.Proofs.Ythaokofhepngbaa
