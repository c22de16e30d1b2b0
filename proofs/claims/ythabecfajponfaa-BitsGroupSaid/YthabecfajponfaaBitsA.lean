/-
  Layer 1 (bits): the check of a bit string, walked.
-/
import Derived.Test.YthabecfajponfaaProg
import Derived.WalkKit
import Derived.WalkSpells
import Derived.WalkLawsBesides
import Derived.Handy
import Derived.Lib.Hide
import Derived.Test.YthabecfajponfaaBitsMath
namespace Go.Proofs.Ythabecfajponfaa
open Go.RowKit BitsMath

/-- A slice of bytes that reads as xs: nil, or a row of a block. -/
structure U8s (w : World) (a : Option Addr) (n : Nat) (xs : List Nat) : Prop where
  len : xs.length = n
  bound : n ≤ 9223372036854775807
  cells : n = 0 ∨ ∃ b off, a = some ⟨b, off, none⟩ ∧ ∀ i, i < n → w.cell? ⟨b, off + i, none⟩ = some (.int .u8 ((xs[i]?.getD 0 : Nat) : Int))

theorem U8s.below {w w' : World} {a : Option Addr} {n : Nat} {xs : List Nat} (h : U8s w a n xs) (hb : Below w.heap.size w w') : U8s w' a n xs := by
  refine ⟨h.len, h.bound, ?_⟩
  rcases h.cells with h0 | ⟨b, off, rfl, hc⟩
  · exact Or.inl h0
  · exact Or.inr ⟨b, off, rfl, fun i hi => (hb.cell (p := ⟨b, off + i, none⟩) (World.block_lt_of_cell? w _ (hc i hi))).trans (hc i hi)⟩

theorem big_call (x : Int) (w : World) : Calls Try.prog 46 #[.int .u8 x] w fun e w' => e = .returned (.bool (decide (1 < x))) ∧ w = w' := by
  go_enter Try.func46, Try.ntmps46
  go_wp2
  go_ret
  exact ⟨rfl, rfl⟩

def anyBig (xs : List Nat) : Bool := xs.any fun x => decide (1 < x)
theorem anyBig_false {xs : List Nat} (h : Small xs xs.length) : anyBig xs = false := by
  unfold anyBig
  rw [List.any_eq_false]
  intro x hx
  obtain ⟨i, hi, rfl⟩ := List.getElem_of_mem hx
  have := h i hi
  simp [List.getElem?_eq_getElem hi] at this
  simpa using this
theorem anyBig_true {xs : List Nat} {k : Nat} (hk : k < xs.length) (h : 1 < xs[k]?.getD 0) : anyBig xs = true := by
  unfold anyBig
  rw [List.any_eq_true]
  refine ⟨xs[k], List.getElem_mem hk, ?_⟩
  simpa [List.getElem?_eq_getElem hk] using h

set_option maxHeartbeats 1000000 in
theorem indexFunc_call (a : Option Addr) (n c : Nat) (xs : List Nat) (w : World) (h : U8s w a n xs) :
    Calls Try.prog 50 #[.slice a n c, .func (.func 46) #[] #[]] w fun e w' => (∃ r : Int, e = .returned (.int .i64 r) ∧ decide (0 ≤ r) = anyBig xs) ∧ w = w' := by
  obtain ⟨hl, hm, hcs⟩ := h
  have HL := Lib.hid hl
  clear hl
  go_enter Try.func50, Try.ntmps50
  go_wp2
  go_loop [5, 8] (fun _ k => ∃ j : Nat, j ≤ n ∧ k = .int .i64 j ∧ Small xs j) (fun _ k => n - (intOf k).toNat)
  case atStart => exact ⟨0, by omega, rfl, fun i hi => by omega⟩
  case round =>
    obtain ⟨j, hj, rfl, hA⟩ := hrel
    have HA := Lib.hid hA
    clear hA
    by_cases hlt : j < n
    · rcases hcs with h0 | ⟨b, off, rfl, hc⟩
      · omega
      · have hcj := hc j hlt
        clear hc
        by_cases hx : 1 < xs[j]?.getD 0
        · have hx' : decide ((1 : Int) < ((xs[j]?.getD 0 : Nat) : Int)) = true := by simp; omega
          have HX := Lib.hid hx
          clear hx
          go_wp2_with (go_at_call 46; refine (big_call _ _).mono ?_; rintro e w' ⟨rfl, rfl⟩)
          go_ret
          exact ⟨⟨_, rfl, by rw [anyBig_true (by rw [HL.out]; exact hlt) HX.out]; simp⟩, rfl⟩
        · have hx' : decide ((1 : Int) < ((xs[j]?.getD 0 : Nat) : Int)) = false := by simp; omega
          have HX := Lib.hid hx
          clear hx
          go_wp2_with (go_at_call 46; refine (big_call _ _).mono ?_; rintro e w' ⟨rfl, rfl⟩)
          go_round
          case rel => exact ⟨j + 1, by omega, by go_num, fun i hi => by
            by_cases e : i = j
            · subst e; have := HX.out; omega
            · exact HA.out i (by omega)⟩
          case measure => simp [intOf]; omega
    · obtain rfl : j = n := by omega
      go_wp2
      go_ret
      exact ⟨⟨_, rfl, by rw [anyBig_false (by rw [HL.out]; exact HA.out)]; rfl⟩, rfl⟩

theorem containsFunc_call (a : Option Addr) (n c : Nat) (xs : List Nat) (w : World) (h : U8s w a n xs) :
    Calls Try.prog 45 #[.slice a n c, .func (.func 46) #[] #[]] w fun e w' => e = .returned (.bool (anyBig xs)) ∧ w = w' := by
  have H := Lib.hid h
  clear h
  go_enter Try.func45, Try.ntmps45
  go_wp2_with (go_at_call 50; refine (indexFunc_call _ _ _ _ _ H.out).mono ?_; rintro e w' ⟨⟨r, rfl, hr⟩, rfl⟩)
  go_ret
  exact ⟨by rw [← hr]; rfl, rfl⟩

/-- The error of a bit string. -/
def chkE (xs : List Nat) : Int := if 128 < xs.length then 4 else if anyBig xs then 1 else 0

set_option maxRecDepth 100000 in
set_option maxHeartbeats 2000000 in
/-- 'check' at one string. -/
theorem check1_call (bb : Nat) (a : Option Addr) (n c : Nat) (xs : List Nat) (w : World) (h : U8s w a n xs) (hcell : w.cell? ⟨bb, 0, none⟩ = some (.slice a n c)) :
    Calls Try.prog 33 #[.slice (some ⟨bb, 0, none⟩) 1 1] w fun e w' => e = .returned (.int .i64 (chkE xs)) ∧ w = w' := by
  have hl := h.len
  have hm := h.bound
  have H := Lib.hid h
  clear h
  unfold chkE
  rw [hl]
  clear hl
  by_cases h1 : 128 < n
  · have h1' : (128 : Int) < (n : Int) := by omega
    go_enter Try.func33, Try.ntmps33
    go_wp2
    refine wp_loop_rounds 2 ?_
    rw [rounds_succ]; go_wp2
    go_ret
    exact ⟨by first | rfl | simp, rfl⟩
  · have h1' : ¬ (128 : Int) < (n : Int) := by omega
    cases hb : anyBig xs
    · go_enter Try.func33, Try.ntmps33
      go_wp2
      refine wp_loop_rounds 2 ?_
      rw [rounds_succ]; go_wp2_with (go_at_call 45; refine (containsFunc_call _ _ _ _ _ H.out).mono ?_; rintro e w' ⟨rfl, rfl⟩)
      rw [rounds_succ]; go_wp2
      go_ret
      exact ⟨by first | rfl | simp, rfl⟩
    · go_enter Try.func33, Try.ntmps33
      go_wp2
      refine wp_loop_rounds 2 ?_
      rw [rounds_succ]; go_wp2_with (go_at_call 45; refine (containsFunc_call _ _ _ _ _ H.out).mono ?_; rintro e w' ⟨rfl, rfl⟩)
      go_ret
      exact ⟨by first | rfl | simp, rfl⟩
end Go.Proofs.Ythabecfajponfaa
