/-
  Layer 19 (assign): cmp.Compare and cmp.Or of numbers.
-/
import Derived.Test.YtbehpkggmomgeaaAsgI
import Derived.Test.YtbehpkggmomgeaaAsgBet
namespace Go.Proofs.Ytbehpkggmomgeaa
open Go.RowKit AsgRows MyHeap MyOwn

theorem nan_call (x : Int) (w : World) : Calls Try.prog 35 #[.int .i64 x] w fun e w' => e = .returned (.bool false) ∧ w = w' := by
  have hx : (x != x) = false := by simp
  go_enter Try.func35, Try.ntmps35
  go_wp2_with fail
  go_ret
  exact ⟨rfl, rfl⟩
def CmPost (r : Int) (w : World) (e : Ending) (w' : World) : Prop := e = .returned (.int .i64 r) ∧ w = w'
theorem cmPost_of {r r' : Int} {w : World} (h : r = r') : CmPost r' w (.returned (.int .i64 r)) w := by subst h; exact ⟨rfl, rfl⟩
theorem compare_call (x y : Int) (w : World) : Calls Try.prog 33 #[.int .i64 x, .int .i64 y] w (CmPost (cmpI x y) w) := by
  by_cases h1 : x < y
  · have H := Lib.hid (cmpI_lt h1)
    go_enter Try.func33, Try.ntmps33
    go_wp2_with fail
    refine (nan_call _ _).mono ?_; rintro e w1 ⟨rfl, rfl⟩
    go_wp2_with fail
    refine (nan_call _ _).mono ?_; rintro e w1 ⟨rfl, rfl⟩
    go_wp2_with fail
    go_ret
    exact cmPost_of H.out.symm
  · by_cases h2 : y < x
    · have H := Lib.hid (cmpI_gt h2)
      go_enter Try.func33, Try.ntmps33
      go_wp2_with fail
      refine (nan_call _ _).mono ?_; rintro e w1 ⟨rfl, rfl⟩
      go_wp2_with fail
      refine (nan_call _ _).mono ?_; rintro e w1 ⟨rfl, rfl⟩
      go_wp2_with fail
      go_ret
      exact cmPost_of H.out.symm
    · obtain rfl : x = y := by omega
      have H := Lib.hid (cmpI_eq (x := x))
      go_enter Try.func33, Try.ntmps33
      go_wp2_with fail
      refine (nan_call _ _).mono ?_; rintro e w1 ⟨rfl, rfl⟩
      go_wp2_with fail
      refine (nan_call _ _).mono ?_; rintro e w1 ⟨rfl, rfl⟩
      go_wp2_with fail
      go_ret
      exact cmPost_of H.out.symm

set_option maxRecDepth 100000 in
set_option maxHeartbeats 2000000 in
theorem or_call (b : Nat) (x y : Int) (w : World) (h : w.heap[b]? = some (.cells #[.int .i64 x, .int .i64 y] 3 (0, 0))) : Calls Try.prog 32 #[.slice (some ⟨b, 0, none⟩) 2 2] w (CmPost (orI x y) w) := by
  obtain ⟨c0, c1, -, -⟩ := two_old h
  have q := lt_of_block h
  clear h
  go_enter Try.func32, Try.ntmps32
  go_wp2_with fail
  go_loopw [8] (fun kv wr => ∃ k : Nat, k ≤ 2 ∧ kv = .int .i64 k ∧ (k = 0 ∨ x = 0) ∧ (k ≤ 1 ∨ y = 0) ∧ w = wr) (fun kv _ => 2 - (intOf kv).toNat)
  case atStart => exact ⟨0, by omega, rfl, Or.inl rfl, Or.inl (by omega), rfl⟩
  case round =>
    obtain ⟨k, hk, rfl, hx, hy, rfl⟩ := hrel
    have HX := Lib.hid (And.intro hx hy)
    clear hx hy
    have h3 : k = 0 ∨ k = 1 ∨ k = 2 := by omega
    rcases h3 with rfl | rfl | rfl
    · by_cases h0 : x = 0
      · have hb : (x != 0) = false := by simp [h0]
        have H0 := Lib.hid h0
        clear h0
        go_wp2_with fail
        go_roundw
        case rel => exact ⟨1, by omega, by go_num, Or.inr H0.out, Or.inl (by omega), trivial⟩
        case measure => simp [intOf]
      · have hb : (x != 0) = true := by simp [h0]
        have H0 := Lib.hid (show orI x y = x from if_pos h0)
        clear h0
        go_wp2_with fail
        go_ret
        exact cmPost_of H0.out.symm
    · by_cases h0 : y = 0
      · have hb : (y != 0) = false := by simp [h0]
        have H0 := Lib.hid h0
        clear h0
        go_wp2_with fail
        go_roundw
        case rel => exact ⟨2, by omega, by go_num, by have := HX.out.1; omega, Or.inr H0.out, trivial⟩
        case measure => simp [intOf]
      · have hb : (y != 0) = true := by simp [h0]
        have H0 := Lib.hid (show orI x y = y from if_neg (fun q => q (by have := HX.out.1; omega)))
        clear h0
        go_wp2_with fail
        go_ret
        exact cmPost_of H0.out.symm
    · have H0 := Lib.hid (show orI x y = 0 by
        have h1 := HX.out.1
        have h2 := HX.out.2
        unfold orI
        rw [if_neg (fun q => q (by omega))]
        omega)
      go_wp2_with fail
      go_ret
      exact cmPost_of H0.out.symm
end Go.Proofs.Ytbehpkggmomgeaa
