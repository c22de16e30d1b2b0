import Derived.Test.YtlhechkaljodmaaGrayM
namespace Go.Proofs.Ytlhechkaljodmaa
open Go.RowKit GrayMath

set_option maxRecDepth 100000 in
set_option maxHeartbeats 4000000 in
theorem altitudes_in_E (n : Int) (w : World) (h : inR n = true) (he : altE n ≠ 0) :
    Calls Try.prog 5 #[.int .i64 n] w fun e w' => e = .returned (.bool true) ∧ Below w.heap.size w w' := by
  obtain ⟨b0, b1⟩ := inR_bd h
  have e1 : errA n = 0 := by unfold errA; rw [if_pos h]
  obtain ⟨f1, f2, f3, f4, f5⟩ := fine_alt n h
  obtain ⟨c1, c2, c3, c4, c5⟩ := coarse_alt n h
  clear h
  obtain ⟨e5, e6⟩ := alt_err n he
  have e7 : (altE n != 0) = true := by simpa using he
  have e8 : (altE n == 0) = false := by simpa using he
  clear he
  go_enter Try.func5, Try.ntmps5
  go_wp2_with fail
  refine (awake_call _).mono ?_; rintro e w1 ⟨rfl, hb1⟩
  go_wp2_with fail
  refine wp_loop_rounds 3 ?_
  rw [rounds_succ]
  go_wp2_with fail
  refine (Fine_call _ _).mono ?_; rintro e w2 ⟨rfl, hb2⟩
  go_wp2_with fail
  refine (Altitude_call _ _).mono ?_; rintro e w3 ⟨rfl, hb3⟩
  go_wp2_with fail
  rw [rounds_succ]
  go_wp2_with fail
  refine (Fine_call _ _).mono ?_; rintro e w4 ⟨rfl, hb4⟩
  go_wp2_with fail
  refine (Coarse_call _ _).mono ?_; rintro e w5 ⟨rfl, hb5⟩
  go_wp2_with fail
  refine (Altitude_call _ _).mono ?_; rintro e w6 ⟨rfl, hb6⟩
  go_wp2_with fail
  rw [rounds_succ]
  go_wp2_with fail
  refine (Altitude_call _ _).mono ?_; rintro e w7 ⟨rfl, hb7⟩
  go_wp2_with fail
  have hB := hb1.trans (hb2.mono hb1.size)
  have hB := hB.trans (hb3.mono hB.size)
  have hB := hB.trans (hb4.mono hB.size)
  have hB := hB.trans (hb5.mono hB.size)
  have hB := hB.trans (hb6.mono hB.size)
  have hB := hB.trans (hb7.mono hB.size)
  go_ret
  exact ⟨rfl, hB⟩

set_option maxRecDepth 100000 in
set_option maxHeartbeats 4000000 in
theorem altitudes_in_F (n : Int) (w : World) (h : inR n = true) (he : altE n = 0) (hs : altS n = 25) :
    Calls Try.prog 5 #[.int .i64 n] w fun e w' => e = .returned (.bool true) ∧ Below w.heap.size w w' := by
  obtain ⟨b0, b1⟩ := inR_bd h
  have e1 : errA n = 0 := by unfold errA; rw [if_pos h]
  obtain ⟨f1, f2, f3, f4, f5⟩ := fine_alt n h
  obtain ⟨c1, c2, c3, c4, c5⟩ := coarse_alt n h
  clear h
  obtain ⟨hr1, hr2⟩ := alt_inv n he
  have e5 : errA (altA n) = 0 := by unfold errA; rw [if_pos hr1]
  have e6 : fineC (altA n) = n := by rcases hr2 with h | h <;> first | exact h.2 | (rw [hs] at h; exact absurd h.1 (by decide))
  clear hr1 hr2
  go_enter Try.func5, Try.ntmps5
  go_wp2_with fail
  refine (awake_call _).mono ?_; rintro e w1 ⟨rfl, hb1⟩
  go_wp2_with fail
  refine wp_loop_rounds 3 ?_
  rw [rounds_succ]
  go_wp2_with fail
  refine (Fine_call _ _).mono ?_; rintro e w2 ⟨rfl, hb2⟩
  go_wp2_with fail
  refine (Altitude_call _ _).mono ?_; rintro e w3 ⟨rfl, hb3⟩
  go_wp2_with fail
  rw [rounds_succ]
  go_wp2_with fail
  refine (Fine_call _ _).mono ?_; rintro e w4 ⟨rfl, hb4⟩
  go_wp2_with fail
  refine (Coarse_call _ _).mono ?_; rintro e w5 ⟨rfl, hb5⟩
  go_wp2_with fail
  refine (Altitude_call _ _).mono ?_; rintro e w6 ⟨rfl, hb6⟩
  go_wp2_with fail
  rw [rounds_succ]
  go_wp2_with fail
  refine (Altitude_call _ _).mono ?_; rintro e w7 ⟨rfl, hb7⟩
  go_wp2_with fail
  refine (Fine_call _ _).mono ?_; rintro e w8 ⟨rfl, hb8⟩
  go_wp2_with fail
  refine (Coarse_call _ _).mono ?_; rintro e w9 ⟨rfl, hb9⟩
  go_wp2_with fail
  have hB := hb1.trans (hb2.mono hb1.size)
  have hB := hB.trans (hb3.mono hB.size)
  have hB := hB.trans (hb4.mono hB.size)
  have hB := hB.trans (hb5.mono hB.size)
  have hB := hB.trans (hb6.mono hB.size)
  have hB := hB.trans (hb7.mono hB.size)
  have hB := hB.trans (hb8.mono hB.size)
  have hB := hB.trans (hb9.mono hB.size)
  go_ret
  exact ⟨rfl, hB⟩

set_option maxRecDepth 100000 in
set_option maxHeartbeats 4000000 in
theorem altitudes_in_C (n : Int) (w : World) (h : inR n = true) (he : altE n = 0) (hs : altS n = 100) :
    Calls Try.prog 5 #[.int .i64 n] w fun e w' => e = .returned (.bool true) ∧ Below w.heap.size w w' := by
  obtain ⟨b0, b1⟩ := inR_bd h
  have e1 : errA n = 0 := by unfold errA; rw [if_pos h]
  obtain ⟨f1, f2, f3, f4, f5⟩ := fine_alt n h
  obtain ⟨c1, c2, c3, c4, c5⟩ := coarse_alt n h
  clear h
  obtain ⟨hr1, hr2⟩ := alt_inv n he
  have e5 : errA (altA n) = 0 := by unfold errA; rw [if_pos hr1]
  have e6 : coarseC (altA n) = n := by rcases hr2 with h | h <;> first | exact h.2 | (rw [hs] at h; exact absurd h.1 (by decide))
  clear hr1 hr2
  go_enter Try.func5, Try.ntmps5
  go_wp2_with fail
  refine (awake_call _).mono ?_; rintro e w1 ⟨rfl, hb1⟩
  go_wp2_with fail
  refine wp_loop_rounds 3 ?_
  rw [rounds_succ]
  go_wp2_with fail
  refine (Fine_call _ _).mono ?_; rintro e w2 ⟨rfl, hb2⟩
  go_wp2_with fail
  refine (Altitude_call _ _).mono ?_; rintro e w3 ⟨rfl, hb3⟩
  go_wp2_with fail
  rw [rounds_succ]
  go_wp2_with fail
  refine (Fine_call _ _).mono ?_; rintro e w4 ⟨rfl, hb4⟩
  go_wp2_with fail
  refine (Coarse_call _ _).mono ?_; rintro e w5 ⟨rfl, hb5⟩
  go_wp2_with fail
  refine (Altitude_call _ _).mono ?_; rintro e w6 ⟨rfl, hb6⟩
  go_wp2_with fail
  rw [rounds_succ]
  go_wp2_with fail
  refine (Altitude_call _ _).mono ?_; rintro e w7 ⟨rfl, hb7⟩
  go_wp2_with fail
  refine (Fine_call _ _).mono ?_; rintro e w8 ⟨rfl, hb8⟩
  go_wp2_with fail
  refine (Coarse_call _ _).mono ?_; rintro e w9 ⟨rfl, hb9⟩
  go_wp2_with fail
  have hB := hb1.trans (hb2.mono hb1.size)
  have hB := hB.trans (hb3.mono hB.size)
  have hB := hB.trans (hb4.mono hB.size)
  have hB := hB.trans (hb5.mono hB.size)
  have hB := hB.trans (hb6.mono hB.size)
  have hB := hB.trans (hb7.mono hB.size)
  have hB := hB.trans (hb8.mono hB.size)
  have hB := hB.trans (hb9.mono hB.size)
  go_ret
  exact ⟨rfl, hB⟩

set_option maxRecDepth 100000 in
set_option maxHeartbeats 4000000 in
theorem altitudes_lo_E (n : Int) (w : World) (h : n < -1000) (he : altE n ≠ 0) :
    Calls Try.prog 5 #[.int .i64 n] w fun e w' => e = .returned (.bool true) ∧ Below w.heap.size w w' := by
  have hr : inR n = false := by cases hr : inR n with | false => rfl | true => have := inR_bd hr; omega
  have e1 : errA n = 1 := by unfold errA; rw [if_neg (by simp [hr])]
  have e2 : fineC n = 0 := fineC_out n hr |>.1
  have e3 : coarseC n = 0 := coarseC_out n hr
  clear hr
  obtain ⟨e5, e6⟩ := alt_err n he
  have e7 : (altE n != 0) = true := by simpa using he
  have e8 : (altE n == 0) = false := by simpa using he
  clear he
  go_enter Try.func5, Try.ntmps5
  go_wp2_with fail
  refine (awake_call _).mono ?_; rintro e w1 ⟨rfl, hb1⟩
  go_wp2_with fail
  refine wp_loop_rounds 3 ?_
  rw [rounds_succ]
  go_wp2_with fail
  refine (Fine_call _ _).mono ?_; rintro e w2 ⟨rfl, hb2⟩
  go_wp2_with fail
  rw [rounds_succ]
  go_wp2_with fail
  refine (Fine_call _ _).mono ?_; rintro e w3 ⟨rfl, hb3⟩
  go_wp2_with fail
  refine (Coarse_call _ _).mono ?_; rintro e w4 ⟨rfl, hb4⟩
  go_wp2_with fail
  rw [rounds_succ]
  go_wp2_with fail
  refine (Altitude_call _ _).mono ?_; rintro e w5 ⟨rfl, hb5⟩
  go_wp2_with fail
  have hB := hb1.trans (hb2.mono hb1.size)
  have hB := hB.trans (hb3.mono hB.size)
  have hB := hB.trans (hb4.mono hB.size)
  have hB := hB.trans (hb5.mono hB.size)
  go_ret
  exact ⟨rfl, hB⟩

set_option maxRecDepth 100000 in
set_option maxHeartbeats 4000000 in
theorem altitudes_lo_F (n : Int) (w : World) (h : n < -1000) (he : altE n = 0) (hs : altS n = 25) :
    Calls Try.prog 5 #[.int .i64 n] w fun e w' => e = .returned (.bool true) ∧ Below w.heap.size w w' := by
  have hr : inR n = false := by cases hr : inR n with | false => rfl | true => have := inR_bd hr; omega
  have e1 : errA n = 1 := by unfold errA; rw [if_neg (by simp [hr])]
  have e2 : fineC n = 0 := fineC_out n hr |>.1
  have e3 : coarseC n = 0 := coarseC_out n hr
  clear hr
  obtain ⟨hr1, hr2⟩ := alt_inv n he
  have e5 : errA (altA n) = 0 := by unfold errA; rw [if_pos hr1]
  have e6 : fineC (altA n) = n := by rcases hr2 with h | h <;> first | exact h.2 | (rw [hs] at h; exact absurd h.1 (by decide))
  clear hr1 hr2
  go_enter Try.func5, Try.ntmps5
  go_wp2_with fail
  refine (awake_call _).mono ?_; rintro e w1 ⟨rfl, hb1⟩
  go_wp2_with fail
  refine wp_loop_rounds 3 ?_
  rw [rounds_succ]
  go_wp2_with fail
  refine (Fine_call _ _).mono ?_; rintro e w2 ⟨rfl, hb2⟩
  go_wp2_with fail
  rw [rounds_succ]
  go_wp2_with fail
  refine (Fine_call _ _).mono ?_; rintro e w3 ⟨rfl, hb3⟩
  go_wp2_with fail
  refine (Coarse_call _ _).mono ?_; rintro e w4 ⟨rfl, hb4⟩
  go_wp2_with fail
  rw [rounds_succ]
  go_wp2_with fail
  refine (Altitude_call _ _).mono ?_; rintro e w5 ⟨rfl, hb5⟩
  go_wp2_with fail
  refine (Fine_call _ _).mono ?_; rintro e w6 ⟨rfl, hb6⟩
  go_wp2_with fail
  refine (Coarse_call _ _).mono ?_; rintro e w7 ⟨rfl, hb7⟩
  go_wp2_with fail
  have hB := hb1.trans (hb2.mono hb1.size)
  have hB := hB.trans (hb3.mono hB.size)
  have hB := hB.trans (hb4.mono hB.size)
  have hB := hB.trans (hb5.mono hB.size)
  have hB := hB.trans (hb6.mono hB.size)
  have hB := hB.trans (hb7.mono hB.size)
  go_ret
  exact ⟨rfl, hB⟩

set_option maxRecDepth 100000 in
set_option maxHeartbeats 4000000 in
theorem altitudes_lo_C (n : Int) (w : World) (h : n < -1000) (he : altE n = 0) (hs : altS n = 100) :
    Calls Try.prog 5 #[.int .i64 n] w fun e w' => e = .returned (.bool true) ∧ Below w.heap.size w w' := by
  have hr : inR n = false := by cases hr : inR n with | false => rfl | true => have := inR_bd hr; omega
  have e1 : errA n = 1 := by unfold errA; rw [if_neg (by simp [hr])]
  have e2 : fineC n = 0 := fineC_out n hr |>.1
  have e3 : coarseC n = 0 := coarseC_out n hr
  clear hr
  obtain ⟨hr1, hr2⟩ := alt_inv n he
  have e5 : errA (altA n) = 0 := by unfold errA; rw [if_pos hr1]
  have e6 : coarseC (altA n) = n := by rcases hr2 with h | h <;> first | exact h.2 | (rw [hs] at h; exact absurd h.1 (by decide))
  clear hr1 hr2
  go_enter Try.func5, Try.ntmps5
  go_wp2_with fail
  refine (awake_call _).mono ?_; rintro e w1 ⟨rfl, hb1⟩
  go_wp2_with fail
  refine wp_loop_rounds 3 ?_
  rw [rounds_succ]
  go_wp2_with fail
  refine (Fine_call _ _).mono ?_; rintro e w2 ⟨rfl, hb2⟩
  go_wp2_with fail
  rw [rounds_succ]
  go_wp2_with fail
  refine (Fine_call _ _).mono ?_; rintro e w3 ⟨rfl, hb3⟩
  go_wp2_with fail
  refine (Coarse_call _ _).mono ?_; rintro e w4 ⟨rfl, hb4⟩
  go_wp2_with fail
  rw [rounds_succ]
  go_wp2_with fail
  refine (Altitude_call _ _).mono ?_; rintro e w5 ⟨rfl, hb5⟩
  go_wp2_with fail
  refine (Fine_call _ _).mono ?_; rintro e w6 ⟨rfl, hb6⟩
  go_wp2_with fail
  refine (Coarse_call _ _).mono ?_; rintro e w7 ⟨rfl, hb7⟩
  go_wp2_with fail
  have hB := hb1.trans (hb2.mono hb1.size)
  have hB := hB.trans (hb3.mono hB.size)
  have hB := hB.trans (hb4.mono hB.size)
  have hB := hB.trans (hb5.mono hB.size)
  have hB := hB.trans (hb6.mono hB.size)
  have hB := hB.trans (hb7.mono hB.size)
  go_ret
  exact ⟨rfl, hB⟩

set_option maxRecDepth 100000 in
set_option maxHeartbeats 4000000 in
theorem altitudes_hi_E (n : Int) (w : World) (h : 50000 < n) (he : altE n ≠ 0) :
    Calls Try.prog 5 #[.int .i64 n] w fun e w' => e = .returned (.bool true) ∧ Below w.heap.size w w' := by
  have hr : inR n = false := by cases hr : inR n with | false => rfl | true => have := inR_bd hr; omega
  have e1 : errA n = 1 := by unfold errA; rw [if_neg (by simp [hr])]
  have e2 : fineC n = 0 := fineC_out n hr |>.1
  have e3 : coarseC n = 0 := coarseC_out n hr
  clear hr
  have hge : -1000 ≤ n := by omega
  obtain ⟨e5, e6⟩ := alt_err n he
  have e7 : (altE n != 0) = true := by simpa using he
  have e8 : (altE n == 0) = false := by simpa using he
  clear he
  go_enter Try.func5, Try.ntmps5
  go_wp2_with fail
  refine (awake_call _).mono ?_; rintro e w1 ⟨rfl, hb1⟩
  go_wp2_with fail
  refine wp_loop_rounds 3 ?_
  rw [rounds_succ]
  go_wp2_with fail
  refine (Fine_call _ _).mono ?_; rintro e w2 ⟨rfl, hb2⟩
  go_wp2_with fail
  rw [rounds_succ]
  go_wp2_with fail
  refine (Fine_call _ _).mono ?_; rintro e w3 ⟨rfl, hb3⟩
  go_wp2_with fail
  refine (Coarse_call _ _).mono ?_; rintro e w4 ⟨rfl, hb4⟩
  go_wp2_with fail
  rw [rounds_succ]
  go_wp2_with fail
  refine (Altitude_call _ _).mono ?_; rintro e w5 ⟨rfl, hb5⟩
  go_wp2_with fail
  have hB := hb1.trans (hb2.mono hb1.size)
  have hB := hB.trans (hb3.mono hB.size)
  have hB := hB.trans (hb4.mono hB.size)
  have hB := hB.trans (hb5.mono hB.size)
  go_ret
  exact ⟨rfl, hB⟩

set_option maxRecDepth 100000 in
set_option maxHeartbeats 4000000 in
theorem altitudes_hi_F (n : Int) (w : World) (h : 50000 < n) (he : altE n = 0) (hs : altS n = 25) :
    Calls Try.prog 5 #[.int .i64 n] w fun e w' => e = .returned (.bool true) ∧ Below w.heap.size w w' := by
  have hr : inR n = false := by cases hr : inR n with | false => rfl | true => have := inR_bd hr; omega
  have e1 : errA n = 1 := by unfold errA; rw [if_neg (by simp [hr])]
  have e2 : fineC n = 0 := fineC_out n hr |>.1
  have e3 : coarseC n = 0 := coarseC_out n hr
  clear hr
  have hge : -1000 ≤ n := by omega
  obtain ⟨hr1, hr2⟩ := alt_inv n he
  have e5 : errA (altA n) = 0 := by unfold errA; rw [if_pos hr1]
  have e6 : fineC (altA n) = n := by rcases hr2 with h | h <;> first | exact h.2 | (rw [hs] at h; exact absurd h.1 (by decide))
  clear hr1 hr2
  go_enter Try.func5, Try.ntmps5
  go_wp2_with fail
  refine (awake_call _).mono ?_; rintro e w1 ⟨rfl, hb1⟩
  go_wp2_with fail
  refine wp_loop_rounds 3 ?_
  rw [rounds_succ]
  go_wp2_with fail
  refine (Fine_call _ _).mono ?_; rintro e w2 ⟨rfl, hb2⟩
  go_wp2_with fail
  rw [rounds_succ]
  go_wp2_with fail
  refine (Fine_call _ _).mono ?_; rintro e w3 ⟨rfl, hb3⟩
  go_wp2_with fail
  refine (Coarse_call _ _).mono ?_; rintro e w4 ⟨rfl, hb4⟩
  go_wp2_with fail
  rw [rounds_succ]
  go_wp2_with fail
  refine (Altitude_call _ _).mono ?_; rintro e w5 ⟨rfl, hb5⟩
  go_wp2_with fail
  refine (Fine_call _ _).mono ?_; rintro e w6 ⟨rfl, hb6⟩
  go_wp2_with fail
  refine (Coarse_call _ _).mono ?_; rintro e w7 ⟨rfl, hb7⟩
  go_wp2_with fail
  have hB := hb1.trans (hb2.mono hb1.size)
  have hB := hB.trans (hb3.mono hB.size)
  have hB := hB.trans (hb4.mono hB.size)
  have hB := hB.trans (hb5.mono hB.size)
  have hB := hB.trans (hb6.mono hB.size)
  have hB := hB.trans (hb7.mono hB.size)
  go_ret
  exact ⟨rfl, hB⟩

set_option maxRecDepth 100000 in
set_option maxHeartbeats 4000000 in
theorem altitudes_hi_C (n : Int) (w : World) (h : 50000 < n) (he : altE n = 0) (hs : altS n = 100) :
    Calls Try.prog 5 #[.int .i64 n] w fun e w' => e = .returned (.bool true) ∧ Below w.heap.size w w' := by
  have hr : inR n = false := by cases hr : inR n with | false => rfl | true => have := inR_bd hr; omega
  have e1 : errA n = 1 := by unfold errA; rw [if_neg (by simp [hr])]
  have e2 : fineC n = 0 := fineC_out n hr |>.1
  have e3 : coarseC n = 0 := coarseC_out n hr
  clear hr
  have hge : -1000 ≤ n := by omega
  obtain ⟨hr1, hr2⟩ := alt_inv n he
  have e5 : errA (altA n) = 0 := by unfold errA; rw [if_pos hr1]
  have e6 : coarseC (altA n) = n := by rcases hr2 with h | h <;> first | exact h.2 | (rw [hs] at h; exact absurd h.1 (by decide))
  clear hr1 hr2
  go_enter Try.func5, Try.ntmps5
  go_wp2_with fail
  refine (awake_call _).mono ?_; rintro e w1 ⟨rfl, hb1⟩
  go_wp2_with fail
  refine wp_loop_rounds 3 ?_
  rw [rounds_succ]
  go_wp2_with fail
  refine (Fine_call _ _).mono ?_; rintro e w2 ⟨rfl, hb2⟩
  go_wp2_with fail
  rw [rounds_succ]
  go_wp2_with fail
  refine (Fine_call _ _).mono ?_; rintro e w3 ⟨rfl, hb3⟩
  go_wp2_with fail
  refine (Coarse_call _ _).mono ?_; rintro e w4 ⟨rfl, hb4⟩
  go_wp2_with fail
  rw [rounds_succ]
  go_wp2_with fail
  refine (Altitude_call _ _).mono ?_; rintro e w5 ⟨rfl, hb5⟩
  go_wp2_with fail
  refine (Fine_call _ _).mono ?_; rintro e w6 ⟨rfl, hb6⟩
  go_wp2_with fail
  refine (Coarse_call _ _).mono ?_; rintro e w7 ⟨rfl, hb7⟩
  go_wp2_with fail
  have hB := hb1.trans (hb2.mono hb1.size)
  have hB := hB.trans (hb3.mono hB.size)
  have hB := hB.trans (hb4.mono hB.size)
  have hB := hB.trans (hb5.mono hB.size)
  have hB := hB.trans (hb6.mono hB.size)
  have hB := hB.trans (hb7.mono hB.size)
  go_ret
  exact ⟨rfl, hB⟩

theorem altitudes_walk (n : Int) (w : World) :
    Calls Try.prog 5 #[.int .i64 n] w fun e w' => e = .returned (.bool true) ∧ Below w.heap.size w w' := by
  have hn : inR n = true ∨ n < -1000 ∨ 50000 < n := by
    by_cases h0 : n < -1000
    · exact Or.inr (Or.inl h0)
    · by_cases h1 : 50000 < n
      · exact Or.inr (Or.inr h1)
      · exact Or.inl (inR_mk (by omega) (by omega))
  by_cases he : altE n = 0
  · rcases (alt_inv n he).2 with hs | hs
    · rcases hn with h | h | h
      · exact altitudes_in_F n w h he hs.1
      · exact altitudes_lo_F n w h he hs.1
      · exact altitudes_hi_F n w h he hs.1
    · rcases hn with h | h | h
      · exact altitudes_in_C n w h he hs.1
      · exact altitudes_lo_C n w h he hs.1
      · exact altitudes_hi_C n w h he hs.1
  · rcases hn with h | h | h
    · exact altitudes_in_E n w h he
    · exact altitudes_lo_E n w h he
    · exact altitudes_hi_E n w h he
end Go.Proofs.Ytlhechkaljodmaa
