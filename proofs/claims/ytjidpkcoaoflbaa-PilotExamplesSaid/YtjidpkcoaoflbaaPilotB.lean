/-
  Layer 37 (pilot): Bounds and Check, the program's and the reference's, walked. Printed by genPilotB.py.
-/
import Derived.Test.YtjidpkcoaoflbaaPilotA
namespace Go.Proofs.Ytjidpkcoaoflbaa
open Go.RowKit PilotMath MyHeap MyMap

def BdPost (a : Adv) (w : World) (e : Ending) (w' : World) : Prop := e = .returned (.tuple #[.int .i64 (bndL a), .int .i64 (bndH a), .int .i64 (bndE a)]) ∧ Below w.heap.size w w'
theorem bdPost_err {a : Adv} {E : Int} {w w' : World} (h : bndE a = E) (hE : E ≠ 0) (hB : Below w.heap.size w w') : BdPost a w (.returned (.tuple #[.int .i64 0, .int .i64 0, .int .i64 E])) w' := by
  have := bnd_err (a := a) (by rw [h]; exact hE)
  unfold BdPost
  rw [this.1, this.2, h]
  exact ⟨rfl, hB⟩
theorem bdPost_ok {a : Adv} {L H : Int} {w w' : World} (h : bndE a = 0) (hL : (if a.s = 1 then a.r else -100) = L) (hH : (if a.s = 2 then -a.r else 100) = H) (hB : Below w.heap.size w w') : BdPost a w (.returned (.tuple #[.int .i64 L, .int .i64 H, .int .i64 0])) w' := by
  unfold BdPost bndL bndH
  rw [h, if_pos rfl, if_pos rfl, hL, hH]
  exact ⟨rfl, hB⟩
theorem bndE_kind {a : Adv} (h : 2 < a.s) : bndE a = 6 := by unfold bndE; rw [if_pos h]
theorem bndE_bad {a : Adv} (h : ¬ 2 < a.s) (h2 : (a.s = 0 ∧ (a.r ≠ 0 ∨ a.k = true)) ∨ a.r < advLeast a ∨ 100 < a.r) : bndE a = 1 := by unfold bndE; rw [if_neg h, if_pos h2]
theorem bndE_good {a : Adv} (h : ¬ 2 < a.s) (h2 : ¬ ((a.s = 0 ∧ (a.r ≠ 0 ∨ a.k = true)) ∨ a.r < advLeast a ∨ 100 < a.r)) : bndE a = 0 := by unfold bndE; rw [if_neg h, if_neg h2]

set_option maxRecDepth 100000 in
set_option maxHeartbeats 4000000 in
theorem Bounds_kind (s r : Int) (k : Bool) (w : World) (h : 2 < s) :
    Calls Try.prog 16 #[.agg #[.int .u8 s, .int .i64 r, .bool k]] w (BdPost ⟨s, r, k⟩ w) := by
  have HE := Lib.hid (bndE_kind (a := ⟨s, r, k⟩) h)
  have hmm := @run_makeMap Try.prog
  have i1 := ins1 (w.alloc (.cells #[.int .u8 s, .int .i64 r, .bool k] 36)) (w.heap.size + 1) (by simp)
  have i2 := ins2 (w.alloc (.cells #[.int .u8 s, .int .i64 r, .bool k] 36)) (w.heap.size + 1) (by simp)
  have i3 := ins3 (w.alloc (.cells #[.int .u8 s, .int .i64 r, .bool k] 36)) (w.heap.size + 1) (by simp)
  have i4 := look4 (w.alloc (.cells #[.int .u8 s, .int .i64 r, .bool k] 36)) (w.heap.size + 1) (by simp) s h
  go_enter Try.func16, Try.ntmps16
  go_wp2
  go_ret3
  exact bdPost_err HE.out (by decide) (((Below.refl _ _).alloc (Nat.le_refl _) _).alloc (by simp) _)


theorem adv_zero_no {r : Int} {k : Bool} (h : advB ⟨0, r, k⟩ ⟨0, 0, false⟩ = false) : r ≠ 0 ∨ k = true := by
  by_cases hr : r = 0
  · subst hr
    cases k with
    | true => exact Or.inr rfl
    | false => exact absurd h (by decide)
  · exact Or.inl hr
theorem adv_zero_yes {r : Int} {k : Bool} (h : advB ⟨0, r, k⟩ ⟨0, 0, false⟩ = true) : r = 0 ∧ k = false := by
  have := advB_true.1 h
  cases this
  exact ⟨rfl, rfl⟩

set_option maxRecDepth 100000 in
set_option maxHeartbeats 4000000 in
theorem Bounds_z_bad_true (r : Int) (w : World) (h : advB ⟨0, r, true⟩ ⟨0, 0, false⟩ = false) :
    Calls Try.prog 16 #[.agg #[.int .u8 0, .int .i64 r, .bool true]] w (BdPost ⟨0, r, true⟩ w) := by
  have HE := Lib.hid (bndE_bad (a := ⟨0, r, true⟩) (show ¬ ((2 : Int) < 0) by decide) (Or.inl ⟨rfl, adv_zero_no h⟩))
  have hmm := @run_makeMap Try.prog
  have i1 := ins1 (w.alloc (.cells #[.int .u8 0, .int .i64 r, .bool true] 36)) (w.heap.size + 1) (by simp)
  have i2 := ins2 (w.alloc (.cells #[.int .u8 0, .int .i64 r, .bool true] 36)) (w.heap.size + 1) (by simp)
  have i3 := ins3 (w.alloc (.cells #[.int .u8 0, .int .i64 r, .bool true] 36)) (w.heap.size + 1) (by simp)
  have i4 := look3 (w.alloc (.cells #[.int .u8 0, .int .i64 r, .bool true] 36)) (w.heap.size + 1) (by simp) 0 (by decide) (by decide)
  rw [show bdFn 0 = 33 from rfl] at i4
  have ng := adv_neq
  have gd := adv_guard
  go_enter Try.func16, Try.ntmps16
  go_wp2
  go_ret3
  exact bdPost_err HE.out (by decide) (((Below.refl _ _).alloc (Nat.le_refl _) _).alloc (by simp) _)

set_option maxRecDepth 100000 in
set_option maxHeartbeats 4000000 in
theorem Bounds_z_bad_false (r : Int) (w : World) (h : advB ⟨0, r, false⟩ ⟨0, 0, false⟩ = false) :
    Calls Try.prog 16 #[.agg #[.int .u8 0, .int .i64 r, .bool false]] w (BdPost ⟨0, r, false⟩ w) := by
  have HE := Lib.hid (bndE_bad (a := ⟨0, r, false⟩) (show ¬ ((2 : Int) < 0) by decide) (Or.inl ⟨rfl, adv_zero_no h⟩))
  have hmm := @run_makeMap Try.prog
  have i1 := ins1 (w.alloc (.cells #[.int .u8 0, .int .i64 r, .bool false] 36)) (w.heap.size + 1) (by simp)
  have i2 := ins2 (w.alloc (.cells #[.int .u8 0, .int .i64 r, .bool false] 36)) (w.heap.size + 1) (by simp)
  have i3 := ins3 (w.alloc (.cells #[.int .u8 0, .int .i64 r, .bool false] 36)) (w.heap.size + 1) (by simp)
  have i4 := look3 (w.alloc (.cells #[.int .u8 0, .int .i64 r, .bool false] 36)) (w.heap.size + 1) (by simp) 0 (by decide) (by decide)
  rw [show bdFn 0 = 33 from rfl] at i4
  have ng := adv_neq
  have gd := adv_guard
  go_enter Try.func16, Try.ntmps16
  go_wp2
  go_ret3
  exact bdPost_err HE.out (by decide) (((Below.refl _ _).alloc (Nat.le_refl _) _).alloc (by simp) _)

set_option maxRecDepth 100000 in
set_option maxHeartbeats 4000000 in
theorem Bounds_z_ok (r : Int) (w : World) (h : r = 0) :
    Calls Try.prog 16 #[.agg #[.int .u8 0, .int .i64 r, .bool false]] w (BdPost ⟨0, r, false⟩ w) := by
  have HE := Lib.hid (bndE_good (a := ⟨0, r, false⟩) (show ¬ ((2 : Int) < 0) by decide) (by subst h; decide))
  have hmm := @run_makeMap Try.prog
  have i1 := ins1 (w.alloc (.cells #[.int .u8 0, .int .i64 r, .bool false] 36)) (w.heap.size + 1) (by simp)
  have i2 := ins2 (w.alloc (.cells #[.int .u8 0, .int .i64 r, .bool false] 36)) (w.heap.size + 1) (by simp)
  have i3 := ins3 (w.alloc (.cells #[.int .u8 0, .int .i64 r, .bool false] 36)) (w.heap.size + 1) (by simp)
  have i4 := look3 (w.alloc (.cells #[.int .u8 0, .int .i64 r, .bool false] 36)) (w.heap.size + 1) (by simp) 0 (by decide) (by decide)
  rw [show bdFn 0 = 33 from rfl] at i4
  have ng := adv_neq
  have gd := adv_guard
  subst h
  have h : advB ⟨0, 0, false⟩ ⟨0, 0, false⟩ = true := by decide
  go_enter Try.func16, Try.ntmps16
  go_wp2_with fail
  refine (free_call _ _ _ _).mono ?_; rintro e w4 ⟨rfl, hb4⟩
  have hB4 : Below w.heap.size w w4 := (((Below.refl _ _).alloc (Nat.le_refl _) _).alloc (by simp) _).trans (hb4.mono (by simp; omega))
  clear hb4
  go_wp2
  go_ret3
  exact bdPost_ok HE.out rfl rfl hB4

set_option maxRecDepth 100000 in
set_option maxHeartbeats 4000000 in
theorem Bounds_1_true_low (r : Int) (w : World) (h : r < -100) :
    Calls Try.prog 16 #[.agg #[.int .u8 1, .int .i64 r, .bool true]] w (BdPost ⟨1, r, true⟩ w) := by
  have HE := Lib.hid (bndE_bad (a := ⟨1, r, true⟩) (show ¬ ((2 : Int) < 1) by decide) (Or.inr (Or.inl h)))
  have hmm := @run_makeMap Try.prog
  have i1 := ins1 (w.alloc (.cells #[.int .u8 1, .int .i64 r, .bool true] 36)) (w.heap.size + 1) (by simp)
  have i2 := ins2 (w.alloc (.cells #[.int .u8 1, .int .i64 r, .bool true] 36)) (w.heap.size + 1) (by simp)
  have i3 := ins3 (w.alloc (.cells #[.int .u8 1, .int .i64 r, .bool true] 36)) (w.heap.size + 1) (by simp)
  have i4 := look3 (w.alloc (.cells #[.int .u8 1, .int .i64 r, .bool true] 36)) (w.heap.size + 1) (by simp) 1 (by decide) (by decide)
  rw [show bdFn 1 = 34 from rfl] at i4
  have ng := adv_neq
  have gd := adv_guard
  go_enter Try.func16, Try.ntmps16
  go_wp2
  go_ret3
  exact bdPost_err HE.out (by decide) (((Below.refl _ _).alloc (Nat.le_refl _) _).alloc (by simp) _)

set_option maxRecDepth 100000 in
set_option maxHeartbeats 4000000 in
theorem Bounds_1_true_high (r : Int) (w : World) (h0 : ¬ r < -100) (h : 100 < r) :
    Calls Try.prog 16 #[.agg #[.int .u8 1, .int .i64 r, .bool true]] w (BdPost ⟨1, r, true⟩ w) := by
  have HE := Lib.hid (bndE_bad (a := ⟨1, r, true⟩) (show ¬ ((2 : Int) < 1) by decide) (Or.inr (Or.inr h)))
  have hmm := @run_makeMap Try.prog
  have i1 := ins1 (w.alloc (.cells #[.int .u8 1, .int .i64 r, .bool true] 36)) (w.heap.size + 1) (by simp)
  have i2 := ins2 (w.alloc (.cells #[.int .u8 1, .int .i64 r, .bool true] 36)) (w.heap.size + 1) (by simp)
  have i3 := ins3 (w.alloc (.cells #[.int .u8 1, .int .i64 r, .bool true] 36)) (w.heap.size + 1) (by simp)
  have i4 := look3 (w.alloc (.cells #[.int .u8 1, .int .i64 r, .bool true] 36)) (w.heap.size + 1) (by simp) 1 (by decide) (by decide)
  rw [show bdFn 1 = 34 from rfl] at i4
  have ng := adv_neq
  have gd := adv_guard
  go_enter Try.func16, Try.ntmps16
  go_wp2
  go_ret3
  exact bdPost_err HE.out (by decide) (((Below.refl _ _).alloc (Nat.le_refl _) _).alloc (by simp) _)

set_option maxRecDepth 100000 in
set_option maxHeartbeats 4000000 in
theorem Bounds_1_true_ok (r : Int) (w : World) (h0 : ¬ r < -100) (h : ¬ 100 < r) :
    Calls Try.prog 16 #[.agg #[.int .u8 1, .int .i64 r, .bool true]] w (BdPost ⟨1, r, true⟩ w) := by
  have HE := Lib.hid (bndE_good (a := ⟨1, r, true⟩) (show ¬ ((2 : Int) < 1) by decide) (fun hh => hh.elim (fun e => absurd e.1 (show ¬ ((1 : Int) = 0) by decide)) (fun e => e.elim (fun e => h0 e) (fun e => h e))))
  have hmm := @run_makeMap Try.prog
  have i1 := ins1 (w.alloc (.cells #[.int .u8 1, .int .i64 r, .bool true] 36)) (w.heap.size + 1) (by simp)
  have i2 := ins2 (w.alloc (.cells #[.int .u8 1, .int .i64 r, .bool true] 36)) (w.heap.size + 1) (by simp)
  have i3 := ins3 (w.alloc (.cells #[.int .u8 1, .int .i64 r, .bool true] 36)) (w.heap.size + 1) (by simp)
  have i4 := look3 (w.alloc (.cells #[.int .u8 1, .int .i64 r, .bool true] 36)) (w.heap.size + 1) (by simp) 1 (by decide) (by decide)
  rw [show bdFn 1 = 34 from rfl] at i4
  have ng := adv_neq
  have gd := adv_guard
  go_enter Try.func16, Try.ntmps16
  go_wp2_with fail
  refine (up_call _ _ _ _).mono ?_; rintro e w4 ⟨rfl, hb4⟩
  have hB4 : Below w.heap.size w w4 := (((Below.refl _ _).alloc (Nat.le_refl _) _).alloc (by simp) _).trans (hb4.mono (by simp; omega))
  clear hb4
  go_wp2
  go_ret3
  exact bdPost_ok HE.out rfl rfl hB4

set_option maxRecDepth 100000 in
set_option maxHeartbeats 4000000 in
theorem Bounds_1_false_low (r : Int) (w : World) (h : r < 0) :
    Calls Try.prog 16 #[.agg #[.int .u8 1, .int .i64 r, .bool false]] w (BdPost ⟨1, r, false⟩ w) := by
  have HE := Lib.hid (bndE_bad (a := ⟨1, r, false⟩) (show ¬ ((2 : Int) < 1) by decide) (Or.inr (Or.inl h)))
  have hmm := @run_makeMap Try.prog
  have i1 := ins1 (w.alloc (.cells #[.int .u8 1, .int .i64 r, .bool false] 36)) (w.heap.size + 1) (by simp)
  have i2 := ins2 (w.alloc (.cells #[.int .u8 1, .int .i64 r, .bool false] 36)) (w.heap.size + 1) (by simp)
  have i3 := ins3 (w.alloc (.cells #[.int .u8 1, .int .i64 r, .bool false] 36)) (w.heap.size + 1) (by simp)
  have i4 := look3 (w.alloc (.cells #[.int .u8 1, .int .i64 r, .bool false] 36)) (w.heap.size + 1) (by simp) 1 (by decide) (by decide)
  rw [show bdFn 1 = 34 from rfl] at i4
  have ng := adv_neq
  have gd := adv_guard
  go_enter Try.func16, Try.ntmps16
  go_wp2
  go_ret3
  exact bdPost_err HE.out (by decide) (((Below.refl _ _).alloc (Nat.le_refl _) _).alloc (by simp) _)

set_option maxRecDepth 100000 in
set_option maxHeartbeats 4000000 in
theorem Bounds_1_false_high (r : Int) (w : World) (h0 : ¬ r < 0) (h : 100 < r) :
    Calls Try.prog 16 #[.agg #[.int .u8 1, .int .i64 r, .bool false]] w (BdPost ⟨1, r, false⟩ w) := by
  have HE := Lib.hid (bndE_bad (a := ⟨1, r, false⟩) (show ¬ ((2 : Int) < 1) by decide) (Or.inr (Or.inr h)))
  have hmm := @run_makeMap Try.prog
  have i1 := ins1 (w.alloc (.cells #[.int .u8 1, .int .i64 r, .bool false] 36)) (w.heap.size + 1) (by simp)
  have i2 := ins2 (w.alloc (.cells #[.int .u8 1, .int .i64 r, .bool false] 36)) (w.heap.size + 1) (by simp)
  have i3 := ins3 (w.alloc (.cells #[.int .u8 1, .int .i64 r, .bool false] 36)) (w.heap.size + 1) (by simp)
  have i4 := look3 (w.alloc (.cells #[.int .u8 1, .int .i64 r, .bool false] 36)) (w.heap.size + 1) (by simp) 1 (by decide) (by decide)
  rw [show bdFn 1 = 34 from rfl] at i4
  have ng := adv_neq
  have gd := adv_guard
  go_enter Try.func16, Try.ntmps16
  go_wp2
  go_ret3
  exact bdPost_err HE.out (by decide) (((Below.refl _ _).alloc (Nat.le_refl _) _).alloc (by simp) _)

set_option maxRecDepth 100000 in
set_option maxHeartbeats 4000000 in
theorem Bounds_1_false_ok (r : Int) (w : World) (h0 : ¬ r < 0) (h : ¬ 100 < r) :
    Calls Try.prog 16 #[.agg #[.int .u8 1, .int .i64 r, .bool false]] w (BdPost ⟨1, r, false⟩ w) := by
  have HE := Lib.hid (bndE_good (a := ⟨1, r, false⟩) (show ¬ ((2 : Int) < 1) by decide) (fun hh => hh.elim (fun e => absurd e.1 (show ¬ ((1 : Int) = 0) by decide)) (fun e => e.elim (fun e => h0 e) (fun e => h e))))
  have hmm := @run_makeMap Try.prog
  have i1 := ins1 (w.alloc (.cells #[.int .u8 1, .int .i64 r, .bool false] 36)) (w.heap.size + 1) (by simp)
  have i2 := ins2 (w.alloc (.cells #[.int .u8 1, .int .i64 r, .bool false] 36)) (w.heap.size + 1) (by simp)
  have i3 := ins3 (w.alloc (.cells #[.int .u8 1, .int .i64 r, .bool false] 36)) (w.heap.size + 1) (by simp)
  have i4 := look3 (w.alloc (.cells #[.int .u8 1, .int .i64 r, .bool false] 36)) (w.heap.size + 1) (by simp) 1 (by decide) (by decide)
  rw [show bdFn 1 = 34 from rfl] at i4
  have ng := adv_neq
  have gd := adv_guard
  go_enter Try.func16, Try.ntmps16
  go_wp2_with fail
  refine (up_call _ _ _ _).mono ?_; rintro e w4 ⟨rfl, hb4⟩
  have hB4 : Below w.heap.size w w4 := (((Below.refl _ _).alloc (Nat.le_refl _) _).alloc (by simp) _).trans (hb4.mono (by simp; omega))
  clear hb4
  go_wp2
  go_ret3
  exact bdPost_ok HE.out rfl rfl hB4

set_option maxRecDepth 100000 in
set_option maxHeartbeats 4000000 in
theorem Bounds_2_true_low (r : Int) (w : World) (h : r < -100) :
    Calls Try.prog 16 #[.agg #[.int .u8 2, .int .i64 r, .bool true]] w (BdPost ⟨2, r, true⟩ w) := by
  have HE := Lib.hid (bndE_bad (a := ⟨2, r, true⟩) (show ¬ ((2 : Int) < 2) by decide) (Or.inr (Or.inl h)))
  have hmm := @run_makeMap Try.prog
  have i1 := ins1 (w.alloc (.cells #[.int .u8 2, .int .i64 r, .bool true] 36)) (w.heap.size + 1) (by simp)
  have i2 := ins2 (w.alloc (.cells #[.int .u8 2, .int .i64 r, .bool true] 36)) (w.heap.size + 1) (by simp)
  have i3 := ins3 (w.alloc (.cells #[.int .u8 2, .int .i64 r, .bool true] 36)) (w.heap.size + 1) (by simp)
  have i4 := look3 (w.alloc (.cells #[.int .u8 2, .int .i64 r, .bool true] 36)) (w.heap.size + 1) (by simp) 2 (by decide) (by decide)
  rw [show bdFn 2 = 35 from rfl] at i4
  have ng := adv_neq
  have gd := adv_guard
  go_enter Try.func16, Try.ntmps16
  go_wp2
  go_ret3
  exact bdPost_err HE.out (by decide) (((Below.refl _ _).alloc (Nat.le_refl _) _).alloc (by simp) _)

set_option maxRecDepth 100000 in
set_option maxHeartbeats 4000000 in
theorem Bounds_2_true_high (r : Int) (w : World) (h0 : ¬ r < -100) (h : 100 < r) :
    Calls Try.prog 16 #[.agg #[.int .u8 2, .int .i64 r, .bool true]] w (BdPost ⟨2, r, true⟩ w) := by
  have HE := Lib.hid (bndE_bad (a := ⟨2, r, true⟩) (show ¬ ((2 : Int) < 2) by decide) (Or.inr (Or.inr h)))
  have hmm := @run_makeMap Try.prog
  have i1 := ins1 (w.alloc (.cells #[.int .u8 2, .int .i64 r, .bool true] 36)) (w.heap.size + 1) (by simp)
  have i2 := ins2 (w.alloc (.cells #[.int .u8 2, .int .i64 r, .bool true] 36)) (w.heap.size + 1) (by simp)
  have i3 := ins3 (w.alloc (.cells #[.int .u8 2, .int .i64 r, .bool true] 36)) (w.heap.size + 1) (by simp)
  have i4 := look3 (w.alloc (.cells #[.int .u8 2, .int .i64 r, .bool true] 36)) (w.heap.size + 1) (by simp) 2 (by decide) (by decide)
  rw [show bdFn 2 = 35 from rfl] at i4
  have ng := adv_neq
  have gd := adv_guard
  go_enter Try.func16, Try.ntmps16
  go_wp2
  go_ret3
  exact bdPost_err HE.out (by decide) (((Below.refl _ _).alloc (Nat.le_refl _) _).alloc (by simp) _)

set_option maxRecDepth 100000 in
set_option maxHeartbeats 4000000 in
theorem Bounds_2_true_ok (r : Int) (w : World) (h0 : ¬ r < -100) (h : ¬ 100 < r) :
    Calls Try.prog 16 #[.agg #[.int .u8 2, .int .i64 r, .bool true]] w (BdPost ⟨2, r, true⟩ w) := by
  have HE := Lib.hid (bndE_good (a := ⟨2, r, true⟩) (show ¬ ((2 : Int) < 2) by decide) (fun hh => hh.elim (fun e => absurd e.1 (show ¬ ((2 : Int) = 0) by decide)) (fun e => e.elim (fun e => h0 e) (fun e => h e))))
  have hmm := @run_makeMap Try.prog
  have i1 := ins1 (w.alloc (.cells #[.int .u8 2, .int .i64 r, .bool true] 36)) (w.heap.size + 1) (by simp)
  have i2 := ins2 (w.alloc (.cells #[.int .u8 2, .int .i64 r, .bool true] 36)) (w.heap.size + 1) (by simp)
  have i3 := ins3 (w.alloc (.cells #[.int .u8 2, .int .i64 r, .bool true] 36)) (w.heap.size + 1) (by simp)
  have i4 := look3 (w.alloc (.cells #[.int .u8 2, .int .i64 r, .bool true] 36)) (w.heap.size + 1) (by simp) 2 (by decide) (by decide)
  rw [show bdFn 2 = 35 from rfl] at i4
  have ng := adv_neq
  have gd := adv_guard
  go_enter Try.func16, Try.ntmps16
  go_wp2_with fail
  refine (down_call _ _ _ _ (by omega) (by omega)).mono ?_; rintro e w4 ⟨rfl, hb4⟩
  have hB4 : Below w.heap.size w w4 := (((Below.refl _ _).alloc (Nat.le_refl _) _).alloc (by simp) _).trans (hb4.mono (by simp; omega))
  clear hb4
  go_wp2
  go_ret3
  exact bdPost_ok HE.out rfl rfl hB4

set_option maxRecDepth 100000 in
set_option maxHeartbeats 4000000 in
theorem Bounds_2_false_low (r : Int) (w : World) (h : r < 0) :
    Calls Try.prog 16 #[.agg #[.int .u8 2, .int .i64 r, .bool false]] w (BdPost ⟨2, r, false⟩ w) := by
  have HE := Lib.hid (bndE_bad (a := ⟨2, r, false⟩) (show ¬ ((2 : Int) < 2) by decide) (Or.inr (Or.inl h)))
  have hmm := @run_makeMap Try.prog
  have i1 := ins1 (w.alloc (.cells #[.int .u8 2, .int .i64 r, .bool false] 36)) (w.heap.size + 1) (by simp)
  have i2 := ins2 (w.alloc (.cells #[.int .u8 2, .int .i64 r, .bool false] 36)) (w.heap.size + 1) (by simp)
  have i3 := ins3 (w.alloc (.cells #[.int .u8 2, .int .i64 r, .bool false] 36)) (w.heap.size + 1) (by simp)
  have i4 := look3 (w.alloc (.cells #[.int .u8 2, .int .i64 r, .bool false] 36)) (w.heap.size + 1) (by simp) 2 (by decide) (by decide)
  rw [show bdFn 2 = 35 from rfl] at i4
  have ng := adv_neq
  have gd := adv_guard
  go_enter Try.func16, Try.ntmps16
  go_wp2
  go_ret3
  exact bdPost_err HE.out (by decide) (((Below.refl _ _).alloc (Nat.le_refl _) _).alloc (by simp) _)

set_option maxRecDepth 100000 in
set_option maxHeartbeats 4000000 in
theorem Bounds_2_false_high (r : Int) (w : World) (h0 : ¬ r < 0) (h : 100 < r) :
    Calls Try.prog 16 #[.agg #[.int .u8 2, .int .i64 r, .bool false]] w (BdPost ⟨2, r, false⟩ w) := by
  have HE := Lib.hid (bndE_bad (a := ⟨2, r, false⟩) (show ¬ ((2 : Int) < 2) by decide) (Or.inr (Or.inr h)))
  have hmm := @run_makeMap Try.prog
  have i1 := ins1 (w.alloc (.cells #[.int .u8 2, .int .i64 r, .bool false] 36)) (w.heap.size + 1) (by simp)
  have i2 := ins2 (w.alloc (.cells #[.int .u8 2, .int .i64 r, .bool false] 36)) (w.heap.size + 1) (by simp)
  have i3 := ins3 (w.alloc (.cells #[.int .u8 2, .int .i64 r, .bool false] 36)) (w.heap.size + 1) (by simp)
  have i4 := look3 (w.alloc (.cells #[.int .u8 2, .int .i64 r, .bool false] 36)) (w.heap.size + 1) (by simp) 2 (by decide) (by decide)
  rw [show bdFn 2 = 35 from rfl] at i4
  have ng := adv_neq
  have gd := adv_guard
  go_enter Try.func16, Try.ntmps16
  go_wp2
  go_ret3
  exact bdPost_err HE.out (by decide) (((Below.refl _ _).alloc (Nat.le_refl _) _).alloc (by simp) _)

set_option maxRecDepth 100000 in
set_option maxHeartbeats 4000000 in
theorem Bounds_2_false_ok (r : Int) (w : World) (h0 : ¬ r < 0) (h : ¬ 100 < r) :
    Calls Try.prog 16 #[.agg #[.int .u8 2, .int .i64 r, .bool false]] w (BdPost ⟨2, r, false⟩ w) := by
  have HE := Lib.hid (bndE_good (a := ⟨2, r, false⟩) (show ¬ ((2 : Int) < 2) by decide) (fun hh => hh.elim (fun e => absurd e.1 (show ¬ ((2 : Int) = 0) by decide)) (fun e => e.elim (fun e => h0 e) (fun e => h e))))
  have hmm := @run_makeMap Try.prog
  have i1 := ins1 (w.alloc (.cells #[.int .u8 2, .int .i64 r, .bool false] 36)) (w.heap.size + 1) (by simp)
  have i2 := ins2 (w.alloc (.cells #[.int .u8 2, .int .i64 r, .bool false] 36)) (w.heap.size + 1) (by simp)
  have i3 := ins3 (w.alloc (.cells #[.int .u8 2, .int .i64 r, .bool false] 36)) (w.heap.size + 1) (by simp)
  have i4 := look3 (w.alloc (.cells #[.int .u8 2, .int .i64 r, .bool false] 36)) (w.heap.size + 1) (by simp) 2 (by decide) (by decide)
  rw [show bdFn 2 = 35 from rfl] at i4
  have ng := adv_neq
  have gd := adv_guard
  go_enter Try.func16, Try.ntmps16
  go_wp2_with fail
  refine (down_call _ _ _ _ (by omega) (by omega)).mono ?_; rintro e w4 ⟨rfl, hb4⟩
  have hB4 : Below w.heap.size w w4 := (((Below.refl _ _).alloc (Nat.le_refl _) _).alloc (by simp) _).trans (hb4.mono (by simp; omega))
  clear hb4
  go_wp2
  go_ret3
  exact bdPost_ok HE.out rfl rfl hB4
theorem Bounds_call (a : Adv) (w : World) (h0 : 0 ≤ a.s) :
    Calls Try.prog 16 #[.agg #[.int .u8 a.s, .int .i64 a.r, .bool a.k]] w (BdPost a w) := by
  obtain ⟨s, r, k⟩ := a
  dsimp only at h0 ⊢
  by_cases h2 : 2 < s
  · exact Bounds_kind s r k w h2
  rcases (show s = 0 ∨ s = 1 ∨ s = 2 by omega) with rfl | rfl | rfl
  · cases hz : advB ⟨0, r, k⟩ ⟨0, 0, false⟩ with
    | false =>
      cases k with
      | true => exact Bounds_z_bad_true r w hz
      | false => exact Bounds_z_bad_false r w hz
    | true =>
      obtain ⟨rfl, rfl⟩ := adv_zero_yes hz
      exact Bounds_z_ok 0 w rfl
  · cases k with
    | true =>
      by_cases h : r < -100
      · exact Bounds_1_true_low r w h
      · by_cases h' : 100 < r
        · exact Bounds_1_true_high r w h h'
        · exact Bounds_1_true_ok r w h h'
    | false =>
      by_cases h : r < 0
      · exact Bounds_1_false_low r w h
      · by_cases h' : 100 < r
        · exact Bounds_1_false_high r w h h'
        · exact Bounds_1_false_ok r w h h'
  · cases k with
    | true =>
      by_cases h : r < -100
      · exact Bounds_2_true_low r w h
      · by_cases h' : 100 < r
        · exact Bounds_2_true_high r w h h'
        · exact Bounds_2_true_ok r w h h'
    | false =>
      by_cases h : r < 0
      · exact Bounds_2_false_low r w h
      · by_cases h' : 100 < r
        · exact Bounds_2_false_high r w h h'
        · exact Bounds_2_false_ok r w h h'
end Go.Proofs.Ytjidpkcoaoflbaa
