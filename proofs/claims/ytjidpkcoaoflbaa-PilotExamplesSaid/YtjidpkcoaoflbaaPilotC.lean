/-
  Layer 37 (pilot): the reference's Bounds, walked. Printed by genPilotB.py.
-/
import Derived.Test.YtjidpkcoaoflbaaPilotB
namespace Go.Proofs.Ytjidpkcoaoflbaa
open Go.RowKit PilotMath MyHeap MyMap

set_option maxHeartbeats 4000000 in
theorem rBounds_kind (s r : Int) (k : Bool) (w : World) (h : 2 < s) :
    Calls Try.prog 18 #[.agg #[.int .u8 s, .int .i64 r, .bool k]] w (BdPost ⟨s, r, k⟩ w) := by
  have HE := Lib.hid (bndE_kind (a := ⟨s, r, k⟩) h)
  go_enter Try.func18, Try.ntmps18
  go_wp2
  go_ret3
  exact bdPost_err HE.out (by decide) ((Below.refl _ _).alloc (Nat.le_refl _) _)

set_option maxRecDepth 100000 in
set_option maxHeartbeats 4000000 in
theorem rBounds_z_r (r : Int) (w : World) (h : r ≠ 0) :
    Calls Try.prog 18 #[.agg #[.int .u8 0, .int .i64 r, .bool false]] w (BdPost ⟨0, r, false⟩ w) := by
  have HE := Lib.hid (bndE_bad (a := ⟨0, r, false⟩) (show ¬ ((2 : Int) < 0) by decide) (Or.inl ⟨rfl, Or.inl h⟩))
  have h1 : (r != 0) = true := by simp [h]
  go_enter Try.func18, Try.ntmps18
  go_wp2
  go_ret3
  exact bdPost_err HE.out (by decide) ((Below.refl _ _).alloc (Nat.le_refl _) _)

set_option maxRecDepth 100000 in
set_option maxHeartbeats 4000000 in
theorem rBounds_z_k (r : Int) (w : World) (h : r ≠ 0) :
    Calls Try.prog 18 #[.agg #[.int .u8 0, .int .i64 r, .bool true]] w (BdPost ⟨0, r, true⟩ w) := by
  have HE := Lib.hid (bndE_bad (a := ⟨0, r, true⟩) (show ¬ ((2 : Int) < 0) by decide) (Or.inl ⟨rfl, Or.inl h⟩))
  have h1 : (r != 0) = true := by simp [h]
  go_enter Try.func18, Try.ntmps18
  go_wp2
  go_ret3
  exact bdPost_err HE.out (by decide) ((Below.refl _ _).alloc (Nat.le_refl _) _)

set_option maxRecDepth 100000 in
set_option maxHeartbeats 4000000 in
theorem rBounds_z_k0 (r : Int) (w : World) (h : r = 0) :
    Calls Try.prog 18 #[.agg #[.int .u8 0, .int .i64 r, .bool true]] w (BdPost ⟨0, r, true⟩ w) := by
  have HE := Lib.hid (bndE_bad (a := ⟨0, r, true⟩) (show ¬ ((2 : Int) < 0) by decide) (Or.inl ⟨rfl, Or.inr rfl⟩))
  subst h
  go_enter Try.func18, Try.ntmps18
  go_wp2
  go_ret3
  exact bdPost_err HE.out (by decide) ((Below.refl _ _).alloc (Nat.le_refl _) _)

set_option maxRecDepth 100000 in
set_option maxHeartbeats 4000000 in
theorem rBounds_z_ok (r : Int) (w : World) (h : r = 0) :
    Calls Try.prog 18 #[.agg #[.int .u8 0, .int .i64 r, .bool false]] w (BdPost ⟨0, r, false⟩ w) := by
  have HE := Lib.hid (bndE_good (a := ⟨0, r, false⟩) (show ¬ ((2 : Int) < 0) by decide) (by subst h; decide))
  subst h
  go_enter Try.func18, Try.ntmps18
  go_wp2
  go_ret3
  exact bdPost_ok HE.out rfl rfl ((Below.refl _ _).alloc (Nat.le_refl _) _)

set_option maxRecDepth 100000 in
set_option maxHeartbeats 4000000 in
theorem rBounds_1_true_low (r : Int) (w : World) (h : r < -100) :
    Calls Try.prog 18 #[.agg #[.int .u8 1, .int .i64 r, .bool true]] w (BdPost ⟨1, r, true⟩ w) := by
  have HE := Lib.hid (bndE_bad (a := ⟨1, r, true⟩) (show ¬ ((2 : Int) < 1) by decide) (Or.inr (Or.inl h)))
  go_enter Try.func18, Try.ntmps18
  go_wp2
  go_ret3
  exact bdPost_err HE.out (by decide) ((Below.refl _ _).alloc (Nat.le_refl _) _)

set_option maxRecDepth 100000 in
set_option maxHeartbeats 4000000 in
theorem rBounds_1_true_high (r : Int) (w : World) (h0 : ¬ r < -100) (h : 100 < r) :
    Calls Try.prog 18 #[.agg #[.int .u8 1, .int .i64 r, .bool true]] w (BdPost ⟨1, r, true⟩ w) := by
  have HE := Lib.hid (bndE_bad (a := ⟨1, r, true⟩) (show ¬ ((2 : Int) < 1) by decide) (Or.inr (Or.inr h)))
  go_enter Try.func18, Try.ntmps18
  go_wp2
  go_ret3
  exact bdPost_err HE.out (by decide) ((Below.refl _ _).alloc (Nat.le_refl _) _)

set_option maxRecDepth 100000 in
set_option maxHeartbeats 4000000 in
theorem rBounds_1_true_ok (r : Int) (w : World) (h0 : ¬ r < -100) (h : ¬ 100 < r) :
    Calls Try.prog 18 #[.agg #[.int .u8 1, .int .i64 r, .bool true]] w (BdPost ⟨1, r, true⟩ w) := by
  have HE := Lib.hid (bndE_good (a := ⟨1, r, true⟩) (show ¬ ((2 : Int) < 1) by decide) (fun hh => hh.elim (fun e => absurd e.1 (show ¬ ((1 : Int) = 0) by decide)) (fun e => e.elim (fun e => h0 e) (fun e => h e))))
  go_enter Try.func18, Try.ntmps18
  go_wp2
  go_ret3
  exact bdPost_ok HE.out rfl rfl ((Below.refl _ _).alloc (Nat.le_refl _) _)

set_option maxRecDepth 100000 in
set_option maxHeartbeats 4000000 in
theorem rBounds_1_false_low (r : Int) (w : World) (h : r < 0) :
    Calls Try.prog 18 #[.agg #[.int .u8 1, .int .i64 r, .bool false]] w (BdPost ⟨1, r, false⟩ w) := by
  have HE := Lib.hid (bndE_bad (a := ⟨1, r, false⟩) (show ¬ ((2 : Int) < 1) by decide) (Or.inr (Or.inl h)))
  go_enter Try.func18, Try.ntmps18
  go_wp2
  go_ret3
  exact bdPost_err HE.out (by decide) ((Below.refl _ _).alloc (Nat.le_refl _) _)

set_option maxRecDepth 100000 in
set_option maxHeartbeats 4000000 in
theorem rBounds_1_false_high (r : Int) (w : World) (h0 : ¬ r < 0) (h : 100 < r) :
    Calls Try.prog 18 #[.agg #[.int .u8 1, .int .i64 r, .bool false]] w (BdPost ⟨1, r, false⟩ w) := by
  have HE := Lib.hid (bndE_bad (a := ⟨1, r, false⟩) (show ¬ ((2 : Int) < 1) by decide) (Or.inr (Or.inr h)))
  go_enter Try.func18, Try.ntmps18
  go_wp2
  go_ret3
  exact bdPost_err HE.out (by decide) ((Below.refl _ _).alloc (Nat.le_refl _) _)

set_option maxRecDepth 100000 in
set_option maxHeartbeats 4000000 in
theorem rBounds_1_false_ok (r : Int) (w : World) (h0 : ¬ r < 0) (h : ¬ 100 < r) :
    Calls Try.prog 18 #[.agg #[.int .u8 1, .int .i64 r, .bool false]] w (BdPost ⟨1, r, false⟩ w) := by
  have HE := Lib.hid (bndE_good (a := ⟨1, r, false⟩) (show ¬ ((2 : Int) < 1) by decide) (fun hh => hh.elim (fun e => absurd e.1 (show ¬ ((1 : Int) = 0) by decide)) (fun e => e.elim (fun e => h0 e) (fun e => h e))))
  go_enter Try.func18, Try.ntmps18
  go_wp2
  go_ret3
  exact bdPost_ok HE.out rfl rfl ((Below.refl _ _).alloc (Nat.le_refl _) _)

set_option maxRecDepth 100000 in
set_option maxHeartbeats 4000000 in
theorem rBounds_2_true_low (r : Int) (w : World) (h : r < -100) :
    Calls Try.prog 18 #[.agg #[.int .u8 2, .int .i64 r, .bool true]] w (BdPost ⟨2, r, true⟩ w) := by
  have HE := Lib.hid (bndE_bad (a := ⟨2, r, true⟩) (show ¬ ((2 : Int) < 2) by decide) (Or.inr (Or.inl h)))
  go_enter Try.func18, Try.ntmps18
  go_wp2
  go_ret3
  exact bdPost_err HE.out (by decide) ((Below.refl _ _).alloc (Nat.le_refl _) _)

set_option maxRecDepth 100000 in
set_option maxHeartbeats 4000000 in
theorem rBounds_2_true_high (r : Int) (w : World) (h0 : ¬ r < -100) (h : 100 < r) :
    Calls Try.prog 18 #[.agg #[.int .u8 2, .int .i64 r, .bool true]] w (BdPost ⟨2, r, true⟩ w) := by
  have HE := Lib.hid (bndE_bad (a := ⟨2, r, true⟩) (show ¬ ((2 : Int) < 2) by decide) (Or.inr (Or.inr h)))
  go_enter Try.func18, Try.ntmps18
  go_wp2
  go_ret3
  exact bdPost_err HE.out (by decide) ((Below.refl _ _).alloc (Nat.le_refl _) _)

set_option maxRecDepth 100000 in
set_option maxHeartbeats 4000000 in
theorem rBounds_2_true_ok (r : Int) (w : World) (h0 : ¬ r < -100) (h : ¬ 100 < r) :
    Calls Try.prog 18 #[.agg #[.int .u8 2, .int .i64 r, .bool true]] w (BdPost ⟨2, r, true⟩ w) := by
  have HE := Lib.hid (bndE_good (a := ⟨2, r, true⟩) (show ¬ ((2 : Int) < 2) by decide) (fun hh => hh.elim (fun e => absurd e.1 (show ¬ ((2 : Int) = 0) by decide)) (fun e => e.elim (fun e => h0 e) (fun e => h e))))
  have hW : IntKind.i64.wrap (-r) = -r := IntWalk.i64_in _ (by omega)
  go_enter Try.func18, Try.ntmps18
  go_wp2
  go_quiet (fail)
  go_wp2
  go_ret3
  exact bdPost_ok HE.out rfl rfl (below_drewN ((Below.refl _ _).alloc (Nat.le_refl _) _) _)

set_option maxRecDepth 100000 in
set_option maxHeartbeats 4000000 in
theorem rBounds_2_false_low (r : Int) (w : World) (h : r < 0) :
    Calls Try.prog 18 #[.agg #[.int .u8 2, .int .i64 r, .bool false]] w (BdPost ⟨2, r, false⟩ w) := by
  have HE := Lib.hid (bndE_bad (a := ⟨2, r, false⟩) (show ¬ ((2 : Int) < 2) by decide) (Or.inr (Or.inl h)))
  go_enter Try.func18, Try.ntmps18
  go_wp2
  go_ret3
  exact bdPost_err HE.out (by decide) ((Below.refl _ _).alloc (Nat.le_refl _) _)

set_option maxRecDepth 100000 in
set_option maxHeartbeats 4000000 in
theorem rBounds_2_false_high (r : Int) (w : World) (h0 : ¬ r < 0) (h : 100 < r) :
    Calls Try.prog 18 #[.agg #[.int .u8 2, .int .i64 r, .bool false]] w (BdPost ⟨2, r, false⟩ w) := by
  have HE := Lib.hid (bndE_bad (a := ⟨2, r, false⟩) (show ¬ ((2 : Int) < 2) by decide) (Or.inr (Or.inr h)))
  go_enter Try.func18, Try.ntmps18
  go_wp2
  go_ret3
  exact bdPost_err HE.out (by decide) ((Below.refl _ _).alloc (Nat.le_refl _) _)

set_option maxRecDepth 100000 in
set_option maxHeartbeats 4000000 in
theorem rBounds_2_false_ok (r : Int) (w : World) (h0 : ¬ r < 0) (h : ¬ 100 < r) :
    Calls Try.prog 18 #[.agg #[.int .u8 2, .int .i64 r, .bool false]] w (BdPost ⟨2, r, false⟩ w) := by
  have HE := Lib.hid (bndE_good (a := ⟨2, r, false⟩) (show ¬ ((2 : Int) < 2) by decide) (fun hh => hh.elim (fun e => absurd e.1 (show ¬ ((2 : Int) = 0) by decide)) (fun e => e.elim (fun e => h0 e) (fun e => h e))))
  have hW : IntKind.i64.wrap (-r) = -r := IntWalk.i64_in _ (by omega)
  go_enter Try.func18, Try.ntmps18
  go_wp2
  go_quiet (fail)
  go_wp2
  go_ret3
  exact bdPost_ok HE.out rfl rfl (below_drewN ((Below.refl _ _).alloc (Nat.le_refl _) _) _)

theorem refBounds_call (a : Adv) (w : World) (h0 : 0 ≤ a.s) :
    Calls Try.prog 18 #[.agg #[.int .u8 a.s, .int .i64 a.r, .bool a.k]] w (BdPost a w) := by
  obtain ⟨s, r, k⟩ := a
  dsimp only at h0 ⊢
  by_cases h2 : 2 < s
  · exact rBounds_kind s r k w h2
  rcases (show s = 0 ∨ s = 1 ∨ s = 2 by omega) with rfl | rfl | rfl
  · by_cases hr : r = 0
    · cases k with
      | true => exact rBounds_z_k0 r w hr
      | false => exact rBounds_z_ok r w hr
    · cases k with
      | true => exact rBounds_z_k r w hr
      | false => exact rBounds_z_r r w hr
  · cases k with
    | true =>
      by_cases h : r < -100
      · exact rBounds_1_true_low r w h
      · by_cases h' : 100 < r
        · exact rBounds_1_true_high r w h h'
        · exact rBounds_1_true_ok r w h h'
    | false =>
      by_cases h : r < 0
      · exact rBounds_1_false_low r w h
      · by_cases h' : 100 < r
        · exact rBounds_1_false_high r w h h'
        · exact rBounds_1_false_ok r w h h'
  · cases k with
    | true =>
      by_cases h : r < -100
      · exact rBounds_2_true_low r w h
      · by_cases h' : 100 < r
        · exact rBounds_2_true_high r w h h'
        · exact rBounds_2_true_ok r w h h'
    | false =>
      by_cases h : r < 0
      · exact rBounds_2_false_low r w h
      · by_cases h' : 100 < r
        · exact rBounds_2_false_high r w h h'
        · exact rBounds_2_false_ok r w h h'
end Go.Proofs.Ytjidpkcoaoflbaa
