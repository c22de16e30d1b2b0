/-
  Layer 36 (plane): the law PlaneMatches, walked.
-/
import Derived.Test.YthaokofhepngbaaPlaneP
namespace Go.Proofs.Ythaokofhepngbaa
open Go.RowKit PlaneMath MyHeap MyOwn

/-- Three states in memory, and nothing of w0 written. -/
def K6 (w0 : World) (a b c : Nat) (p0 p1 q0 q1 r0 r1 : Int) (w : World) : Prop :=
  (w.cell? ⟨a, 0, none⟩ = some (.int .i64 p0) ∧ w.cell? ⟨a, 1, none⟩ = some (.int .i64 p1) ∧ w.cell? ⟨b, 0, none⟩ = some (.int .i64 q0) ∧ w.cell? ⟨b, 1, none⟩ = some (.int .i64 q1) ∧
  w.cell? ⟨c, 0, none⟩ = some (.int .i64 r0) ∧ w.cell? ⟨c, 1, none⟩ = some (.int .i64 r1)) ∧ Below w0.heap.size w0 w
theorem K6.keep {w0 : World} {a b c : Nat} {p0 p1 q0 q1 r0 r1 : Int} {w w' : World} (h : K6 w0 a b c p0 p1 q0 q1 r0 r1 w) (hb : Below w.heap.size w w') : K6 w0 a b c p0 p1 q0 q1 r0 r1 w' :=
  ⟨⟨keep1 hb h.1.1, keep1 hb h.1.2.1, keep1 hb h.1.2.2.1, keep1 hb h.1.2.2.2.1, keep1 hb h.1.2.2.2.2.1, keep1 hb h.1.2.2.2.2.2⟩, h.2.trans (hb.mono h.2.size)⟩

set_option maxRecDepth 100000 in
set_option maxHeartbeats 8000000 in
theorem Matches_call (z v lo hi pull n : Int) (w : World) :
    Calls Try.prog 3 #[.agg #[.int .i64 z, .int .i64 v], .int .i64 lo, .int .i64 hi, .int .i64 pull, .int .i64 n] w fun e w' => e = .returned (.bool true) ∧ Below w.heap.size w w' := by
  have eq := pln_eql
  have gd := pln_guard
  have ht : ∀ p : Int × Int, prB p p = true := fun p => prB_true.2 rfl
  go_enter Try.func3, Try.ntmps3
  go_wp2_with fail
  refine (Fly_call _ _ _ _ _ _).mono ?_; rintro e w1 ⟨rfl, hb1⟩
  have k5 := keepO hb1 (block_new w (.cells #[.int .i64 z, .int .i64 v] 23) rfl)
  have hB1 : Below w.heap.size w w1 := ((Below.refl _ w).alloc (Nat.le_refl _) _).trans (hb1.mono (by simp))
  have hw1 := hB1.size
  have hz5 := lt_of_block k5
  have H1 := Lib.hid (And.intro k5 hB1)
  obtain ⟨p0, p1, _, _⟩ := two_old k5
  clear hb1 hB1 k5
  go_wp2_with fail
  refine (refFly_call _ _ _ _ _ _).mono ?_; rintro e w2 ⟨rfl, hb2⟩
  have k5 := keepO hb2 (block_alloc (o' := .cells #[.int .i64 (flyZ z v lo hi pull), .int .i64 (flyV z v lo hi pull)] 23) H1.out.1)
  have k11 := keepO hb2 (block_new w1 (.cells #[.int .i64 (flyZ z v lo hi pull), .int .i64 (flyV z v lo hi pull)] 23) rfl)
  have hB2 : Below w.heap.size w w2 := (H1.out.2.alloc hw1 _).trans (hb2.mono (by simp; omega))
  have hw2 := hB2.size
  have hz11 := lt_of_block k11
  have hz5' := lt_of_block k5
  have H2 := Lib.hid (And.intro k5 (And.intro k11 hB2))
  clear p0 p1
  obtain ⟨p0, p1, _, _⟩ := two_old k5
  clear hb2 hB2 k5 k11 H1
  go_wp2_with fail
  refine (Reach_call _ _ _ _ _).mono ?_; rintro e w3 ⟨rfl, hb3⟩
  have k5 := keepO hb3 (block_alloc (o' := .cells #[.int .i64 (flyZ z v lo hi pull), .int .i64 (flyV z v lo hi pull)] 23) H2.out.1)
  have k11 := keepO hb3 (block_alloc (o' := .cells #[.int .i64 (flyZ z v lo hi pull), .int .i64 (flyV z v lo hi pull)] 23) H2.out.2.1)
  have k13 := keepO hb3 (block_new w2 (.cells #[.int .i64 (flyZ z v lo hi pull), .int .i64 (flyV z v lo hi pull)] 23) rfl)
  have hB3 : Below w.heap.size w w3 := (H2.out.2.2.alloc hw2 _).trans (hb3.mono (by simp; omega))
  have hw3 := hB3.size
  have H3 := Lib.hid (And.intro k5 (And.intro k11 (And.intro k13 hB3)))
  clear p0 p1
  obtain ⟨p0, p1, _, _⟩ := two_old k5
  clear hb3 hB3 k5 k11 k13 H2
  go_wp2_with fail
  refine (refReach_call _ _ _ _ _).mono ?_; rintro e w4 ⟨rfl, hb4⟩
  have k5 := two_old (keepO hb4 H3.out.1)
  have k11 := two_old (keepO hb4 H3.out.2.1)
  have k13 := two_old (keepO hb4 H3.out.2.2.1)
  have hB4 : Below w.heap.size w w4 := H3.out.2.2.2.trans (hb4.mono hw3)
  have H8 : K6 w w.heap.size w1.heap.size w2.heap.size z v (flyZ z v lo hi pull) (flyV z v lo hi pull) (flyZ z v lo hi pull) (flyV z v lo hi pull) w4.drew :=
    K6.keep ⟨⟨k5.1, k5.2.1, k11.1, k11.2.1, k13.1, k13.2.1⟩, hB4⟩ (Below.refl _ _).drew
  clear p0 p1 k5 k11 k13 hB4 hb4 H3
  generalize flyZ z v lo hi pull = fz at *
  generalize flyV z v lo hi pull = fv at *
  generalize flyE z v lo hi pull = fe at *
  generalize rchD z v pull n = rd at *
  generalize rchU z v pull n = ru at *
  generalize rchE z v pull n = re at *
  go_wp2_with fail
  go_region_held3 (fun w' => w'.cell? ⟨w.heap.size, 0, none⟩ = some (.int .i64 z) ∧ w'.cell? ⟨w.heap.size, 1, none⟩ = some (.int .i64 v) ∧ w'.cell? ⟨w1.heap.size, 0, none⟩ = some (.int .i64 fz) ∧ w'.cell? ⟨w1.heap.size, 1, none⟩ = some (.int .i64 fv) ∧ w'.cell? ⟨w2.heap.size, 0, none⟩ = some (.int .i64 fz) ∧ w'.cell? ⟨w2.heap.size, 1, none⟩ = some (.int .i64 fv)) (exact H8.1) (first | (go_at_call 13; refine (Check_call _ _ _).mono ?_; rintro e w5 ⟨rfl, hb5⟩; replace H8 := K6.keep H8 hb5; clear hb5) | (go_at_call 14; refine (refCheck_call _ _ _).mono ?_; rintro e w5 ⟨rfl, hb5⟩; replace H8 := K6.keep H8 hb5; clear hb5) | (go_at_call 15; refine (awake_call _).mono ?_; rintro e w5 ⟨rfl, hb5⟩; replace H8 := K6.keep H8 hb5; clear hb5))
  go_wp2
  go_ret
  exact ⟨rfl, H8.2⟩
end Go.Proofs.Ythaokofhepngbaa
