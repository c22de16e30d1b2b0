/-
  Layer 36 (plane): awake.
-/
import Derived.Test.YthaokofhepngbaaPlaneO
namespace Go.Proofs.Ythaokofhepngbaa
open Go.RowKit PlaneMath MyHeap MyOwn

def climb : List (Int × Int) := [(25, 100), (25, 100), (25, 100), (25, 100), (25, 100)]
def climbed : List (Int × Int) := [(1000, 0), (1000, 8), (1008, 16), (1024, 24), (1048, 25), (1073, 25)]
def metA : List (Int × Int) := [(0, 0), (50, 0), (100, 0)]
def metB : List (Int × Int) := [(100, 0), (60, 0), (110, 0)]
theorem pth_climb : pthL 1000 0 8 climb = climbed ∧ pthE 1000 0 8 climb = 0 := by decide +kernel
theorem rch_climb : rchD 1000 0 8 3 = 976 ∧ rchU 1000 0 8 3 = 1024 ∧ rchE 1000 0 8 3 = 0 := by decide +kernel
theorem mt_met : mtS metA metB = 10 ∧ mtT metA metB = 1 ∧ mtE metA metB = 0 := by decide +kernel
theorem fly_ex1 : flyZ 1000 50 (-10) 10 16 = 1050 ∧ flyV 1000 50 (-10) 10 16 = 34 ∧ flyE 1000 50 (-10) 10 16 = 0 := by decide +kernel
theorem fly_ex2 : flyZ (-1000) (-5) 100 100 32 = -1000 ∧ flyV (-1000) (-5) 100 100 32 = 0 ∧ flyE (-1000) (-5) 100 100 32 = 0 := by decide +kernel

theorem pthPost_at {z v pull : Int} {l r : List (Int × Int)} {E : Int} {w : World} {e : Ending} {w' : World} (h : PthPost z v pull l w e w') (hL : pthL z v pull l = r) (hE : pthE z v pull l = E) (hm : r.length ≤ 1000000) : ∃ a c, e = .returned (.tuple #[.slice a r.length c, .int .i64 E]) ∧ Prs w' a r.length r ∧ w'.ownsRow w.heap.size 23 2 (.slice a r.length c) r.length (flat2 r) ∧ Below w.heap.size w w' := by
  subst hL hE
  obtain ⟨v1, rfl, ho, hB⟩ := h
  obtain ⟨a, c, rfl, hP⟩ := prs_own ho hm
  exact ⟨a, c, rfl, hP, ho, hB⟩

set_option maxRecDepth 100000 in
set_option maxHeartbeats 8000000 in
theorem awake_call (w : World) : Calls Try.prog 15 #[] w fun e w' => e = .returned (.bool true) ∧ Below w.heap.size w w' := by
  have HP := Lib.hid pth_climb
  have HM := Lib.hid mt_met
  obtain ⟨r1, r2, r3⟩ := rch_climb
  go_enter Try.func15, Try.ntmps15
  go_wp2_with fail
  refine (Path_call _ 5 5 climb _ _ _ _ (prs_block (block_new _ _ rfl) rfl rfl (by decide))).mono ?_; intro e w1 hpost
  obtain ⟨a1, c1, rfl, hPr, _, hb1⟩ := pthPost_at hpost HP.out.1 HP.out.2 (by decide)
  have hB1 : Below w.heap.size w w1 := ((Below.refl _ w).alloc (Nat.le_refl _) _).trans (hb1.mono (by simp))
  have hw1 := hB1.size
  have H1 := Lib.hid (And.intro hPr hB1)
  clear hpost hPr hB1 hb1
  go_wp2_with fail
  refine (Reach_call _ _ _ _ _).mono ?_; rintro e w2 ⟨rfl, hb2⟩
  have H2 := Lib.hid (And.intro (H1.out.1.below hb2) (H1.out.2.trans (hb2.mono hw1)))
  have hw2 := H2.out.2.size
  clear hb2 H1
  go_wp2_with fail
  refine (Meet_call _ _ 3 3 3 3 metA metB _ (prs_block (block_alloc (block_new _ _ rfl)) rfl rfl (by decide)) (prs_block (block_new _ _ (by simp)) rfl rfl (by decide))).mono ?_; rintro e w3 ⟨rfl, hb3⟩
  rw [HM.out.1, HM.out.2.1, HM.out.2.2]
  have hb3' := (((Below.refl _ w2).alloc (Nat.le_refl _) _).alloc (by simp) _).trans (hb3.mono (by simp; omega))
  have H3 := Lib.hid (And.intro (H2.out.1.below hb3') (H2.out.2.trans (hb3'.mono hw2)))
  have hw3 := H3.out.2.size
  clear hb3 hb3' H2
  have hlen : climbed.length = 6 := rfl
  rw [hlen] at H3
  go_wp2_with fail
  refine (equalPlanes_call _ _ 6 6 _ 6 climbed climbed _ (H3.out.1.below ((Below.refl _ _).alloc (Nat.le_refl _) _)) (prs_block (block_new _ _ rfl) rfl rfl (by decide))).mono ?_; rintro e w4 ⟨rfl, hb4⟩
  rw [decide_eq_true (rfl : climbed = climbed)]
  have H4 := Lib.hid ((H3.out.2.alloc hw3 _).trans (hb4.mono (by simp; omega)))
  have hw4 := H4.out.size
  clear hb4 H3
  go_wp2_with fail
  refine (flies_yes _ _ _ _ _ _ _ _ fly_ex1.1 fly_ex1.2.1 fly_ex1.2.2).mono ?_; rintro e w5 ⟨rfl, hb5⟩
  have H5 := Lib.hid (H4.out.trans (hb5.mono hw4))
  have hw5 := H5.out.size
  clear hb5 H4
  go_wp2_with fail
  refine (flies_yes _ _ _ _ _ _ _ _ fly_ex2.1 fly_ex2.2.1 fly_ex2.2.2).mono ?_; rintro e w6 ⟨rfl, hb6⟩
  have H6 := Lib.hid (H5.out.trans (hb6.mono hw5))
  clear hb6 H5
  go_wp2_with fail
  go_ret
  exact ⟨rfl, H6.out⟩
end Go.Proofs.Ythaokofhepngbaa
