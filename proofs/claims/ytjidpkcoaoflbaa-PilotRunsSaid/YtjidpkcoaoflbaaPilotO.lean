/-
  Layer 37 (pilot): the law PilotRuns, walked.
-/
import Derived.Test.YtjidpkcoaoflbaaPilotN
import Derived.Test.YtjidpkcoaoflbaaPilotL
namespace Go.Proofs.Ytjidpkcoaoflbaa
open Go.RowKit PilotMath MyHeap MyOwn PlaneMath MyCopy

theorem rnL_short (d pl ms z v : Int) (l : List Adv) : (rnL d pl ms z v l).length ≤ 1000000 := by have := rnL_length d pl ms z v l; omega

set_option maxRecDepth 100000 in
set_option maxHeartbeats 8000000 in
theorem RunsLaw_call (a : Option Addr) (n c : Nat) (l : List Adv) (d pl ms z v : Int) (w : World) (hl : Advs w a n l) (hnil : a = none → n = 0 ∧ c = 0) (hs : Pos l) :
    Calls Try.prog 3 #[.agg #[.int .i64 d, .int .i64 pl, .int .i64 ms], .agg #[.int .i64 z, .int .i64 v], .slice a n c] w fun e w' => e = .returned (.bool true) ∧ Below w.heap.size w w' := by
  have hm := hl.bound
  by_cases hn : 300 < n
  · have hd : decide (300 < (n : Int)) = true := decide_eq_true (by omega)
    clear hl hnil hs
    go_enter Try.func3, Try.ntmps3
    go_wp2_with fail
    refine (awake_call _).mono ?_; rintro e w1 ⟨rfl, hb1⟩
    have hB : Below w.heap.size w w1 := (((Below.refl _ w).alloc (Nat.le_refl _) _).alloc (by simp) _).trans (hb1.mono (by simp; omega))
    clear hb1
    go_wp2
    go_ret
    exact ⟨rfl, hB⟩
  · have hd : decide (300 < (n : Int)) = false := decide_eq_false (by omega)
    have HL := Lib.hid hl
    have HLen := Lib.hid hl.len
    have HPos := Lib.hid hs
    have HA := Lib.hid hnil
    clear hl hnil hs
    obtain ⟨i0, hi, hiz, his, hib⟩ := info_parts infoAdv
    have HI := Lib.hid (And.intro hi (And.intro hiz (And.intro his hib)))
    clear hi hiz his hib
    have HO0 := Lib.hid (show ∀ W : World, W.ownsRow (w.heap.size + 2) 36 3 (.slice none 0 0) 0 [] from fun _ => ⟨rfl, Or.inl ⟨rfl, rfl⟩⟩)
    have hee : (rnE d pl ms z v l == rnE d pl ms z v l) = true := by simp
    go_enter Try.func3, Try.ntmps3
    go_wp2_with (at_builtin; refine wpList_append_src rfl _ _ 26 rfl (w.heap.size + 2) 36 i0 _ 3 24 Try.underlying26 HI.out.1 HI.out.2.1 HI.out.2.2.1 HI.out.2.2.2 rfl (by decide) _ 0 [] rfl (HO0.out _) a n c (flat3 l) rfl HA.out (by rw [flat3_length, HLen.out]) (advs_src (HL.out.below (((Below.refl _ _).alloc (Nat.le_refl _) _).alloc (by simp) _))) (flat3_cell l) (by unfold maxLen; omega) (by omega) (by simp) ?_; intro v7 w7 hown7 hg7; have hb7 := grownAll hg7; have hown8 : w7.ownsRow (w.heap.size + 2) 36 3 v7 l.length (flat3 l) := (by rw [HLen.out]; simpa using hown7); obtain ⟨a7, c7, rfl, hA7, hc7, hn7⟩ := advs_own hown8 (by rw [HLen.out]; omega); rw [HLen.out] at hA7 ⊢; have k0 := keepO hb7 (block_alloc (block_new w (.cells #[.int .i64 d, .int .i64 pl, .int .i64 ms] 23) rfl)); have k1 := keepO hb7 (block_new (w.alloc (.cells #[.int .i64 d, .int .i64 pl, .int .i64 ms] 23)) (.cells #[.int .i64 z, .int .i64 v] 25) (n := w.heap.size + 1) (by simp)); have hB7 : Below w.heap.size w w7 := (((Below.refl _ w).alloc (Nat.le_refl _) _).alloc (by simp) _).trans (hb7.mono (by simp; omega)); obtain ⟨q0, q1, q2⟩ := three_old k0; obtain ⟨x0, x1, _, _⟩ := two_old k1; have H7 := Lib.hid (And.intro k0 (And.intro k1 (And.intro hA7 hB7))); clear hown7 hown8 hg7 hb7 k0 k1 hB7 hA7 hc7 hn7)
    refine (Run_call d pl ms z v a7 n c7 l _ H7.out.2.2.1 HPos.out).mono ?_
    intro e w8 hpost
    obtain ⟨a8, c8, rfl, hP8, hb8⟩ := runPost_at hpost rfl rfl (rnL_short d pl ms z v l)
    have k0 := keepO hb8 H7.out.1
    have k1 := keepO hb8 H7.out.2.1
    have hB8 := H7.out.2.2.2.trans (hb8.mono H7.out.2.2.2.size)
    have H8 := Lib.hid (And.intro (H7.out.2.2.1.below hb8) (And.intro hP8 hB8))
    clear hpost hP8 hb8 hB8 q0 q1 q2 x0 x1
    obtain ⟨q0, q1, q2⟩ := three_old k0
    obtain ⟨x0, x1, _, _⟩ := two_old k1
    clear k0 k1
    go_wp2_with fail
    refine (refRun_call d pl ms z v a n c l _ (HL.out.below H8.out.2.2) HPos.out).mono ?_
    intro e w9 hpost
    obtain ⟨a9, c9, rfl, hP9, hb9⟩ := runPost_at hpost rfl rfl (rnL_short d pl ms z v l)
    have hB9 := H8.out.2.2.trans (hb9.mono H8.out.2.2.size)
    have H9 := Lib.hid (And.intro (H8.out.1.below hb9) (And.intro (H8.out.2.1.below hb9) (And.intro hP9 hB9)))
    clear hpost hP9 hb9 hB9 q0 q1 q2 x0 x1
    go_wp2_with fail
    refine (equalPlanes_call _ _ _ _ _ _ _ _ _ H9.out.2.1 H9.out.2.2.1).mono ?_; rintro e w10 ⟨rfl, hb10⟩
    rw [decide_eq_true rfl]
    have hB10 := H9.out.2.2.2.trans (hb10.mono H9.out.2.2.2.size)
    have H10 := Lib.hid (And.intro (H9.out.1.below hb10) hB10)
    clear hb10 hB10
    go_wp2_with fail
    refine (equal_yes a7 a n c7 c l _ H10.out.1 (HL.out.below H10.out.2)).mono ?_; rintro e w11 ⟨rfl, hb11⟩
    have H11 := Lib.hid (H10.out.2.trans (hb11.mono H10.out.2.size))
    clear hb11
    go_wp2_with fail
    refine (awake_call _).mono ?_; rintro e w12 ⟨rfl, hb12⟩
    have hB12 := H11.out.trans (hb12.mono H11.out.size)
    clear hb12
    go_wp2
    go_ret
    exact ⟨rfl, hB12⟩
end Go.Proofs.Ytjidpkcoaoflbaa
