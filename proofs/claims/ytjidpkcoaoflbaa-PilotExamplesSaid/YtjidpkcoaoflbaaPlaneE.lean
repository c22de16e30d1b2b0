/-
  Layer 36 (plane): the reference's Fly.
-/
import Derived.Test.YtjidpkcoaoflbaaPlaneD
namespace Go.Proofs.Ytjidpkcoaoflbaa
open Go.RowKit PlaneMath MyHeap

set_option maxRecDepth 100000 in
set_option maxHeartbeats 4000000 in
theorem rFly_no1 (z v lo hi pull : Int) (w : World) (hs : stB z v = false) :
    Calls Try.prog 37 #[.agg #[.int .i64 z, .int .i64 v], .int .i64 lo, .int .i64 hi, .int .i64 pull] w fun e w' =>
      e = .returned (.tuple #[.agg #[.int .i64 0, .int .i64 0], .int .i64 1]) ∧ Below w.heap.size w w' := by
    have hE : stE z v = 1 := by unfold stE; rw [hs]; rfl
    clear hs
    go_enter Try.func37, Try.ntmps37
    go_wp2_with fail
    refine (refCheck_call _ _ _).mono ?_; rintro e w1 ⟨rfl, hb1⟩
    have kb : w1.heap[w.heap.size + 1]? = some (.cells #[.int .i64 0, .int .i64 0] 25 (0, 0)) := keepO hb1 (block_new _ _ (by simp))
    have kp : w1.heap[w.heap.size]? = some (.cells #[.int .i64 z, .int .i64 v] 25 (0, 0)) := keepO hb1 (block_alloc (block_new _ _ rfl))
    have hB : Below w.heap.size w w1 := (((Below.refl _ w).alloc (Nat.le_refl _) _).alloc (by simp) _).trans (hb1.mono (by simp; omega))
    have hz1 := lt_of_block kb
    clear hb1
    have KB := Lib.hid kb
    obtain ⟨o0, o1, g0, g1⟩ := two_old kb
    obtain ⟨p0, p1, _, _⟩ := two_old kp
    clear kb kp
    go_wp2
    refine bodyPost_ret (v := .tuple #[.agg #[.int .i64 0, .int .i64 0], .int .i64 1]) ?_ rfl ⟨rfl, (hB.setCell (p := ⟨w.heap.size + 1, 0, none⟩) (by simp) _).setCell (p := ⟨w.heap.size + 1, 1, none⟩) (by simp) _⟩
    obtain ⟨r0, r1⟩ := two_new KB.out (.int .i64 0) (.int .i64 0)
    simp [results, Try.f37, go_sem, r0, r1]

set_option maxRecDepth 100000 in
set_option maxHeartbeats 4000000 in
theorem rFly_no2 (z v lo hi pull : Int) (w : World) (hs : stB z v = true) (hb : bdB lo hi = false) :
    Calls Try.prog 37 #[.agg #[.int .i64 z, .int .i64 v], .int .i64 lo, .int .i64 hi, .int .i64 pull] w fun e w' =>
      e = .returned (.tuple #[.agg #[.int .i64 0, .int .i64 0], .int .i64 1]) ∧ Below w.heap.size w w' := by
    have hE : stE z v = 0 := stE_yes hs
    have hD : bdE lo hi = 1 := by unfold bdE; rw [hb]; rfl
    clear hs hb
    go_enter Try.func37, Try.ntmps37
    go_wp2_with fail
    refine (refCheck_call _ _ _).mono ?_; rintro e w1 ⟨rfl, hb1⟩
    have kb : w1.heap[w.heap.size + 1]? = some (.cells #[.int .i64 0, .int .i64 0] 25 (0, 0)) := keepO hb1 (block_new _ _ (by simp))
    have kp : w1.heap[w.heap.size]? = some (.cells #[.int .i64 z, .int .i64 v] 25 (0, 0)) := keepO hb1 (block_alloc (block_new _ _ rfl))
    have hB : Below w.heap.size w w1 := (((Below.refl _ w).alloc (Nat.le_refl _) _).alloc (by simp) _).trans (hb1.mono (by simp; omega))
    have hz1 := lt_of_block kb
    clear hb1
    have KB := Lib.hid kb
    obtain ⟨o0, o1, g0, g1⟩ := two_old kb
    obtain ⟨p0, p1, _, _⟩ := two_old kp
    clear kb kp
    go_wp2_with fail
    refine (wrong_call _ _ _).mono ?_; rintro e w2 ⟨rfl, rfl⟩
    go_wp2
    refine bodyPost_ret (v := .tuple #[.agg #[.int .i64 0, .int .i64 0], .int .i64 1]) ?_ rfl ⟨rfl, (hB.setCell (p := ⟨w.heap.size + 1, 0, none⟩) (by simp) _).setCell (p := ⟨w.heap.size + 1, 1, none⟩) (by simp) _⟩
    obtain ⟨r0, r1⟩ := two_new KB.out (.int .i64 0) (.int .i64 0)
    simp [results, Try.f37, go_sem, r0, r1]

set_option maxRecDepth 100000 in
set_option maxHeartbeats 4000000 in
theorem rFly_no3a (z v lo hi pull : Int) (w : World) (hs : stB z v = true) (hb : bdB lo hi = true) (hp : pull < 0) :
    Calls Try.prog 37 #[.agg #[.int .i64 z, .int .i64 v], .int .i64 lo, .int .i64 hi, .int .i64 pull] w fun e w' =>
      e = .returned (.tuple #[.agg #[.int .i64 0, .int .i64 0], .int .i64 1]) ∧ Below w.heap.size w w' := by
    have hE : stE z v = 0 := stE_yes hs
    have hD : bdE lo hi = 0 := by unfold bdE; rw [hb]; rfl
    clear hs hb
    go_enter Try.func37, Try.ntmps37
    go_wp2_with fail
    refine (refCheck_call _ _ _).mono ?_; rintro e w1 ⟨rfl, hb1⟩
    have kb : w1.heap[w.heap.size + 1]? = some (.cells #[.int .i64 0, .int .i64 0] 25 (0, 0)) := keepO hb1 (block_new _ _ (by simp))
    have kp : w1.heap[w.heap.size]? = some (.cells #[.int .i64 z, .int .i64 v] 25 (0, 0)) := keepO hb1 (block_alloc (block_new _ _ rfl))
    have hB : Below w.heap.size w w1 := (((Below.refl _ w).alloc (Nat.le_refl _) _).alloc (by simp) _).trans (hb1.mono (by simp; omega))
    have hz1 := lt_of_block kb
    clear hb1
    have KB := Lib.hid kb
    obtain ⟨o0, o1, g0, g1⟩ := two_old kb
    obtain ⟨p0, p1, _, _⟩ := two_old kp
    clear kb kp
    go_wp2_with fail
    refine (wrong_call _ _ _).mono ?_; rintro e w2 ⟨rfl, rfl⟩
    go_wp2
    refine bodyPost_ret (v := .tuple #[.agg #[.int .i64 0, .int .i64 0], .int .i64 1]) ?_ rfl ⟨rfl, (hB.setCell (p := ⟨w.heap.size + 1, 0, none⟩) (by simp) _).setCell (p := ⟨w.heap.size + 1, 1, none⟩) (by simp) _⟩
    obtain ⟨r0, r1⟩ := two_new KB.out (.int .i64 0) (.int .i64 0)
    simp [results, Try.f37, go_sem, r0, r1]

set_option maxRecDepth 100000 in
set_option maxHeartbeats 4000000 in
theorem rFly_no3b (z v lo hi pull : Int) (w : World) (hs : stB z v = true) (hb : bdB lo hi = true) (hp' : ¬ pull < 0) (hp : 32 < pull) :
    Calls Try.prog 37 #[.agg #[.int .i64 z, .int .i64 v], .int .i64 lo, .int .i64 hi, .int .i64 pull] w fun e w' =>
      e = .returned (.tuple #[.agg #[.int .i64 0, .int .i64 0], .int .i64 1]) ∧ Below w.heap.size w w' := by
    have hE : stE z v = 0 := stE_yes hs
    have hD : bdE lo hi = 0 := by unfold bdE; rw [hb]; rfl
    clear hs hb
    go_enter Try.func37, Try.ntmps37
    go_wp2_with fail
    refine (refCheck_call _ _ _).mono ?_; rintro e w1 ⟨rfl, hb1⟩
    have kb : w1.heap[w.heap.size + 1]? = some (.cells #[.int .i64 0, .int .i64 0] 25 (0, 0)) := keepO hb1 (block_new _ _ (by simp))
    have kp : w1.heap[w.heap.size]? = some (.cells #[.int .i64 z, .int .i64 v] 25 (0, 0)) := keepO hb1 (block_alloc (block_new _ _ rfl))
    have hB : Below w.heap.size w w1 := (((Below.refl _ w).alloc (Nat.le_refl _) _).alloc (by simp) _).trans (hb1.mono (by simp; omega))
    have hz1 := lt_of_block kb
    clear hb1
    have KB := Lib.hid kb
    obtain ⟨o0, o1, g0, g1⟩ := two_old kb
    obtain ⟨p0, p1, _, _⟩ := two_old kp
    clear kb kp
    go_wp2_with fail
    refine (wrong_call _ _ _).mono ?_; rintro e w2 ⟨rfl, rfl⟩
    go_wp2
    refine bodyPost_ret (v := .tuple #[.agg #[.int .i64 0, .int .i64 0], .int .i64 1]) ?_ rfl ⟨rfl, (hB.setCell (p := ⟨w.heap.size + 1, 0, none⟩) (by simp) _).setCell (p := ⟨w.heap.size + 1, 1, none⟩) (by simp) _⟩
    obtain ⟨r0, r1⟩ := two_new KB.out (.int .i64 0) (.int .i64 0)
    simp [results, Try.f37, go_sem, r0, r1]

set_option maxRecDepth 100000 in
set_option maxHeartbeats 4000000 in
theorem rFly_yes (z v lo hi pull : Int) (w : World) (hs : stB z v = true) (hb : bdB lo hi = true) (hp0 : 0 ≤ pull) (hp1 : pull ≤ 32) :
    Calls Try.prog 37 #[.agg #[.int .i64 z, .int .i64 v], .int .i64 lo, .int .i64 hi, .int .i64 pull] w fun e w' =>
      e = .returned (.tuple #[.agg #[.int .i64 (nxtZ z v), .int .i64 (nxtV z v lo hi pull)], .int .i64 0]) ∧ Below w.heap.size w w' := by
    have hE : stE z v = 0 := stE_yes hs
    have hD : bdE lo hi = 0 := by unfold bdE; rw [hb]; rfl
    have HS := Lib.hid hs
    have HBd := Lib.hid hb
    clear hs hb
    go_enter Try.func37, Try.ntmps37
    go_wp2_with fail
    refine (refCheck_call _ _ _).mono ?_; rintro e w1 ⟨rfl, hb1⟩
    have kb : w1.heap[w.heap.size + 1]? = some (.cells #[.int .i64 0, .int .i64 0] 25 (0, 0)) := keepO hb1 (block_new _ _ (by simp))
    have kp : w1.heap[w.heap.size]? = some (.cells #[.int .i64 z, .int .i64 v] 25 (0, 0)) := keepO hb1 (block_alloc (block_new _ _ rfl))
    have hB : Below w.heap.size w w1 := (((Below.refl _ w).alloc (Nat.le_refl _) _).alloc (by simp) _).trans (hb1.mono (by simp; omega))
    have hz1 := lt_of_block kb
    clear hb1
    have KB := Lib.hid kb
    obtain ⟨o0, o1, g0, g1⟩ := two_old kb
    obtain ⟨p0, p1, _, _⟩ := two_old kp
    clear kb kp
    go_wp2_with fail
    refine (wrong_call _ _ _).mono ?_; rintro e w2 ⟨rfl, rfl⟩
    have hn0 : ¬ pull < 0 := by omega
    have hn1 : ¬ 32 < pull := by omega
    go_wp2_with fail
    refine (next_call _ _ _ _ _ _ HS.out HBd.out hp0 hp1).mono ?_; rintro e w4 ⟨rfl, hb4⟩
    have kb4 : w4.heap[w.heap.size + 1]? = some (.cells #[.int .i64 0, .int .i64 0] 25 (0, 0)) := keepO hb4 KB.out
    have hB4 : Below w.heap.size w w4 := hB.trans (hb4.mono (by omega))
    have hz4 := lt_of_block kb4
    clear hb4
    have KB4 := Lib.hid kb4
    clear o0 o1 g0 g1 p0 p1
    obtain ⟨o0, o1, g0, g1⟩ := two_old kb4
    clear kb4
    go_wp2
    refine bodyPost_ret (v := .tuple #[.agg #[.int .i64 (nxtZ z v), .int .i64 (nxtV z v lo hi pull)], .int .i64 0]) ?_ rfl ⟨rfl, ((hB4.setCell (p := ⟨w.heap.size + 1, 0, none⟩) (by simp) _).setCell (p := ⟨w.heap.size + 1, 1, none⟩) (by simp) _).alloc (by simp [World.setCell]; omega) _⟩
    obtain ⟨r0, r1⟩ := two_new KB4.out (.int .i64 (nxtZ z v)) (.int .i64 (nxtV z v lo hi pull))
    have hz5 : w.heap.size + 1 < ((w4.setCell ⟨w.heap.size + 1, 0, none⟩ (.int .i64 (nxtZ z v))).setCell ⟨w.heap.size + 1, 1, none⟩ (.int .i64 (nxtV z v lo hi pull))).heap.size := by simpa [World.setCell] using hz4
    have r2 := cell_alloc_l (.cells #[.int .i64 (nxtZ z v), .int .i64 (nxtV z v lo hi pull)] 25) r0
    have r3 := cell_alloc_l (.cells #[.int .i64 (nxtZ z v), .int .i64 (nxtV z v lo hi pull)] 25) r1
    simp [results, Try.f37, go_sem, r2, r3]

theorem refFly_call (z v lo hi pull : Int) (w : World) :
    Calls Try.prog 37 #[.agg #[.int .i64 z, .int .i64 v], .int .i64 lo, .int .i64 hi, .int .i64 pull] w fun e w' =>
      e = .returned (.tuple #[.agg #[.int .i64 (flyZ z v lo hi pull), .int .i64 (flyV z v lo hi pull)], .int .i64 (flyE z v lo hi pull)]) ∧ Below w.heap.size w w' := by
  cases hf : flyB z v lo hi pull with
  | true =>
    obtain ⟨e1, e2, e3⟩ := fly_yes hf
    rw [e1, e2, e3]
    unfold flyB at hf
    simp only [Bool.and_eq_true, decide_eq_true_eq] at hf
    exact rFly_yes z v lo hi pull w hf.1.1 hf.1.2 hf.2.1 hf.2.2
  | false =>
    obtain ⟨e1, e2, e3⟩ := fly_no hf
    rw [e1, e2, e3]
    cases hs : stB z v with
    | false => exact rFly_no1 z v lo hi pull w hs
    | true =>
      cases hb : bdB lo hi with
      | false => exact rFly_no2 z v lo hi pull w hs hb
      | true =>
        unfold flyB at hf
        rw [hs, hb] at hf
        simp at hf
        by_cases hp : pull < 0
        · exact rFly_no3a z v lo hi pull w hs hb hp
        · exact rFly_no3b z v lo hi pull w hs hb hp (by omega)
end Go.Proofs.Ytjidpkcoaoflbaa
