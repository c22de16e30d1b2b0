/-
  Layer 36 (plane): Fly, both ways.
-/
import Derived.Test.YtjidpkcoaoflbaaPlaneB
import Derived.Test.YtjidpkcoaoflbaaPlaneC
namespace Go.Proofs.Ytjidpkcoaoflbaa
open Go.RowKit PlaneMath MyHeap

/-- Are the arguments of Fly good? -/
def flyB (z v lo hi pull : Int) : Bool := stB z v && bdB lo hi && decide (0 ≤ pull ∧ pull ≤ 32)
def flyZ (z v lo hi pull : Int) : Int := if flyB z v lo hi pull then nxtZ z v else 0
def flyV (z v lo hi pull : Int) : Int := if flyB z v lo hi pull then nxtV z v lo hi pull else 0
def flyE (z v lo hi pull : Int) : Int := if flyB z v lo hi pull then 0 else 1
theorem fly_no {z v lo hi pull : Int} (h : flyB z v lo hi pull = false) : flyZ z v lo hi pull = 0 ∧ flyV z v lo hi pull = 0 ∧ flyE z v lo hi pull = 1 := by
  unfold flyZ flyV flyE; rw [h]; exact ⟨rfl, rfl, rfl⟩
theorem fly_yes {z v lo hi pull : Int} (h : flyB z v lo hi pull = true) : flyZ z v lo hi pull = nxtZ z v ∧ flyV z v lo hi pull = nxtV z v lo hi pull ∧ flyE z v lo hi pull = 0 := by
  unfold flyZ flyV flyE; rw [h]; exact ⟨rfl, rfl, rfl⟩

set_option maxRecDepth 100000 in
set_option maxHeartbeats 4000000 in
theorem Fly_no1 (z v lo hi pull : Int) (w : World) (hs : stB z v = false) :
    Calls Try.prog 30 #[.agg #[.int .i64 z, .int .i64 v], .int .i64 lo, .int .i64 hi, .int .i64 pull] w fun e w' =>
      e = .returned (.tuple #[.agg #[.int .i64 0, .int .i64 0], .int .i64 1]) ∧ Below w.heap.size w w' := by
    have hE : stE z v = 1 := by unfold stE; rw [hs]; rfl
    clear hs
    go_enter Try.func30, Try.ntmps30
    go_wp2_with fail
    refine (Check_call _ _ _).mono ?_; rintro e w1 ⟨rfl, hb1⟩
    have kb : w1.heap[w.heap.size + 1]? = some (.cells #[.int .i64 0, .int .i64 0] 25 (0, 0)) := keepO hb1 (block_new _ _ (by simp))
    have hB : Below w.heap.size w w1 := (((Below.refl _ w).alloc (Nat.le_refl _) _).alloc (by simp) _).trans (hb1.mono (by simp; omega))
    clear hb1
    have KB := Lib.hid kb
    obtain ⟨o0, o1, g0, g1⟩ := two_old kb
    clear kb
    go_wp2
    refine bodyPost_ret (v := .tuple #[.agg #[.int .i64 0, .int .i64 0], .int .i64 1]) ?_ rfl ⟨rfl, (hB.setCell (p := ⟨w.heap.size + 1, 0, none⟩) (by simp) _).setCell (p := ⟨w.heap.size + 1, 1, none⟩) (by simp) _⟩
    obtain ⟨r0, r1⟩ := two_new KB.out (.int .i64 0) (.int .i64 0)
    simp [results, Try.f30, go_sem, r0, r1]

set_option maxRecDepth 100000 in
set_option maxHeartbeats 4000000 in
theorem Fly_no2 (z v lo hi pull : Int) (w : World) (hs : stB z v = true) (hb : bdB lo hi = false) :
    Calls Try.prog 30 #[.agg #[.int .i64 z, .int .i64 v], .int .i64 lo, .int .i64 hi, .int .i64 pull] w fun e w' =>
      e = .returned (.tuple #[.agg #[.int .i64 0, .int .i64 0], .int .i64 1]) ∧ Below w.heap.size w w' := by
    have hE : stE z v = 0 := stE_yes hs
    clear hs
    go_enter Try.func30, Try.ntmps30
    go_wp2_with fail
    refine (Check_call _ _ _).mono ?_; rintro e w1 ⟨rfl, hb1⟩
    have kb : w1.heap[w.heap.size + 1]? = some (.cells #[.int .i64 0, .int .i64 0] 25 (0, 0)) := keepO hb1 (block_new _ _ (by simp))
    have hz1 := lt_of_block kb
    have hB : Below w.heap.size w w1 := (((Below.refl _ w).alloc (Nat.le_refl _) _).alloc (by simp) _).trans (hb1.mono (by simp; omega))
    clear hb1
    have KB := Lib.hid kb
    clear kb
    go_wp2_with fail
    refine (valid_call _ _ _).mono ?_; rintro e w2 ⟨rfl, hb2⟩
    have kb2 : w2.heap[w.heap.size + 1]? = some (.cells #[.int .i64 0, .int .i64 0] 25 (0, 0)) := keepO hb2 (block_alloc KB.out)
    have hB2 : Below w.heap.size w w2 := (hB.alloc (by omega) _).trans (hb2.mono (by simp; omega))
    clear hb2
    have KB2 := Lib.hid kb2
    obtain ⟨o0, o1, g0, g1⟩ := two_old kb2
    clear kb2
    go_wp2
    refine bodyPost_ret (v := .tuple #[.agg #[.int .i64 0, .int .i64 0], .int .i64 1]) ?_ rfl ⟨rfl, (hB2.setCell (p := ⟨w.heap.size + 1, 0, none⟩) (by simp) _).setCell (p := ⟨w.heap.size + 1, 1, none⟩) (by simp) _⟩
    obtain ⟨r0, r1⟩ := two_new KB2.out (.int .i64 0) (.int .i64 0)
    simp [results, Try.f30, go_sem, r0, r1]

set_option maxRecDepth 100000 in
set_option maxHeartbeats 4000000 in
theorem Fly_no3 (z v lo hi pull : Int) (w : World) (hs : stB z v = true) (hb : bdB lo hi = true) (hp : pull < 0 ∨ 32 < pull) :
    Calls Try.prog 30 #[.agg #[.int .i64 z, .int .i64 v], .int .i64 lo, .int .i64 hi, .int .i64 pull] w fun e w' =>
      e = .returned (.tuple #[.agg #[.int .i64 0, .int .i64 0], .int .i64 1]) ∧ Below w.heap.size w w' := by
    have hE : stE z v = 0 := stE_yes hs
    have HP := Lib.hid hp
    clear hs hp
    go_enter Try.func30, Try.ntmps30
    go_wp2_with fail
    refine (Check_call _ _ _).mono ?_; rintro e w1 ⟨rfl, hb1⟩
    have kb : w1.heap[w.heap.size + 1]? = some (.cells #[.int .i64 0, .int .i64 0] 25 (0, 0)) := keepO hb1 (block_new _ _ (by simp))
    have hz1 := lt_of_block kb
    have hB : Below w.heap.size w w1 := (((Below.refl _ w).alloc (Nat.le_refl _) _).alloc (by simp) _).trans (hb1.mono (by simp; omega))
    clear hb1
    have KB := Lib.hid kb
    clear kb
    go_wp2_with fail
    refine (valid_call _ _ _).mono ?_; rintro e w2 ⟨rfl, hb2⟩
    have kb2 : w2.heap[w.heap.size + 1]? = some (.cells #[.int .i64 0, .int .i64 0] 25 (0, 0)) := keepO hb2 (block_alloc KB.out)
    have hB2 : Below w.heap.size w w2 := (hB.alloc (by omega) _).trans (hb2.mono (by simp; omega))
    clear hb2
    have KB2 := Lib.hid kb2
    obtain ⟨o0, o1, g0, g1⟩ := two_old kb2
    clear kb2
    go_wp2_with fail
    refine (in_no _ _ _ _ HP.out).mono ?_; rintro e w3 ⟨rfl, rfl⟩
    go_wp2
    refine bodyPost_ret (v := .tuple #[.agg #[.int .i64 0, .int .i64 0], .int .i64 1]) ?_ rfl ⟨rfl, (hB2.setCell (p := ⟨w.heap.size + 1, 0, none⟩) (by simp) _).setCell (p := ⟨w.heap.size + 1, 1, none⟩) (by simp) _⟩
    obtain ⟨r0, r1⟩ := two_new KB2.out (.int .i64 0) (.int .i64 0)
    simp [results, Try.f30, go_sem, r0, r1]

set_option maxRecDepth 100000 in
set_option maxHeartbeats 4000000 in
theorem Fly_yes (z v lo hi pull : Int) (w : World) (hs : stB z v = true) (hb : bdB lo hi = true) (hp0 : 0 ≤ pull) (hp1 : pull ≤ 32) :
    Calls Try.prog 30 #[.agg #[.int .i64 z, .int .i64 v], .int .i64 lo, .int .i64 hi, .int .i64 pull] w fun e w' =>
      e = .returned (.tuple #[.agg #[.int .i64 (nxtZ z v), .int .i64 (nxtV z v lo hi pull)], .int .i64 0]) ∧ Below w.heap.size w w' := by
    have hE : stE z v = 0 := stE_yes hs
    have HS := Lib.hid hs
    have HBd := Lib.hid hb
    clear hs
    go_enter Try.func30, Try.ntmps30
    go_wp2_with fail
    refine (Check_call _ _ _).mono ?_; rintro e w1 ⟨rfl, hb1⟩
    have kb : w1.heap[w.heap.size + 1]? = some (.cells #[.int .i64 0, .int .i64 0] 25 (0, 0)) := keepO hb1 (block_new _ _ (by simp))
    have kp : w1.heap[w.heap.size]? = some (.cells #[.int .i64 z, .int .i64 v] 25 (0, 0)) := keepO hb1 (block_alloc (block_new _ _ rfl))
    have hz1 := lt_of_block kb
    have hB : Below w.heap.size w w1 := (((Below.refl _ w).alloc (Nat.le_refl _) _).alloc (by simp) _).trans (hb1.mono (by simp; omega))
    clear hb1
    have KB := Lib.hid kb
    have KP := Lib.hid kp
    clear kb kp
    go_wp2_with fail
    refine (valid_call _ _ _).mono ?_; rintro e w2 ⟨rfl, hb2⟩
    have kb2 : w2.heap[w.heap.size + 1]? = some (.cells #[.int .i64 0, .int .i64 0] 25 (0, 0)) := keepO hb2 (block_alloc KB.out)
    have kp2 : w2.heap[w.heap.size]? = some (.cells #[.int .i64 z, .int .i64 v] 25 (0, 0)) := keepO hb2 (block_alloc KP.out)
    have kv2 : w2.heap[w1.heap.size]? = some (.cells #[.int .i64 lo, .int .i64 hi] 75 (0, 0)) := keepO hb2 (block_new _ _ rfl)
    have hB2 : Below w.heap.size w w2 := (hB.alloc (by omega) _).trans (hb2.mono (by simp; omega))
    have hz2 := lt_of_block kv2
    clear hb2
    have KB2 := Lib.hid kb2
    obtain ⟨p0, p1, _, _⟩ := two_old kp2
    obtain ⟨q0, q1, _, _⟩ := two_old kv2
    clear kb2 kp2 kv2
    go_wp2_with fail
    refine (in_yes _ _ _ _ hp0 hp1).mono ?_; rintro e w3 ⟨rfl, rfl⟩
    go_wp2_with fail
    refine (fly_call _ z v pull lo hi false _ (block_new _ _ rfl) HS.out HBd.out hp0 hp1).mono ?_; rintro e w4 ⟨rfl, hF, hO⟩
    have kb4 : w4.heap[w.heap.size + 1]? = some (.cells #[.int .i64 0, .int .i64 0] 25 (0, 0)) := hO.keeps (block_alloc KB2.out) (by omega)
    have hB4 : Below w.heap.size w w4 := (hB2.alloc (by omega) _).trans (hO.below (by omega) (by simp; omega))
    clear hF hO
    have KB4 := Lib.hid kb4
    obtain ⟨o0, o1, g0, g1⟩ := two_old kb4
    clear kb4
    go_wp2
    refine bodyPost_ret (v := .tuple #[.agg #[.int .i64 (nxtZ z v), .int .i64 (nxtV z v lo hi pull)], .int .i64 0]) ?_ rfl ⟨rfl, (hB4.setCell (p := ⟨w.heap.size + 1, 0, none⟩) (by simp) _).setCell (p := ⟨w.heap.size + 1, 1, none⟩) (by simp) _⟩
    obtain ⟨r0, r1⟩ := two_new KB4.out (.int .i64 (nxtZ z v)) (.int .i64 (nxtV z v lo hi pull))
    simp [results, Try.f30, go_sem, r0, r1]

theorem Fly_call (z v lo hi pull : Int) (w : World) :
    Calls Try.prog 30 #[.agg #[.int .i64 z, .int .i64 v], .int .i64 lo, .int .i64 hi, .int .i64 pull] w fun e w' =>
      e = .returned (.tuple #[.agg #[.int .i64 (flyZ z v lo hi pull), .int .i64 (flyV z v lo hi pull)], .int .i64 (flyE z v lo hi pull)]) ∧ Below w.heap.size w w' := by
  cases hf : flyB z v lo hi pull with
  | true =>
    obtain ⟨e1, e2, e3⟩ := fly_yes hf
    rw [e1, e2, e3]
    unfold flyB at hf
    simp only [Bool.and_eq_true, decide_eq_true_eq] at hf
    exact Fly_yes z v lo hi pull w hf.1.1 hf.1.2 hf.2.1 hf.2.2
  | false =>
    obtain ⟨e1, e2, e3⟩ := fly_no hf
    rw [e1, e2, e3]
    cases hs : stB z v with
    | false => exact Fly_no1 z v lo hi pull w hs
    | true =>
      cases hb : bdB lo hi with
      | false => exact Fly_no2 z v lo hi pull w hs hb
      | true =>
        unfold flyB at hf
        rw [hs, hb] at hf
        simp at hf
        exact Fly_no3 z v lo hi pull w hs hb (by omega)
end Go.Proofs.Ytjidpkcoaoflbaa
