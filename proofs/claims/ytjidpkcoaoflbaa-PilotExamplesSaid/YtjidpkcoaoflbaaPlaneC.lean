/-
  Layer 36 (plane): the reference's small functions, walked.
-/
import Derived.Test.YtjidpkcoaoflbaaPlaneA
import Derived.Test.YtjidpkcoaoflbaaHeapLib
namespace Go.Proofs.Ytjidpkcoaoflbaa
open Go.RowKit PlaneMath MyHeap

theorem stE_no {z v : Int} (h : z < -1000 ∨ 50000 < z ∨ v < -100 ∨ 100 < v) : stE z v = 1 := by
  unfold stE
  have : stB z v = false := by simp [stB]; omega
  rw [this]; rfl
theorem stE_yes {z v : Int} (h : stB z v = true) : stE z v = 0 := by unfold stE; rw [h]; rfl

set_option maxHeartbeats 1000000 in
theorem refCheck_call (z v : Int) (w : World) :
    Calls Try.prog 31 #[.agg #[.int .i64 z, .int .i64 v]] w fun e w' => e = .returned (.int .i64 (stE z v)) ∧ Below w.heap.size w w' := by
  by_cases h1 : z < -1000
  · rw [stE_no (Or.inl h1)]
    go_enter Try.func31, Try.ntmps31
    go_wp2
    go_ret
    exact ⟨rfl, by go_grown⟩
  · by_cases h2 : 50000 < z
    · rw [stE_no (Or.inr (Or.inl h2))]
      go_enter Try.func31, Try.ntmps31
      go_wp2
      go_ret
      exact ⟨rfl, by go_grown⟩
    · by_cases h3 : v < -100
      · rw [stE_no (Or.inr (Or.inr (Or.inl h3)))]
        go_enter Try.func31, Try.ntmps31
        go_wp2
        go_ret
        exact ⟨rfl, by go_grown⟩
      · by_cases h4 : 100 < v
        · rw [stE_no (Or.inr (Or.inr (Or.inr h4)))]
          go_enter Try.func31, Try.ntmps31
          go_wp2
          go_ret
          exact ⟨rfl, by go_grown⟩
        · rw [stE_yes (stB_iff.2 (by omega))]
          go_enter Try.func31, Try.ntmps31
          go_wp2
          go_ret
          exact ⟨rfl, by go_grown⟩

def bdE (lo hi : Int) : Int := if bdB lo hi then 0 else 1
theorem bdE_no {lo hi : Int} (h : lo < -100 ∨ hi < lo ∨ 100 < hi) : bdE lo hi = 1 := by
  unfold bdE
  have : bdB lo hi = false := by simp [bdB]; omega
  rw [this]; rfl

set_option maxHeartbeats 1000000 in
theorem wrong_call (lo hi : Int) (w : World) :
    Calls Try.prog 41 #[.int .i64 lo, .int .i64 hi] w fun e w' => e = .returned (.int .i64 (bdE lo hi)) ∧ w = w' := by
  by_cases h1 : lo < -100
  · rw [bdE_no (by omega)]
    go_enter Try.func41, Try.ntmps41
    go_wp2
    go_ret
    exact ⟨rfl, rfl⟩
  · by_cases h2 : 100 < lo
    · rw [bdE_no (by omega)]
      go_enter Try.func41, Try.ntmps41
      go_wp2
      go_ret
      exact ⟨rfl, rfl⟩
    · by_cases h3 : hi < -100
      · rw [bdE_no (by omega)]
        go_enter Try.func41, Try.ntmps41
        go_wp2
        go_ret
        exact ⟨rfl, rfl⟩
      · by_cases h4 : 100 < hi
        · rw [bdE_no (by omega)]
          go_enter Try.func41, Try.ntmps41
          go_wp2
          go_ret
          exact ⟨rfl, rfl⟩
        · by_cases h5 : hi < lo
          · rw [bdE_no (by omega)]
            go_enter Try.func41, Try.ntmps41
            go_wp2
            go_ret
            exact ⟨rfl, rfl⟩
          · have : bdE lo hi = 0 := by unfold bdE; rw [bdB_iff.2 (by omega)]; rfl
            rw [this]
            go_enter Try.func41, Try.ntmps41
            go_wp2
            go_ret
            exact ⟨rfl, rfl⟩

set_option maxRecDepth 100000 in
set_option maxHeartbeats 4000000 in
theorem next_call (z v lo hi pull : Int) (w : World) (hs : stB z v = true) (hb : bdB lo hi = true) (hp0 : 0 ≤ pull) (hp1 : pull ≤ 32) :
    Calls Try.prog 42 #[.agg #[.int .i64 z, .int .i64 v], .int .i64 lo, .int .i64 hi, .int .i64 pull] w fun e w' =>
      e = .returned (.tuple #[.agg #[.int .i64 (nxtZ z v), .int .i64 (nxtV z v lo hi pull)], .bool (nxtL z v)]) ∧ Below w.heap.size w w' := by
  obtain ⟨s1, s2, s3, s4⟩ := stB_iff.1 hs
  obtain ⟨b1, b2, b3⟩ := bdB_iff.1 hb
  have key : ∀ r, rate v lo hi pull = r → ∀ q, (Value.tuple #[.agg #[.int .i64 (nxtZ z v), .int .i64 (nxtV z v lo hi pull)], .bool (nxtL z v)] = q ↔
      (if z + v < -1000 then Value.tuple #[.agg #[.int .i64 (-1000), .int .i64 0], .bool true] else if 50000 < z + v then Value.tuple #[.agg #[.int .i64 50000, .int .i64 0], .bool true] else Value.tuple #[.agg #[.int .i64 (z + v), .int .i64 r], .bool false]) = q) := by
    intro r hr q
    unfold nxtZ nxtV nxtL
    by_cases h1 : z + v < -1000
    · have hz : inZ (z + v) = false := by simp [inZ]; omega
      rw [if_pos h1, hz]
      have : min (max (z + v) (-1000)) 50000 = -1000 := by omega
      simp [this]
    · by_cases h2 : 50000 < z + v
      · have hz : inZ (z + v) = false := by simp [inZ]; omega
        rw [if_neg h1, if_pos h2, hz]
        have : min (max (z + v) (-1000)) 50000 = 50000 := by omega
        simp [this]
      · have hz : inZ (z + v) = true := inZ_iff.2 (by omega)
        rw [if_neg h1, if_neg h2, hz, ← hr]
        simp
  generalize Value.tuple #[.agg #[.int .i64 (nxtZ z v), .int .i64 (nxtV z v lo hi pull)], .bool (nxtL z v)] = q at *
  have key2 : ∀ r, rate v lo hi pull = r → q = if z + v < -1000 then Value.tuple #[.agg #[.int .i64 (-1000), .int .i64 0], .bool true] else if 50000 < z + v then Value.tuple #[.agg #[.int .i64 50000, .int .i64 0], .bool true] else Value.tuple #[.agg #[.int .i64 (z + v), .int .i64 r], .bool false] := fun r hr => (((key r hr) q).1 rfl).symm
  have HK := Lib.hid key2
  clear key key2 hs hb
  have hcase : z + v < -1000 ∨ (¬ z + v < -1000 ∧ 50000 < z + v) ∨ (¬ z + v < -1000 ∧ ¬ 50000 < z + v) := by omega
  by_cases c1 : v < lo
  · have c2 : ¬ hi < v := by omega
    have HR := Lib.hid (HK.out _ (show rate v lo hi pull = min (v + pull) lo by unfold rate; rw [if_pos c1]))
    rcases hcase with d1 | ⟨d1, d2⟩ | ⟨d1, d2⟩
    all_goals
      go_enter Try.func42, Try.ntmps42
      go_wp2
      all_goals go_returns
      all_goals
        rw [HR.out]
        refine ⟨?_, by go_grown⟩
        first
          | (rw [if_pos (by omega)]; first | done | rfl)
          | (rw [if_neg (by omega), if_pos (by omega)]; first | done | rfl)
          | (rw [if_neg (by omega), if_neg (by omega), show min (v + pull) lo = lo by omega]; first | done | rfl)
          | (rw [if_neg (by omega), if_neg (by omega), show min (v + pull) lo = v + pull by omega]; first | done | rfl)
  · by_cases c2 : hi < v
    · have HR := Lib.hid (HK.out _ (show rate v lo hi pull = max (v - pull) hi by unfold rate; rw [if_neg c1, if_pos c2]))
      rcases hcase with d1 | ⟨d1, d2⟩ | ⟨d1, d2⟩
      all_goals
        go_enter Try.func42, Try.ntmps42
        go_wp2
        all_goals go_returns
        all_goals
          rw [HR.out]
          refine ⟨?_, by go_grown⟩
          first
            | (rw [if_pos (by omega)]; first | done | rfl)
            | (rw [if_neg (by omega), if_pos (by omega)]; first | done | rfl)
            | (rw [if_neg (by omega), if_neg (by omega), show max (v - pull) hi = hi by omega]; first | done | rfl)
            | (rw [if_neg (by omega), if_neg (by omega), show max (v - pull) hi = v - pull by omega]; first | done | rfl)
    · have HR := Lib.hid (HK.out _ (show rate v lo hi pull = v by unfold rate; rw [if_neg c1, if_neg c2]))
      rcases hcase with d1 | ⟨d1, d2⟩ | ⟨d1, d2⟩
      all_goals
        go_enter Try.func42, Try.ntmps42
        go_wp2
        all_goals go_returns
        all_goals
          rw [HR.out]
          refine ⟨?_, by go_grown⟩
          first
            | (rw [if_pos (by omega)]; first | done | rfl)
            | (rw [if_neg (by omega), if_pos (by omega)]; first | done | rfl)
            | (rw [if_neg (by omega), if_neg (by omega)])
end Go.Proofs.Ytjidpkcoaoflbaa
