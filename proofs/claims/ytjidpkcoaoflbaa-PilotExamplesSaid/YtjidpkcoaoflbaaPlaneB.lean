/-
  Layer 36 (plane): fly, walked.
-/
import Derived.Test.YtjidpkcoaoflbaaPlaneA
import Derived.Test.YtjidpkcoaoflbaaHeapLib
namespace Go.Proofs.Ytjidpkcoaoflbaa
open Go.RowKit PlaneMath MyHeap

/-- Block b is a flight. -/
def Flight (w : World) (b : Nat) (z v pull : Int) (lim : Bool) : Prop := w.heap[b]? = some (.cells #[.int .i64 z, .int .i64 v, .int .i64 pull, .bool lim] 78 (0, 0))

set_option maxRecDepth 100000 in
set_option maxHeartbeats 4000000 in
theorem fly_in_lo (fb : Nat) (z v pull lo hi : Int) (lim : Bool) (w : World) (hF : Flight w fb z v pull lim) (hs : stB z v = true) (hb : bdB lo hi = true) (hp0 : 0 ≤ pull) (hp1 : pull ≤ 32) (hz : inZ (z + v) = true) (hv : v < lo) :
    Calls Try.prog 40 #[.pointer (some ⟨fb, 0, none⟩), .agg #[.int .i64 lo, .int .i64 hi]] w fun e w' =>
      e = .returned (.agg #[.int .i64 (nxtZ z v), .int .i64 (nxtV z v lo hi pull)]) ∧ Flight w' fb (nxtZ z v) (nxtV z v lo hi pull) pull (lim || nxtL z v) ∧ Only fb w w' := by
  have eZ : nxtZ z v = z + v := by unfold nxtZ; rw [hz]; rfl
  have eR : rate v lo hi pull = min (v + pull) lo := by
    have := bdB_iff.1 hb
    unfold rate
    rw [if_pos hv]
  have eV : nxtV z v lo hi pull = min (v + pull) lo := by unfold nxtV; rw [hz]; exact eR
  have eL : (lim || nxtL z v) = lim := by unfold nxtL; rw [hz]; cases lim <;> rfl
  have HE := Lib.hid (And.intro eZ (And.intro eV eL))
  clear eZ eR eV eL
  obtain ⟨s1, s2, s3, s4⟩ := stB_iff.1 hs
  obtain ⟨b1, b2, b3⟩ := bdB_iff.1 hb
  obtain ⟨z1, z2⟩ := inZ_iff.1 hz
  have c0 : w.cell? ⟨fb, 0, none⟩ = some (.int .i64 z) := cell_of_block hF rfl
  have c1 : w.cell? ⟨fb, 1, none⟩ = some (.int .i64 v) := cell_of_block hF rfl
  have c2 : w.cell? ⟨fb, 2, none⟩ = some (.int .i64 pull) := cell_of_block hF rfl
  have c3 : w.cell? ⟨fb, 3, none⟩ = some (.bool lim) := cell_of_block hF rfl
  have f0 : w.frozen? ⟨fb, 0, none⟩ = false := free_of_block hF
  have f1 : w.frozen? ⟨fb, 1, none⟩ = false := free_of_block hF
  have f3 : w.frozen? ⟨fb, 3, none⟩ = false := free_of_block hF
  have hlt : fb < w.heap.size := (Array.getElem?_eq_some_iff.1 hF).1
  have HF := Lib.hid hF
  clear hF hs hb hz
  go_enter Try.func40, Try.ntmps40
  go_wp2
  go_region
  go_wp2
  go_region
  all_goals go_wp2_with (go_at_call 38; refine (in_yes _ _ _ _ z1 z2).mono ?_; rintro e w' ⟨rfl, rfl⟩)
  all_goals go_returns
  all_goals
    first
      | (have hm : min (v + pull) lo = lo := by omega
         rw [HE.out.1, HE.out.2.1, HE.out.2.2, hm]
         exact ⟨rfl, block_alloc (block_alloc (block_setCell (block_setCell HF.out))), by repeat (first | exact Only.refl _ _ | refine Only.drew ?_ | refine Only.alloc ?_ _ | refine Only.setCell ?_ _ _)⟩)
      | (have hm : min (v + pull) lo = v + pull := by omega
         rw [HE.out.1, HE.out.2.1, HE.out.2.2, hm]
         exact ⟨rfl, block_alloc (block_alloc (block_setCell (block_setCell HF.out))), by repeat (first | exact Only.refl _ _ | refine Only.drew ?_ | refine Only.alloc ?_ _ | refine Only.setCell ?_ _ _)⟩)

set_option maxRecDepth 100000 in
set_option maxHeartbeats 4000000 in
theorem fly_out_lo (fb : Nat) (z v pull lo hi : Int) (lim : Bool) (w : World) (hF : Flight w fb z v pull lim) (hs : stB z v = true) (hb : bdB lo hi = true) (hp0 : 0 ≤ pull) (hp1 : pull ≤ 32) (hz : inZ (z + v) = false) (hv : v < lo) :
    Calls Try.prog 40 #[.pointer (some ⟨fb, 0, none⟩), .agg #[.int .i64 lo, .int .i64 hi]] w fun e w' =>
      e = .returned (.agg #[.int .i64 (nxtZ z v), .int .i64 (nxtV z v lo hi pull)]) ∧ Flight w' fb (nxtZ z v) (nxtV z v lo hi pull) pull (lim || nxtL z v) ∧ Only fb w w' := by
  have eZ : nxtZ z v = min (max (z + v) (-1000)) 50000 := by unfold nxtZ; rw [hz]; rfl
  have eR : rate v lo hi pull = min (v + pull) lo := by
    have := bdB_iff.1 hb
    unfold rate
    rw [if_pos hv]
  have eV : nxtV z v lo hi pull = 0 := by unfold nxtV; rw [hz]; rfl
  have eL : (lim || nxtL z v) = true := by unfold nxtL; rw [hz]; cases lim <;> rfl
  have HE := Lib.hid (And.intro eZ (And.intro eV eL))
  clear eZ eR eV eL
  obtain ⟨s1, s2, s3, s4⟩ := stB_iff.1 hs
  obtain ⟨b1, b2, b3⟩ := bdB_iff.1 hb
  have hzo : z + v < -1000 ∨ 50000 < z + v := by
    by_cases h : -1000 ≤ z + v ∧ z + v ≤ 50000
    · rw [inZ_iff.2 h] at hz; exact absurd hz (by decide)
    · omega
  have c0 : w.cell? ⟨fb, 0, none⟩ = some (.int .i64 z) := cell_of_block hF rfl
  have c1 : w.cell? ⟨fb, 1, none⟩ = some (.int .i64 v) := cell_of_block hF rfl
  have c2 : w.cell? ⟨fb, 2, none⟩ = some (.int .i64 pull) := cell_of_block hF rfl
  have c3 : w.cell? ⟨fb, 3, none⟩ = some (.bool lim) := cell_of_block hF rfl
  have f0 : w.frozen? ⟨fb, 0, none⟩ = false := free_of_block hF
  have f1 : w.frozen? ⟨fb, 1, none⟩ = false := free_of_block hF
  have f3 : w.frozen? ⟨fb, 3, none⟩ = false := free_of_block hF
  have hlt : fb < w.heap.size := (Array.getElem?_eq_some_iff.1 hF).1
  have HF := Lib.hid hF
  clear hF hs hb hz
  have HZ := Lib.hid hzo
  rcases hzo with hzo | hzo
  · have hm : min (max (z + v) (-1000)) 50000 = -1000 := by omega
    have HM := Lib.hid hm
    clear hm
    go_enter Try.func40, Try.ntmps40
    go_wp2
    go_region
    go_wp2
    go_region
    all_goals go_wp2_with (go_at_call 38; refine (in_no _ _ _ _ HZ.out).mono ?_; rintro e w' ⟨rfl, rfl⟩)
    all_goals go_returns
    all_goals rw [HE.out.1, HE.out.2.1, HE.out.2.2, HM.out]
    all_goals exact ⟨rfl, block_alloc (block_alloc (block_setCell (block_setCell (block_setCell HF.out)))), by repeat (first | exact Only.refl _ _ | refine Only.drew ?_ | refine Only.alloc ?_ _ | refine Only.setCell ?_ _ _)⟩
  · have hm : min (max (z + v) (-1000)) 50000 = 50000 := by omega
    have HM := Lib.hid hm
    clear hm
    go_enter Try.func40, Try.ntmps40
    go_wp2
    go_region
    go_wp2
    go_region
    all_goals go_wp2_with (go_at_call 38; refine (in_no _ _ _ _ HZ.out).mono ?_; rintro e w' ⟨rfl, rfl⟩)
    all_goals go_returns
    all_goals rw [HE.out.1, HE.out.2.1, HE.out.2.2, HM.out]
    all_goals exact ⟨rfl, block_alloc (block_alloc (block_setCell (block_setCell (block_setCell HF.out)))), by repeat (first | exact Only.refl _ _ | refine Only.drew ?_ | refine Only.alloc ?_ _ | refine Only.setCell ?_ _ _)⟩

set_option maxRecDepth 100000 in
set_option maxHeartbeats 4000000 in
theorem fly_in_hi (fb : Nat) (z v pull lo hi : Int) (lim : Bool) (w : World) (hF : Flight w fb z v pull lim) (hs : stB z v = true) (hb : bdB lo hi = true) (hp0 : 0 ≤ pull) (hp1 : pull ≤ 32) (hz : inZ (z + v) = true) (hv : hi < v) :
    Calls Try.prog 40 #[.pointer (some ⟨fb, 0, none⟩), .agg #[.int .i64 lo, .int .i64 hi]] w fun e w' =>
      e = .returned (.agg #[.int .i64 (nxtZ z v), .int .i64 (nxtV z v lo hi pull)]) ∧ Flight w' fb (nxtZ z v) (nxtV z v lo hi pull) pull (lim || nxtL z v) ∧ Only fb w w' := by
  have eZ : nxtZ z v = z + v := by unfold nxtZ; rw [hz]; rfl
  have eR : rate v lo hi pull = max (v - pull) hi := by
    have := bdB_iff.1 hb
    unfold rate
    rw [if_neg (by omega), if_pos hv]
  have eV : nxtV z v lo hi pull = max (v - pull) hi := by unfold nxtV; rw [hz]; exact eR
  have eL : (lim || nxtL z v) = lim := by unfold nxtL; rw [hz]; cases lim <;> rfl
  have HE := Lib.hid (And.intro eZ (And.intro eV eL))
  clear eZ eR eV eL
  obtain ⟨s1, s2, s3, s4⟩ := stB_iff.1 hs
  obtain ⟨b1, b2, b3⟩ := bdB_iff.1 hb
  obtain ⟨z1, z2⟩ := inZ_iff.1 hz
  have c0 : w.cell? ⟨fb, 0, none⟩ = some (.int .i64 z) := cell_of_block hF rfl
  have c1 : w.cell? ⟨fb, 1, none⟩ = some (.int .i64 v) := cell_of_block hF rfl
  have c2 : w.cell? ⟨fb, 2, none⟩ = some (.int .i64 pull) := cell_of_block hF rfl
  have c3 : w.cell? ⟨fb, 3, none⟩ = some (.bool lim) := cell_of_block hF rfl
  have f0 : w.frozen? ⟨fb, 0, none⟩ = false := free_of_block hF
  have f1 : w.frozen? ⟨fb, 1, none⟩ = false := free_of_block hF
  have f3 : w.frozen? ⟨fb, 3, none⟩ = false := free_of_block hF
  have hlt : fb < w.heap.size := (Array.getElem?_eq_some_iff.1 hF).1
  have HF := Lib.hid hF
  clear hF hs hb hz
  have hv' : ¬ v < lo := by omega
  go_enter Try.func40, Try.ntmps40
  go_wp2
  go_region
  go_wp2
  go_region
  all_goals go_wp2_with (go_at_call 38; refine (in_yes _ _ _ _ z1 z2).mono ?_; rintro e w' ⟨rfl, rfl⟩)
  all_goals go_returns
  all_goals
    first
      | (have hm : max (v - pull) hi = hi := by omega
         rw [HE.out.1, HE.out.2.1, HE.out.2.2, hm]
         exact ⟨rfl, block_alloc (block_alloc (block_setCell (block_setCell HF.out))), by repeat (first | exact Only.refl _ _ | refine Only.drew ?_ | refine Only.alloc ?_ _ | refine Only.setCell ?_ _ _)⟩)
      | (have hm : max (v - pull) hi = v - pull := by omega
         rw [HE.out.1, HE.out.2.1, HE.out.2.2, hm]
         exact ⟨rfl, block_alloc (block_alloc (block_setCell (block_setCell HF.out))), by repeat (first | exact Only.refl _ _ | refine Only.drew ?_ | refine Only.alloc ?_ _ | refine Only.setCell ?_ _ _)⟩)

set_option maxRecDepth 100000 in
set_option maxHeartbeats 4000000 in
theorem fly_out_hi (fb : Nat) (z v pull lo hi : Int) (lim : Bool) (w : World) (hF : Flight w fb z v pull lim) (hs : stB z v = true) (hb : bdB lo hi = true) (hp0 : 0 ≤ pull) (hp1 : pull ≤ 32) (hz : inZ (z + v) = false) (hv : hi < v) :
    Calls Try.prog 40 #[.pointer (some ⟨fb, 0, none⟩), .agg #[.int .i64 lo, .int .i64 hi]] w fun e w' =>
      e = .returned (.agg #[.int .i64 (nxtZ z v), .int .i64 (nxtV z v lo hi pull)]) ∧ Flight w' fb (nxtZ z v) (nxtV z v lo hi pull) pull (lim || nxtL z v) ∧ Only fb w w' := by
  have eZ : nxtZ z v = min (max (z + v) (-1000)) 50000 := by unfold nxtZ; rw [hz]; rfl
  have eR : rate v lo hi pull = max (v - pull) hi := by
    have := bdB_iff.1 hb
    unfold rate
    rw [if_neg (by omega), if_pos hv]
  have eV : nxtV z v lo hi pull = 0 := by unfold nxtV; rw [hz]; rfl
  have eL : (lim || nxtL z v) = true := by unfold nxtL; rw [hz]; cases lim <;> rfl
  have HE := Lib.hid (And.intro eZ (And.intro eV eL))
  clear eZ eR eV eL
  obtain ⟨s1, s2, s3, s4⟩ := stB_iff.1 hs
  obtain ⟨b1, b2, b3⟩ := bdB_iff.1 hb
  have hzo : z + v < -1000 ∨ 50000 < z + v := by
    by_cases h : -1000 ≤ z + v ∧ z + v ≤ 50000
    · rw [inZ_iff.2 h] at hz; exact absurd hz (by decide)
    · omega
  have c0 : w.cell? ⟨fb, 0, none⟩ = some (.int .i64 z) := cell_of_block hF rfl
  have c1 : w.cell? ⟨fb, 1, none⟩ = some (.int .i64 v) := cell_of_block hF rfl
  have c2 : w.cell? ⟨fb, 2, none⟩ = some (.int .i64 pull) := cell_of_block hF rfl
  have c3 : w.cell? ⟨fb, 3, none⟩ = some (.bool lim) := cell_of_block hF rfl
  have f0 : w.frozen? ⟨fb, 0, none⟩ = false := free_of_block hF
  have f1 : w.frozen? ⟨fb, 1, none⟩ = false := free_of_block hF
  have f3 : w.frozen? ⟨fb, 3, none⟩ = false := free_of_block hF
  have hlt : fb < w.heap.size := (Array.getElem?_eq_some_iff.1 hF).1
  have HF := Lib.hid hF
  clear hF hs hb hz
  have hv' : ¬ v < lo := by omega
  have HZ := Lib.hid hzo
  rcases hzo with hzo | hzo
  · have hm : min (max (z + v) (-1000)) 50000 = -1000 := by omega
    have HM := Lib.hid hm
    clear hm
    go_enter Try.func40, Try.ntmps40
    go_wp2
    go_region
    go_wp2
    go_region
    all_goals go_wp2_with (go_at_call 38; refine (in_no _ _ _ _ HZ.out).mono ?_; rintro e w' ⟨rfl, rfl⟩)
    all_goals go_returns
    all_goals rw [HE.out.1, HE.out.2.1, HE.out.2.2, HM.out]
    all_goals exact ⟨rfl, block_alloc (block_alloc (block_setCell (block_setCell (block_setCell HF.out)))), by repeat (first | exact Only.refl _ _ | refine Only.drew ?_ | refine Only.alloc ?_ _ | refine Only.setCell ?_ _ _)⟩
  · have hm : min (max (z + v) (-1000)) 50000 = 50000 := by omega
    have HM := Lib.hid hm
    clear hm
    go_enter Try.func40, Try.ntmps40
    go_wp2
    go_region
    go_wp2
    go_region
    all_goals go_wp2_with (go_at_call 38; refine (in_no _ _ _ _ HZ.out).mono ?_; rintro e w' ⟨rfl, rfl⟩)
    all_goals go_returns
    all_goals rw [HE.out.1, HE.out.2.1, HE.out.2.2, HM.out]
    all_goals exact ⟨rfl, block_alloc (block_alloc (block_setCell (block_setCell (block_setCell HF.out)))), by repeat (first | exact Only.refl _ _ | refine Only.drew ?_ | refine Only.alloc ?_ _ | refine Only.setCell ?_ _ _)⟩

set_option maxRecDepth 100000 in
set_option maxHeartbeats 4000000 in
theorem fly_in_mid (fb : Nat) (z v pull lo hi : Int) (lim : Bool) (w : World) (hF : Flight w fb z v pull lim) (hs : stB z v = true) (hb : bdB lo hi = true) (_ : 0 ≤ pull) (_ : pull ≤ 32) (hz : inZ (z + v) = true) (hv : lo ≤ v) (hw : v ≤ hi) :
    Calls Try.prog 40 #[.pointer (some ⟨fb, 0, none⟩), .agg #[.int .i64 lo, .int .i64 hi]] w fun e w' =>
      e = .returned (.agg #[.int .i64 (nxtZ z v), .int .i64 (nxtV z v lo hi pull)]) ∧ Flight w' fb (nxtZ z v) (nxtV z v lo hi pull) pull (lim || nxtL z v) ∧ Only fb w w' := by
  have eZ : nxtZ z v = z + v := by unfold nxtZ; rw [hz]; rfl
  have eR : rate v lo hi pull = v := by
    have := bdB_iff.1 hb
    unfold rate
    rw [if_neg (by omega), if_neg (by omega)]
  have eV : nxtV z v lo hi pull = v := by unfold nxtV; rw [hz]; exact eR
  have eL : (lim || nxtL z v) = lim := by unfold nxtL; rw [hz]; cases lim <;> rfl
  have HE := Lib.hid (And.intro eZ (And.intro eV eL))
  clear eZ eR eV eL
  obtain ⟨s1, s2, s3, s4⟩ := stB_iff.1 hs
  obtain ⟨b1, b2, b3⟩ := bdB_iff.1 hb
  obtain ⟨z1, z2⟩ := inZ_iff.1 hz
  have c0 : w.cell? ⟨fb, 0, none⟩ = some (.int .i64 z) := cell_of_block hF rfl
  have c1 : w.cell? ⟨fb, 1, none⟩ = some (.int .i64 v) := cell_of_block hF rfl
  have c2 : w.cell? ⟨fb, 2, none⟩ = some (.int .i64 pull) := cell_of_block hF rfl
  have c3 : w.cell? ⟨fb, 3, none⟩ = some (.bool lim) := cell_of_block hF rfl
  have f0 : w.frozen? ⟨fb, 0, none⟩ = false := free_of_block hF
  have f1 : w.frozen? ⟨fb, 1, none⟩ = false := free_of_block hF
  have f3 : w.frozen? ⟨fb, 3, none⟩ = false := free_of_block hF
  have hlt : fb < w.heap.size := (Array.getElem?_eq_some_iff.1 hF).1
  have HF := Lib.hid hF
  clear hF hs hb hz
  have hv' : ¬ v < lo := by omega
  have hw' : ¬ hi < v := by omega
  go_enter Try.func40, Try.ntmps40
  go_wp2
  go_region
  all_goals go_wp2_with (go_at_call 38; refine (in_yes _ _ _ _ z1 z2).mono ?_; rintro e w' ⟨rfl, rfl⟩)
  all_goals go_returns
  rw [HE.out.1, HE.out.2.1, HE.out.2.2]
  exact ⟨rfl, block_alloc (block_alloc (block_setCell (block_setCell HF.out))), by repeat (first | exact Only.refl _ _ | refine Only.drew ?_ | refine Only.alloc ?_ _ | refine Only.setCell ?_ _ _)⟩

set_option maxRecDepth 100000 in
set_option maxHeartbeats 4000000 in
theorem fly_out_mid (fb : Nat) (z v pull lo hi : Int) (lim : Bool) (w : World) (hF : Flight w fb z v pull lim) (hs : stB z v = true) (hb : bdB lo hi = true) (_ : 0 ≤ pull) (_ : pull ≤ 32) (hz : inZ (z + v) = false) (hv : lo ≤ v) (hw : v ≤ hi) :
    Calls Try.prog 40 #[.pointer (some ⟨fb, 0, none⟩), .agg #[.int .i64 lo, .int .i64 hi]] w fun e w' =>
      e = .returned (.agg #[.int .i64 (nxtZ z v), .int .i64 (nxtV z v lo hi pull)]) ∧ Flight w' fb (nxtZ z v) (nxtV z v lo hi pull) pull (lim || nxtL z v) ∧ Only fb w w' := by
  have eZ : nxtZ z v = min (max (z + v) (-1000)) 50000 := by unfold nxtZ; rw [hz]; rfl
  have eR : rate v lo hi pull = v := by
    have := bdB_iff.1 hb
    unfold rate
    rw [if_neg (by omega), if_neg (by omega)]
  have eV : nxtV z v lo hi pull = 0 := by unfold nxtV; rw [hz]; rfl
  have eL : (lim || nxtL z v) = true := by unfold nxtL; rw [hz]; cases lim <;> rfl
  have HE := Lib.hid (And.intro eZ (And.intro eV eL))
  clear eZ eR eV eL
  obtain ⟨s1, s2, s3, s4⟩ := stB_iff.1 hs
  obtain ⟨b1, b2, b3⟩ := bdB_iff.1 hb
  have hzo : z + v < -1000 ∨ 50000 < z + v := by
    by_cases h : -1000 ≤ z + v ∧ z + v ≤ 50000
    · rw [inZ_iff.2 h] at hz; exact absurd hz (by decide)
    · omega
  have c0 : w.cell? ⟨fb, 0, none⟩ = some (.int .i64 z) := cell_of_block hF rfl
  have c1 : w.cell? ⟨fb, 1, none⟩ = some (.int .i64 v) := cell_of_block hF rfl
  have c2 : w.cell? ⟨fb, 2, none⟩ = some (.int .i64 pull) := cell_of_block hF rfl
  have c3 : w.cell? ⟨fb, 3, none⟩ = some (.bool lim) := cell_of_block hF rfl
  have f0 : w.frozen? ⟨fb, 0, none⟩ = false := free_of_block hF
  have f1 : w.frozen? ⟨fb, 1, none⟩ = false := free_of_block hF
  have f3 : w.frozen? ⟨fb, 3, none⟩ = false := free_of_block hF
  have hlt : fb < w.heap.size := (Array.getElem?_eq_some_iff.1 hF).1
  have HF := Lib.hid hF
  clear hF hs hb hz
  have hv' : ¬ v < lo := by omega
  have hw' : ¬ hi < v := by omega
  have HZ := Lib.hid hzo
  rcases hzo with hzo | hzo
  · have hm : min (max (z + v) (-1000)) 50000 = -1000 := by omega
    have HM := Lib.hid hm
    clear hm
    go_enter Try.func40, Try.ntmps40
    go_wp2
    go_region
    all_goals go_wp2_with (go_at_call 38; refine (in_no _ _ _ _ HZ.out).mono ?_; rintro e w' ⟨rfl, rfl⟩)
    all_goals go_returns
    all_goals rw [HE.out.1, HE.out.2.1, HE.out.2.2, HM.out]
    all_goals exact ⟨rfl, block_alloc (block_alloc (block_setCell (block_setCell (block_setCell HF.out)))), by repeat (first | exact Only.refl _ _ | refine Only.drew ?_ | refine Only.alloc ?_ _ | refine Only.setCell ?_ _ _)⟩
  · have hm : min (max (z + v) (-1000)) 50000 = 50000 := by omega
    have HM := Lib.hid hm
    clear hm
    go_enter Try.func40, Try.ntmps40
    go_wp2
    go_region
    all_goals go_wp2_with (go_at_call 38; refine (in_no _ _ _ _ HZ.out).mono ?_; rintro e w' ⟨rfl, rfl⟩)
    all_goals go_returns
    all_goals rw [HE.out.1, HE.out.2.1, HE.out.2.2, HM.out]
    all_goals exact ⟨rfl, block_alloc (block_alloc (block_setCell (block_setCell (block_setCell HF.out)))), by repeat (first | exact Only.refl _ _ | refine Only.drew ?_ | refine Only.alloc ?_ _ | refine Only.setCell ?_ _ _)⟩

/-- 'fly' at every state and all bounds. -/
theorem fly_call (fb : Nat) (z v pull lo hi : Int) (lim : Bool) (w : World) (hF : Flight w fb z v pull lim) (hs : stB z v = true) (hb : bdB lo hi = true) (hp0 : 0 ≤ pull) (hp1 : pull ≤ 32) :
    Calls Try.prog 40 #[.pointer (some ⟨fb, 0, none⟩), .agg #[.int .i64 lo, .int .i64 hi]] w fun e w' =>
      e = .returned (.agg #[.int .i64 (nxtZ z v), .int .i64 (nxtV z v lo hi pull)]) ∧ Flight w' fb (nxtZ z v) (nxtV z v lo hi pull) pull (lim || nxtL z v) ∧ Only fb w w' := by
  have hb' := bdB_iff.1 hb
  cases hz : inZ (z + v) with
  | true =>
    by_cases h1 : v < lo
    · exact fly_in_lo fb z v pull lo hi lim w hF hs hb hp0 hp1 hz h1
    · by_cases h2 : hi < v
      · exact fly_in_hi fb z v pull lo hi lim w hF hs hb hp0 hp1 hz h2
      · exact fly_in_mid fb z v pull lo hi lim w hF hs hb hp0 hp1 hz (by omega) (by omega)
  | false =>
    by_cases h1 : v < lo
    · exact fly_out_lo fb z v pull lo hi lim w hF hs hb hp0 hp1 hz h1
    · by_cases h2 : hi < v
      · exact fly_out_hi fb z v pull lo hi lim w hF hs hb hp0 hp1 hz h2
      · exact fly_out_mid fb z v pull lo hi lim w hF hs hb hp0 hp1 hz (by omega) (by omega)
end Go.Proofs.Ytjidpkcoaoflbaa
