/-
  Layer 38 (rules): the law List, the walk. Printed by genRulesW.py.
-/
import Derived.Test.YtfgalaalopkclaaRulesT
import Derived.Test.YtfgalaalopkclaaRulesLaw
import Derived.Test.YtfgalaalopkclaaPlaneGp
namespace Go.Proofs.Ytfgalaalopkclaa
open Go.RowKit PlaneMath PilotMath RulesMath MyHeap MyOwn MyCopy

/-- In List: the case, and nothing of w0 written. -/
def LiK (w0 : World) (C : Array Value) (W : World) : Prop := W.heap[w0.heap.size]? = some (.cells C 28 (0, 0)) ∧ Below w0.heap.size w0 W
theorem LiK.keep {w0 W W' : World} {C : Array Value} (h : LiK w0 C W) (hb : Below W.heap.size W W') : LiK w0 C W' := ⟨keepO hb h.1, h.2.trans (hb.mono h.2.size)⟩
theorem rch_st {z v pull t : Int} (h : rchE z v pull t = 0) : stB z v = true := by
  cases hb : rchB z v pull t with
  | false => rw [(rch_no hb).2.2] at h; cases h
  | true => unfold rchB at hb; rw [Bool.and_eq_true, Bool.and_eq_true] at hb; exact hb.1.1
theorem LiK.rate {w0 W : World} {a : Option Addr} {n k : Nat} {s : RulesMath.Set} {C : Array Value} (h : LiK w0 C W) (hI : Ints w0 a n s.rs) (hk : k < n) {b off : Nat} (ha : a = some ⟨b, off, none⟩) : W.cell? ⟨b, off + k, none⟩ = some (.int .i64 (gr s.rs k)) := by
  obtain ⟨b', off', e, h'⟩ := ints_at (hI.below h.2) hk
  rw [ha] at e
  cases e
  exact h'

set_option maxRecDepth 100000 in
set_option maxHeartbeats 8000000 in
theorem list_long (a : Option Addr) (n c : Nat) (s : RulesMath.Set) (z v z' v' t fl k : Int) (dn : Bool) (w : World) (h : Ints w a n s.rs) (hn : 20 < n) :
    Calls Try.prog 6 #[scnV a n c s z v z' v' t fl k, .bool dn] w (BPost true w) := by
  have HL := Lib.hid h
  have hb := h.bound
  have HN := Lib.hid h.len
  have hlong : decide (20 < n) = true := by first | exact decide_eq_true hn | exact decide_eq_false (by omega)
  clear hn
  clear h
  unfold scnV
  go_enter Try.func6, Try.ntmps6
  go_wp2_with fail
  have K0 := Lib.hid (show LiK w (scnC a n c s z v z' v' t fl k) (w.alloc (.cells (scnC a n c s z v z' v' t fl k) 28)) from ⟨block_new _ _ rfl, below_alloc _ _⟩)
  refine (long_call a n c s _ hb).mono ?_; rintro e w1 ⟨rfl, hb1⟩
  have K := Lib.hid (K0.out.keep hb1)
  clear hb1 K0
  rw [hlong]
  obtain ⟨q0, q1, q2, q3, q4, q5, q6, q7, q8, q9, qa⟩ := eleven K.out.1
  have hlt := lt_of_block K.out.1
  go_wp2_with fail
  refine (awake_call _).mono ?_; rintro e w1 ⟨rfl, hb1⟩
  replace K := Lib.hid (K.out.keep hb1)
  clear hb1 q0 q1 q2 q3 q4 q5 q6 q7 q8 q9 qa hlt
  obtain ⟨q0, q1, q2, q3, q4, q5, q6, q7, q8, q9, qa⟩ := eleven K.out.1
  have hlt := lt_of_block K.out.1
  go_wp2_with fail
  go_ret
  exact ⟨rfl, K.out.2⟩

set_option maxRecDepth 100000 in
set_option maxHeartbeats 8000000 in
theorem list_bad (a : Option Addr) (n c : Nat) (s : RulesMath.Set) (z v z' v' t fl k : Int) (dn : Bool) (w : World) (h : Ints w a n s.rs) (hn : n ≤ 20) (hE : setE s = 1) :
    Calls Try.prog 6 #[scnV a n c s z v z' v' t fl k, .bool dn] w (BPost true w) := by
  have HL := Lib.hid h
  have hb := h.bound
  have HN := Lib.hid h.len
  have hlong : decide (20 < n) = false := by first | exact decide_eq_true hn | exact decide_eq_false (by omega)
  have HE := Lib.hid hE
  clear hn hE
  clear h
  unfold scnV
  go_enter Try.func6, Try.ntmps6
  go_wp2_with fail
  have K0 := Lib.hid (show LiK w (scnC a n c s z v z' v' t fl k) (w.alloc (.cells (scnC a n c s z v z' v' t fl k) 28)) from ⟨block_new _ _ rfl, below_alloc _ _⟩)
  refine (long_call a n c s _ hb).mono ?_; rintro e w1 ⟨rfl, hb1⟩
  have K := Lib.hid (K0.out.keep hb1)
  clear hb1 K0
  rw [hlong]
  obtain ⟨q0, q1, q2, q3, q4, q5, q6, q7, q8, q9, qa⟩ := eleven K.out.1
  have hlt := lt_of_block K.out.1
  go_wp2_with fail
  refine (pCheckS a n c s _ (HL.out.below K.out.2)).mono ?_; rintro e w1 ⟨rfl, hb1⟩
  replace K := Lib.hid (K.out.keep hb1)
  clear hb1 q0 q1 q2 q3 q4 q5 q6 q7 q8 q9 qa hlt
  rw [HE.out]
  obtain ⟨q0, q1, q2, q3, q4, q5, q6, q7, q8, q9, qa⟩ := eleven K.out.1
  have hlt := lt_of_block K.out.1
  go_wp2_with fail
  refine (awake_call _).mono ?_; rintro e w1 ⟨rfl, hb1⟩
  replace K := Lib.hid (K.out.keep hb1)
  clear hb1 q0 q1 q2 q3 q4 q5 q6 q7 q8 q9 qa hlt
  obtain ⟨q0, q1, q2, q3, q4, q5, q6, q7, q8, q9, qa⟩ := eleven K.out.1
  have hlt := lt_of_block K.out.1
  go_wp2_with fail
  go_ret
  exact ⟨rfl, K.out.2⟩

set_option maxRecDepth 100000 in
set_option maxHeartbeats 8000000 in
theorem list_t0 (a : Option Addr) (n c : Nat) (s : RulesMath.Set) (z v z' v' t fl k : Int) (dn : Bool) (w : World) (h : Ints w a n s.rs) (hn : n ≤ 20) (hE : setE s = 0) (ht : t < 0) :
    Calls Try.prog 6 #[scnV a n c s z v z' v' t fl k, .bool dn] w (BPost true w) := by
  have HL := Lib.hid h
  have hb := h.bound
  have HN := Lib.hid h.len
  have hlong : decide (20 < n) = false := by first | exact decide_eq_true hn | exact decide_eq_false (by omega)
  have HE := Lib.hid hE
  clear hn hE
  clear h
  unfold scnV
  go_enter Try.func6, Try.ntmps6
  go_wp2_with fail
  have K0 := Lib.hid (show LiK w (scnC a n c s z v z' v' t fl k) (w.alloc (.cells (scnC a n c s z v z' v' t fl k) 28)) from ⟨block_new _ _ rfl, below_alloc _ _⟩)
  refine (long_call a n c s _ hb).mono ?_; rintro e w1 ⟨rfl, hb1⟩
  have K := Lib.hid (K0.out.keep hb1)
  clear hb1 K0
  rw [hlong]
  obtain ⟨q0, q1, q2, q3, q4, q5, q6, q7, q8, q9, qa⟩ := eleven K.out.1
  have hlt := lt_of_block K.out.1
  go_wp2_with fail
  refine (pCheckS a n c s _ (HL.out.below K.out.2)).mono ?_; rintro e w1 ⟨rfl, hb1⟩
  replace K := Lib.hid (K.out.keep hb1)
  clear hb1 q0 q1 q2 q3 q4 q5 q6 q7 q8 q9 qa hlt
  rw [HE.out]
  obtain ⟨q0, q1, q2, q3, q4, q5, q6, q7, q8, q9, qa⟩ := eleven K.out.1
  have hlt := lt_of_block K.out.1
  go_wp2_with fail
  refine (awake_call _).mono ?_; rintro e w1 ⟨rfl, hb1⟩
  replace K := Lib.hid (K.out.keep hb1)
  clear hb1 q0 q1 q2 q3 q4 q5 q6 q7 q8 q9 qa hlt
  obtain ⟨q0, q1, q2, q3, q4, q5, q6, q7, q8, q9, qa⟩ := eleven K.out.1
  have hlt := lt_of_block K.out.1
  go_wp2_with fail
  go_ret
  exact ⟨rfl, K.out.2⟩

set_option maxRecDepth 100000 in
set_option maxHeartbeats 8000000 in
theorem list_t1 (a : Option Addr) (n c : Nat) (s : RulesMath.Set) (z v z' v' t fl k : Int) (dn : Bool) (w : World) (h : Ints w a n s.rs) (hn : n ≤ 20) (hE : setE s = 0) (ht0 : ¬ t < 0) (ht : 120 < t) :
    Calls Try.prog 6 #[scnV a n c s z v z' v' t fl k, .bool dn] w (BPost true w) := by
  have HL := Lib.hid h
  have hb := h.bound
  have HN := Lib.hid h.len
  have hlong : decide (20 < n) = false := by first | exact decide_eq_true hn | exact decide_eq_false (by omega)
  have HE := Lib.hid hE
  clear hn hE
  clear h
  unfold scnV
  go_enter Try.func6, Try.ntmps6
  go_wp2_with fail
  have K0 := Lib.hid (show LiK w (scnC a n c s z v z' v' t fl k) (w.alloc (.cells (scnC a n c s z v z' v' t fl k) 28)) from ⟨block_new _ _ rfl, below_alloc _ _⟩)
  refine (long_call a n c s _ hb).mono ?_; rintro e w1 ⟨rfl, hb1⟩
  have K := Lib.hid (K0.out.keep hb1)
  clear hb1 K0
  rw [hlong]
  obtain ⟨q0, q1, q2, q3, q4, q5, q6, q7, q8, q9, qa⟩ := eleven K.out.1
  have hlt := lt_of_block K.out.1
  go_wp2_with fail
  refine (pCheckS a n c s _ (HL.out.below K.out.2)).mono ?_; rintro e w1 ⟨rfl, hb1⟩
  replace K := Lib.hid (K.out.keep hb1)
  clear hb1 q0 q1 q2 q3 q4 q5 q6 q7 q8 q9 qa hlt
  rw [HE.out]
  obtain ⟨q0, q1, q2, q3, q4, q5, q6, q7, q8, q9, qa⟩ := eleven K.out.1
  have hlt := lt_of_block K.out.1
  go_wp2_with fail
  refine (awake_call _).mono ?_; rintro e w1 ⟨rfl, hb1⟩
  replace K := Lib.hid (K.out.keep hb1)
  clear hb1 q0 q1 q2 q3 q4 q5 q6 q7 q8 q9 qa hlt
  obtain ⟨q0, q1, q2, q3, q4, q5, q6, q7, q8, q9, qa⟩ := eleven K.out.1
  have hlt := lt_of_block K.out.1
  go_wp2_with fail
  go_ret
  exact ⟨rfl, K.out.2⟩

set_option maxRecDepth 100000 in
set_option maxHeartbeats 8000000 in
theorem list_reach (a : Option Addr) (n c : Nat) (s : RulesMath.Set) (z v z' v' t fl k : Int) (dn : Bool) (w : World) (h : Ints w a n s.rs) (hn : n ≤ 20) (hE : setE s = 0) (ht0 : ¬ t < 0) (ht : ¬ 120 < t) (hR : rchE z v s.pl t ≠ 0) :
    Calls Try.prog 6 #[scnV a n c s z v z' v' t fl k, .bool dn] w (BPost true w) := by
  have HL := Lib.hid h
  have hb := h.bound
  have HN := Lib.hid h.len
  have hlong : decide (20 < n) = false := by first | exact decide_eq_true hn | exact decide_eq_false (by omega)
  have HE := Lib.hid hE
  have HR := Lib.hid hR
  have hr : (rchE z v s.pl t != 0) = true := bne_iff_ne.2 hR
  clear hn hE hR
  clear h
  unfold scnV
  go_enter Try.func6, Try.ntmps6
  go_wp2_with fail
  have K0 := Lib.hid (show LiK w (scnC a n c s z v z' v' t fl k) (w.alloc (.cells (scnC a n c s z v z' v' t fl k) 28)) from ⟨block_new _ _ rfl, below_alloc _ _⟩)
  refine (long_call a n c s _ hb).mono ?_; rintro e w1 ⟨rfl, hb1⟩
  have K := Lib.hid (K0.out.keep hb1)
  clear hb1 K0
  rw [hlong]
  obtain ⟨q0, q1, q2, q3, q4, q5, q6, q7, q8, q9, qa⟩ := eleven K.out.1
  have hlt := lt_of_block K.out.1
  go_wp2_with fail
  refine (pCheckS a n c s _ (HL.out.below K.out.2)).mono ?_; rintro e w1 ⟨rfl, hb1⟩
  replace K := Lib.hid (K.out.keep hb1)
  clear hb1 q0 q1 q2 q3 q4 q5 q6 q7 q8 q9 qa hlt
  rw [HE.out]
  obtain ⟨q0, q1, q2, q3, q4, q5, q6, q7, q8, q9, qa⟩ := eleven K.out.1
  have hlt := lt_of_block K.out.1
  go_wp2_with fail
  refine (awake_call _).mono ?_; rintro e w1 ⟨rfl, hb1⟩
  replace K := Lib.hid (K.out.keep hb1)
  clear hb1 q0 q1 q2 q3 q4 q5 q6 q7 q8 q9 qa hlt
  obtain ⟨q0, q1, q2, q3, q4, q5, q6, q7, q8, q9, qa⟩ := eleven K.out.1
  have hlt := lt_of_block K.out.1
  go_wp2_with fail
  refine (Reach_call z v s.pl t _).mono ?_; rintro e w1 ⟨rfl, hb1⟩
  replace K := Lib.hid (K.out.keep hb1)
  clear hb1 q0 q1 q2 q3 q4 q5 q6 q7 q8 q9 qa hlt
  obtain ⟨q0, q1, q2, q3, q4, q5, q6, q7, q8, q9, qa⟩ := eleven K.out.1
  have hlt := lt_of_block K.out.1
  go_wp2_with fail
  go_ret
  exact ⟨rfl, K.out.2⟩

set_option maxRecDepth 100000 in
set_option maxHeartbeats 8000000 in
theorem list_other (a : Option Addr) (n c : Nat) (s : RulesMath.Set) (z v z' v' t fl k : Int) (dn : Bool) (w : World) (h : Ints w a n s.rs) (hn : n ≤ 20) (hE : setE s = 0) (ht0 : ¬ t < 0) (ht : ¬ 120 < t) (hR : rchE z v s.pl t = 0) (hO : stE z' v' = 1) :
    Calls Try.prog 6 #[scnV a n c s z v z' v' t fl k, .bool dn] w (BPost true w) := by
  have HL := Lib.hid h
  have hb := h.bound
  have HN := Lib.hid h.len
  have hlong : decide (20 < n) = false := by first | exact decide_eq_true hn | exact decide_eq_false (by omega)
  have HE := Lib.hid hE
  have HR := Lib.hid hR
  have HO := Lib.hid hO
  clear hn hE hR hO
  clear h
  unfold scnV
  go_enter Try.func6, Try.ntmps6
  go_wp2_with fail
  have K0 := Lib.hid (show LiK w (scnC a n c s z v z' v' t fl k) (w.alloc (.cells (scnC a n c s z v z' v' t fl k) 28)) from ⟨block_new _ _ rfl, below_alloc _ _⟩)
  refine (long_call a n c s _ hb).mono ?_; rintro e w1 ⟨rfl, hb1⟩
  have K := Lib.hid (K0.out.keep hb1)
  clear hb1 K0
  rw [hlong]
  obtain ⟨q0, q1, q2, q3, q4, q5, q6, q7, q8, q9, qa⟩ := eleven K.out.1
  have hlt := lt_of_block K.out.1
  go_wp2_with fail
  refine (pCheckS a n c s _ (HL.out.below K.out.2)).mono ?_; rintro e w1 ⟨rfl, hb1⟩
  replace K := Lib.hid (K.out.keep hb1)
  clear hb1 q0 q1 q2 q3 q4 q5 q6 q7 q8 q9 qa hlt
  rw [HE.out]
  obtain ⟨q0, q1, q2, q3, q4, q5, q6, q7, q8, q9, qa⟩ := eleven K.out.1
  have hlt := lt_of_block K.out.1
  go_wp2_with fail
  refine (awake_call _).mono ?_; rintro e w1 ⟨rfl, hb1⟩
  replace K := Lib.hid (K.out.keep hb1)
  clear hb1 q0 q1 q2 q3 q4 q5 q6 q7 q8 q9 qa hlt
  obtain ⟨q0, q1, q2, q3, q4, q5, q6, q7, q8, q9, qa⟩ := eleven K.out.1
  have hlt := lt_of_block K.out.1
  go_wp2_with fail
  refine (Reach_call z v s.pl t _).mono ?_; rintro e w1 ⟨rfl, hb1⟩
  rw [HR.out]
  replace K := Lib.hid (K.out.keep hb1)
  clear hb1 q0 q1 q2 q3 q4 q5 q6 q7 q8 q9 qa hlt
  obtain ⟨q0, q1, q2, q3, q4, q5, q6, q7, q8, q9, qa⟩ := eleven K.out.1
  have hlt := lt_of_block K.out.1
  go_wp2_with fail
  refine (Check_call z' v' _).mono ?_; rintro e w1 ⟨rfl, hb1⟩
  replace K := Lib.hid (K.out.keep hb1)
  clear hb1 q0 q1 q2 q3 q4 q5 q6 q7 q8 q9 qa hlt
  rw [HO.out]
  obtain ⟨q0, q1, q2, q3, q4, q5, q6, q7, q8, q9, qa⟩ := eleven K.out.1
  have hlt := lt_of_block K.out.1
  go_wp2_with fail
  go_ret
  exact ⟨rfl, K.out.2⟩

set_option maxRecDepth 100000 in
set_option maxHeartbeats 8000000 in
theorem list_true (a : Option Addr) (n c : Nat) (s : RulesMath.Set) (z v z' v' t fl k : Int) (w : World) (h : Ints w a n s.rs) (hn : n ≤ 20) (hE : setE s = 0) (ht0 : ¬ t < 0) (ht : ¬ 120 < t) (hR : rchE z v s.pl t = 0) (hO : stE z' v' = 0) :
    Calls Try.prog 6 #[scnV a n c s z v z' v' t fl k, .bool true] w (BPost true w) := by
  have HL := Lib.hid h
  have hb := h.bound
  have HN := Lib.hid h.len
  have hlong : decide (20 < n) = false := by first | exact decide_eq_true hn | exact decide_eq_false (by omega)
  have HE := Lib.hid hE
  have HR := Lib.hid hR
  have HO := Lib.hid hO
  have HP := Lib.hid (show plnE s z v z' v' = 0 from by unfold plnE; rw [if_neg (by rw [hE]; decide), if_neg (by rw [(show stE z v = 0 from by unfold stE; rw [rch_st hR]; rfl)]; decide)]; exact hO)
  have hT : 0 ≤ t ∧ t ≤ 120 := by omega
  have HS := Lib.hid (fun (i : Nat) (hi : i ≤ s.rs.length) => sepR_pln (g := 2) HP.out hT (by decide) hi)
  have HM := Lib.hid (fun (i : Nat) (hi : i < s.rs.length) => list_le (z' := z') (v' := v') hE hR hT (g := 2) (by decide) hi)
  have HS0 := Lib.hid (HS.out 0 (Nat.zero_le _))
  clear hn hE hR hO hT
  clear h
  unfold scnV
  go_enter Try.func6, Try.ntmps6
  go_wp2_with fail
  have K0 := Lib.hid (show LiK w (scnC a n c s z v z' v' t fl k) (w.alloc (.cells (scnC a n c s z v z' v' t fl k) 28)) from ⟨block_new _ _ rfl, below_alloc _ _⟩)
  refine (long_call a n c s _ hb).mono ?_; rintro e w1 ⟨rfl, hb1⟩
  have K := Lib.hid (K0.out.keep hb1)
  clear hb1 K0
  rw [hlong]
  obtain ⟨q0, q1, q2, q3, q4, q5, q6, q7, q8, q9, qa⟩ := eleven K.out.1
  have hlt := lt_of_block K.out.1
  go_wp2_with fail
  refine (pCheckS a n c s _ (HL.out.below K.out.2)).mono ?_; rintro e w1 ⟨rfl, hb1⟩
  replace K := Lib.hid (K.out.keep hb1)
  clear hb1 q0 q1 q2 q3 q4 q5 q6 q7 q8 q9 qa hlt
  rw [HE.out]
  obtain ⟨q0, q1, q2, q3, q4, q5, q6, q7, q8, q9, qa⟩ := eleven K.out.1
  have hlt := lt_of_block K.out.1
  go_wp2_with fail
  refine (awake_call _).mono ?_; rintro e w1 ⟨rfl, hb1⟩
  replace K := Lib.hid (K.out.keep hb1)
  clear hb1 q0 q1 q2 q3 q4 q5 q6 q7 q8 q9 qa hlt
  obtain ⟨q0, q1, q2, q3, q4, q5, q6, q7, q8, q9, qa⟩ := eleven K.out.1
  have hlt := lt_of_block K.out.1
  go_wp2_with fail
  refine (Reach_call z v s.pl t _).mono ?_; rintro e w1 ⟨rfl, hb1⟩
  rw [HR.out]
  replace K := Lib.hid (K.out.keep hb1)
  clear hb1 q0 q1 q2 q3 q4 q5 q6 q7 q8 q9 qa hlt
  obtain ⟨q0, q1, q2, q3, q4, q5, q6, q7, q8, q9, qa⟩ := eleven K.out.1
  have hlt := lt_of_block K.out.1
  go_wp2_with fail
  refine (Check_call z' v' _).mono ?_; rintro e w1 ⟨rfl, hb1⟩
  replace K := Lib.hid (K.out.keep hb1)
  clear hb1 q0 q1 q2 q3 q4 q5 q6 q7 q8 q9 qa hlt
  rw [HO.out]
  obtain ⟨q0, q1, q2, q3, q4, q5, q6, q7, q8, q9, qa⟩ := eleven K.out.1
  have hlt := lt_of_block K.out.1
  go_wp2_with fail
  refine (lsep_call a n c s z v z' v' t fl k ⟨2, 0, true⟩ _ (HL.out.below K.out.2) (by decide)).mono ?_; rintro e w1 ⟨rfl, hb1⟩
  replace K := Lib.hid (K.out.keep hb1)
  clear hb1 q0 q1 q2 q3 q4 q5 q6 q7 q8 q9 qa hlt
  rw [show sepR s z v z' v' ⟨2, 0, true⟩ t = sepV s z v z' v' (ga (lstL s 2) 0) t from HS0.out]
  go_wp2_with fail
  go_loopw [9, 10] (fun lv iv wr => ∃ j : Nat, j ≤ n ∧ iv = .int .i64 j ∧ lv = .int .i64 (sepV s z v z' v' (ga (lstL s 2) j) t) ∧ LiK w (scnC a n c s z v z' v' t fl k) wr) (fun _ iv _ => n - (intOf iv).toNat)
  case atStart => exact ⟨0, Nat.zero_le _, rfl, rfl, K.out⟩
  case round =>
    clear K
    obtain ⟨j, hj, rfl, rfl, K⟩ := hrel
    obtain ⟨q0, q1, q2, q3, q4, q5, q6, q7, q8, q9, qa⟩ := eleven K.1
    by_cases hlt : j < n
    · obtain ⟨b, off, rfl, x0⟩ := ints_at (HL.out.below K.2) hlt
      have HX := Lib.hid (HS.out (j + 1) (by rw [HN.out]; omega))
      have hx := HM.out j (by rw [HN.out]; omega)
      have e2 := lst_succ s 2 j (by rw [HN.out]; exact hlt)
      rw [e2] at HX
      rw [e2] at hx
      have HE2 := Lib.hid e2
      clear e2
      have hk0 : (0 : Int) ≤ (j : Int) := by omega
      have hk1 : (j : Int) < (n : Int) := by omega
      go_wp2_with fail
      replace K := K.keep ((Below.refl wr.heap.size wr).drew)
      go_region_held3 (fun w' => w'.cell? ⟨b, off + j, none⟩ = some (.int .i64 (gr s.rs j)) ∧ w'.cell? ⟨w.heap.size, 0, none⟩ = some (.slice (some ⟨b, off, none⟩) n c) ∧ w'.cell? ⟨w.heap.size, 1, none⟩ = some (.int .i64 s.alim) ∧ w'.cell? ⟨w.heap.size, 2, none⟩ = some (.int .i64 s.d) ∧ w'.cell? ⟨w.heap.size, 3, none⟩ = some (.int .i64 s.pl) ∧ w'.cell? ⟨w.heap.size, 4, none⟩ = some (.int .i64 z) ∧ w'.cell? ⟨w.heap.size, 5, none⟩ = some (.int .i64 v) ∧ w'.cell? ⟨w.heap.size, 6, none⟩ = some (.int .i64 z') ∧ w'.cell? ⟨w.heap.size, 7, none⟩ = some (.int .i64 v') ∧ w'.cell? ⟨w.heap.size, 8, none⟩ = some (.int .i64 t) ∧ w'.cell? ⟨w.heap.size, 9, none⟩ = some (.int .i64 fl) ∧ w'.cell? ⟨w.heap.size, 10, none⟩ = some (.int .u8 k))
        (exact ⟨K.rate HL.out hlt rfl, eleven K.1⟩)
        ((go_at_call 21; refine (lsep_call (some ⟨b, off, none⟩) n c s z v z' v' t fl k ⟨2, gr s.rs j, false⟩ _ (HL.out.below K.2) (show (0 : Int) ≤ 2 from by decide)).mono ?_; rintro e w3 ⟨rfl, hb3⟩; rw [HX.out]; replace K := K.keep hb3; clear hb3))
      all_goals
        have KB := Lib.hid K
        clear K
        clear q0 q1 q2 q3 q4 q5 q6 q7 q8 q9 qa x0
        go_wp2_with fail
        go_roundw
        case rel => exact ⟨j + 1, by omega, by go_num, by rw [HE2.out], KB.out⟩
        case measure => simp [intOf]; omega
    · obtain rfl : j = n := by omega
      have KB := Lib.hid K
      clear K
      go_wp2_with fail
      go_ret
      exact ⟨rfl, KB.out.2⟩

set_option maxRecDepth 100000 in
set_option maxHeartbeats 8000000 in
theorem list_false (a : Option Addr) (n c : Nat) (s : RulesMath.Set) (z v z' v' t fl k : Int) (w : World) (h : Ints w a n s.rs) (hn : n ≤ 20) (hE : setE s = 0) (ht0 : ¬ t < 0) (ht : ¬ 120 < t) (hR : rchE z v s.pl t = 0) (hO : stE z' v' = 0) :
    Calls Try.prog 6 #[scnV a n c s z v z' v' t fl k, .bool false] w (BPost true w) := by
  have HL := Lib.hid h
  have hb := h.bound
  have HN := Lib.hid h.len
  have hlong : decide (20 < n) = false := by first | exact decide_eq_true hn | exact decide_eq_false (by omega)
  have HE := Lib.hid hE
  have HR := Lib.hid hR
  have HO := Lib.hid hO
  have HP := Lib.hid (show plnE s z v z' v' = 0 from by unfold plnE; rw [if_neg (by rw [hE]; decide), if_neg (by rw [(show stE z v = 0 from by unfold stE; rw [rch_st hR]; rfl)]; decide)]; exact hO)
  have hT : 0 ≤ t ∧ t ≤ 120 := by omega
  have HS := Lib.hid (fun (i : Nat) (hi : i ≤ s.rs.length) => sepR_pln (g := 1) HP.out hT (by decide) hi)
  have HM := Lib.hid (fun (i : Nat) (hi : i < s.rs.length) => list_le (z' := z') (v' := v') hE hR hT (g := 1) (by decide) hi)
  have HS0 := Lib.hid (HS.out 0 (Nat.zero_le _))
  clear hn hE hR hO hT
  clear h
  unfold scnV
  go_enter Try.func6, Try.ntmps6
  go_wp2_with fail
  have K0 := Lib.hid (show LiK w (scnC a n c s z v z' v' t fl k) (w.alloc (.cells (scnC a n c s z v z' v' t fl k) 28)) from ⟨block_new _ _ rfl, below_alloc _ _⟩)
  refine (long_call a n c s _ hb).mono ?_; rintro e w1 ⟨rfl, hb1⟩
  have K := Lib.hid (K0.out.keep hb1)
  clear hb1 K0
  rw [hlong]
  obtain ⟨q0, q1, q2, q3, q4, q5, q6, q7, q8, q9, qa⟩ := eleven K.out.1
  have hlt := lt_of_block K.out.1
  go_wp2_with fail
  refine (pCheckS a n c s _ (HL.out.below K.out.2)).mono ?_; rintro e w1 ⟨rfl, hb1⟩
  replace K := Lib.hid (K.out.keep hb1)
  clear hb1 q0 q1 q2 q3 q4 q5 q6 q7 q8 q9 qa hlt
  rw [HE.out]
  obtain ⟨q0, q1, q2, q3, q4, q5, q6, q7, q8, q9, qa⟩ := eleven K.out.1
  have hlt := lt_of_block K.out.1
  go_wp2_with fail
  refine (awake_call _).mono ?_; rintro e w1 ⟨rfl, hb1⟩
  replace K := Lib.hid (K.out.keep hb1)
  clear hb1 q0 q1 q2 q3 q4 q5 q6 q7 q8 q9 qa hlt
  obtain ⟨q0, q1, q2, q3, q4, q5, q6, q7, q8, q9, qa⟩ := eleven K.out.1
  have hlt := lt_of_block K.out.1
  go_wp2_with fail
  refine (Reach_call z v s.pl t _).mono ?_; rintro e w1 ⟨rfl, hb1⟩
  rw [HR.out]
  replace K := Lib.hid (K.out.keep hb1)
  clear hb1 q0 q1 q2 q3 q4 q5 q6 q7 q8 q9 qa hlt
  obtain ⟨q0, q1, q2, q3, q4, q5, q6, q7, q8, q9, qa⟩ := eleven K.out.1
  have hlt := lt_of_block K.out.1
  go_wp2_with fail
  refine (Check_call z' v' _).mono ?_; rintro e w1 ⟨rfl, hb1⟩
  replace K := Lib.hid (K.out.keep hb1)
  clear hb1 q0 q1 q2 q3 q4 q5 q6 q7 q8 q9 qa hlt
  rw [HO.out]
  obtain ⟨q0, q1, q2, q3, q4, q5, q6, q7, q8, q9, qa⟩ := eleven K.out.1
  have hlt := lt_of_block K.out.1
  go_wp2_with fail
  refine (lsep_call a n c s z v z' v' t fl k ⟨1, 0, true⟩ _ (HL.out.below K.out.2) (by decide)).mono ?_; rintro e w1 ⟨rfl, hb1⟩
  replace K := Lib.hid (K.out.keep hb1)
  clear hb1 q0 q1 q2 q3 q4 q5 q6 q7 q8 q9 qa hlt
  rw [show sepR s z v z' v' ⟨1, 0, true⟩ t = sepV s z v z' v' (ga (lstL s 1) 0) t from HS0.out]
  go_wp2_with fail
  go_loopw [9, 10] (fun lv iv wr => ∃ j : Nat, j ≤ n ∧ iv = .int .i64 j ∧ lv = .int .i64 (sepV s z v z' v' (ga (lstL s 1) j) t) ∧ LiK w (scnC a n c s z v z' v' t fl k) wr) (fun _ iv _ => n - (intOf iv).toNat)
  case atStart => exact ⟨0, Nat.zero_le _, rfl, rfl, K.out⟩
  case round =>
    clear K
    obtain ⟨j, hj, rfl, rfl, K⟩ := hrel
    obtain ⟨q0, q1, q2, q3, q4, q5, q6, q7, q8, q9, qa⟩ := eleven K.1
    by_cases hlt : j < n
    · obtain ⟨b, off, rfl, x0⟩ := ints_at (HL.out.below K.2) hlt
      have HX := Lib.hid (HS.out (j + 1) (by rw [HN.out]; omega))
      have hx := HM.out j (by rw [HN.out]; omega)
      have e2 := lst_succ s 1 j (by rw [HN.out]; exact hlt)
      rw [e2] at HX
      rw [e2] at hx
      have HE2 := Lib.hid e2
      clear e2
      have hk0 : (0 : Int) ≤ (j : Int) := by omega
      have hk1 : (j : Int) < (n : Int) := by omega
      go_wp2_with fail
      replace K := K.keep ((Below.refl wr.heap.size wr).drew)
      go_region_held3 (fun w' => w'.cell? ⟨b, off + j, none⟩ = some (.int .i64 (gr s.rs j)) ∧ w'.cell? ⟨w.heap.size, 0, none⟩ = some (.slice (some ⟨b, off, none⟩) n c) ∧ w'.cell? ⟨w.heap.size, 1, none⟩ = some (.int .i64 s.alim) ∧ w'.cell? ⟨w.heap.size, 2, none⟩ = some (.int .i64 s.d) ∧ w'.cell? ⟨w.heap.size, 3, none⟩ = some (.int .i64 s.pl) ∧ w'.cell? ⟨w.heap.size, 4, none⟩ = some (.int .i64 z) ∧ w'.cell? ⟨w.heap.size, 5, none⟩ = some (.int .i64 v) ∧ w'.cell? ⟨w.heap.size, 6, none⟩ = some (.int .i64 z') ∧ w'.cell? ⟨w.heap.size, 7, none⟩ = some (.int .i64 v') ∧ w'.cell? ⟨w.heap.size, 8, none⟩ = some (.int .i64 t) ∧ w'.cell? ⟨w.heap.size, 9, none⟩ = some (.int .i64 fl) ∧ w'.cell? ⟨w.heap.size, 10, none⟩ = some (.int .u8 k))
        (exact ⟨K.rate HL.out hlt rfl, eleven K.1⟩)
        ((go_at_call 21; refine (lsep_call (some ⟨b, off, none⟩) n c s z v z' v' t fl k ⟨1, gr s.rs j, false⟩ _ (HL.out.below K.2) (show (0 : Int) ≤ 1 from by decide)).mono ?_; rintro e w3 ⟨rfl, hb3⟩; rw [HX.out]; replace K := K.keep hb3; clear hb3))
      all_goals
        have KB := Lib.hid K
        clear K
        clear q0 q1 q2 q3 q4 q5 q6 q7 q8 q9 qa x0
        go_wp2_with fail
        go_roundw
        case rel => exact ⟨j + 1, by omega, by go_num, by rw [HE2.out], KB.out⟩
        case measure => simp [intOf]; omega
    · obtain rfl : j = n := by omega
      have KB := Lib.hid K
      clear K
      go_wp2_with fail
      go_ret
      exact ⟨rfl, KB.out.2⟩

theorem rulesList_call (a : Option Addr) (n c : Nat) (s : RulesMath.Set) (z v z' v' t fl k : Int) (dn : Bool) (w : World) (h : Ints w a n s.rs) :
    Calls Try.prog 6 #[scnV a n c s z v z' v' t fl k, .bool dn] w (BPost true w) := by
  by_cases hn : n ≤ 20
  · rcases setE_vals s with hE | hE
    · by_cases ht0 : t < 0
      · exact list_t0 a n c s z v z' v' t fl k dn w h hn hE ht0
      · by_cases ht : 120 < t
        · exact list_t1 a n c s z v z' v' t fl k dn w h hn hE ht0 ht
        · by_cases hR : rchE z v s.pl t = 0
          · rcases stE_le z' v' with hO | hO
            · cases dn with
              | true => exact list_true a n c s z v z' v' t fl k w h hn hE ht0 ht hR hO
              | false => exact list_false a n c s z v z' v' t fl k w h hn hE ht0 ht hR hO
            · exact list_other a n c s z v z' v' t fl k dn w h hn hE ht0 ht hR hO
          · exact list_reach a n c s z v z' v' t fl k dn w h hn hE ht0 ht hR
    · exact list_bad a n c s z v z' v' t fl k dn w h hn hE
  · exact list_long a n c s z v z' v' t fl k dn w h (by omega)
end Go.Proofs.Ytfgalaalopkclaa
