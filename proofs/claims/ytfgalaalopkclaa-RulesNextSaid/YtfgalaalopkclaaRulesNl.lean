/-
  Layer 38 (rules): the law Next, the walk.
-/
import Derived.Test.YtfgalaalopkclaaRulesP
import Derived.Test.YtfgalaalopkclaaRulesQ
import Derived.Test.YtfgalaalopkclaaRulesNj
namespace Go.Proofs.Ytfgalaalopkclaa
open Go.RowKit PlaneMath PilotMath RulesMath MyHeap MyOwn MyCopy

set_option maxRecDepth 100000 in
theorem nst_eql (s r g : Int) (k q : Bool) (w : World) : (binOp .eql 60 (.agg #[.int .u8 s, .int .i64 r, .bool k, .int .i64 g, .bool q]) (.agg #[.int .u8 s, .int .i64 r, .bool k, .int .i64 g, .bool q])).run Try.prog w = .ok (.bool true) w := by
  have u3 := Try.underlying3
  have a3 := Try.isAgg3
  have z3 := Try.sizeOf3
  have u5 := Try.underlying5
  have a5 := Try.isAgg5
  have z5 := Try.sizeOf5
  have u4 := Try.underlying4
  have a4 := Try.isAgg4
  have z4 := Try.sizeOf4
  have aA := Try.isAgg30
  have zA := Try.sizeOf30
  have hS : Try.prog.underlying 60 = some (.struct (Try.prog.fieldsOf 60)) := by kernel_rfl
  have hp : Try.prog.stoodInHeld 60 = false := by kernel_rfl
  rw [run_eql_struct, show (10000 : Nat) = 9998 + 1 + 1 from rfl, run_equalIn_agg w (9998 + 1) 60 _ _ hS hp]
  clear hS hp
  simp only [Program.fieldsOf, Try.underlying60]
  go_simp
theorem nst_guard (op : BinOp) (x y : Operand) (xs ys : Array Value) (w : World) : (eqGuard op 60 x y (.agg xs) (.agg ys)).run Try.prog w = .ok () w := run_eqGuard_agg w op _ x y xs ys (by kernel_rfl)

/-- In the law Next: the case, the state, and nothing of w0 written. -/
def LnK (w0 : World) (C S : Array Value) (W : World) : Prop := W.heap[w0.heap.size]? = some (.cells C 28 (0, 0)) ∧ W.heap[w0.heap.size + 1]? = some (.cells S 57 (0, 0)) ∧ Below w0.heap.size w0 W
theorem LnK.keep {w0 W W' : World} {C S : Array Value} (h : LnK w0 C S W) (hb : Below W.heap.size W W') : LnK w0 C S W' := ⟨keepO hb h.1, keepO hb h.2.1, h.2.2.trans (hb.mono h.2.2.size)⟩

set_option maxRecDepth 100000 in
set_option maxHeartbeats 8000000 in
theorem nextLaw (a : Option Addr) (n c : Nat) (s : RulesMath.Set) (z v z' v' t fl k : Int) (st : NSt) (w : World) (h : Ints w a n s.rs) (hs : 0 ≤ st.a.s) (hn : n ≤ 20) :
    Calls Try.prog 7 #[scnV a n c s z v z' v' t fl k, nstV st] w (BPost true w) := by
  have HL := Lib.hid h
  have HS := Lib.hid hs
  have hb := h.bound
  have hlong : decide (20 < n) = false := decide_eq_false (by omega)
  clear h hs
  unfold scnV nstV
  go_enter Try.func7, Try.ntmps7
  go_wp2_with fail
  have K0 := Lib.hid (show LnK w (scnC a n c s z v z' v' t fl k) (nstC st) ((w.alloc (.cells (scnC a n c s z v z' v' t fl k) 28)).alloc (.cells (nstC st) 57)) from ⟨block_alloc (block_new _ _ rfl), block_new _ _ (by simp), (below_alloc _ _).alloc (by simp) _⟩)
  refine (long_call a n c s _ hb).mono ?_; rintro e w1 ⟨rfl, hb1⟩
  rw [hlong]
  have K1 := Lib.hid (K0.out.keep hb1)
  clear hb1 K0
  obtain ⟨q0, q1, q2, q3, q4, q5, q6, q7, q8, q9, qa⟩ := eleven K1.out.1
  obtain ⟨s0, s1, s2, s3, s4⟩ := five_cells K1.out.2.1
  have hl0 := lt_of_block K1.out.1
  have hl1 := lt_of_block K1.out.2.1
  go_wp2_with fail
  refine (pNext_call a n c s z v z' v' t fl k st _ (HL.out.below K1.out.2.2) HS.out).mono ?_; rintro e w2 ⟨rfl, hb2⟩
  have K2 := Lib.hid (K1.out.keep hb2)
  clear hb2 K1 q0 q1 q2 q3 q4 q5 q6 q7 q8 q9 qa s0 s1 s2 s3 s4 hl0 hl1
  unfold nstV
  obtain ⟨q0, q1, q2, q3, q4, q5, q6, q7, q8, q9, qa⟩ := eleven K2.out.1
  obtain ⟨s0, s1, s2, s3, s4⟩ := five_cells K2.out.2.1
  have hl0 := lt_of_block K2.out.1
  have hl1 := lt_of_block K2.out.2.1
  go_wp2_with fail
  have K3 := Lib.hid (And.intro (K2.out.keep (below_alloc w2 (.cells (nstC (nxR s z v z' v' t fl k st)) 57))) (show (w2.alloc (.cells (nstC (nxR s z v z' v' t fl k st)) 57)).heap[w2.heap.size]? = some (.cells (nstC (nxR s z v z' v' t fl k st)) 57 (0, 0)) from block_new _ _ rfl))
  refine (rNext_call a n c s z v z' v' t fl k st _ (HL.out.below K3.out.1.2.2) HS.out).mono ?_; rintro e w3 ⟨rfl, hb3⟩
  have K4 := Lib.hid (And.intro (K3.out.1.keep hb3) (keepO hb3 K3.out.2))
  clear hb3 K3 K2 q0 q1 q2 q3 q4 q5 q6 q7 q8 q9 qa s0 s1 s2 s3 s4 hl0 hl1
  generalize nxR s z v z' v' t fl k st = R at *
  generalize nxE s z v z' v' t fl k st = E at *
  have hee : (E == E) = true := by simp
  have ng := nst_eql
  have gd := nst_guard
  have hl2 := lt_of_block K4.out.2
  obtain ⟨x0, x1, x2, x3, x4⟩ := five_cells K4.out.2
  unfold nstV
  go_wp2_with fail
  have K5 := Lib.hid (K4.out.1.keep (below_alloc w3 (.cells (nstC R) 60)))
  refine (awake_call _).mono ?_; rintro e w5 ⟨rfl, hb5⟩
  have K6 := Lib.hid (K5.out.keep hb5)
  clear hb5
  go_wp2_with fail
  go_ret
  exact ⟨rfl, K6.out.2.2⟩

set_option maxRecDepth 100000 in
set_option maxHeartbeats 4000000 in
theorem nextLaw_long (a : Option Addr) (n c : Nat) (s : RulesMath.Set) (z v z' v' t fl k : Int) (st : NSt) (w : World) (hb : n ≤ 9223372036854775807) (hn : 20 < n) :
    Calls Try.prog 7 #[scnV a n c s z v z' v' t fl k, nstV st] w (BPost true w) := by
  have hlong : decide (20 < n) = true := decide_eq_true hn
  unfold scnV nstV
  go_enter Try.func7, Try.ntmps7
  go_wp2_with fail
  have hB := (below_alloc w (.cells (scnC a n c s z v z' v' t fl k) 28)).alloc (by simp) (.cells (nstC st) 57)
  refine (long_call a n c s _ hb).mono ?_; rintro e w1 ⟨rfl, hb1⟩
  rw [hlong]
  have H1 := Lib.hid (hB.trans (hb1.mono hB.size))
  clear hB hb1
  go_wp2_with fail
  refine (awake_call _).mono ?_; rintro e w2 ⟨rfl, hb2⟩
  have H2 := Lib.hid (H1.out.trans (hb2.mono H1.out.size))
  clear hb2 H1
  go_wp2_with fail
  go_ret
  exact ⟨rfl, H2.out⟩
theorem rulesNext_call (a : Option Addr) (n c : Nat) (s : RulesMath.Set) (z v z' v' t fl k : Int) (st : NSt) (w : World) (h : Ints w a n s.rs) (hs : 0 ≤ st.a.s) :
    Calls Try.prog 7 #[scnV a n c s z v z' v' t fl k, nstV st] w (BPost true w) := by
  by_cases hn : n ≤ 20
  · exact nextLaw a n c s z v z' v' t fl k st w h hs hn
  · exact nextLaw_long a n c s z v z' v' t fl k st w h.bound (by omega)
end Go.Proofs.Ytfgalaalopkclaa
