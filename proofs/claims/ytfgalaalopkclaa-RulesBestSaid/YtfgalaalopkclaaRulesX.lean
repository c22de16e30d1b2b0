/-
  Layer 38 (rules): the law Best, the walk. Printed by genRulesX.py.
-/
import Derived.Test.YtfgalaalopkclaaRulesT
import Derived.Test.YtfgalaalopkclaaRulesLaw
import Derived.Deep.DeepCutAuto
import Derived.BigQuiet
import Derived.Test.YtfgalaalopkclaaCopyStep
namespace Go.Proofs.Ytfgalaalopkclaa
open Go.RowKit PlaneMath PilotMath RulesMath MyHeap MyOwn MyCopy

/-- In Best: the case, the answer, and nothing of w0 written. -/
def BeK (w0 : World) (C : Array Value) (W : World) : Prop := W.heap[w0.heap.size]? = some (.cells C 28 (0, 0)) ∧ Below w0.heap.size w0 W
def BeA (w0 : World) (C : Array Value) (bA : Nat) (y : Adv) (W : World) : Prop := BeK w0 C W ∧ w0.heap.size < bA ∧ W.heap[bA]? = some (advO y)
section
variable {w0 W W' : World} {C : Array Value} {bA : Nat} {y : Adv}
theorem BeK.keep (h : BeK w0 C W) (hb : Below W.heap.size W W') : BeK w0 C W' := ⟨keepO hb h.1, h.2.trans (hb.mono h.2.size)⟩
theorem BeA.keep (h : BeA w0 C bA y W) (hb : Below W.heap.size W W') : BeA w0 C bA y W' := ⟨h.1.keep hb, h.2.1, keepO hb h.2.2⟩
theorem BeA.below (h : BeA w0 C bA y W) (hb : Below (bA + 1) W W') : BeA w0 C bA y W' := by
  have h1 := lt_of_block h.1.1
  have h2 := lt_of_block h.2.2
  have h3 := h.2.1
  exact ⟨⟨(hb.block _ (by omega)).trans h.1.1, h.1.2.trans (hb.mono (by omega))⟩, h.2.1, (hb.block _ (by omega)).trans h.2.2⟩
end
theorem grownBx {w w' : World} {base bA : Nat} {e : TypeId} {size : Nat} {v : Value} {n : Nat} {xs : List Value} (h : w.ownsRow base e size v n xs) (hg : w.grownBy w' v.ownBlock) (hB : bA < base) (hs : bA + 1 ≤ w.heap.size) : Below (bA + 1) w w' :=
  ⟨hg.os, hg.tape, hg.output, hg.size, fun q hq => hg.block q (by omega) (fun e => by have := (h.lt _ e.symm).1; omega)⟩
theorem size_le {W : World} {o : Obj} {n : Nat} (h : n ≤ W.heap.size) : n ≤ (W.alloc o).heap.size := by rw [World.size_alloc]; omega
theorem BeA.three {w0 W : World} {n c j b off bA : Nat} {g : Int} {s : RulesMath.Set} {z v z' v' t fl k : Int} {y : Adv} (h : BeA w0 (scnC (some ⟨b, off, none⟩) n c s z v z' v' t fl k) bA y W) (hI : Ints w0 (some ⟨b, off, none⟩) n s.rs) (hs : y.s = g) (hj : j < n) :
    W.cell? ⟨b, off + j, none⟩ = some (.int .i64 (gr s.rs j)) ∧ W.cell? ⟨w0.heap.size, 0, none⟩ = some (.slice (some ⟨b, off, none⟩) n c) ∧ W.cell? ⟨bA, 0, none⟩ = some (.int .u8 g) := by
  obtain ⟨b', off', e, h'⟩ := ints_at (hI.below h.1.2) hj
  cases e
  exact ⟨h', (eleven h.1.1).1, by rw [← hs]; exact (three_old' h.2.2).1⟩
/-- What is known of the answer: an advisory of its sense's list, the first that is enough, or the last one. -/
structure Bst (s : RulesMath.Set) (z v z' v' t g : Int) (m : Nat) (y : Adv) : Prop where
  le : m ≤ s.rs.length
  eq : y = ga (lstL s g) m
  lows : ∀ i, i < m → sepV s z v z' v' (ga (lstL s g) i) t < s.alim
  fit : s.alim ≤ sepV s z v z' v' y t ∨ m = s.rs.length
theorem bst_of {s : RulesMath.Set} {z v z' v' t fl k : Int} (h : chE s z v z' v' t fl k = 0) : ∃ m, Bst s z v z' v' t (chG s z v z' v' t fl k) m (chR s z v z' v' t fl k) := by
  obtain ⟨m, h1, h2, h3, h4⟩ := enA_at s z v z' v' (chG s z v z' v' t fl k) t
  obtain ⟨_, _, e⟩ := ch_ok h
  exact ⟨m, h1, by rw [e, h2], h3, by rw [e, h2]; exact h4⟩

set_option maxRecDepth 100000 in
set_option maxHeartbeats 8000000 in
theorem best_long (a : Option Addr) (n c : Nat) (s : RulesMath.Set) (z v z' v' t fl k : Int) (w : World) (h : Ints w a n s.rs) (hn : 20 < n) :
    Calls Try.prog 4 #[scnV a n c s z v z' v' t fl k] w (BPost true w) := by
  have HL := Lib.hid h
  have hb := h.bound
  have HN := Lib.hid h.len
  have hlong : decide (20 < n) = true := by first | exact decide_eq_true hn | exact decide_eq_false (by omega)
  clear hn
  clear h
  unfold scnV
  go_enter Try.func4, Try.ntmps4
  go_wp2_with fail
  have K0 := Lib.hid (show BeK w (scnC a n c s z v z' v' t fl k) (w.alloc (.cells (scnC a n c s z v z' v' t fl k) 28)) from ⟨block_new _ _ rfl, below_alloc _ _⟩)
  refine (long_call a n c s _ hb).mono ?_; rintro e w1 ⟨rfl, hb1⟩
  have K := Lib.hid (K0.out.keep hb1)
  clear hb1 K0
  rw [hlong]
  obtain ⟨q0, q1, q2, q3, q4, q5, q6, q7, q8, q9, qa⟩ := eleven K.out.1
  have hlt := lt_of_block K.out.1
  go_wp2_with fail
  refine (awake_call _).mono ?_; rintro e w1 ⟨rfl, hb1⟩
  replace K := Lib.hid (K.out.keep hb1)
  clear hb1 q0 q1 q2 q3 q4 q5 q6 q7 q8 q9 qa hlt
  obtain ⟨q0, q1, q2, q3, q4, q5, q6, q7, q8, q9, qa⟩ := eleven K.out.1
  have hlt := lt_of_block K.out.1
  go_wp2_with fail
  go_ret
  exact ⟨rfl, K.out.2⟩

set_option maxRecDepth 100000 in
set_option maxHeartbeats 8000000 in
theorem best_none (a : Option Addr) (n c : Nat) (s : RulesMath.Set) (z v z' v' t fl k : Int) (w : World) (h : Ints w a n s.rs) (hn : n ≤ 20) (hE : chE s z v z' v' t fl k ≠ 0) (h9 : chE s z v z' v' t fl k = 9) :
    Calls Try.prog 4 #[scnV a n c s z v z' v' t fl k] w (BPost true w) := by
  have HL := Lib.hid h
  have hb := h.bound
  have HN := Lib.hid h.len
  have hlong : decide (20 < n) = false := by first | exact decide_eq_true hn | exact decide_eq_false (by omega)
  have HE := Lib.hid hE
  have H9 := Lib.hid h9
  have HR := Lib.hid (ch_err hE).1
  have HU := Lib.hid ((ch_err hE).2 h9).1
  have HD := Lib.hid ((ch_err hE).2 h9).2
  clear hn hE h9
  clear h
  unfold scnV
  go_enter Try.func4, Try.ntmps4
  go_wp2_with fail
  have K0 := Lib.hid (show BeK w (scnC a n c s z v z' v' t fl k) (w.alloc (.cells (scnC a n c s z v z' v' t fl k) 28)) from ⟨block_new _ _ rfl, below_alloc _ _⟩)
  refine (long_call a n c s _ hb).mono ?_; rintro e w1 ⟨rfl, hb1⟩
  have K := Lib.hid (K0.out.keep hb1)
  clear hb1 K0
  rw [hlong]
  obtain ⟨q0, q1, q2, q3, q4, q5, q6, q7, q8, q9, qa⟩ := eleven K.out.1
  have hlt := lt_of_block K.out.1
  go_wp2_with fail
  refine (awake_call _).mono ?_; rintro e w1 ⟨rfl, hb1⟩
  replace K := Lib.hid (K.out.keep hb1)
  clear hb1 q0 q1 q2 q3 q4 q5 q6 q7 q8 q9 qa hlt
  obtain ⟨q0, q1, q2, q3, q4, q5, q6, q7, q8, q9, qa⟩ := eleven K.out.1
  have hlt := lt_of_block K.out.1
  go_wp2_with fail
  refine (lchoose_call a n c s z v z' v' t fl k _ (HL.out.below K.out.2)).mono ?_; rintro e w1 ⟨rfl, hb1⟩
  replace K := Lib.hid (K.out.keep hb1)
  clear hb1 q0 q1 q2 q3 q4 q5 q6 q7 q8 q9 qa hlt
  rw [HR.out]
  obtain ⟨q0, q1, q2, q3, q4, q5, q6, q7, q8, q9, qa⟩ := eleven K.out.1
  have hlt := lt_of_block K.out.1
  go_upto_region 4 with fail
  have KA := Lib.hid (show BeA w (scnC a n c s z v z' v' t fl k) w1.heap.size adv0 (w1.alloc (.cells #[.int .u8 adv0.s, .int .i64 adv0.r, .bool adv0.k] 30)) from ⟨K.out.keep (below_alloc _ _), hlt, block_new _ _ rfl⟩)
  clear K q0 q1 q2 q3 q4 q5 q6 q7 q8 q9 qa hlt
  generalize hE1 : chE s z v z' v' t fl k = E at *
  have ng := adv_eql
  have gd := adv_guard
  have e1 : (E != 0) = true := bne_iff_ne.2 HE.out
  obtain ⟨y0, y1, y2⟩ := three_old' KA.out.2.2
  obtain ⟨q0, q1, q2, q3, q4, q5, q6, q7, q8, q9, qa⟩ := eleven KA.out.1.1
  obtain ⟨h1, h2⟩ := And.intro (lt_of_block KA.out.1.1) (lt_of_block KA.out.2.2)
  have e9 : (E != 9) = false := by simpa using H9.out
  have HEE := Lib.hid (And.intro hE1 H9.out)
  clear hE1
  go_wp2_with fail
  have K := Lib.hid KA.out
  refine (lallowed_call a n c s z v z' v' t fl k 1 _ (by decide)).mono ?_; rintro e w2 ⟨rfl, hb2⟩
  rw [HU.out]
  have K2 := Lib.hid (K.out.keep hb2)
  clear hb2 K KA y0 y1 y2 q0 q1 q2 q3 q4 q5 q6 q7 q8 q9 qa h1 h2
  obtain ⟨q0, q1, q2, q3, q4, q5, q6, q7, q8, q9, qa⟩ := eleven K2.out.1.1
  have h1 := lt_of_block K2.out.1.1
  go_wp2_with fail
  refine (lallowed_call a n c s z v z' v' t fl k 2 _ (by decide)).mono ?_; rintro e w3 ⟨rfl, hb3⟩
  rw [HD.out]
  have K3 := Lib.hid (K2.out.keep hb3)
  clear hb3 K2
  go_wp2_with fail
  go_ret
  exact ⟨rfl, K3.out.1.2⟩

set_option maxRecDepth 100000 in
set_option maxHeartbeats 8000000 in
theorem best_err (a : Option Addr) (n c : Nat) (s : RulesMath.Set) (z v z' v' t fl k : Int) (w : World) (h : Ints w a n s.rs) (hn : n ≤ 20) (hE : chE s z v z' v' t fl k ≠ 0) (h9 : chE s z v z' v' t fl k ≠ 9) :
    Calls Try.prog 4 #[scnV a n c s z v z' v' t fl k] w (BPost true w) := by
  have HL := Lib.hid h
  have hb := h.bound
  have HN := Lib.hid h.len
  have hlong : decide (20 < n) = false := by first | exact decide_eq_true hn | exact decide_eq_false (by omega)
  have HE := Lib.hid hE
  have H9 := Lib.hid h9
  have HR := Lib.hid (ch_err hE).1
  clear hn hE h9
  clear h
  unfold scnV
  go_enter Try.func4, Try.ntmps4
  go_wp2_with fail
  have K0 := Lib.hid (show BeK w (scnC a n c s z v z' v' t fl k) (w.alloc (.cells (scnC a n c s z v z' v' t fl k) 28)) from ⟨block_new _ _ rfl, below_alloc _ _⟩)
  refine (long_call a n c s _ hb).mono ?_; rintro e w1 ⟨rfl, hb1⟩
  have K := Lib.hid (K0.out.keep hb1)
  clear hb1 K0
  rw [hlong]
  obtain ⟨q0, q1, q2, q3, q4, q5, q6, q7, q8, q9, qa⟩ := eleven K.out.1
  have hlt := lt_of_block K.out.1
  go_wp2_with fail
  refine (awake_call _).mono ?_; rintro e w1 ⟨rfl, hb1⟩
  replace K := Lib.hid (K.out.keep hb1)
  clear hb1 q0 q1 q2 q3 q4 q5 q6 q7 q8 q9 qa hlt
  obtain ⟨q0, q1, q2, q3, q4, q5, q6, q7, q8, q9, qa⟩ := eleven K.out.1
  have hlt := lt_of_block K.out.1
  go_wp2_with fail
  refine (lchoose_call a n c s z v z' v' t fl k _ (HL.out.below K.out.2)).mono ?_; rintro e w1 ⟨rfl, hb1⟩
  replace K := Lib.hid (K.out.keep hb1)
  clear hb1 q0 q1 q2 q3 q4 q5 q6 q7 q8 q9 qa hlt
  rw [HR.out]
  obtain ⟨q0, q1, q2, q3, q4, q5, q6, q7, q8, q9, qa⟩ := eleven K.out.1
  have hlt := lt_of_block K.out.1
  go_upto_region 4 with fail
  have KA := Lib.hid (show BeA w (scnC a n c s z v z' v' t fl k) w1.heap.size adv0 (w1.alloc (.cells #[.int .u8 adv0.s, .int .i64 adv0.r, .bool adv0.k] 30)) from ⟨K.out.keep (below_alloc _ _), hlt, block_new _ _ rfl⟩)
  clear K q0 q1 q2 q3 q4 q5 q6 q7 q8 q9 qa hlt
  generalize hE1 : chE s z v z' v' t fl k = E at *
  have ng := adv_eql
  have gd := adv_guard
  have e1 : (E != 0) = true := bne_iff_ne.2 HE.out
  obtain ⟨y0, y1, y2⟩ := three_old' KA.out.2.2
  obtain ⟨q0, q1, q2, q3, q4, q5, q6, q7, q8, q9, qa⟩ := eleven KA.out.1.1
  obtain ⟨h1, h2⟩ := And.intro (lt_of_block KA.out.1.1) (lt_of_block KA.out.2.2)
  have e9 : (E != 9) = true := bne_iff_ne.2 H9.out
  have HEE := Lib.hid hE1
  clear hE1
  go_wp2_with fail
  go_ret
  exact ⟨rfl, KA.out.1.2⟩

set_option maxRecDepth 100000 in
set_option maxHeartbeats 8000000 in
theorem best_g1 (a : Option Addr) (n c : Nat) (s : RulesMath.Set) (z v z' v' t fl k : Int) (w : World) (h : Ints w a n s.rs) (hn : n ≤ 20) (hE : chE s z v z' v' t fl k = 0) (hG : chG s z v z' v' t fl k = 1) :
    Calls Try.prog 4 #[scnV a n c s z v z' v' t fl k] w (BPost true w) := by
  have HL := Lib.hid h
  have hb := h.bound
  have HN := Lib.hid h.len
  have hlong : decide (20 < n) = false := by first | exact decide_eq_true hn | exact decide_eq_false (by omega)
  have HE := Lib.hid hE
  have HW := Lib.hid (ch_ok hE).1
  obtain ⟨m, hB⟩ := bst_of hE
  rw [hG] at hB
  have HB := Lib.hid hB
  have HS := Lib.hid (fun (i : Nat) (hi : i ≤ s.rs.length) => sepR_lst (g := 1) HW.out (by decide) hi)
  have HAsc := Lib.hid (setE_zero (plnE_ok (RulesMath.whlE_ok HW.out).1).1).2
  have hn1 : 1 ≤ n := by rw [← HN.out]; exact (n_pos HW.out).1
  have hn8 : n ≤ 8 := by rw [← HN.out]; exact (n_pos HW.out).2
  have HQ := Lib.hid (show alwB z fl k 1 = true ∧ (alwB z fl k 2 = true → (sepR s z v z' v' (lastA s 1) t < sepR s z v z' v' (lastA s 2) t → False) ∧ (sepR s z v z' v' (lastA s 2) t = sepR s z v z' v' (lastA s 1) t → (1 : Int) = 1)) from by
    rw [sepR_last HW.out (g := 1) (by decide), sepR_last HW.out (g := 2) (by decide)]
    have := chG_one hG
    refine ⟨this.1, fun h2 => ?_⟩
    have := this.2 h2
    refine ⟨fun h3 => by omega, fun h3 => by omega⟩)
  obtain ⟨i0, hi, hiz, his, hib⟩ := info_parts infoAdv
  have HI := Lib.hid (And.intro hi (And.intro hiz (And.intro his hib)))
  have hs0 : (chR s z v z' v' t fl k).s = 1 := by rw [hB.eq]; exact RulesMath.lst_s s 1 m hB.le
  have HS0 := Lib.hid hs0
  have ng := adv_eql
  have gd := adv_guard
  clear hi hiz his hib hn hE hG hB hs0
  clear h
  unfold scnV
  go_enter Try.func4, Try.ntmps4
  go_wp2_with fail
  have K0 := Lib.hid (show BeK w (scnC a n c s z v z' v' t fl k) (w.alloc (.cells (scnC a n c s z v z' v' t fl k) 28)) from ⟨block_new _ _ rfl, below_alloc _ _⟩)
  refine (long_call a n c s _ hb).mono ?_; rintro e w1 ⟨rfl, hb1⟩
  have K := Lib.hid (K0.out.keep hb1)
  clear hb1 K0
  rw [hlong]
  obtain ⟨q0, q1, q2, q3, q4, q5, q6, q7, q8, q9, qa⟩ := eleven K.out.1
  have hlt := lt_of_block K.out.1
  go_wp2_with fail
  refine (awake_call _).mono ?_; rintro e w1 ⟨rfl, hb1⟩
  replace K := Lib.hid (K.out.keep hb1)
  clear hb1 q0 q1 q2 q3 q4 q5 q6 q7 q8 q9 qa hlt
  obtain ⟨q0, q1, q2, q3, q4, q5, q6, q7, q8, q9, qa⟩ := eleven K.out.1
  have hlt := lt_of_block K.out.1
  go_wp2_with fail
  refine (lchoose_call a n c s z v z' v' t fl k _ (HL.out.below K.out.2)).mono ?_; rintro e w1 ⟨rfl, hb1⟩
  replace K := Lib.hid (K.out.keep hb1)
  clear hb1 q0 q1 q2 q3 q4 q5 q6 q7 q8 q9 qa hlt
  rw [HE.out]
  generalize hR : chR s z v z' v' t fl k = R at *
  obtain ⟨q0, q1, q2, q3, q4, q5, q6, q7, q8, q9, qa⟩ := eleven K.out.1
  have hlt := lt_of_block K.out.1
  go_upto_region 4 with fail
  have KA := Lib.hid (show BeA w (scnC a n c s z v z' v' t fl k) w1.heap.size R (w1.alloc (.cells #[.int .u8 R.s, .int .i64 R.r, .bool R.k] 30)) from ⟨K.out.keep (below_alloc _ _), hlt, block_new _ _ rfl⟩)
  clear K q0 q1 q2 q3 q4 q5 q6 q7 q8 q9 qa hlt
  have HR := Lib.hid hR
  clear hR
  generalize hbA : w1.heap.size = bA at *
  generalize w1.alloc (.cells #[.int .u8 R.s, .int .i64 R.r, .bool R.k] 30) = w2 at *
  clear hbA
  obtain ⟨q0, q1, q2, q3, q4, q5, q6, q7, q8, q9, qa⟩ := eleven KA.out.1.1
  obtain ⟨y0, y1, y2⟩ := three_old' KA.out.2.2
  rw [show R.s = 1 from HS0.out] at y0
  obtain ⟨h1, h2⟩ := And.intro (lt_of_block KA.out.1.1) (lt_of_block KA.out.2.2)
  have hn0 : ((n : Int) == 0) = false := by simp; omega
  go_wp2_with fail
  refine (lallowed_call a n c s z v z' v' t fl k 1 _ (by decide)).mono ?_; rintro e w3 ⟨rfl, hb3⟩
  rw [HQ.out.1]
  have KB := Lib.hid (KA.out.keep hb3)
  clear hb3 KA y0 y1 y2 q0 q1 q2 q3 q4 q5 q6 q7 q8 q9 qa h1 h2
  obtain ⟨q0, q1, q2, q3, q4, q5, q6, q7, q8, q9, qa⟩ := eleven KB.out.1.1
  obtain ⟨y0, y1, y2⟩ := three_old' KB.out.2.2
  rw [show R.s = 1 from HS0.out] at y0
  obtain ⟨h1, h2⟩ := And.intro (lt_of_block KB.out.1.1) (lt_of_block KB.out.2.2)
  go_wp2_with fail
  refine (lallowed_call a n c s z v z' v' t fl k 2 _ (by decide)).mono ?_; rintro e w4 ⟨rfl, hb4⟩
  have KC := Lib.hid (KB.out.keep hb4)
  clear hb4 KB y0 y1 y2 q0 q1 q2 q3 q4 q5 q6 q7 q8 q9 qa h1 h2
  go_upto_if 70 with fail
  go_cut [5] (fun s5 wx => BeA w (scnC a n c s z v z' v' t fl k) bA R wx)
  case first =>
    cases hT : alwB z fl k 2
    · go_wp2_with fail
      go_meet
      exact KC.out
    · have HT := Lib.hid hT
      clear hT
      obtain ⟨p1, p2⟩ := HQ.out.2 HT.out
      have P1 := Lib.hid p1
      have P2 := Lib.hid p2
      clear p1 p2
      go_upto_region 10 with fail
      have K : BeA w (scnC a n c s z v z' v' t fl k) bA R w4.drew := KC.out.keep ((Below.refl _ _).drew)
      go_region_held3 (fun w' => (w'.cell? ⟨w.heap.size, 0, none⟩ = some (.slice a n c) ∧ w'.cell? ⟨w.heap.size, 1, none⟩ = some (.int .i64 s.alim) ∧ w'.cell? ⟨w.heap.size, 2, none⟩ = some (.int .i64 s.d) ∧ w'.cell? ⟨w.heap.size, 3, none⟩ = some (.int .i64 s.pl) ∧ w'.cell? ⟨w.heap.size, 4, none⟩ = some (.int .i64 z) ∧ w'.cell? ⟨w.heap.size, 5, none⟩ = some (.int .i64 v) ∧ w'.cell? ⟨w.heap.size, 6, none⟩ = some (.int .i64 z') ∧ w'.cell? ⟨w.heap.size, 7, none⟩ = some (.int .i64 v') ∧ w'.cell? ⟨w.heap.size, 8, none⟩ = some (.int .i64 t) ∧ w'.cell? ⟨w.heap.size, 9, none⟩ = some (.int .i64 fl) ∧ w'.cell? ⟨w.heap.size, 10, none⟩ = some (.int .u8 k)) ∧ w'.cell? ⟨bA, 0, none⟩ = some (.int .u8 1)) (exact ⟨eleven K.1.1, by rw [← HS0.out]; exact (three_old' K.2.2).1⟩)
        (first
          | (go_at_call 22; refine (strongest_call a n c s z v z' v' t fl k _ _ (HL.out.below K.1.2) hn1).mono ?_; rintro e w9 ⟨rfl, hb9⟩; replace K := K.keep hb9; clear hb9)
          | (go_at_call 21; refine (lsep_call a n c s z v z' v' t fl k _ _ (HL.out.below K.1.2) (by first | exact (by decide : (0 : Int) ≤ 1) | exact (by decide : (0 : Int) ≤ 2))).mono ?_; rintro e w9 ⟨rfl, hb9⟩; replace K := K.keep hb9; clear hb9))
      all_goals
        generalize hX : sepR s z v z' v' (lastA s 1) t = X at *
        generalize hY : sepR s z v z' v' (lastA s 2) t = Y at *
        have HXY := Lib.hid (And.intro hX hY)
        clear hX hY
        obtain ⟨y0, _, _⟩ := three_old' K.2.2
        rw [show R.s = 1 from HS0.out] at y0
        have HK := Lib.hid K
        clear K
        have hlt : decide (X < Y) = false := decide_eq_false (fun e => P1.out e)
        by_cases hq : Y = X
        · have hq2 : (Y == X) = true := by simpa using hq
          have HQ2 := Lib.hid (P2.out hq)
          clear hq
          go_wp2_with fail
          go_meet
          exact HK.out
        · have hq2 : (Y == X) = false := by simpa using hq
          clear hq
          go_wp2_with fail
          go_meet
          exact HK.out
  case rest =>
    clear KC
    have KC := Lib.hid hcut
    clear hcut
    obtain ⟨q0, q1, q2, q3, q4, q5, q6, q7, q8, q9, qa⟩ := eleven KC.out.1.1
    obtain ⟨y0, y1, y2⟩ := three_old' KC.out.2.2
    rw [show R.s = 1 from HS0.out] at y0
    obtain ⟨h1, h2⟩ := And.intro (lt_of_block KC.out.1.1) (lt_of_block KC.out.2.2)
    go_wp2_with fail
    have hO : (wc.alloc (.cells #[.int .u8 1, .int .i64 0, .bool true] 30)).ownsRow wc.heap.size 30 3 (.slice (some ⟨wc.heap.size, 0, none⟩) 1 1) 1 [.int .u8 1, .int .i64 0, .bool true] := ownedBlock3 (block_new _ _ rfl) (Nat.le_refl _)
    have H0 := Lib.hid (And.intro (KC.out.keep (below_alloc wc (.cells #[.int .u8 1, .int .i64 0, .bool true] 30))) hO)
    clear hO
    have hbc : bA < wc.heap.size := h2
    clear q0 q1 q2 q3 q4 q5 q6 q7 q8 q9 qa y0 y1 y2 h1 h2 KC
    go_loopw [8, 9] (fun lv iv wr => ∃ j : Nat, j ≤ n ∧ iv = .int .i64 j ∧ BeA w (scnC a n c s z v z' v' t fl k) bA R wr ∧ wr.ownsRow wc.heap.size 30 3 lv (j + 1) (flat3 ((lstL s 1).take (j + 1))) ∧ wc.heap.size ≤ wr.heap.size) (fun _ iv _ => n - (intOf iv).toNat)
    case atStart => exact ⟨0, Nat.zero_le _, rfl, H0.out.1, H0.out.2, by simp⟩
    case round =>
      clear H0
      obtain ⟨j, hj, rfl, hA, hO, hz⟩ := hrel
      have HA := Lib.hid hA
      have HO := Lib.hid hO
      obtain ⟨q0, -, -, -, -, -, -, -, -, -, -⟩ := eleven hA.1.1
      by_cases hlt : j < n
      · obtain ⟨b, off, rfl, x0⟩ := ints_at (HL.out.below hA.1.2) hlt
        have hk0 : (0 : Int) ≤ (j : Int) := by omega
        have hk1 : (j : Int) < (n : Int) := by omega
        have HT := Lib.hid (lst_take s 1 j (by rw [HN.out]; exact hlt))
        have y0 : wr.cell? ⟨bA, 0, none⟩ = some (.int .u8 1) := by rw [← HS0.out]; exact (three_old' hA.2.2).1
        clear hA hO
        go_wp2_with fail
        have K : BeA w (scnC (some ⟨b, off, none⟩) n c s z v z' v' t fl k) bA R wr.drew := HA.out.keep ((Below.refl _ _).drew)
        have hzr : wc.heap.size ≤ wr.drew.heap.size := hz
        have hbz : bA + 1 ≤ wr.drew.heap.size := Nat.le_trans hbc hz
        have HO1 := Lib.hid (show wr.drew.ownsRow wc.heap.size 30 3 u8 (j + 1) (flat3 ((lstL s 1).take (j + 1))) from HO.out)
        go_region_held3 (fun w' => w'.cell? ⟨b, off + j, none⟩ = some (.int .i64 (gr s.rs j)) ∧ w'.cell? ⟨w.heap.size, 0, none⟩ = some (.slice (some ⟨b, off, none⟩) n c) ∧ w'.cell? ⟨bA, 0, none⟩ = some (.int .u8 1))
          (first | exact K.three HL.out HS0.out hlt | exact (K.keep (below_alloc _ _)).three HL.out HS0.out hlt)
          (first
            | (refine step_append_src (by rfl) (.tmp 107) (.tmp 117) 49 (by rfl) wc.heap.size 30 i0 _ 3 24 Try.underlying49 HI.out.1 HI.out.2.1 HI.out.2.2.1 HI.out.2.2.2 (by rfl) (by decide) _ (j + 1) _ (by rfl) (HO1.out.alloc (.cells #[.int .u8 1, .int .i64 (gr s.rs j), .bool false] 30)) (some ⟨wr.heap.size, 0, none⟩) 1 1 (flat3 [⟨1, gr s.rs j, false⟩]) (by rfl) (fun e => by cases e) (by rfl) (advs_src (advs_block (l := [⟨1, gr s.rs j, false⟩]) (cs := #[.int .u8 1, .int .i64 (gr s.rs j), .bool false]) (T := 30) (fr := (0, 0)) (block_new _ _ rfl) rfl rfl (by show (1 : Nat) ≤ _; decide))) (flat3_cell _) (by unfold maxLen; omega) (by omega) (size_le hzr) ?_; intro v8 w8 hown8 hg8; have hb8 := grownBx (HO1.out.alloc (.cells #[.int .u8 1, .int .i64 (gr s.rs j), .bool false] 30)) hg8 hbc (size_le hbz); have hz8 := hg8.size; replace K := (K.keep (below_alloc _ (.cells #[.int .u8 1, .int .i64 (gr s.rs j), .bool false] 30))).below hb8; have HO8 := Lib.hid hown8; clear hown8 hg8 hb8))
        all_goals
          have KB := Lib.hid K
          clear K y0 x0 q0
          go_wp2_with fail
          go_roundw
          case rel => exact ⟨j + 1, by omega, by go_num, KB.out, by rw [HT.out]; exact HO8.out, by simp at hz8; omega⟩
          case measure => simp [intOf]; omega
      · obtain rfl : j = n := by omega
        have hll := lst_len s 1
        rw [HN.out] at hll
        rw [List.take_of_length_le (by omega), ← hll] at hO
        obtain ⟨aL, cL, rfl, hAd, _, _⟩ := advs_own hO (by omega)
        rw [hll] at hAd ⊢
        have HK := Lib.hid (And.intro hA hAd)
        clear hA hO hAd hll HA HO
        go_wp2_with fail
        go_loopw [10] (fun iv wr => ∃ i : Nat, i ≤ m ∧ iv = .int .i64 i ∧ BeA w (scnC a j c s z v z' v' t fl k) bA R wr ∧ Advs wr aL (j + 1) (lstL s 1)) (fun iv _ => j + 1 - (intOf iv).toNat)
        case atStart => exact ⟨0, Nat.zero_le _, rfl, HK.out.1, HK.out.2⟩
        case round =>
          clear HK
          obtain ⟨i, hi, rfl, hA, hAd⟩ := hrel
          have hmj : m ≤ j := by rw [← HN.out]; exact HB.out.le
          obtain ⟨b, off, rfl, x0, x1, x2⟩ := advs_at hAd (k := i) (by omega)
          have hk0 : (0 : Int) ≤ (i : Int) := by omega
          have hk1 : (i : Int) < (j : Int) + 1 := by omega
          obtain ⟨y0, y1, y2⟩ := three_old' hA.2.2
          have HA := Lib.hid (And.intro hA hAd)
          clear hA hAd
          generalize hX : ga (lstL s 1) i = X at *
          by_cases him : i = m
          · subst him
            have hXR : X = R := by rw [← hX]; exact HB.out.eq.symm
            subst hXR
            have hab := advB_self X
            have HX := Lib.hid hX
            clear hX
            have HM := Lib.hid hmj
            go_wp2_with fail
            go_quiet (fail)
            clear x0 x1 x2 y0 y1 y2
            have HX0 := Lib.hid (show 0 ≤ X.s from by rw [HS0.out]; decide)
            have HSR := Lib.hid (show sepR s z v z' v' X t = sepV s z v z' v' X t from by rw [← HX.out]; exact HS.out i HB.out.le)
            have K : BeA w (scnC a j c s z v z' v' t fl k) bA X (wr.drewN nq).drew ∧ Advs (wr.drewN nq).drew (some ⟨b, off, none⟩) (j + 1) (lstL s 1) := ⟨HA.out.1.keep (below_drewN (Below.refl _ _) nq).drew, HA.out.2.below (below_drewN (Below.refl _ _) nq).drew⟩
            have hj2 : IntKind.i64.wrap ((j : Int) + 1 - 1) = (j : Int) := by rw [Int.add_sub_cancel]; exact IntWalk.i64_in _ (by omega)
            have hj3 : IntKind.i64.wrap (j : Int) = (j : Int) := IntWalk.i64_in _ (by omega)
            have hfit : s.alim ≤ sepV s z v z' v' X t ∨ (¬ s.alim ≤ sepV s z v z' v' X t ∧ i = j) := by
              by_cases h : s.alim ≤ sepV s z v z' v' X t
              · exact Or.inl h
              · exact Or.inr ⟨h, by rw [← HN.out]; exact HB.out.fit.resolve_left h⟩
            have HF := Lib.hid hfit
            clear hfit
            go_wp2_with fail
            rcases HF.out with f | ⟨f, f2⟩
            · have f3 : decide (s.alim ≤ sepV s z v z' v' X t) = true := decide_eq_true f
              clear f
              refine wp_region_held_drew (S := (fun w' => (w'.cell? ⟨w.heap.size, 0, none⟩ = some (.slice a j c) ∧ w'.cell? ⟨w.heap.size, 1, none⟩ = some (.int .i64 s.alim) ∧ w'.cell? ⟨w.heap.size, 2, none⟩ = some (.int .i64 s.d) ∧ w'.cell? ⟨w.heap.size, 3, none⟩ = some (.int .i64 s.pl) ∧ w'.cell? ⟨w.heap.size, 4, none⟩ = some (.int .i64 z) ∧ w'.cell? ⟨w.heap.size, 5, none⟩ = some (.int .i64 v) ∧ w'.cell? ⟨w.heap.size, 6, none⟩ = some (.int .i64 z') ∧ w'.cell? ⟨w.heap.size, 7, none⟩ = some (.int .i64 v') ∧ w'.cell? ⟨w.heap.size, 8, none⟩ = some (.int .i64 t) ∧ w'.cell? ⟨w.heap.size, 9, none⟩ = some (.int .i64 fl) ∧ w'.cell? ⟨w.heap.size, 10, none⟩ = some (.int .u8 k)) ∧ w'.cell? ⟨bA, 0, none⟩ = some (.int .u8 X.s) ∧ w'.cell? ⟨bA, 1, none⟩ = some (.int .i64 X.r) ∧ w'.cell? ⟨bA, 2, none⟩ = some (.bool X.k))) (by kernel_rfl) (by (try dsimp only); (exact ⟨eleven K.1.1.1, three_old' K.1.2.2⟩)) (fun hHeld => ?_)
              refine MyHeld.take 0 (v := ?_) .z (by kernel_rfl) (by kernel_rfl) (by kernel_rfl) (fun _ _ _ h => h) (by rfl) (by assumption) ?_ ?_
              rotate_left
              · intro w hSw; (try dsimp only at hSw); go_simp; (try with_reducible rfl)
              try simp only [Act.put, List.setIfInBounds_toArray, List.set_cons_zero, List.set_cons_succ]
              refine MyHeld.take 1 (v := ?_) (.s .z) (by kernel_rfl) (by kernel_rfl) (by kernel_rfl) (fun _ _ _ h => h) (by rfl) (by assumption) ?_ ?_
              rotate_left
              · intro w hSw; (try dsimp only at hSw); go_simp; (try with_reducible rfl)
              try simp only [Act.put, List.setIfInBounds_toArray, List.set_cons_zero, List.set_cons_succ]
              refine MyHeld.take 3 (v := ?_) (.s (.s (.s .z))) (by kernel_rfl) (by kernel_rfl) (by kernel_rfl) (fun _ _ _ h => h) (by rfl) (by assumption) ?_ ?_
              rotate_left
              · intro w hSw; (try dsimp only at hSw); go_simp; (try with_reducible rfl)
              try simp only [Act.put, List.setIfInBounds_toArray, List.set_cons_zero, List.set_cons_succ]
              refine MyHeld.take 4 (v := ?_) (.s (.s (.s (.s .z)))) (by kernel_rfl) (by kernel_rfl) (by kernel_rfl) (fun _ _ _ h => h) (by rfl) (by assumption) ?_ ?_
              rotate_left
              · intro w hSw; (try dsimp only at hSw); go_simp; (try with_reducible rfl)
              try simp only [Act.put, List.setIfInBounds_toArray, List.set_cons_zero, List.set_cons_succ]
              refine MyHeld.take 5 (v := ?_) (.s (.s (.s (.s (.s .z))))) (by kernel_rfl) (by kernel_rfl) (by kernel_rfl) (fun _ _ _ h => h) (by rfl) (by assumption) ?_ ?_
              rotate_left
              · intro w hSw; (try dsimp only at hSw); go_simp; (try with_reducible rfl)
              try simp only [Act.put, List.setIfInBounds_toArray, List.set_cons_zero, List.set_cons_succ]
              refine wpAnyH_ready (rs := [2]) (by kernel_rfl) (by simp) ?_
              refine (MyHeld.next 2 (.s (.s .z)) (fun Kq hKq => ?_) AllReadyH.nil)
              go_simp
              ((go_at_call 21; refine (lsep_call a j c s z v z' v' t fl k X _ (HL.out.below K.1.1.2) HX0.out).mono ?_; rintro e w3 ⟨rfl, hb3⟩; rw [HSR.out]; replace K := And.intro (K.1.keep hb3) (K.2.below hb3); clear hb3))
              go_wp2_with fail
              refine hKq.out _ _ (by (try dsimp only); (exact ⟨eleven K.1.1.1, three_old' K.1.2.2⟩)) (fun hHeld' => ?_)
              clear hKq Kq hHeld; have hHeld := hHeld'; clear hHeld'
              try simp only [Act.put, List.setIfInBounds_toArray, List.set_cons_zero, List.set_cons_succ]
              refine MyHeld.take 6 (v := ?_) (.s (.s (.s (.s (.s (.s .z)))))) (by kernel_rfl) (by kernel_rfl) (by kernel_rfl) (fun _ _ _ h => h) (by rfl) (by assumption) ?_ ?_
              rotate_left
              · intro w hSw; (try dsimp only at hSw); go_simp; (try with_reducible rfl)
              try simp only [Act.put, List.setIfInBounds_toArray, List.set_cons_zero, List.set_cons_succ]
              refine MyHeld.take 7 (v := ?_) (.s (.s (.s (.s (.s (.s (.s .z))))))) (by kernel_rfl) (by kernel_rfl) (by kernel_rfl) (fun _ _ _ h => h) (by rfl) (by assumption) ?_ ?_
              rotate_left
              · intro w hSw; (try dsimp only at hSw); go_simp; (try with_reducible rfl)
              try simp only [Act.put, List.setIfInBounds_toArray, List.set_cons_zero, List.set_cons_succ]
              refine MyHeld.skip 8 (.s (.s (.s (.s (.s (.s (.s (.s .z)))))))) (by kernel_rfl) (by kernel_rfl) (by kernel_rfl) (fun _ _ _ h => h) (by rfl) (by assumption) ?_
              try simp only [Act.put, List.setIfInBounds_toArray, List.set_cons_zero, List.set_cons_succ]
              refine MyHeld.skip 9 (.s (.s (.s (.s (.s (.s (.s (.s (.s .z))))))))) (by kernel_rfl) (by kernel_rfl) (by kernel_rfl) (fun _ _ _ h => h) (by rfl) (by assumption) ?_
              try simp only [Act.put, List.setIfInBounds_toArray, List.set_cons_zero, List.set_cons_succ]
              refine MyHeld.skip 10 (.s (.s (.s (.s (.s (.s (.s (.s (.s (.s .z)))))))))) (by kernel_rfl) (by kernel_rfl) (by kernel_rfl) (fun _ _ _ h => h) (by rfl) (by assumption) ?_
              try simp only [Act.put, List.setIfInBounds_toArray, List.set_cons_zero, List.set_cons_succ]
              refine MyHeld.skip 11 (.s (.s (.s (.s (.s (.s (.s (.s (.s (.s (.s .z))))))))))) (by kernel_rfl) (by kernel_rfl) (by kernel_rfl) (fun _ _ _ h => h) (by rfl) (by assumption) ?_
              try simp only [Act.put, List.setIfInBounds_toArray, List.set_cons_zero, List.set_cons_succ]
              refine MyHeld.skip 12 (.s (.s (.s (.s (.s (.s (.s (.s (.s (.s (.s (.s .z)))))))))))) (by kernel_rfl) (by kernel_rfl) (by kernel_rfl) (fun _ _ _ h => h) (by rfl) (by assumption) ?_
              try simp only [Act.put, List.setIfInBounds_toArray, List.set_cons_zero, List.set_cons_succ]
              refine MyHeld.take 13 (v := ?_) (.s (.s (.s (.s (.s (.s (.s (.s (.s (.s (.s (.s (.s .z))))))))))))) (by kernel_rfl) (by kernel_rfl) (by kernel_rfl) (fun _ _ _ h => h) (by rfl) (by assumption) ?_ ?_
              rotate_left
              · intro w hSw; (try dsimp only at hSw); go_simp; (try with_reducible rfl)
              try simp only [Act.put, List.setIfInBounds_toArray, List.set_cons_zero, List.set_cons_succ]
              refine MyHeld.take 14 (v := ?_) (.s (.s (.s (.s (.s (.s (.s (.s (.s (.s (.s (.s (.s (.s .z)))))))))))))) (by kernel_rfl) (by kernel_rfl) (by kernel_rfl) (fun _ _ _ h => h) (by rfl) (by assumption) ?_ ?_
              rotate_left
              · intro w hSw; (try dsimp only at hSw); go_simp; (try with_reducible rfl)
              try simp only [Act.put, List.setIfInBounds_toArray, List.set_cons_zero, List.set_cons_succ]
              refine wpAnyH_done (by kernel_rfl) ?_ _
              all_goals go_wp2_with fail
              all_goals go_ret
              all_goals exact ⟨rfl, K.1.1.2⟩
            · have f3 : decide (s.alim ≤ sepV s z v z' v' X t) = false := decide_eq_false (by omega)
              have f4 : ((i : Int) == (j : Int)) = true := by rw [f2]; simp
              have HF2 := Lib.hid f2
              clear f f2
              refine wp_region_held_drew (S := (fun w' => (w'.cell? ⟨w.heap.size, 0, none⟩ = some (.slice a j c) ∧ w'.cell? ⟨w.heap.size, 1, none⟩ = some (.int .i64 s.alim) ∧ w'.cell? ⟨w.heap.size, 2, none⟩ = some (.int .i64 s.d) ∧ w'.cell? ⟨w.heap.size, 3, none⟩ = some (.int .i64 s.pl) ∧ w'.cell? ⟨w.heap.size, 4, none⟩ = some (.int .i64 z) ∧ w'.cell? ⟨w.heap.size, 5, none⟩ = some (.int .i64 v) ∧ w'.cell? ⟨w.heap.size, 6, none⟩ = some (.int .i64 z') ∧ w'.cell? ⟨w.heap.size, 7, none⟩ = some (.int .i64 v') ∧ w'.cell? ⟨w.heap.size, 8, none⟩ = some (.int .i64 t) ∧ w'.cell? ⟨w.heap.size, 9, none⟩ = some (.int .i64 fl) ∧ w'.cell? ⟨w.heap.size, 10, none⟩ = some (.int .u8 k)) ∧ w'.cell? ⟨bA, 0, none⟩ = some (.int .u8 X.s) ∧ w'.cell? ⟨bA, 1, none⟩ = some (.int .i64 X.r) ∧ w'.cell? ⟨bA, 2, none⟩ = some (.bool X.k))) (by kernel_rfl) (by (try dsimp only); (exact ⟨eleven K.1.1.1, three_old' K.1.2.2⟩)) (fun hHeld => ?_)
              refine MyHeld.take 0 (v := ?_) .z (by kernel_rfl) (by kernel_rfl) (by kernel_rfl) (fun _ _ _ h => h) (by rfl) (by assumption) ?_ ?_
              rotate_left
              · intro w hSw; (try dsimp only at hSw); go_simp; (try with_reducible rfl)
              try simp only [Act.put, List.setIfInBounds_toArray, List.set_cons_zero, List.set_cons_succ]
              refine MyHeld.take 1 (v := ?_) (.s .z) (by kernel_rfl) (by kernel_rfl) (by kernel_rfl) (fun _ _ _ h => h) (by rfl) (by assumption) ?_ ?_
              rotate_left
              · intro w hSw; (try dsimp only at hSw); go_simp; (try with_reducible rfl)
              try simp only [Act.put, List.setIfInBounds_toArray, List.set_cons_zero, List.set_cons_succ]
              refine MyHeld.take 3 (v := ?_) (.s (.s (.s .z))) (by kernel_rfl) (by kernel_rfl) (by kernel_rfl) (fun _ _ _ h => h) (by rfl) (by assumption) ?_ ?_
              rotate_left
              · intro w hSw; (try dsimp only at hSw); go_simp; (try with_reducible rfl)
              try simp only [Act.put, List.setIfInBounds_toArray, List.set_cons_zero, List.set_cons_succ]
              refine MyHeld.take 4 (v := ?_) (.s (.s (.s (.s .z)))) (by kernel_rfl) (by kernel_rfl) (by kernel_rfl) (fun _ _ _ h => h) (by rfl) (by assumption) ?_ ?_
              rotate_left
              · intro w hSw; (try dsimp only at hSw); go_simp; (try with_reducible rfl)
              try simp only [Act.put, List.setIfInBounds_toArray, List.set_cons_zero, List.set_cons_succ]
              refine MyHeld.take 5 (v := ?_) (.s (.s (.s (.s (.s .z))))) (by kernel_rfl) (by kernel_rfl) (by kernel_rfl) (fun _ _ _ h => h) (by rfl) (by assumption) ?_ ?_
              rotate_left
              · intro w hSw; (try dsimp only at hSw); go_simp; (try with_reducible rfl)
              try simp only [Act.put, List.setIfInBounds_toArray, List.set_cons_zero, List.set_cons_succ]
              refine wpAnyH_ready (rs := [2]) (by kernel_rfl) (by simp) ?_
              refine (MyHeld.next 2 (.s (.s .z)) (fun Kq hKq => ?_) AllReadyH.nil)
              go_simp
              ((go_at_call 21; refine (lsep_call a j c s z v z' v' t fl k X _ (HL.out.below K.1.1.2) HX0.out).mono ?_; rintro e w3 ⟨rfl, hb3⟩; rw [HSR.out]; replace K := And.intro (K.1.keep hb3) (K.2.below hb3); clear hb3))
              go_wp2_with fail
              refine hKq.out _ _ (by (try dsimp only); (exact ⟨eleven K.1.1.1, three_old' K.1.2.2⟩)) (fun hHeld' => ?_)
              clear hKq Kq hHeld; have hHeld := hHeld'; clear hHeld'
              try simp only [Act.put, List.setIfInBounds_toArray, List.set_cons_zero, List.set_cons_succ]
              refine MyHeld.take 6 (v := ?_) (.s (.s (.s (.s (.s (.s .z)))))) (by kernel_rfl) (by kernel_rfl) (by kernel_rfl) (fun _ _ _ h => h) (by rfl) (by assumption) ?_ ?_
              rotate_left
              · intro w hSw; (try dsimp only at hSw); go_simp; (try with_reducible rfl)
              try simp only [Act.put, List.setIfInBounds_toArray, List.set_cons_zero, List.set_cons_succ]
              refine MyHeld.take 7 (v := ?_) (.s (.s (.s (.s (.s (.s (.s .z))))))) (by kernel_rfl) (by kernel_rfl) (by kernel_rfl) (fun _ _ _ h => h) (by rfl) (by assumption) ?_ ?_
              rotate_left
              · intro w hSw; (try dsimp only at hSw); go_simp; (try with_reducible rfl)
              try simp only [Act.put, List.setIfInBounds_toArray, List.set_cons_zero, List.set_cons_succ]
              refine MyHeld.take 8 (v := ?_) (.s (.s (.s (.s (.s (.s (.s (.s .z)))))))) (by kernel_rfl) (by kernel_rfl) (by kernel_rfl) (fun _ _ _ h => h) (by rfl) (by assumption) ?_ ?_
              rotate_left
              · intro w hSw; (try dsimp only at hSw); go_simp; (try with_reducible rfl)
              try simp only [Act.put, List.setIfInBounds_toArray, List.set_cons_zero, List.set_cons_succ]
              refine MyHeld.take 9 (v := ?_) (.s (.s (.s (.s (.s (.s (.s (.s (.s .z))))))))) (by kernel_rfl) (by kernel_rfl) (by kernel_rfl) (fun _ _ _ h => h) (by rfl) (by assumption) ?_ ?_
              rotate_left
              · intro w hSw; (try dsimp only at hSw); go_simp; (try with_reducible rfl)
              try simp only [Act.put, List.setIfInBounds_toArray, List.set_cons_zero, List.set_cons_succ]
              refine MyHeld.take 10 (v := ?_) (.s (.s (.s (.s (.s (.s (.s (.s (.s (.s .z)))))))))) (by kernel_rfl) (by kernel_rfl) (by kernel_rfl) (fun _ _ _ h => h) (by rfl) (by assumption) ?_ ?_
              rotate_left
              · intro w hSw; (try dsimp only at hSw); go_simp; (try with_reducible rfl)
              try simp only [Act.put, List.setIfInBounds_toArray, List.set_cons_zero, List.set_cons_succ]
              refine MyHeld.take 11 (v := ?_) (.s (.s (.s (.s (.s (.s (.s (.s (.s (.s (.s .z))))))))))) (by kernel_rfl) (by kernel_rfl) (by kernel_rfl) (fun _ _ _ h => h) (by rfl) (by assumption) ?_ ?_
              rotate_left
              · intro w hSw; (try dsimp only at hSw); go_simp; (try with_reducible rfl)
              try simp only [Act.put, List.setIfInBounds_toArray, List.set_cons_zero, List.set_cons_succ]
              refine MyHeld.take 12 (v := ?_) (.s (.s (.s (.s (.s (.s (.s (.s (.s (.s (.s (.s .z)))))))))))) (by kernel_rfl) (by kernel_rfl) (by kernel_rfl) (fun _ _ _ h => h) (by rfl) (by assumption) ?_ ?_
              rotate_left
              · intro w hSw; (try dsimp only at hSw); go_simp; (try with_reducible rfl)
              try simp only [Act.put, List.setIfInBounds_toArray, List.set_cons_zero, List.set_cons_succ]
              refine MyHeld.take 13 (v := ?_) (.s (.s (.s (.s (.s (.s (.s (.s (.s (.s (.s (.s (.s .z))))))))))))) (by kernel_rfl) (by kernel_rfl) (by kernel_rfl) (fun _ _ _ h => h) (by rfl) (by assumption) ?_ ?_
              rotate_left
              · intro w hSw; (try dsimp only at hSw); go_simp; (try with_reducible rfl)
              try simp only [Act.put, List.setIfInBounds_toArray, List.set_cons_zero, List.set_cons_succ]
              refine MyHeld.take 14 (v := ?_) (.s (.s (.s (.s (.s (.s (.s (.s (.s (.s (.s (.s (.s (.s .z)))))))))))))) (by kernel_rfl) (by kernel_rfl) (by kernel_rfl) (fun _ _ _ h => h) (by rfl) (by assumption) ?_ ?_
              rotate_left
              · intro w hSw; (try dsimp only at hSw); go_simp; (try with_reducible rfl)
              try simp only [Act.put, List.setIfInBounds_toArray, List.set_cons_zero, List.set_cons_succ]
              refine wpAnyH_done (by kernel_rfl) ?_ _
              all_goals go_wp2_with fail
              all_goals go_ret
              all_goals exact ⟨rfl, K.1.1.2⟩
          · have hlt : i < m := by omega
            have hne : X ≠ R := by rw [← hX, HB.out.eq]; exact lst_ne HAsc.out rfl hlt HB.out.le
            have hab := advB_false hne
            have HX := Lib.hid (And.intro hX hne)
            have HSR := Lib.hid (show sepR s z v z' v' X t = sepV s z v z' v' X t from by rw [← hX]; exact HS.out i (by have := HB.out.le; omega))
            have hlow : decide (s.alim ≤ sepV s z v z' v' X t) = false := decide_eq_false (by have := HB.out.lows i hlt; rw [hX] at this; omega)
            clear hX hne him
            go_wp2_with fail
            go_quiet (fail)
            clear x0 x1 x2 y0 y1 y2
            have HX0 := Lib.hid (show 0 ≤ X.s from by rw [← HX.out.1, RulesMath.lst_s s 1 i (by have := HB.out.le; omega)]; decide)
            go_wp2_with fail
            have K : BeA w (scnC a j c s z v z' v' t fl k) bA R (wr.drewN nq).drew ∧ Advs (wr.drewN nq).drew (some ⟨b, off, none⟩) (j + 1) (lstL s 1) := ⟨HA.out.1.keep (below_drewN (Below.refl _ _) nq).drew, HA.out.2.below (below_drewN (Below.refl _ _) nq).drew⟩
            go_region_held3 (fun w' => (w'.cell? ⟨w.heap.size, 0, none⟩ = some (.slice a j c) ∧ w'.cell? ⟨w.heap.size, 1, none⟩ = some (.int .i64 s.alim) ∧ w'.cell? ⟨w.heap.size, 2, none⟩ = some (.int .i64 s.d) ∧ w'.cell? ⟨w.heap.size, 3, none⟩ = some (.int .i64 s.pl) ∧ w'.cell? ⟨w.heap.size, 4, none⟩ = some (.int .i64 z) ∧ w'.cell? ⟨w.heap.size, 5, none⟩ = some (.int .i64 v) ∧ w'.cell? ⟨w.heap.size, 6, none⟩ = some (.int .i64 z') ∧ w'.cell? ⟨w.heap.size, 7, none⟩ = some (.int .i64 v') ∧ w'.cell? ⟨w.heap.size, 8, none⟩ = some (.int .i64 t) ∧ w'.cell? ⟨w.heap.size, 9, none⟩ = some (.int .i64 fl) ∧ w'.cell? ⟨w.heap.size, 10, none⟩ = some (.int .u8 k)) ∧ w'.cell? ⟨b, off + i * 3, none⟩ = some (.int .u8 X.s) ∧ w'.cell? ⟨b, off + i * 3 + 1, none⟩ = some (.int .i64 X.r) ∧ w'.cell? ⟨b, off + i * 3 + 2, none⟩ = some (.bool X.k)) (exact ⟨eleven K.1.1.1, by rw [← HX.out.1]; exact advs_cells3 K.2 (by omega)⟩)
              ((go_at_call 21; refine (lsep_call a j c s z v z' v' t fl k X _ (HL.out.below K.1.1.2) HX0.out).mono ?_; rintro e w3 ⟨rfl, hb3⟩; rw [HSR.out]; replace K := And.intro (K.1.keep hb3) (K.2.below hb3); clear hb3))
            all_goals
              have KB := Lib.hid K
              clear K
              go_wp2_with fail
              go_roundw
              case rel => exact ⟨i + 1, hlt, by go_num, KB.out.1, KB.out.2⟩
              case measure => simp [intOf]; omega


set_option maxRecDepth 100000 in
set_option maxHeartbeats 8000000 in
theorem best_g2 (a : Option Addr) (n c : Nat) (s : RulesMath.Set) (z v z' v' t fl k : Int) (w : World) (h : Ints w a n s.rs) (hn : n ≤ 20) (hE : chE s z v z' v' t fl k = 0) (hG : chG s z v z' v' t fl k = 2) :
    Calls Try.prog 4 #[scnV a n c s z v z' v' t fl k] w (BPost true w) := by
  have HL := Lib.hid h
  have hb := h.bound
  have HN := Lib.hid h.len
  have hlong : decide (20 < n) = false := by first | exact decide_eq_true hn | exact decide_eq_false (by omega)
  have HE := Lib.hid hE
  have HW := Lib.hid (ch_ok hE).1
  obtain ⟨m, hB⟩ := bst_of hE
  rw [hG] at hB
  have HB := Lib.hid hB
  have HS := Lib.hid (fun (i : Nat) (hi : i ≤ s.rs.length) => sepR_lst (g := 2) HW.out (by decide) hi)
  have HAsc := Lib.hid (setE_zero (plnE_ok (RulesMath.whlE_ok HW.out).1).1).2
  have hn1 : 1 ≤ n := by rw [← HN.out]; exact (n_pos HW.out).1
  have hn8 : n ≤ 8 := by rw [← HN.out]; exact (n_pos HW.out).2
  have HQ := Lib.hid (show alwB z fl k 2 = true ∧ (alwB z fl k 1 = true → (sepR s z v z' v' (lastA s 2) t < sepR s z v z' v' (lastA s 1) t → False) ∧ (sepR s z v z' v' (lastA s 1) t = sepR s z v z' v' (lastA s 2) t → (2 : Int) = 1)) from by
    rw [sepR_last HW.out (g := 2) (by decide), sepR_last HW.out (g := 1) (by decide)]
    have := chG_two hG
    refine ⟨this.1, fun h2 => ?_⟩
    have := this.2 h2
    refine ⟨fun h3 => by omega, fun h3 => by omega⟩)
  obtain ⟨i0, hi, hiz, his, hib⟩ := info_parts infoAdv
  have HI := Lib.hid (And.intro hi (And.intro hiz (And.intro his hib)))
  have hs0 : (chR s z v z' v' t fl k).s = 2 := by rw [hB.eq]; exact RulesMath.lst_s s 2 m hB.le
  have HS0 := Lib.hid hs0
  have ng := adv_eql
  have gd := adv_guard
  clear hi hiz his hib hn hE hG hB hs0
  clear h
  unfold scnV
  go_enter Try.func4, Try.ntmps4
  go_wp2_with fail
  have K0 := Lib.hid (show BeK w (scnC a n c s z v z' v' t fl k) (w.alloc (.cells (scnC a n c s z v z' v' t fl k) 28)) from ⟨block_new _ _ rfl, below_alloc _ _⟩)
  refine (long_call a n c s _ hb).mono ?_; rintro e w1 ⟨rfl, hb1⟩
  have K := Lib.hid (K0.out.keep hb1)
  clear hb1 K0
  rw [hlong]
  obtain ⟨q0, q1, q2, q3, q4, q5, q6, q7, q8, q9, qa⟩ := eleven K.out.1
  have hlt := lt_of_block K.out.1
  go_wp2_with fail
  refine (awake_call _).mono ?_; rintro e w1 ⟨rfl, hb1⟩
  replace K := Lib.hid (K.out.keep hb1)
  clear hb1 q0 q1 q2 q3 q4 q5 q6 q7 q8 q9 qa hlt
  obtain ⟨q0, q1, q2, q3, q4, q5, q6, q7, q8, q9, qa⟩ := eleven K.out.1
  have hlt := lt_of_block K.out.1
  go_wp2_with fail
  refine (lchoose_call a n c s z v z' v' t fl k _ (HL.out.below K.out.2)).mono ?_; rintro e w1 ⟨rfl, hb1⟩
  replace K := Lib.hid (K.out.keep hb1)
  clear hb1 q0 q1 q2 q3 q4 q5 q6 q7 q8 q9 qa hlt
  rw [HE.out]
  generalize hR : chR s z v z' v' t fl k = R at *
  obtain ⟨q0, q1, q2, q3, q4, q5, q6, q7, q8, q9, qa⟩ := eleven K.out.1
  have hlt := lt_of_block K.out.1
  go_upto_region 4 with fail
  have KA := Lib.hid (show BeA w (scnC a n c s z v z' v' t fl k) w1.heap.size R (w1.alloc (.cells #[.int .u8 R.s, .int .i64 R.r, .bool R.k] 30)) from ⟨K.out.keep (below_alloc _ _), hlt, block_new _ _ rfl⟩)
  clear K q0 q1 q2 q3 q4 q5 q6 q7 q8 q9 qa hlt
  have HR := Lib.hid hR
  clear hR
  generalize hbA : w1.heap.size = bA at *
  generalize w1.alloc (.cells #[.int .u8 R.s, .int .i64 R.r, .bool R.k] 30) = w2 at *
  clear hbA
  obtain ⟨q0, q1, q2, q3, q4, q5, q6, q7, q8, q9, qa⟩ := eleven KA.out.1.1
  obtain ⟨y0, y1, y2⟩ := three_old' KA.out.2.2
  rw [show R.s = 2 from HS0.out] at y0
  obtain ⟨h1, h2⟩ := And.intro (lt_of_block KA.out.1.1) (lt_of_block KA.out.2.2)
  have hn0 : ((n : Int) == 0) = false := by simp; omega
  go_wp2_with fail
  refine (lallowed_call a n c s z v z' v' t fl k 2 _ (by decide)).mono ?_; rintro e w3 ⟨rfl, hb3⟩
  rw [HQ.out.1]
  have KB := Lib.hid (KA.out.keep hb3)
  clear hb3 KA y0 y1 y2 q0 q1 q2 q3 q4 q5 q6 q7 q8 q9 qa h1 h2
  obtain ⟨q0, q1, q2, q3, q4, q5, q6, q7, q8, q9, qa⟩ := eleven KB.out.1.1
  obtain ⟨y0, y1, y2⟩ := three_old' KB.out.2.2
  rw [show R.s = 2 from HS0.out] at y0
  obtain ⟨h1, h2⟩ := And.intro (lt_of_block KB.out.1.1) (lt_of_block KB.out.2.2)
  go_wp2_with fail
  refine (lallowed_call a n c s z v z' v' t fl k 1 _ (by decide)).mono ?_; rintro e w4 ⟨rfl, hb4⟩
  have KC := Lib.hid (KB.out.keep hb4)
  clear hb4 KB y0 y1 y2 q0 q1 q2 q3 q4 q5 q6 q7 q8 q9 qa h1 h2
  go_upto_if 70 with fail
  go_cut [5] (fun s5 wx => BeA w (scnC a n c s z v z' v' t fl k) bA R wx)
  case first =>
    cases hT : alwB z fl k 1
    · go_wp2_with fail
      go_meet
      exact KC.out
    · have HT := Lib.hid hT
      clear hT
      obtain ⟨p1, p2⟩ := HQ.out.2 HT.out
      have P1 := Lib.hid p1
      have P2 := Lib.hid p2
      clear p1 p2
      go_upto_region 10 with fail
      have K : BeA w (scnC a n c s z v z' v' t fl k) bA R w4.drew := KC.out.keep ((Below.refl _ _).drew)
      go_region_held3 (fun w' => (w'.cell? ⟨w.heap.size, 0, none⟩ = some (.slice a n c) ∧ w'.cell? ⟨w.heap.size, 1, none⟩ = some (.int .i64 s.alim) ∧ w'.cell? ⟨w.heap.size, 2, none⟩ = some (.int .i64 s.d) ∧ w'.cell? ⟨w.heap.size, 3, none⟩ = some (.int .i64 s.pl) ∧ w'.cell? ⟨w.heap.size, 4, none⟩ = some (.int .i64 z) ∧ w'.cell? ⟨w.heap.size, 5, none⟩ = some (.int .i64 v) ∧ w'.cell? ⟨w.heap.size, 6, none⟩ = some (.int .i64 z') ∧ w'.cell? ⟨w.heap.size, 7, none⟩ = some (.int .i64 v') ∧ w'.cell? ⟨w.heap.size, 8, none⟩ = some (.int .i64 t) ∧ w'.cell? ⟨w.heap.size, 9, none⟩ = some (.int .i64 fl) ∧ w'.cell? ⟨w.heap.size, 10, none⟩ = some (.int .u8 k)) ∧ w'.cell? ⟨bA, 0, none⟩ = some (.int .u8 2)) (exact ⟨eleven K.1.1, by rw [← HS0.out]; exact (three_old' K.2.2).1⟩)
        (first
          | (go_at_call 22; refine (strongest_call a n c s z v z' v' t fl k _ _ (HL.out.below K.1.2) hn1).mono ?_; rintro e w9 ⟨rfl, hb9⟩; replace K := K.keep hb9; clear hb9)
          | (go_at_call 21; refine (lsep_call a n c s z v z' v' t fl k _ _ (HL.out.below K.1.2) (by first | exact (by decide : (0 : Int) ≤ 1) | exact (by decide : (0 : Int) ≤ 2))).mono ?_; rintro e w9 ⟨rfl, hb9⟩; replace K := K.keep hb9; clear hb9))
      all_goals
        generalize hX : sepR s z v z' v' (lastA s 2) t = X at *
        generalize hY : sepR s z v z' v' (lastA s 1) t = Y at *
        have HXY := Lib.hid (And.intro hX hY)
        clear hX hY
        obtain ⟨y0, _, _⟩ := three_old' K.2.2
        rw [show R.s = 2 from HS0.out] at y0
        have HK := Lib.hid K
        clear K
        have hlt : decide (X < Y) = false := decide_eq_false (fun e => P1.out e)
        by_cases hq : Y = X
        · have hq2 : (Y == X) = true := by simpa using hq
          have HQ2 := Lib.hid (P2.out hq)
          clear hq
          exact absurd HQ2.out (by decide)
        · have hq2 : (Y == X) = false := by simpa using hq
          clear hq
          go_wp2_with fail
          go_meet
          exact HK.out
  case rest =>
    clear KC
    have KC := Lib.hid hcut
    clear hcut
    obtain ⟨q0, q1, q2, q3, q4, q5, q6, q7, q8, q9, qa⟩ := eleven KC.out.1.1
    obtain ⟨y0, y1, y2⟩ := three_old' KC.out.2.2
    rw [show R.s = 2 from HS0.out] at y0
    obtain ⟨h1, h2⟩ := And.intro (lt_of_block KC.out.1.1) (lt_of_block KC.out.2.2)
    go_wp2_with fail
    have hO : (wc.alloc (.cells #[.int .u8 2, .int .i64 0, .bool true] 30)).ownsRow wc.heap.size 30 3 (.slice (some ⟨wc.heap.size, 0, none⟩) 1 1) 1 [.int .u8 2, .int .i64 0, .bool true] := ownedBlock3 (block_new _ _ rfl) (Nat.le_refl _)
    have H0 := Lib.hid (And.intro (KC.out.keep (below_alloc wc (.cells #[.int .u8 2, .int .i64 0, .bool true] 30))) hO)
    clear hO
    have hbc : bA < wc.heap.size := h2
    clear q0 q1 q2 q3 q4 q5 q6 q7 q8 q9 qa y0 y1 y2 h1 h2 KC
    go_loopw [8, 9] (fun lv iv wr => ∃ j : Nat, j ≤ n ∧ iv = .int .i64 j ∧ BeA w (scnC a n c s z v z' v' t fl k) bA R wr ∧ wr.ownsRow wc.heap.size 30 3 lv (j + 1) (flat3 ((lstL s 2).take (j + 1))) ∧ wc.heap.size ≤ wr.heap.size) (fun _ iv _ => n - (intOf iv).toNat)
    case atStart => exact ⟨0, Nat.zero_le _, rfl, H0.out.1, H0.out.2, by simp⟩
    case round =>
      clear H0
      obtain ⟨j, hj, rfl, hA, hO, hz⟩ := hrel
      have HA := Lib.hid hA
      have HO := Lib.hid hO
      obtain ⟨q0, -, -, -, -, -, -, -, -, -, -⟩ := eleven hA.1.1
      by_cases hlt : j < n
      · obtain ⟨b, off, rfl, x0⟩ := ints_at (HL.out.below hA.1.2) hlt
        have hk0 : (0 : Int) ≤ (j : Int) := by omega
        have hk1 : (j : Int) < (n : Int) := by omega
        have HT := Lib.hid (lst_take s 2 j (by rw [HN.out]; exact hlt))
        have y0 : wr.cell? ⟨bA, 0, none⟩ = some (.int .u8 2) := by rw [← HS0.out]; exact (three_old' hA.2.2).1
        clear hA hO
        go_wp2_with fail
        have K : BeA w (scnC (some ⟨b, off, none⟩) n c s z v z' v' t fl k) bA R wr.drew := HA.out.keep ((Below.refl _ _).drew)
        have hzr : wc.heap.size ≤ wr.drew.heap.size := hz
        have hbz : bA + 1 ≤ wr.drew.heap.size := Nat.le_trans hbc hz
        have HO1 := Lib.hid (show wr.drew.ownsRow wc.heap.size 30 3 u8 (j + 1) (flat3 ((lstL s 2).take (j + 1))) from HO.out)
        go_region_held3 (fun w' => w'.cell? ⟨b, off + j, none⟩ = some (.int .i64 (gr s.rs j)) ∧ w'.cell? ⟨w.heap.size, 0, none⟩ = some (.slice (some ⟨b, off, none⟩) n c) ∧ w'.cell? ⟨bA, 0, none⟩ = some (.int .u8 2))
          (first | exact K.three HL.out HS0.out hlt | exact (K.keep (below_alloc _ _)).three HL.out HS0.out hlt)
          (first
            | (refine step_append_src (by rfl) (.tmp 107) (.tmp 117) 49 (by rfl) wc.heap.size 30 i0 _ 3 24 Try.underlying49 HI.out.1 HI.out.2.1 HI.out.2.2.1 HI.out.2.2.2 (by rfl) (by decide) _ (j + 1) _ (by rfl) (HO1.out.alloc (.cells #[.int .u8 2, .int .i64 (gr s.rs j), .bool false] 30)) (some ⟨wr.heap.size, 0, none⟩) 1 1 (flat3 [⟨2, gr s.rs j, false⟩]) (by rfl) (fun e => by cases e) (by rfl) (advs_src (advs_block (l := [⟨2, gr s.rs j, false⟩]) (cs := #[.int .u8 2, .int .i64 (gr s.rs j), .bool false]) (T := 30) (fr := (0, 0)) (block_new _ _ rfl) rfl rfl (by show (1 : Nat) ≤ _; decide))) (flat3_cell _) (by unfold maxLen; omega) (by omega) (size_le hzr) ?_; intro v8 w8 hown8 hg8; have hb8 := grownBx (HO1.out.alloc (.cells #[.int .u8 2, .int .i64 (gr s.rs j), .bool false] 30)) hg8 hbc (size_le hbz); have hz8 := hg8.size; replace K := (K.keep (below_alloc _ (.cells #[.int .u8 2, .int .i64 (gr s.rs j), .bool false] 30))).below hb8; have HO8 := Lib.hid hown8; clear hown8 hg8 hb8))
        all_goals
          have KB := Lib.hid K
          clear K y0 x0 q0
          go_wp2_with fail
          go_roundw
          case rel => exact ⟨j + 1, by omega, by go_num, KB.out, by rw [HT.out]; exact HO8.out, by simp at hz8; omega⟩
          case measure => simp [intOf]; omega
      · obtain rfl : j = n := by omega
        have hll := lst_len s 2
        rw [HN.out] at hll
        rw [List.take_of_length_le (by omega), ← hll] at hO
        obtain ⟨aL, cL, rfl, hAd, _, _⟩ := advs_own hO (by omega)
        rw [hll] at hAd ⊢
        have HK := Lib.hid (And.intro hA hAd)
        clear hA hO hAd hll HA HO
        go_wp2_with fail
        go_loopw [10] (fun iv wr => ∃ i : Nat, i ≤ m ∧ iv = .int .i64 i ∧ BeA w (scnC a j c s z v z' v' t fl k) bA R wr ∧ Advs wr aL (j + 1) (lstL s 2)) (fun iv _ => j + 1 - (intOf iv).toNat)
        case atStart => exact ⟨0, Nat.zero_le _, rfl, HK.out.1, HK.out.2⟩
        case round =>
          clear HK
          obtain ⟨i, hi, rfl, hA, hAd⟩ := hrel
          have hmj : m ≤ j := by rw [← HN.out]; exact HB.out.le
          obtain ⟨b, off, rfl, x0, x1, x2⟩ := advs_at hAd (k := i) (by omega)
          have hk0 : (0 : Int) ≤ (i : Int) := by omega
          have hk1 : (i : Int) < (j : Int) + 1 := by omega
          obtain ⟨y0, y1, y2⟩ := three_old' hA.2.2
          have HA := Lib.hid (And.intro hA hAd)
          clear hA hAd
          generalize hX : ga (lstL s 2) i = X at *
          by_cases him : i = m
          · subst him
            have hXR : X = R := by rw [← hX]; exact HB.out.eq.symm
            subst hXR
            have hab := advB_self X
            have HX := Lib.hid hX
            clear hX
            have HM := Lib.hid hmj
            go_wp2_with fail
            go_quiet (fail)
            clear x0 x1 x2 y0 y1 y2
            have HX0 := Lib.hid (show 0 ≤ X.s from by rw [HS0.out]; decide)
            have HSR := Lib.hid (show sepR s z v z' v' X t = sepV s z v z' v' X t from by rw [← HX.out]; exact HS.out i HB.out.le)
            have K : BeA w (scnC a j c s z v z' v' t fl k) bA X (wr.drewN nq).drew ∧ Advs (wr.drewN nq).drew (some ⟨b, off, none⟩) (j + 1) (lstL s 2) := ⟨HA.out.1.keep (below_drewN (Below.refl _ _) nq).drew, HA.out.2.below (below_drewN (Below.refl _ _) nq).drew⟩
            have hj2 : IntKind.i64.wrap ((j : Int) + 1 - 1) = (j : Int) := by rw [Int.add_sub_cancel]; exact IntWalk.i64_in _ (by omega)
            have hj3 : IntKind.i64.wrap (j : Int) = (j : Int) := IntWalk.i64_in _ (by omega)
            have hfit : s.alim ≤ sepV s z v z' v' X t ∨ (¬ s.alim ≤ sepV s z v z' v' X t ∧ i = j) := by
              by_cases h : s.alim ≤ sepV s z v z' v' X t
              · exact Or.inl h
              · exact Or.inr ⟨h, by rw [← HN.out]; exact HB.out.fit.resolve_left h⟩
            have HF := Lib.hid hfit
            clear hfit
            go_wp2_with fail
            rcases HF.out with f | ⟨f, f2⟩
            · have f3 : decide (s.alim ≤ sepV s z v z' v' X t) = true := decide_eq_true f
              clear f
              refine wp_region_held_drew (S := (fun w' => (w'.cell? ⟨w.heap.size, 0, none⟩ = some (.slice a j c) ∧ w'.cell? ⟨w.heap.size, 1, none⟩ = some (.int .i64 s.alim) ∧ w'.cell? ⟨w.heap.size, 2, none⟩ = some (.int .i64 s.d) ∧ w'.cell? ⟨w.heap.size, 3, none⟩ = some (.int .i64 s.pl) ∧ w'.cell? ⟨w.heap.size, 4, none⟩ = some (.int .i64 z) ∧ w'.cell? ⟨w.heap.size, 5, none⟩ = some (.int .i64 v) ∧ w'.cell? ⟨w.heap.size, 6, none⟩ = some (.int .i64 z') ∧ w'.cell? ⟨w.heap.size, 7, none⟩ = some (.int .i64 v') ∧ w'.cell? ⟨w.heap.size, 8, none⟩ = some (.int .i64 t) ∧ w'.cell? ⟨w.heap.size, 9, none⟩ = some (.int .i64 fl) ∧ w'.cell? ⟨w.heap.size, 10, none⟩ = some (.int .u8 k)) ∧ w'.cell? ⟨bA, 0, none⟩ = some (.int .u8 X.s) ∧ w'.cell? ⟨bA, 1, none⟩ = some (.int .i64 X.r) ∧ w'.cell? ⟨bA, 2, none⟩ = some (.bool X.k))) (by kernel_rfl) (by (try dsimp only); (exact ⟨eleven K.1.1.1, three_old' K.1.2.2⟩)) (fun hHeld => ?_)
              refine MyHeld.take 0 (v := ?_) .z (by kernel_rfl) (by kernel_rfl) (by kernel_rfl) (fun _ _ _ h => h) (by rfl) (by assumption) ?_ ?_
              rotate_left
              · intro w hSw; (try dsimp only at hSw); go_simp; (try with_reducible rfl)
              try simp only [Act.put, List.setIfInBounds_toArray, List.set_cons_zero, List.set_cons_succ]
              refine MyHeld.take 1 (v := ?_) (.s .z) (by kernel_rfl) (by kernel_rfl) (by kernel_rfl) (fun _ _ _ h => h) (by rfl) (by assumption) ?_ ?_
              rotate_left
              · intro w hSw; (try dsimp only at hSw); go_simp; (try with_reducible rfl)
              try simp only [Act.put, List.setIfInBounds_toArray, List.set_cons_zero, List.set_cons_succ]
              refine MyHeld.take 3 (v := ?_) (.s (.s (.s .z))) (by kernel_rfl) (by kernel_rfl) (by kernel_rfl) (fun _ _ _ h => h) (by rfl) (by assumption) ?_ ?_
              rotate_left
              · intro w hSw; (try dsimp only at hSw); go_simp; (try with_reducible rfl)
              try simp only [Act.put, List.setIfInBounds_toArray, List.set_cons_zero, List.set_cons_succ]
              refine MyHeld.take 4 (v := ?_) (.s (.s (.s (.s .z)))) (by kernel_rfl) (by kernel_rfl) (by kernel_rfl) (fun _ _ _ h => h) (by rfl) (by assumption) ?_ ?_
              rotate_left
              · intro w hSw; (try dsimp only at hSw); go_simp; (try with_reducible rfl)
              try simp only [Act.put, List.setIfInBounds_toArray, List.set_cons_zero, List.set_cons_succ]
              refine MyHeld.take 5 (v := ?_) (.s (.s (.s (.s (.s .z))))) (by kernel_rfl) (by kernel_rfl) (by kernel_rfl) (fun _ _ _ h => h) (by rfl) (by assumption) ?_ ?_
              rotate_left
              · intro w hSw; (try dsimp only at hSw); go_simp; (try with_reducible rfl)
              try simp only [Act.put, List.setIfInBounds_toArray, List.set_cons_zero, List.set_cons_succ]
              refine wpAnyH_ready (rs := [2]) (by kernel_rfl) (by simp) ?_
              refine (MyHeld.next 2 (.s (.s .z)) (fun Kq hKq => ?_) AllReadyH.nil)
              go_simp
              ((go_at_call 21; refine (lsep_call a j c s z v z' v' t fl k X _ (HL.out.below K.1.1.2) HX0.out).mono ?_; rintro e w3 ⟨rfl, hb3⟩; rw [HSR.out]; replace K := And.intro (K.1.keep hb3) (K.2.below hb3); clear hb3))
              go_wp2_with fail
              refine hKq.out _ _ (by (try dsimp only); (exact ⟨eleven K.1.1.1, three_old' K.1.2.2⟩)) (fun hHeld' => ?_)
              clear hKq Kq hHeld; have hHeld := hHeld'; clear hHeld'
              try simp only [Act.put, List.setIfInBounds_toArray, List.set_cons_zero, List.set_cons_succ]
              refine MyHeld.take 6 (v := ?_) (.s (.s (.s (.s (.s (.s .z)))))) (by kernel_rfl) (by kernel_rfl) (by kernel_rfl) (fun _ _ _ h => h) (by rfl) (by assumption) ?_ ?_
              rotate_left
              · intro w hSw; (try dsimp only at hSw); go_simp; (try with_reducible rfl)
              try simp only [Act.put, List.setIfInBounds_toArray, List.set_cons_zero, List.set_cons_succ]
              refine MyHeld.take 7 (v := ?_) (.s (.s (.s (.s (.s (.s (.s .z))))))) (by kernel_rfl) (by kernel_rfl) (by kernel_rfl) (fun _ _ _ h => h) (by rfl) (by assumption) ?_ ?_
              rotate_left
              · intro w hSw; (try dsimp only at hSw); go_simp; (try with_reducible rfl)
              try simp only [Act.put, List.setIfInBounds_toArray, List.set_cons_zero, List.set_cons_succ]
              refine MyHeld.skip 8 (.s (.s (.s (.s (.s (.s (.s (.s .z)))))))) (by kernel_rfl) (by kernel_rfl) (by kernel_rfl) (fun _ _ _ h => h) (by rfl) (by assumption) ?_
              try simp only [Act.put, List.setIfInBounds_toArray, List.set_cons_zero, List.set_cons_succ]
              refine MyHeld.skip 9 (.s (.s (.s (.s (.s (.s (.s (.s (.s .z))))))))) (by kernel_rfl) (by kernel_rfl) (by kernel_rfl) (fun _ _ _ h => h) (by rfl) (by assumption) ?_
              try simp only [Act.put, List.setIfInBounds_toArray, List.set_cons_zero, List.set_cons_succ]
              refine MyHeld.skip 10 (.s (.s (.s (.s (.s (.s (.s (.s (.s (.s .z)))))))))) (by kernel_rfl) (by kernel_rfl) (by kernel_rfl) (fun _ _ _ h => h) (by rfl) (by assumption) ?_
              try simp only [Act.put, List.setIfInBounds_toArray, List.set_cons_zero, List.set_cons_succ]
              refine MyHeld.skip 11 (.s (.s (.s (.s (.s (.s (.s (.s (.s (.s (.s .z))))))))))) (by kernel_rfl) (by kernel_rfl) (by kernel_rfl) (fun _ _ _ h => h) (by rfl) (by assumption) ?_
              try simp only [Act.put, List.setIfInBounds_toArray, List.set_cons_zero, List.set_cons_succ]
              refine MyHeld.skip 12 (.s (.s (.s (.s (.s (.s (.s (.s (.s (.s (.s (.s .z)))))))))))) (by kernel_rfl) (by kernel_rfl) (by kernel_rfl) (fun _ _ _ h => h) (by rfl) (by assumption) ?_
              try simp only [Act.put, List.setIfInBounds_toArray, List.set_cons_zero, List.set_cons_succ]
              refine MyHeld.take 13 (v := ?_) (.s (.s (.s (.s (.s (.s (.s (.s (.s (.s (.s (.s (.s .z))))))))))))) (by kernel_rfl) (by kernel_rfl) (by kernel_rfl) (fun _ _ _ h => h) (by rfl) (by assumption) ?_ ?_
              rotate_left
              · intro w hSw; (try dsimp only at hSw); go_simp; (try with_reducible rfl)
              try simp only [Act.put, List.setIfInBounds_toArray, List.set_cons_zero, List.set_cons_succ]
              refine MyHeld.take 14 (v := ?_) (.s (.s (.s (.s (.s (.s (.s (.s (.s (.s (.s (.s (.s (.s .z)))))))))))))) (by kernel_rfl) (by kernel_rfl) (by kernel_rfl) (fun _ _ _ h => h) (by rfl) (by assumption) ?_ ?_
              rotate_left
              · intro w hSw; (try dsimp only at hSw); go_simp; (try with_reducible rfl)
              try simp only [Act.put, List.setIfInBounds_toArray, List.set_cons_zero, List.set_cons_succ]
              refine wpAnyH_done (by kernel_rfl) ?_ _
              all_goals go_wp2_with fail
              all_goals go_ret
              all_goals exact ⟨rfl, K.1.1.2⟩
            · have f3 : decide (s.alim ≤ sepV s z v z' v' X t) = false := decide_eq_false (by omega)
              have f4 : ((i : Int) == (j : Int)) = true := by rw [f2]; simp
              have HF2 := Lib.hid f2
              clear f f2
              refine wp_region_held_drew (S := (fun w' => (w'.cell? ⟨w.heap.size, 0, none⟩ = some (.slice a j c) ∧ w'.cell? ⟨w.heap.size, 1, none⟩ = some (.int .i64 s.alim) ∧ w'.cell? ⟨w.heap.size, 2, none⟩ = some (.int .i64 s.d) ∧ w'.cell? ⟨w.heap.size, 3, none⟩ = some (.int .i64 s.pl) ∧ w'.cell? ⟨w.heap.size, 4, none⟩ = some (.int .i64 z) ∧ w'.cell? ⟨w.heap.size, 5, none⟩ = some (.int .i64 v) ∧ w'.cell? ⟨w.heap.size, 6, none⟩ = some (.int .i64 z') ∧ w'.cell? ⟨w.heap.size, 7, none⟩ = some (.int .i64 v') ∧ w'.cell? ⟨w.heap.size, 8, none⟩ = some (.int .i64 t) ∧ w'.cell? ⟨w.heap.size, 9, none⟩ = some (.int .i64 fl) ∧ w'.cell? ⟨w.heap.size, 10, none⟩ = some (.int .u8 k)) ∧ w'.cell? ⟨bA, 0, none⟩ = some (.int .u8 X.s) ∧ w'.cell? ⟨bA, 1, none⟩ = some (.int .i64 X.r) ∧ w'.cell? ⟨bA, 2, none⟩ = some (.bool X.k))) (by kernel_rfl) (by (try dsimp only); (exact ⟨eleven K.1.1.1, three_old' K.1.2.2⟩)) (fun hHeld => ?_)
              refine MyHeld.take 0 (v := ?_) .z (by kernel_rfl) (by kernel_rfl) (by kernel_rfl) (fun _ _ _ h => h) (by rfl) (by assumption) ?_ ?_
              rotate_left
              · intro w hSw; (try dsimp only at hSw); go_simp; (try with_reducible rfl)
              try simp only [Act.put, List.setIfInBounds_toArray, List.set_cons_zero, List.set_cons_succ]
              refine MyHeld.take 1 (v := ?_) (.s .z) (by kernel_rfl) (by kernel_rfl) (by kernel_rfl) (fun _ _ _ h => h) (by rfl) (by assumption) ?_ ?_
              rotate_left
              · intro w hSw; (try dsimp only at hSw); go_simp; (try with_reducible rfl)
              try simp only [Act.put, List.setIfInBounds_toArray, List.set_cons_zero, List.set_cons_succ]
              refine MyHeld.take 3 (v := ?_) (.s (.s (.s .z))) (by kernel_rfl) (by kernel_rfl) (by kernel_rfl) (fun _ _ _ h => h) (by rfl) (by assumption) ?_ ?_
              rotate_left
              · intro w hSw; (try dsimp only at hSw); go_simp; (try with_reducible rfl)
              try simp only [Act.put, List.setIfInBounds_toArray, List.set_cons_zero, List.set_cons_succ]
              refine MyHeld.take 4 (v := ?_) (.s (.s (.s (.s .z)))) (by kernel_rfl) (by kernel_rfl) (by kernel_rfl) (fun _ _ _ h => h) (by rfl) (by assumption) ?_ ?_
              rotate_left
              · intro w hSw; (try dsimp only at hSw); go_simp; (try with_reducible rfl)
              try simp only [Act.put, List.setIfInBounds_toArray, List.set_cons_zero, List.set_cons_succ]
              refine MyHeld.take 5 (v := ?_) (.s (.s (.s (.s (.s .z))))) (by kernel_rfl) (by kernel_rfl) (by kernel_rfl) (fun _ _ _ h => h) (by rfl) (by assumption) ?_ ?_
              rotate_left
              · intro w hSw; (try dsimp only at hSw); go_simp; (try with_reducible rfl)
              try simp only [Act.put, List.setIfInBounds_toArray, List.set_cons_zero, List.set_cons_succ]
              refine wpAnyH_ready (rs := [2]) (by kernel_rfl) (by simp) ?_
              refine (MyHeld.next 2 (.s (.s .z)) (fun Kq hKq => ?_) AllReadyH.nil)
              go_simp
              ((go_at_call 21; refine (lsep_call a j c s z v z' v' t fl k X _ (HL.out.below K.1.1.2) HX0.out).mono ?_; rintro e w3 ⟨rfl, hb3⟩; rw [HSR.out]; replace K := And.intro (K.1.keep hb3) (K.2.below hb3); clear hb3))
              go_wp2_with fail
              refine hKq.out _ _ (by (try dsimp only); (exact ⟨eleven K.1.1.1, three_old' K.1.2.2⟩)) (fun hHeld' => ?_)
              clear hKq Kq hHeld; have hHeld := hHeld'; clear hHeld'
              try simp only [Act.put, List.setIfInBounds_toArray, List.set_cons_zero, List.set_cons_succ]
              refine MyHeld.take 6 (v := ?_) (.s (.s (.s (.s (.s (.s .z)))))) (by kernel_rfl) (by kernel_rfl) (by kernel_rfl) (fun _ _ _ h => h) (by rfl) (by assumption) ?_ ?_
              rotate_left
              · intro w hSw; (try dsimp only at hSw); go_simp; (try with_reducible rfl)
              try simp only [Act.put, List.setIfInBounds_toArray, List.set_cons_zero, List.set_cons_succ]
              refine MyHeld.take 7 (v := ?_) (.s (.s (.s (.s (.s (.s (.s .z))))))) (by kernel_rfl) (by kernel_rfl) (by kernel_rfl) (fun _ _ _ h => h) (by rfl) (by assumption) ?_ ?_
              rotate_left
              · intro w hSw; (try dsimp only at hSw); go_simp; (try with_reducible rfl)
              try simp only [Act.put, List.setIfInBounds_toArray, List.set_cons_zero, List.set_cons_succ]
              refine MyHeld.take 8 (v := ?_) (.s (.s (.s (.s (.s (.s (.s (.s .z)))))))) (by kernel_rfl) (by kernel_rfl) (by kernel_rfl) (fun _ _ _ h => h) (by rfl) (by assumption) ?_ ?_
              rotate_left
              · intro w hSw; (try dsimp only at hSw); go_simp; (try with_reducible rfl)
              try simp only [Act.put, List.setIfInBounds_toArray, List.set_cons_zero, List.set_cons_succ]
              refine MyHeld.take 9 (v := ?_) (.s (.s (.s (.s (.s (.s (.s (.s (.s .z))))))))) (by kernel_rfl) (by kernel_rfl) (by kernel_rfl) (fun _ _ _ h => h) (by rfl) (by assumption) ?_ ?_
              rotate_left
              · intro w hSw; (try dsimp only at hSw); go_simp; (try with_reducible rfl)
              try simp only [Act.put, List.setIfInBounds_toArray, List.set_cons_zero, List.set_cons_succ]
              refine MyHeld.take 10 (v := ?_) (.s (.s (.s (.s (.s (.s (.s (.s (.s (.s .z)))))))))) (by kernel_rfl) (by kernel_rfl) (by kernel_rfl) (fun _ _ _ h => h) (by rfl) (by assumption) ?_ ?_
              rotate_left
              · intro w hSw; (try dsimp only at hSw); go_simp; (try with_reducible rfl)
              try simp only [Act.put, List.setIfInBounds_toArray, List.set_cons_zero, List.set_cons_succ]
              refine MyHeld.take 11 (v := ?_) (.s (.s (.s (.s (.s (.s (.s (.s (.s (.s (.s .z))))))))))) (by kernel_rfl) (by kernel_rfl) (by kernel_rfl) (fun _ _ _ h => h) (by rfl) (by assumption) ?_ ?_
              rotate_left
              · intro w hSw; (try dsimp only at hSw); go_simp; (try with_reducible rfl)
              try simp only [Act.put, List.setIfInBounds_toArray, List.set_cons_zero, List.set_cons_succ]
              refine MyHeld.take 12 (v := ?_) (.s (.s (.s (.s (.s (.s (.s (.s (.s (.s (.s (.s .z)))))))))))) (by kernel_rfl) (by kernel_rfl) (by kernel_rfl) (fun _ _ _ h => h) (by rfl) (by assumption) ?_ ?_
              rotate_left
              · intro w hSw; (try dsimp only at hSw); go_simp; (try with_reducible rfl)
              try simp only [Act.put, List.setIfInBounds_toArray, List.set_cons_zero, List.set_cons_succ]
              refine MyHeld.take 13 (v := ?_) (.s (.s (.s (.s (.s (.s (.s (.s (.s (.s (.s (.s (.s .z))))))))))))) (by kernel_rfl) (by kernel_rfl) (by kernel_rfl) (fun _ _ _ h => h) (by rfl) (by assumption) ?_ ?_
              rotate_left
              · intro w hSw; (try dsimp only at hSw); go_simp; (try with_reducible rfl)
              try simp only [Act.put, List.setIfInBounds_toArray, List.set_cons_zero, List.set_cons_succ]
              refine MyHeld.take 14 (v := ?_) (.s (.s (.s (.s (.s (.s (.s (.s (.s (.s (.s (.s (.s (.s .z)))))))))))))) (by kernel_rfl) (by kernel_rfl) (by kernel_rfl) (fun _ _ _ h => h) (by rfl) (by assumption) ?_ ?_
              rotate_left
              · intro w hSw; (try dsimp only at hSw); go_simp; (try with_reducible rfl)
              try simp only [Act.put, List.setIfInBounds_toArray, List.set_cons_zero, List.set_cons_succ]
              refine wpAnyH_done (by kernel_rfl) ?_ _
              all_goals go_wp2_with fail
              all_goals go_ret
              all_goals exact ⟨rfl, K.1.1.2⟩
          · have hlt : i < m := by omega
            have hne : X ≠ R := by rw [← hX, HB.out.eq]; exact lst_ne HAsc.out rfl hlt HB.out.le
            have hab := advB_false hne
            have HX := Lib.hid (And.intro hX hne)
            have HSR := Lib.hid (show sepR s z v z' v' X t = sepV s z v z' v' X t from by rw [← hX]; exact HS.out i (by have := HB.out.le; omega))
            have hlow : decide (s.alim ≤ sepV s z v z' v' X t) = false := decide_eq_false (by have := HB.out.lows i hlt; rw [hX] at this; omega)
            clear hX hne him
            go_wp2_with fail
            go_quiet (fail)
            clear x0 x1 x2 y0 y1 y2
            have HX0 := Lib.hid (show 0 ≤ X.s from by rw [← HX.out.1, RulesMath.lst_s s 2 i (by have := HB.out.le; omega)]; decide)
            go_wp2_with fail
            have K : BeA w (scnC a j c s z v z' v' t fl k) bA R (wr.drewN nq).drew ∧ Advs (wr.drewN nq).drew (some ⟨b, off, none⟩) (j + 1) (lstL s 2) := ⟨HA.out.1.keep (below_drewN (Below.refl _ _) nq).drew, HA.out.2.below (below_drewN (Below.refl _ _) nq).drew⟩
            go_region_held3 (fun w' => (w'.cell? ⟨w.heap.size, 0, none⟩ = some (.slice a j c) ∧ w'.cell? ⟨w.heap.size, 1, none⟩ = some (.int .i64 s.alim) ∧ w'.cell? ⟨w.heap.size, 2, none⟩ = some (.int .i64 s.d) ∧ w'.cell? ⟨w.heap.size, 3, none⟩ = some (.int .i64 s.pl) ∧ w'.cell? ⟨w.heap.size, 4, none⟩ = some (.int .i64 z) ∧ w'.cell? ⟨w.heap.size, 5, none⟩ = some (.int .i64 v) ∧ w'.cell? ⟨w.heap.size, 6, none⟩ = some (.int .i64 z') ∧ w'.cell? ⟨w.heap.size, 7, none⟩ = some (.int .i64 v') ∧ w'.cell? ⟨w.heap.size, 8, none⟩ = some (.int .i64 t) ∧ w'.cell? ⟨w.heap.size, 9, none⟩ = some (.int .i64 fl) ∧ w'.cell? ⟨w.heap.size, 10, none⟩ = some (.int .u8 k)) ∧ w'.cell? ⟨b, off + i * 3, none⟩ = some (.int .u8 X.s) ∧ w'.cell? ⟨b, off + i * 3 + 1, none⟩ = some (.int .i64 X.r) ∧ w'.cell? ⟨b, off + i * 3 + 2, none⟩ = some (.bool X.k)) (exact ⟨eleven K.1.1.1, by rw [← HX.out.1]; exact advs_cells3 K.2 (by omega)⟩)
              ((go_at_call 21; refine (lsep_call a j c s z v z' v' t fl k X _ (HL.out.below K.1.1.2) HX0.out).mono ?_; rintro e w3 ⟨rfl, hb3⟩; rw [HSR.out]; replace K := And.intro (K.1.keep hb3) (K.2.below hb3); clear hb3))
            all_goals
              have KB := Lib.hid K
              clear K
              go_wp2_with fail
              go_roundw
              case rel => exact ⟨i + 1, hlt, by go_num, KB.out.1, KB.out.2⟩
              case measure => simp [intOf]; omega


theorem rulesBest_call (a : Option Addr) (n c : Nat) (s : RulesMath.Set) (z v z' v' t fl k : Int) (w : World) (h : Ints w a n s.rs) :
    Calls Try.prog 4 #[scnV a n c s z v z' v' t fl k] w (BPost true w) := by
  by_cases hn : n ≤ 20
  · by_cases hE : chE s z v z' v' t fl k = 0
    · rcases (ch_ok hE).2.1 with hG | hG
      · exact best_g1 a n c s z v z' v' t fl k w h hn hE hG
      · exact best_g2 a n c s z v z' v' t fl k w h hn hE hG
    · by_cases h9 : chE s z v z' v' t fl k = 9
      · exact best_none a n c s z v z' v' t fl k w h hn hE h9
      · exact best_err a n c s z v z' v' t fl k w h hn hE h9
  · exact best_long a n c s z v z' v' t fl k w h (by omega)
end Go.Proofs.Ytfgalaalopkclaa
