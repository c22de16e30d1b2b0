/-
  Layer 38 (rules): Check of the program and of the reference.
-/
import Derived.Test.YtfgalaalopkclaaProg
import Derived.Test.YtfgalaalopkclaaHeapLib
import Derived.Test.YtfgalaalopkclaaRulesMath
import Derived.WalkKit
import Derived.Deep.LoopGhost
import Derived.Deep.QuietTactic
import Derived.BigQuiet
import Derived.Lib.Hide
import Derived.IntWalk
import Derived.Handy
import Derived.WalkSmall
namespace Go.Proofs.Ytfgalaalopkclaa
open Go.RowKit PlaneMath PilotMath RulesMath MyHeap

/-- A slice of integers that reads as l. -/
structure Ints (w : World) (a : Option Addr) (n : Nat) (l : List Int) : Prop where
  len : l.length = n
  bound : n ≤ 9223372036854775807
  cells : n = 0 ∨ ∃ b off, a = some ⟨b, off, none⟩ ∧ ∀ i, i < n → w.cell? ⟨b, off + i, none⟩ = some (.int .i64 (gr l i))
theorem Ints.below {w w' : World} {a : Option Addr} {n : Nat} {l : List Int} (h : Ints w a n l) (hb : Below w.heap.size w w') : Ints w' a n l := by
  refine ⟨h.len, h.bound, ?_⟩
  rcases h.cells with h0 | ⟨b, off, e, hc⟩
  · exact Or.inl h0
  · exact Or.inr ⟨b, off, e, fun i hi => keep1 hb (hc i hi)⟩
theorem ints_at {w : World} {a : Option Addr} {n : Nat} {l : List Int} (h : Ints w a n l) {k : Nat} (hk : k < n) : ∃ b off, a = some ⟨b, off, none⟩ ∧ w.cell? ⟨b, off + k, none⟩ = some (.int .i64 (gr l k)) := by
  rcases h.cells with h0 | ⟨b, off, e, hc⟩
  · omega
  · exact ⟨b, off, e, hc k hk⟩
/-- A setting as a value. -/
def setV (a : Option Addr) (n c : Nat) (s : RulesMath.Set) : Value := .agg #[.slice a n c, .int .i64 s.alim, .int .i64 s.d, .int .i64 s.pl]
def setC (a : Option Addr) (n c : Nat) (s : RulesMath.Set) : Array Value := #[.slice a n c, .int .i64 s.alim, .int .i64 s.d, .int .i64 s.pl]
theorem four_cells {w : World} {b : Nat} {c0 c1 c2 c3 : Value} {T : TypeId} (h : w.heap[b]? = some (.cells #[c0, c1, c2, c3] T (0, 0))) : w.cell? ⟨b, 0, none⟩ = some c0 ∧ w.cell? ⟨b, 1, none⟩ = some c1 ∧ w.cell? ⟨b, 2, none⟩ = some c2 ∧ w.cell? ⟨b, 3, none⟩ = some c3 := ⟨cell_of_block h rfl, cell_of_block h rfl, cell_of_block h rfl, cell_of_block h rfl⟩
def SetPost (s : RulesMath.Set) (w : World) (e : Ending) (w' : World) : Prop := e = .returned (.int .i64 (setE s)) ∧ Below w.heap.size w w'
theorem setPost_of {s : RulesMath.Set} {E : Int} {w w' : World} (h : setE s = E) (hB : Below w.heap.size w w') : SetPost s w (.returned (.int .i64 E)) w' := ⟨by rw [h], hB⟩
set_option maxHeartbeats 2000000 in
theorem pChk_n1 (a : Option Addr) (n c : Nat) (s : RulesMath.Set) (w : World) (hl : s.rs.length = n) (hm : n ≤ 9223372036854775807) (h : n < 1) : Calls Try.prog 17 #[setV a n c s] w (SetPost s w) := by
  have HE := Lib.hid (setE_num (s := s) (by cases hb : numB s.rs.length s.alim s.d s.pl with
    | false => rfl
    | true => have := numB_iff.1 hb; omega))
  have hh : decide ((n : Int) < 1) = true := decide_eq_true (by omega)
  clear h hl
  unfold setV
  go_enter Try.func17, Try.ntmps17
  go_wp2
  all_goals (first | go_ret | skip)
  all_goals exact setPost_of HE.out (by go_grown)
set_option maxHeartbeats 2000000 in
theorem pChk_n8 (a : Option Addr) (n c : Nat) (s : RulesMath.Set) (w : World) (hl : s.rs.length = n) (hm : n ≤ 9223372036854775807) (hn1 : ¬ n < 1) (h : 8 < n) : Calls Try.prog 17 #[setV a n c s] w (SetPost s w) := by
  have HE := Lib.hid (setE_num (s := s) (by cases hb : numB s.rs.length s.alim s.d s.pl with
    | false => rfl
    | true => have := numB_iff.1 hb; omega))
  have kn1 : decide ((n : Int) < 1) = false := decide_eq_false (by omega)
  clear hn1
  have hh : decide (8 < (n : Int)) = true := decide_eq_true (by omega)
  clear h hl
  unfold setV
  go_enter Try.func17, Try.ntmps17
  go_wp2
  all_goals (first | go_ret | skip)
  all_goals exact setPost_of HE.out (by go_grown)
set_option maxHeartbeats 2000000 in
theorem pChk_a1 (a : Option Addr) (n c : Nat) (s : RulesMath.Set) (w : World) (hl : s.rs.length = n) (hm : n ≤ 9223372036854775807) (hn1 : ¬ n < 1) (hn8 : ¬ 8 < n) (h : s.alim < 1) : Calls Try.prog 17 #[setV a n c s] w (SetPost s w) := by
  have HE := Lib.hid (setE_num (s := s) (by cases hb : numB s.rs.length s.alim s.d s.pl with
    | false => rfl
    | true => have := numB_iff.1 hb; omega))
  have kn1 : decide ((n : Int) < 1) = false := decide_eq_false (by omega)
  clear hn1
  have kn8 : decide (8 < (n : Int)) = false := decide_eq_false (by omega)
  clear hn8
  have hh : decide (s.alim < 1) = true := decide_eq_true (by omega)
  clear h hl
  unfold setV
  go_enter Try.func17, Try.ntmps17
  go_wp2
  all_goals (first | go_ret | skip)
  all_goals exact setPost_of HE.out (by go_grown)
set_option maxHeartbeats 2000000 in
theorem pChk_a5 (a : Option Addr) (n c : Nat) (s : RulesMath.Set) (w : World) (hl : s.rs.length = n) (hm : n ≤ 9223372036854775807) (hn1 : ¬ n < 1) (hn8 : ¬ 8 < n) (ha1 : ¬ s.alim < 1) (h : 5000 < s.alim) : Calls Try.prog 17 #[setV a n c s] w (SetPost s w) := by
  have HE := Lib.hid (setE_num (s := s) (by cases hb : numB s.rs.length s.alim s.d s.pl with
    | false => rfl
    | true => have := numB_iff.1 hb; omega))
  have kn1 : decide ((n : Int) < 1) = false := decide_eq_false (by omega)
  clear hn1
  have kn8 : decide (8 < (n : Int)) = false := decide_eq_false (by omega)
  clear hn8
  have ka1 : decide (s.alim < 1) = false := decide_eq_false (by omega)
  clear ha1
  have hh : decide (5000 < s.alim) = true := decide_eq_true (by omega)
  clear h hl
  unfold setV
  go_enter Try.func17, Try.ntmps17
  go_wp2
  all_goals (first | go_ret | skip)
  all_goals exact setPost_of HE.out (by go_grown)
set_option maxHeartbeats 2000000 in
theorem pChk_d0 (a : Option Addr) (n c : Nat) (s : RulesMath.Set) (w : World) (hl : s.rs.length = n) (hm : n ≤ 9223372036854775807) (hn1 : ¬ n < 1) (hn8 : ¬ 8 < n) (ha1 : ¬ s.alim < 1) (ha5 : ¬ 5000 < s.alim) (h : s.d < 0) : Calls Try.prog 17 #[setV a n c s] w (SetPost s w) := by
  have HE := Lib.hid (setE_num (s := s) (by cases hb : numB s.rs.length s.alim s.d s.pl with
    | false => rfl
    | true => have := numB_iff.1 hb; omega))
  have kn1 : decide ((n : Int) < 1) = false := decide_eq_false (by omega)
  clear hn1
  have kn8 : decide (8 < (n : Int)) = false := decide_eq_false (by omega)
  clear hn8
  have ka1 : decide (s.alim < 1) = false := decide_eq_false (by omega)
  clear ha1
  have ka5 : decide (5000 < s.alim) = false := decide_eq_false (by omega)
  clear ha5
  have hh : decide (s.d < 0) = true := decide_eq_true (by omega)
  clear h hl
  unfold setV
  go_enter Try.func17, Try.ntmps17
  go_wp2
  all_goals (first | go_ret | skip)
  all_goals exact setPost_of HE.out (by go_grown)
set_option maxHeartbeats 2000000 in
theorem pChk_d16 (a : Option Addr) (n c : Nat) (s : RulesMath.Set) (w : World) (hl : s.rs.length = n) (hm : n ≤ 9223372036854775807) (hn1 : ¬ n < 1) (hn8 : ¬ 8 < n) (ha1 : ¬ s.alim < 1) (ha5 : ¬ 5000 < s.alim) (hd0 : ¬ s.d < 0) (h : 16 < s.d) : Calls Try.prog 17 #[setV a n c s] w (SetPost s w) := by
  have HE := Lib.hid (setE_num (s := s) (by cases hb : numB s.rs.length s.alim s.d s.pl with
    | false => rfl
    | true => have := numB_iff.1 hb; omega))
  have kn1 : decide ((n : Int) < 1) = false := decide_eq_false (by omega)
  clear hn1
  have kn8 : decide (8 < (n : Int)) = false := decide_eq_false (by omega)
  clear hn8
  have ka1 : decide (s.alim < 1) = false := decide_eq_false (by omega)
  clear ha1
  have ka5 : decide (5000 < s.alim) = false := decide_eq_false (by omega)
  clear ha5
  have kd0 : decide (s.d < 0) = false := decide_eq_false (by omega)
  clear hd0
  have hh : decide (16 < s.d) = true := decide_eq_true (by omega)
  clear h hl
  unfold setV
  go_enter Try.func17, Try.ntmps17
  go_wp2
  all_goals (first | go_ret | skip)
  all_goals exact setPost_of HE.out (by go_grown)
set_option maxHeartbeats 2000000 in
theorem pChk_p1 (a : Option Addr) (n c : Nat) (s : RulesMath.Set) (w : World) (hl : s.rs.length = n) (hm : n ≤ 9223372036854775807) (hn1 : ¬ n < 1) (hn8 : ¬ 8 < n) (ha1 : ¬ s.alim < 1) (ha5 : ¬ 5000 < s.alim) (hd0 : ¬ s.d < 0) (hd16 : ¬ 16 < s.d) (h : s.pl < 1) : Calls Try.prog 17 #[setV a n c s] w (SetPost s w) := by
  have HE := Lib.hid (setE_num (s := s) (by cases hb : numB s.rs.length s.alim s.d s.pl with
    | false => rfl
    | true => have := numB_iff.1 hb; omega))
  have kn1 : decide ((n : Int) < 1) = false := decide_eq_false (by omega)
  clear hn1
  have kn8 : decide (8 < (n : Int)) = false := decide_eq_false (by omega)
  clear hn8
  have ka1 : decide (s.alim < 1) = false := decide_eq_false (by omega)
  clear ha1
  have ka5 : decide (5000 < s.alim) = false := decide_eq_false (by omega)
  clear ha5
  have kd0 : decide (s.d < 0) = false := decide_eq_false (by omega)
  clear hd0
  have kd16 : decide (16 < s.d) = false := decide_eq_false (by omega)
  clear hd16
  have hh : decide (s.pl < 1) = true := decide_eq_true (by omega)
  clear h hl
  unfold setV
  go_enter Try.func17, Try.ntmps17
  go_wp2
  all_goals (first | go_ret | skip)
  all_goals exact setPost_of HE.out (by go_grown)
set_option maxHeartbeats 2000000 in
theorem pChk_p32 (a : Option Addr) (n c : Nat) (s : RulesMath.Set) (w : World) (hl : s.rs.length = n) (hm : n ≤ 9223372036854775807) (hn1 : ¬ n < 1) (hn8 : ¬ 8 < n) (ha1 : ¬ s.alim < 1) (ha5 : ¬ 5000 < s.alim) (hd0 : ¬ s.d < 0) (hd16 : ¬ 16 < s.d) (hp1 : ¬ s.pl < 1) (h : 32 < s.pl) : Calls Try.prog 17 #[setV a n c s] w (SetPost s w) := by
  have HE := Lib.hid (setE_num (s := s) (by cases hb : numB s.rs.length s.alim s.d s.pl with
    | false => rfl
    | true => have := numB_iff.1 hb; omega))
  have kn1 : decide ((n : Int) < 1) = false := decide_eq_false (by omega)
  clear hn1
  have kn8 : decide (8 < (n : Int)) = false := decide_eq_false (by omega)
  clear hn8
  have ka1 : decide (s.alim < 1) = false := decide_eq_false (by omega)
  clear ha1
  have ka5 : decide (5000 < s.alim) = false := decide_eq_false (by omega)
  clear ha5
  have kd0 : decide (s.d < 0) = false := decide_eq_false (by omega)
  clear hd0
  have kd16 : decide (16 < s.d) = false := decide_eq_false (by omega)
  clear hd16
  have kp1 : decide (s.pl < 1) = false := decide_eq_false (by omega)
  clear hp1
  have hh : decide (32 < s.pl) = true := decide_eq_true (by omega)
  clear h hl
  unfold setV
  go_enter Try.func17, Try.ntmps17
  go_wp2
  all_goals (first | go_ret | skip)
  all_goals exact setPost_of HE.out (by go_grown)
set_option maxRecDepth 100000 in
set_option maxHeartbeats 4000000 in
theorem pChk_good (a : Option Addr) (n c : Nat) (s : RulesMath.Set) (w : World) (h : Ints w a n s.rs) (hn1 : ¬ n < 1) (hn8 : ¬ 8 < n) (ha1 : ¬ s.alim < 1) (ha5 : ¬ 5000 < s.alim) (hd0 : ¬ s.d < 0) (hd16 : ¬ 16 < s.d) (hp1 : ¬ s.pl < 1) (hp32 : ¬ 32 < s.pl) : Calls Try.prog 17 #[setV a n c s] w (SetPost s w) := by
  have hl := h.len
  have hm := h.bound
  have HL := Lib.hid h
  have HLen := Lib.hid hl
  have HN := Lib.hid (numB_iff.2 (show 1 ≤ s.rs.length ∧ s.rs.length ≤ 8 ∧ 1 ≤ s.alim ∧ s.alim ≤ 5000 ∧ 0 ≤ s.d ∧ s.d ≤ 16 ∧ 1 ≤ s.pl ∧ s.pl ≤ 32 by omega))
  have kn1 : decide ((n : Int) < 1) = false := decide_eq_false (by omega)
  clear hn1
  have kn8 : decide (8 < (n : Int)) = false := decide_eq_false (by omega)
  clear hn8
  have ka1 : decide (s.alim < 1) = false := decide_eq_false (by omega)
  clear ha1
  have ka5 : decide (5000 < s.alim) = false := decide_eq_false (by omega)
  clear ha5
  have kd0 : decide (s.d < 0) = false := decide_eq_false (by omega)
  clear hd0
  have kd16 : decide (16 < s.d) = false := decide_eq_false (by omega)
  clear hd16
  have kp1 : decide (s.pl < 1) = false := decide_eq_false (by omega)
  clear hp1
  have kp32 : decide (32 < s.pl) = false := decide_eq_false (by omega)
  clear hp32
  clear h hl
  unfold setV
  go_enter Try.func17, Try.ntmps17
  go_wp2
  have HB := Lib.hid (show Below w.heap.size w (w.alloc (.cells (setC a n c s) 24)) from (Below.refl _ _).alloc (Nat.le_refl _) _)
  go_loopw [3, 49] (fun lv kv wr => ∃ k : Nat, k ≤ n ∧ kv = .int .i64 k ∧ lv = .int .i64 (before s.rs k) ∧ AscTo s.rs k ∧ wr = w.alloc (.cells (setC a n c s) 24)) (fun _ kv _ => n - (intOf kv).toNat)
  case atStart => exact ⟨0, by omega, rfl, rfl, fun i hi => by omega, rfl⟩
  case round =>
    obtain ⟨k, hk, rfl, rfl, hA, rfl⟩ := hrel
    have HA := Lib.hid hA
    clear hA
    by_cases hlt : k < n
    · obtain ⟨b, off, rfl, x0⟩ := ints_at (HL.out.below HB.out) hlt
      have hk0 : (0 : Int) ≤ (k : Int) := by omega
      have hk1 : (k : Int) < (n : Int) := by omega
      have HS := Lib.hid (before_succ s.rs k)
      by_cases h1 : before s.rs k < gr s.rs k
      · have d1 : decide (gr s.rs k ≤ before s.rs k) = false := decide_eq_false (by omega)
        by_cases h2 : gr s.rs k ≤ 100
        · have d2 : decide (100 < gr s.rs k) = false := decide_eq_false (by omega)
          have HO := Lib.hid (ascTo_succ HA.out ⟨h1, h2⟩)
          clear h1 h2
          go_wp2
          go_roundw
          case rel => exact ⟨k + 1, by omega, by go_num, by rw [HS.out], HO.out, by simp⟩
          case measure => simp [intOf]; omega
        · have d2 : decide (100 < gr s.rs k) = true := decide_eq_true (by omega)
          have HE := Lib.hid (setE_bad (s := s) (k := k) (by rw [HLen.out]; exact hlt) (fun h => h2 h.2))
          clear h1 h2
          go_wp2
          go_ret
          exact setPost_of HE.out HB.out
      · have d1 : decide (gr s.rs k ≤ before s.rs k) = true := decide_eq_true (by omega)
        have HE := Lib.hid (setE_bad (s := s) (k := k) (by rw [HLen.out]; exact hlt) (fun h => h1 h.1))
        clear h1
        go_wp2
        go_ret
        exact setPost_of HE.out HB.out
    · obtain rfl : k = n := by omega
      have HE := Lib.hid (setE_ok HN.out (by rw [HLen.out]; exact HA.out))
      go_wp2
      go_ret
      exact setPost_of HE.out HB.out
theorem pCheckS (a : Option Addr) (n c : Nat) (s : RulesMath.Set) (w : World) (h : Ints w a n s.rs) : Calls Try.prog 17 #[setV a n c s] w (SetPost s w) := by
  by_cases hn1 : n < 1
  · exact pChk_n1 a n c s w h.len h.bound  hn1
  by_cases hn8 : 8 < n
  · exact pChk_n8 a n c s w h.len h.bound hn1 hn8
  by_cases ha1 : s.alim < 1
  · exact pChk_a1 a n c s w h.len h.bound hn1 hn8 ha1
  by_cases ha5 : 5000 < s.alim
  · exact pChk_a5 a n c s w h.len h.bound hn1 hn8 ha1 ha5
  by_cases hd0 : s.d < 0
  · exact pChk_d0 a n c s w h.len h.bound hn1 hn8 ha1 ha5 hd0
  by_cases hd16 : 16 < s.d
  · exact pChk_d16 a n c s w h.len h.bound hn1 hn8 ha1 ha5 hd0 hd16
  by_cases hp1 : s.pl < 1
  · exact pChk_p1 a n c s w h.len h.bound hn1 hn8 ha1 ha5 hd0 hd16 hp1
  by_cases hp32 : 32 < s.pl
  · exact pChk_p32 a n c s w h.len h.bound hn1 hn8 ha1 ha5 hd0 hd16 hp1 hp32
  exact pChk_good a n c s w h hn1 hn8 ha1 ha5 hd0 hd16 hp1 hp32
set_option maxHeartbeats 2000000 in
theorem rChk_n1 (a : Option Addr) (n c : Nat) (s : RulesMath.Set) (w : World) (hl : s.rs.length = n) (hm : n ≤ 9223372036854775807) (h : n < 1) : Calls Try.prog 18 #[setV a n c s] w (SetPost s w) := by
  have HE := Lib.hid (setE_num (s := s) (by cases hb : numB s.rs.length s.alim s.d s.pl with
    | false => rfl
    | true => have := numB_iff.1 hb; omega))
  have hh : decide ((n : Int) < 1) = true := decide_eq_true (by omega)
  clear h hl
  unfold setV
  go_enter Try.func18, Try.ntmps18
  go_wp2
  all_goals (first | go_ret | skip)
  all_goals exact setPost_of HE.out (by go_grown)
set_option maxHeartbeats 2000000 in
theorem rChk_n8 (a : Option Addr) (n c : Nat) (s : RulesMath.Set) (w : World) (hl : s.rs.length = n) (hm : n ≤ 9223372036854775807) (hn1 : ¬ n < 1) (h : 8 < n) : Calls Try.prog 18 #[setV a n c s] w (SetPost s w) := by
  have HE := Lib.hid (setE_num (s := s) (by cases hb : numB s.rs.length s.alim s.d s.pl with
    | false => rfl
    | true => have := numB_iff.1 hb; omega))
  have kn1 : decide ((n : Int) < 1) = false := decide_eq_false (by omega)
  clear hn1
  have hh : decide (8 < (n : Int)) = true := decide_eq_true (by omega)
  clear h hl
  unfold setV
  go_enter Try.func18, Try.ntmps18
  go_wp2
  all_goals (first | go_ret | skip)
  all_goals exact setPost_of HE.out (by go_grown)
set_option maxHeartbeats 2000000 in
theorem rChk_a1 (a : Option Addr) (n c : Nat) (s : RulesMath.Set) (w : World) (hl : s.rs.length = n) (hm : n ≤ 9223372036854775807) (hn1 : ¬ n < 1) (hn8 : ¬ 8 < n) (h : s.alim < 1) : Calls Try.prog 18 #[setV a n c s] w (SetPost s w) := by
  have HE := Lib.hid (setE_num (s := s) (by cases hb : numB s.rs.length s.alim s.d s.pl with
    | false => rfl
    | true => have := numB_iff.1 hb; omega))
  have kn1 : decide ((n : Int) < 1) = false := decide_eq_false (by omega)
  clear hn1
  have kn8 : decide (8 < (n : Int)) = false := decide_eq_false (by omega)
  clear hn8
  have hh : decide (s.alim < 1) = true := decide_eq_true (by omega)
  clear h hl
  unfold setV
  go_enter Try.func18, Try.ntmps18
  go_wp2
  all_goals (first | go_ret | skip)
  all_goals exact setPost_of HE.out (by go_grown)
set_option maxHeartbeats 2000000 in
theorem rChk_a5 (a : Option Addr) (n c : Nat) (s : RulesMath.Set) (w : World) (hl : s.rs.length = n) (hm : n ≤ 9223372036854775807) (hn1 : ¬ n < 1) (hn8 : ¬ 8 < n) (ha1 : ¬ s.alim < 1) (h : 5000 < s.alim) : Calls Try.prog 18 #[setV a n c s] w (SetPost s w) := by
  have HE := Lib.hid (setE_num (s := s) (by cases hb : numB s.rs.length s.alim s.d s.pl with
    | false => rfl
    | true => have := numB_iff.1 hb; omega))
  have kn1 : decide ((n : Int) < 1) = false := decide_eq_false (by omega)
  clear hn1
  have kn8 : decide (8 < (n : Int)) = false := decide_eq_false (by omega)
  clear hn8
  have ka1 : decide (s.alim < 1) = false := decide_eq_false (by omega)
  clear ha1
  have hh : decide (5000 < s.alim) = true := decide_eq_true (by omega)
  clear h hl
  unfold setV
  go_enter Try.func18, Try.ntmps18
  go_wp2
  all_goals (first | go_ret | skip)
  all_goals exact setPost_of HE.out (by go_grown)
set_option maxHeartbeats 2000000 in
theorem rChk_d0 (a : Option Addr) (n c : Nat) (s : RulesMath.Set) (w : World) (hl : s.rs.length = n) (hm : n ≤ 9223372036854775807) (hn1 : ¬ n < 1) (hn8 : ¬ 8 < n) (ha1 : ¬ s.alim < 1) (ha5 : ¬ 5000 < s.alim) (h : s.d < 0) : Calls Try.prog 18 #[setV a n c s] w (SetPost s w) := by
  have HE := Lib.hid (setE_num (s := s) (by cases hb : numB s.rs.length s.alim s.d s.pl with
    | false => rfl
    | true => have := numB_iff.1 hb; omega))
  have kn1 : decide ((n : Int) < 1) = false := decide_eq_false (by omega)
  clear hn1
  have kn8 : decide (8 < (n : Int)) = false := decide_eq_false (by omega)
  clear hn8
  have ka1 : decide (s.alim < 1) = false := decide_eq_false (by omega)
  clear ha1
  have ka5 : decide (5000 < s.alim) = false := decide_eq_false (by omega)
  clear ha5
  have hh : decide (s.d < 0) = true := decide_eq_true (by omega)
  clear h hl
  unfold setV
  go_enter Try.func18, Try.ntmps18
  go_wp2
  all_goals (first | go_ret | skip)
  all_goals exact setPost_of HE.out (by go_grown)
set_option maxHeartbeats 2000000 in
theorem rChk_d16 (a : Option Addr) (n c : Nat) (s : RulesMath.Set) (w : World) (hl : s.rs.length = n) (hm : n ≤ 9223372036854775807) (hn1 : ¬ n < 1) (hn8 : ¬ 8 < n) (ha1 : ¬ s.alim < 1) (ha5 : ¬ 5000 < s.alim) (hd0 : ¬ s.d < 0) (h : 16 < s.d) : Calls Try.prog 18 #[setV a n c s] w (SetPost s w) := by
  have HE := Lib.hid (setE_num (s := s) (by cases hb : numB s.rs.length s.alim s.d s.pl with
    | false => rfl
    | true => have := numB_iff.1 hb; omega))
  have kn1 : decide ((n : Int) < 1) = false := decide_eq_false (by omega)
  clear hn1
  have kn8 : decide (8 < (n : Int)) = false := decide_eq_false (by omega)
  clear hn8
  have ka1 : decide (s.alim < 1) = false := decide_eq_false (by omega)
  clear ha1
  have ka5 : decide (5000 < s.alim) = false := decide_eq_false (by omega)
  clear ha5
  have kd0 : decide (s.d < 0) = false := decide_eq_false (by omega)
  clear hd0
  have hh : decide (16 < s.d) = true := decide_eq_true (by omega)
  clear h hl
  unfold setV
  go_enter Try.func18, Try.ntmps18
  go_wp2
  all_goals (first | go_ret | skip)
  all_goals exact setPost_of HE.out (by go_grown)
set_option maxHeartbeats 2000000 in
theorem rChk_p1 (a : Option Addr) (n c : Nat) (s : RulesMath.Set) (w : World) (hl : s.rs.length = n) (hm : n ≤ 9223372036854775807) (hn1 : ¬ n < 1) (hn8 : ¬ 8 < n) (ha1 : ¬ s.alim < 1) (ha5 : ¬ 5000 < s.alim) (hd0 : ¬ s.d < 0) (hd16 : ¬ 16 < s.d) (h : s.pl < 1) : Calls Try.prog 18 #[setV a n c s] w (SetPost s w) := by
  have HE := Lib.hid (setE_num (s := s) (by cases hb : numB s.rs.length s.alim s.d s.pl with
    | false => rfl
    | true => have := numB_iff.1 hb; omega))
  have kn1 : decide ((n : Int) < 1) = false := decide_eq_false (by omega)
  clear hn1
  have kn8 : decide (8 < (n : Int)) = false := decide_eq_false (by omega)
  clear hn8
  have ka1 : decide (s.alim < 1) = false := decide_eq_false (by omega)
  clear ha1
  have ka5 : decide (5000 < s.alim) = false := decide_eq_false (by omega)
  clear ha5
  have kd0 : decide (s.d < 0) = false := decide_eq_false (by omega)
  clear hd0
  have kd16 : decide (16 < s.d) = false := decide_eq_false (by omega)
  clear hd16
  have hh : decide (s.pl < 1) = true := decide_eq_true (by omega)
  clear h hl
  unfold setV
  go_enter Try.func18, Try.ntmps18
  go_wp2
  all_goals (first | go_ret | skip)
  all_goals exact setPost_of HE.out (by go_grown)
set_option maxHeartbeats 2000000 in
theorem rChk_p32 (a : Option Addr) (n c : Nat) (s : RulesMath.Set) (w : World) (hl : s.rs.length = n) (hm : n ≤ 9223372036854775807) (hn1 : ¬ n < 1) (hn8 : ¬ 8 < n) (ha1 : ¬ s.alim < 1) (ha5 : ¬ 5000 < s.alim) (hd0 : ¬ s.d < 0) (hd16 : ¬ 16 < s.d) (hp1 : ¬ s.pl < 1) (h : 32 < s.pl) : Calls Try.prog 18 #[setV a n c s] w (SetPost s w) := by
  have HE := Lib.hid (setE_num (s := s) (by cases hb : numB s.rs.length s.alim s.d s.pl with
    | false => rfl
    | true => have := numB_iff.1 hb; omega))
  have kn1 : decide ((n : Int) < 1) = false := decide_eq_false (by omega)
  clear hn1
  have kn8 : decide (8 < (n : Int)) = false := decide_eq_false (by omega)
  clear hn8
  have ka1 : decide (s.alim < 1) = false := decide_eq_false (by omega)
  clear ha1
  have ka5 : decide (5000 < s.alim) = false := decide_eq_false (by omega)
  clear ha5
  have kd0 : decide (s.d < 0) = false := decide_eq_false (by omega)
  clear hd0
  have kd16 : decide (16 < s.d) = false := decide_eq_false (by omega)
  clear hd16
  have kp1 : decide (s.pl < 1) = false := decide_eq_false (by omega)
  clear hp1
  have hh : decide (32 < s.pl) = true := decide_eq_true (by omega)
  clear h hl
  unfold setV
  go_enter Try.func18, Try.ntmps18
  go_wp2
  all_goals (first | go_ret | skip)
  all_goals exact setPost_of HE.out (by go_grown)
set_option maxRecDepth 100000 in
set_option maxHeartbeats 4000000 in
theorem rChk_good (a : Option Addr) (n c : Nat) (s : RulesMath.Set) (w : World) (h : Ints w a n s.rs) (hn1 : ¬ n < 1) (hn8 : ¬ 8 < n) (ha1 : ¬ s.alim < 1) (ha5 : ¬ 5000 < s.alim) (hd0 : ¬ s.d < 0) (hd16 : ¬ 16 < s.d) (hp1 : ¬ s.pl < 1) (hp32 : ¬ 32 < s.pl) : Calls Try.prog 18 #[setV a n c s] w (SetPost s w) := by
  have hl := h.len
  have hm := h.bound
  have HL := Lib.hid h
  have HLen := Lib.hid hl
  have HN := Lib.hid (numB_iff.2 (show 1 ≤ s.rs.length ∧ s.rs.length ≤ 8 ∧ 1 ≤ s.alim ∧ s.alim ≤ 5000 ∧ 0 ≤ s.d ∧ s.d ≤ 16 ∧ 1 ≤ s.pl ∧ s.pl ≤ 32 by omega))
  have kn1 : decide ((n : Int) < 1) = false := decide_eq_false (by omega)
  clear hn1
  have kn8 : decide (8 < (n : Int)) = false := decide_eq_false (by omega)
  clear hn8
  have ka1 : decide (s.alim < 1) = false := decide_eq_false (by omega)
  clear ha1
  have ka5 : decide (5000 < s.alim) = false := decide_eq_false (by omega)
  clear ha5
  have kd0 : decide (s.d < 0) = false := decide_eq_false (by omega)
  clear hd0
  have kd16 : decide (16 < s.d) = false := decide_eq_false (by omega)
  clear hd16
  have kp1 : decide (s.pl < 1) = false := decide_eq_false (by omega)
  clear hp1
  have kp32 : decide (32 < s.pl) = false := decide_eq_false (by omega)
  clear hp32
  clear h hl
  unfold setV
  go_enter Try.func18, Try.ntmps18
  go_wp2
  have HB := Lib.hid (show Below w.heap.size w (w.alloc (.cells (setC a n c s) 34)) from (Below.refl _ _).alloc (Nat.le_refl _) _)
  go_loopw [3] (fun kv wr => ∃ k : Nat, k ≤ n ∧ kv = .int .i64 k ∧ AscTo s.rs k ∧ ∃ dd, wr = (w.alloc (.cells (setC a n c s) 34)).drewN dd) (fun kv _ => n - (intOf kv).toNat)
  case atStart => exact ⟨0, by omega, rfl, fun i hi => by omega, 0, rfl⟩
  case round =>
    obtain ⟨k, hk, rfl, hA, dd, rfl⟩ := hrel
    have HA := Lib.hid hA
    clear hA
    have q0 : (w.alloc (.cells (setC a n c s) 34)).cell? ⟨w.heap.size, 0, none⟩ = some (.slice a n c) := (four_cells (block_new _ _ rfl)).1
    by_cases hlt : k < n
    · have hk0 : (0 : Int) ≤ (k : Int) := by omega
      have hk1 : (k : Int) < (n : Int) := by omega
      have hgt : decide (0 < (k : Int)) = decide (0 < k) := by simp
      have HOk := Lib.hid (fun h => ascTo_succ (k := k) HA.out h)
      have HBad := Lib.hid (fun h => setE_bad (s := s) (k := k) (by rw [HLen.out]; exact hlt) h)
      obtain ⟨b, off, rfl, x0⟩ := ints_at (HL.out.below HB.out) hlt
      clear hgt
      by_cases h1 : 1 ≤ gr s.rs k
      · have d1 : decide (gr s.rs k < 1) = false := decide_eq_false (by omega)
        by_cases h2 : gr s.rs k ≤ 100
        · have d2 : decide (100 < gr s.rs k) = false := decide_eq_false (by omega)
          by_cases h0 : 0 < k
          · have d0 : decide (0 < k) = true := decide_eq_true h0
            have d0' : decide ((0 : Int) < (k : Int)) = true := decide_eq_true (by omega)
            obtain ⟨j, hj⟩ : ∃ j : Nat, k - 1 = j := ⟨_, rfl⟩
            have hbe : before s.rs k = gr s.rs j := by unfold before; rw [if_neg (by omega), hj]
            obtain ⟨b', off', e', x1⟩ := ints_at (HL.out.below HB.out) (k := j) (by omega)
            cases e'
            have hj0 : (0 : Int) ≤ (j : Int) := by omega
            have hj1 : (j : Int) < (n : Int) := by omega
            have hj2 : (k : Int) - 1 = (j : Int) := by omega
            have hj3 : IntKind.i64.wrap ((k : Int) - 1) = (j : Int) := by rw [hj2]; exact IntWalk.i64_in _ (by omega)
            by_cases h3 : gr s.rs j < gr s.rs k
            · have d3 : decide (gr s.rs k ≤ gr s.rs j) = false := decide_eq_false (by omega)
              have HO := Lib.hid (HOk.out ⟨by rw [hbe]; exact h3, h2⟩)
              clear h1 h2 h3 hbe hj
              go_wp2
              go_quiet (fail)
              go_wp2
              clear hj2 hj3
              go_roundw
              case rel => exact ⟨k + 1, by omega, by go_num, HO.out, _, rfl⟩
              case measure => simp [intOf]; omega
            · have d3 : decide (gr s.rs k ≤ gr s.rs j) = true := decide_eq_true (by omega)
              have HE := Lib.hid (HBad.out (fun h => h3 (by rw [← hbe]; exact h.1)))
              clear h1 h2 h3 hbe hj
              go_wp2
              go_quiet (fail)
              go_wp2
              go_ret
              exact setPost_of HE.out (below_drewN (below_drewN HB.out _) _)
          · have d0 : decide (0 < k) = false := decide_eq_false h0
            have d0' : decide ((0 : Int) < (k : Int)) = false := decide_eq_false (by omega)
            have HO := Lib.hid (HOk.out ⟨by unfold before; rw [if_pos (by omega)]; omega, h2⟩)
            clear h1 h2 h0
            go_wp2
            go_quiet (fail)
            go_wp2
            go_roundw
            case rel => exact ⟨k + 1, by omega, by go_num, HO.out, _, rfl⟩
            case measure => simp [intOf]; omega
        · have d2 : decide (100 < gr s.rs k) = true := decide_eq_true (by omega)
          have HE := Lib.hid (HBad.out (fun h => h2 h.2))
          clear h1 h2
          go_wp2
          go_quiet (fail)
          go_wp2
          go_ret
          exact setPost_of HE.out (below_drewN (below_drewN HB.out _) _)
      · have d1 : decide (gr s.rs k < 1) = true := decide_eq_true (by omega)
        have HE := Lib.hid (HBad.out (fun h => by
          have := HA.out
          have hb0 : 0 ≤ before s.rs k := by
            unfold before
            split
            · omega
            · have := asc_pos HA.out (k - 1) (by omega); omega
          omega))
        clear h1
        go_wp2
        go_quiet (fail)
        go_wp2
        go_ret
        exact setPost_of HE.out (below_drewN (below_drewN HB.out _) _)
    · obtain rfl : k = n := by omega
      have HE := Lib.hid (setE_ok HN.out (by rw [HLen.out]; exact HA.out))
      go_wp2
      go_ret
      exact setPost_of HE.out (below_drewN HB.out _)
theorem rCheckS (a : Option Addr) (n c : Nat) (s : RulesMath.Set) (w : World) (h : Ints w a n s.rs) : Calls Try.prog 18 #[setV a n c s] w (SetPost s w) := by
  by_cases hn1 : n < 1
  · exact rChk_n1 a n c s w h.len h.bound  hn1
  by_cases hn8 : 8 < n
  · exact rChk_n8 a n c s w h.len h.bound hn1 hn8
  by_cases ha1 : s.alim < 1
  · exact rChk_a1 a n c s w h.len h.bound hn1 hn8 ha1
  by_cases ha5 : 5000 < s.alim
  · exact rChk_a5 a n c s w h.len h.bound hn1 hn8 ha1 ha5
  by_cases hd0 : s.d < 0
  · exact rChk_d0 a n c s w h.len h.bound hn1 hn8 ha1 ha5 hd0
  by_cases hd16 : 16 < s.d
  · exact rChk_d16 a n c s w h.len h.bound hn1 hn8 ha1 ha5 hd0 hd16
  by_cases hp1 : s.pl < 1
  · exact rChk_p1 a n c s w h.len h.bound hn1 hn8 ha1 ha5 hd0 hd16 hp1
  by_cases hp32 : 32 < s.pl
  · exact rChk_p32 a n c s w h.len h.bound hn1 hn8 ha1 ha5 hd0 hd16 hp1 hp32
  exact rChk_good a n c s w h hn1 hn8 ha1 ha5 hd0 hd16 hp1 hp32
end Go.Proofs.Ytfgalaalopkclaa
