/-
  Layer 38 (rules): the list of a sense, an iterator.
-/
import Derived.Test.YtfgalaalopkclaaRulesH
import Derived.Test.YtfgalaalopkclaaRangeLib
import Derived.RangeFuncNested
import Derived.RangeFuncBound
import Derived.RangeFuncCalls
import Derived.RangeFuncLeaves
import Derived.Shelf.Abstract
import Derived.Shelf.RegionOpen
import Derived.OwnWalkIn
import Derived.TacticsInMore
import Derived.LoopNIn
import Derived.LoopIn
import Derived.WalkSpells
import Derived.WalkLawsBesides
namespace Go.Proofs.Ytfgalaalopkclaa
open Go.RowKit Go.Shelf Go.MyRange PlaneMath PilotMath RulesMath MyHeap
attribute [local go_sem] Oper.semAt_some

theorem list_call (a : Option Addr) (n c : Nat) (s : RulesMath.Set) (g : Int) (w : World) :
    Calls Try.prog 58 #[setV a n c s, .int .u8 g] w fun e w' =>
      e = .returned (.func (.func 62) #[] #[.pointer (some ⟨w.heap.size + 1, 0, none⟩), .pointer (some ⟨w.heap.size, 0, none⟩)]) ∧ w' = (w.alloc (.cells (setC a n c s) 24)).alloc (.cells #[.int .u8 g] 5) := by
  unfold setV
  go_enter Try.func58, Try.ntmps58
  go_wp2
  go_ret
  exact ⟨rfl, rfl⟩

/-- One place of a list of m advisories. -/
abbrev LPos (m : Nat) := { j : Nat // j < m }
def lposs {m : Nat} (pre : List (LPos m)) : List Nat := pre.map (·.1)
theorem lposs_snoc {m : Nat} (pre : List (LPos m)) (x : LPos m) : lposs (pre ++ [x]) = lposs pre ++ [x.1] := by simp [lposs]
theorem lposs_length {m : Nat} (pre : List (LPos m)) : (lposs pre).length = pre.length := by simp [lposs]
def lVals {m : Nat} (s : RulesMath.Set) (g : Int) (x : LPos m) : Array Value := #[.agg #[.int .u8 (ga (lstL s g) x.1).s, .int .i64 (ga (lstL s g) x.1).r, .bool (ga (lstL s g) x.1).k]]
theorem lVals_zero {m : Nat} (s : RulesMath.Set) (g : Int) (h : 0 < m) : lVals s g (⟨0, h⟩ : LPos m) = #[.agg #[.int .u8 g, .int .i64 0, .bool true]] := by
  unfold lVals
  rw [show ga (lstL s g) (⟨0, h⟩ : LPos m).1 = ⟨g, 0, true⟩ from lst_zero s g]
theorem lVals_succ {m : Nat} (s : RulesMath.Set) (g : Int) (k : Nat) (h : k + 1 < m) (hk : k < s.rs.length) : lVals s g (⟨k + 1, h⟩ : LPos m) = #[.agg #[.int .u8 g, .int .i64 (gr s.rs k), .bool false]] := by
  unfold lVals
  rw [show ga (lstL s g) (⟨k + 1, h⟩ : LPos m).1 = ⟨g, gr s.rs k, false⟩ from lst_succ s g k hk]

set_option maxRecDepth 100000 in
set_option maxHeartbeats 4000000 in
theorem list1_in (F : Fence) (m : Nat) (hF : F.fn 62) (hro : F.round = none) (hm : 1 ≤ m) (l Bg Bs b off n c : Nat) (s : RulesMath.Set) (g : Int) (hn : s.rs.length = n) (hn8 : n ≤ 8) (J Jx : List (LPos (n + 1)) → World → Prop)
    (hY : ∀ pre x W, J pre W → pre.length < n + 1 → YieldAt F (m - 1) Try.prog l (lVals s g x) W fun e W' =>
      (e = .returned (.bool true) ∧ J (pre ++ [x]) W' ∧ KeepB [Bg, Bs, b] W W') ∨ (e = .returned (.bool false) ∧ Jx (pre ++ [x]) W'))
    (W : World) (hBg : W.cell? ⟨Bg, 0, none⟩ = some (.int .u8 g)) (hBs : W.cell? ⟨Bs, 0, none⟩ = some (.slice (some ⟨b, off, none⟩) n c)) (hBr : ∀ i, i < n → W.cell? ⟨b, off + i, none⟩ = some (.int .i64 (gr s.rs i))) (h0 : J [] W) :
    CallsIn F m Try.prog 62 #[.func (.yield l) #[] #[], .pointer (some ⟨Bg, 0, none⟩), .pointer (some ⟨Bs, 0, none⟩)] W fun e W' => (∃ v, e = .returned v) ∧
      ((∃ ys : List (LPos (n + 1)), lposs ys = List.range (n + 1) ∧ J ys W') ∨ (∃ pre : List (LPos (n + 1)), (∃ k, lposs pre = List.range k) ∧ Jx pre W')) := by
  refine callsIn_of_wp Try.func62 rfl hF ?_ hro
  simp only [Try.ntmps62, List.size_toArray, List.length_cons, List.length_nil, Nat.reduceAdd, Nat.reduceSub, Array.replicate_succ, Array.replicate_zero, List.push_toArray, List.append_toArray, List.nil_append, List.cons_append]
  have HN := Lib.hid hn
  have HR := Lib.hid hBr
  clear hn hBr
  obtain ⟨fn, tmps, assign, body, hy, hR⟩ := hY [] ⟨0, by omega⟩ W h0 (by simp)
  rw [lVals_zero] at hy
  gi_wp2
  refine hR.mono ?_
  rintro e W1 (⟨rfl, hJ1, hk1⟩ | ⟨rfl, hJx1⟩)
  · have hk1' := Lib.hid hk1
    have hcg : W1.cell? ⟨Bg, 0, none⟩ = some (.int .u8 g) := (hk1 Bg (by simp) 0).trans hBg
    have hcs : W1.cell? ⟨Bs, 0, none⟩ = some (.slice (some ⟨b, off, none⟩) n c) := (hk1 Bs (by simp) 0).trans hBs
    clear hk1 hy hR hBg hBs
    gi_wp2
    gi_loopw [14] (fun i wr => ∃ k : Nat, k ≤ n ∧ i = .int .i64 k ∧ (∃ pre : List (LPos (n + 1)), lposs pre = List.range (k + 1) ∧ J pre wr) ∧ KeepB [Bg, Bs, b] W wr) (fun i _ => n - (intOf i).toNat)
    case atStart => exact ⟨0, Nat.zero_le _, rfl, ⟨[⟨0, by omega⟩], rfl, hJ1⟩, hk1'.out⟩
    case round =>
      obtain ⟨k, hk, rfl, ⟨pre, hpre, hJs⟩, hnx⟩ := hrel
      have hlen : pre.length = k + 1 := by have := congrArg List.length hpre; simpa [lposs_length] using this
      have HX := Lib.hid hnx
      by_cases hlt : k < n
      · have hgr : wr.cell? ⟨b, off + k, none⟩ = some (.int .i64 (gr s.rs k)) := (hnx b (by simp) _).trans (HR.out k hlt)
        have hgg : wr.cell? ⟨Bg, 0, none⟩ = some (.int .u8 g) := by
          have h1 := hk1'.out Bg (by simp) 0
          have h2 := hnx Bg (by simp) 0
          rw [h2, ← h1]; exact hcg
        obtain ⟨fn2, tmps2, assign2, body2, hy2, hR2⟩ := hY pre ⟨k + 1, Nat.succ_lt_succ hlt⟩ wr hJs (by rw [hlen]; omega)
        rw [lVals_succ s g k (Nat.succ_lt_succ hlt) (by rw [HN.out]; exact hlt)] at hy2
        have HP := Lib.hid hpre
        have hk0 : (0 : Int) ≤ (k : Int) := by omega
        have hk1 : (k : Int) < (n : Int) := by omega
        clear hpre hlen hnx hcg hcs
        gi_wp2
        refine hR2.mono ?_
        rintro e W3 (⟨rfl, hJ3, hk3⟩ | ⟨rfl, hJx3⟩)
        · gi_wp2
          go_roundw
          case rel => exact ⟨k + 1, by omega, by simp, ⟨_, by rw [lposs_snoc, HP.out, ← List.range_succ], hJ3⟩, HX.out.trans hk3⟩
          case measure => simp [intOf]; omega
        · gi_wp2
          refine bodyPost_ret (results_none rfl _ _ _) rfl ?_
          exact ⟨⟨_, rfl⟩, .inr ⟨_, ⟨k + 1 + 1, by rw [lposs_snoc, HP.out, ← List.range_succ]⟩, hJx3⟩⟩
      · obtain rfl : k = n := by omega
        have HP := Lib.hid hpre
        clear hpre hlen hnx
        gi_wp2
        go_end0
        exact ⟨⟨_, rfl⟩, .inl ⟨_, HP.out, hJs⟩⟩
  · gi_wp2
    refine bodyPost_ret (results_none rfl _ _ _) rfl ?_
    exact ⟨⟨_, rfl⟩, .inr ⟨_, ⟨1, rfl⟩, hJx1⟩⟩

theorem list_stops (F : Fence) (m : Nat) (hF : F.fn 62) (hro : F.round = none) (hm : 1 ≤ m) (Bg Bs b off n c : Nat) (s : RulesMath.Set) (g : Int) (hn : s.rs.length = n) (hn8 : n ≤ 8) (w : World) (hbg : Bg < w.heap.size) (hbs : Bs < w.heap.size)
    (hBg : w.cell? ⟨Bg, 0, none⟩ = some (.int .u8 g)) (hBs : w.cell? ⟨Bs, 0, none⟩ = some (.slice (some ⟨b, off, none⟩) n c)) (hBr : ∀ i, i < n → w.cell? ⟨b, off + i, none⟩ = some (.int .i64 (gr s.rs i))) :
    SeqStopsK F m Try.prog 62 #[.pointer (some ⟨Bg, 0, none⟩), .pointer (some ⟨Bs, 0, none⟩)] (lVals s g) (KeepB [Bg, Bs, b]) (fun ys : List (LPos (n + 1)) => lposs ys = List.range (n + 1)) (fun pre => ∃ k, lposs pre = List.range k) (n + 1) w := fun l J Jx W hW _ _ hY h0 =>
  list1_in F m hF hro hm l Bg Bs b off n c s g hn hn8 J Jx hY W ((hW.cell (p := ⟨Bg, 0, none⟩) hbg).trans hBg) ((hW.cell (p := ⟨Bs, 0, none⟩) hbs).trans hBs) (fun i hi => (hW.cell (p := ⟨b, off + i, none⟩) (World.block_lt_of_cell? w _ (hBr i hi))).trans (hBr i hi)) h0
end Go.Proofs.Ytfgalaalopkclaa
