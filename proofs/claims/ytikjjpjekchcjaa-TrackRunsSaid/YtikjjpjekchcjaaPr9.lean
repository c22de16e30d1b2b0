/-
  RangeLib, QuietLib, PtAltJ, LiftIn, PtAltK
-/
import Derived.RangeFuncNested
import Derived.RangeFuncBound
import Derived.RangeFuncCalls
import Derived.RangeFuncLeaves
import Derived.WalkKit
import Derived.Deep.QuietTactic
import Derived.Test.YtikjjpjekchcjaaPr8
import Derived.Sort.QuietIn
import Derived.Shelf.RegionOpen
import Derived.OwnWalkIn
import Derived.TacticsInMore
import Derived.LoopNIn
import Derived.LoopIn
import Derived.BigRegion
import Derived.OrdersIn
import Derived.Deep.RegionHeld3
import Derived.Test.YtikjjpjekchcjaaPr7
import Derived.Test.YtikjjpjekchcjaaPr2
import Derived.Test.YtikjjpjekchcjaaPr1
set_option linter.all false
set_option maxRecDepth 100000
set_option maxHeartbeats 64000000
section
namespace Go.MyRange
open Go.RowKit
def KeepB (Bs : List Nat) (W W' : World) : Prop := ∀ b, b ∈ Bs → ∀ o, W'.cell? ⟨b, o, none⟩ = W.cell? ⟨b, o, none⟩
theorem KeepB.refl (Bs : List Nat) (W : World) : KeepB Bs W W := fun _ _ _ => rfl
theorem KeepB.trans {Bs : List Nat} {A B C : World} (h : KeepB Bs A B) (k : KeepB Bs B C) : KeepB Bs A C := fun b hb o => (k b hb o).trans (h b hb o)
theorem KeepB.put {Bs : List Nat} {n₀ : Nat} (hB : ∀ b, b ∈ Bs → b < n₀) (W : World) (l : Nat) (o' : Obj) (hl : n₀ ≤ l) : KeepB Bs W (W.putObj l o') := fun b hb o => by
 have hne : b ≠ l := by have := hB b hb; omega
 have : (W.putObj l o').heap[b]? = W.heap[b]? := World.putObj_heap_other hne
 exact World.cell?_of_block (w := W) (a := ⟨b, o, none⟩) this
theorem keepB_b {Bs : List Nat} {w : World} (hB : ∀ b, b ∈ Bs → b < w.heap.size) (W : World) (l : Nat) (o o' : Obj) (hl : w.heap.size ≤ l) (_ : W.heap[l]? = some o) (_ : o.isCells = false) (_ : o.isWalk = false) : KeepB Bs W (W.putObj l o') := KeepB.put hB W l o' hl
theorem KeepB.setCell {Bs : List Nat} {W W' : World} (h : KeepB Bs W W') {p : Addr} (hp : p.block ∉ Bs) (v : Value) : KeepB Bs W (W'.setCell p v) := fun b hb o => by
 have hne : b ≠ p.block := fun e => hp (e ▸ hb)
 have : (W'.setCell p v).heap[b]? = W'.heap[b]? := Below.heap_setCell _ _ _ _ hne
 exact (World.cell?_of_block (w := W') (a := ⟨b, o, none⟩) this).trans (h b hb o)
theorem KeepB.drew {Bs : List Nat} {W W' : World} (h : KeepB Bs W W') : KeepB Bs W W'.drew := h
theorem KeepB.alloc {Bs : List Nat} {W W' : World} (h : KeepB Bs W W') (hB : ∀ b, b ∈ Bs → b < W'.heap.size) (o : Obj) : KeepB Bs W (W'.alloc o) := fun b hb i => by
 have : (W'.alloc o).heap[b]? = W'.heap[b]? := Below.heap_alloc _ _ _ (hB b hb)
 exact (World.cell?_of_block (w := W') (a := ⟨b, i, none⟩) this).trans (h b hb i)
theorem KeepB.below {Bs : List Nat} {n : Nat} {W W' W'' : World} (h : KeepB Bs W W') (hB : ∀ b, b ∈ Bs → b < n) (k : Below n W' W'') : KeepB Bs W W'' := fun b hb o => (k.cell (p := ⟨b, o, none⟩) (hB b hb)).trans (h b hb o)
theorem cell_alloc_l {w : World} {a : Addr} {v : Value} (o : Obj) (h : w.cell? a = some v) : (w.alloc o).cell? a = some v :=
 (World.cell?_of_block (w := w) (Below.heap_alloc w o a.block (World.block_lt_of_cell? w a h))).trans h
end Go.MyRange
end
section
namespace Go.MyQuiet
theorem left {P : Program} {f : FuncId} {args : Array Value} {w : World} {n : Nat} {v : Value}
    (h : Calls P f args (w.drewN n) fun e w' => e = .returned v ∧ w.drewN n = w') : Calls P f args (w.drewN n) fun e w'' => e = .returned v ∧ ∃ m, w'' = w.drewN m :=
 h.mono fun _ _ ⟨he, hm⟩ => ⟨he, n, hm.symm⟩
end Go.MyQuiet
end
section
namespace Go.Proofs.Ytikjjpjekchcjaa.Alt
open Go.RowKit Go.Shelf Go.MyRange AltMath MyHeap MyCopy MyOwn
attribute [local go_sem] Oper.semAt_some
theorem of_call (aL aH : Option Addr) (nL cL nH cH : Nat) (lo hi : Int) (w : World) :
    Calls Try.prog 84 #[bdV aL nL cL aH nH cH, .int .i64 lo, .int .i64 hi] w fun e w' =>
     e = .returned (.func (.func 96) #[] #[.pointer (some ⟨w.heap.size + 1, 0, none⟩), .pointer (some ⟨w.heap.size + 1 + 1, 0, none⟩), .pointer (some ⟨w.heap.size, 0, none⟩)]) ∧ w' = ((w.alloc (.cells (bdC aL nL cL aH nH cH) 44)).alloc (.cells #[.int .i64 lo] 3)).alloc (.cells #[.int .i64 hi] 3) := by
 unfold bdV
 go_enter Try.func84, Try.ntmps84
 go_wp2
 go_ret
 exact ⟨rfl, rfl⟩
abbrev OPos := { j : Nat // j < 201 }
def opos (pre : List OPos) : List Nat := pre.map (·.1)
theorem opos_snoc (pre : List OPos) (x : OPos) : opos (pre ++ [x]) = opos pre ++ [x.1] := by simp [opos]
theorem opos_length (pre : List OPos) : (opos pre).length = pre.length := by simp [opos]
def ofL (lo hi : List Int) (a : Nat) : Nat → List Nat
 | 0 => []
 | k + 1 => if nonAt lo hi (a + k) then ofL lo hi a k else ofL lo hi a k ++ [a + k]
theorem ofL_len (lo hi : List Int) (a k : Nat) : (ofL lo hi a k).length ≤ k := by
 induction k with
 | zero => exact Nat.le_refl _
 | succ k ih =>
  unfold ofL
  split
  ·omega
  rw [List.length_append, List.length_singleton]; omega
def oVals (x : OPos) : Array Value := #[.int .i64 (x.1 : Int)]
theorem ints_keep {W W' : World} {b off n : Nat} {l : List Int} (h : Ints W (some ⟨b, off, none⟩) n l) (hk : ∀ o, W'.cell? ⟨b, o, none⟩ = W.cell? ⟨b, o, none⟩) : Ints W' (some ⟨b, off, none⟩) n l := by
 refine ⟨h.len, h.bound, ?_⟩
 rcases h.cells with h0 | ⟨b', off', e, hc⟩
 ·exact Or.inl h0
 cases e
 exact Or.inr ⟨b, off, rfl, fun i hi => (hk _).trans (hc i hi)⟩
theorem below_grown {W W' : World} (h : Below W.heap.size W W') : W.grownBy W' none := ⟨h.os, h.tape, h.output, h.size, fun k hk _ => h.block k hk⟩
theorem lt5 {W : World} {Bl Bh Bb b1 o1 b2 o2 : Nat} {vl vh vb : Value} {lo hi : List Int} (h1 : W.cell? ⟨Bl, 0, none⟩ = some vl) (h2 : W.cell? ⟨Bh, 0, none⟩ = some vh) (h3 : W.cell? ⟨Bb, 0, none⟩ = some vb) (hL : Ints W (some ⟨b1, o1, none⟩) 201 lo) (hH : Ints W (some ⟨b2, o2, none⟩) 201 hi) : ∀ b ∈ [Bl, Bh, Bb, b1, b2], b < W.heap.size := by
 obtain ⟨_, _, e1, x0⟩ := ints_at hL (k := 0) (by decide)
 obtain ⟨_, _, e2, y0⟩ := ints_at hH (k := 0) (by decide)
 cases e1; cases e2
 intro b hb
 simp only [List.mem_cons, List.not_mem_nil, or_false] at hb
 rcases hb with rfl | rfl | rfl | rfl | rfl
 ·exact World.block_lt_of_cell? W _ h1
 ·exact World.block_lt_of_cell? W _ h2
 ·exact World.block_lt_of_cell? W _ h3
 ·exact World.block_lt_of_cell? W _ x0
 exact World.block_lt_of_cell? W _ y0
theorem of1_in (n : Nat) (hn : 1 ≤ n) (l Bl Bh Bb b1 o1 b2 o2 cL cH : Nat) (loI hiI : Int) (lo hi : List Int) (a N : Nat) (ha : max loI 0 = (a : Int)) (haN : (a : Int) + (N : Int) = min hiI 200 + 1) (hb0 : -1000 ≤ loI) (hb1 : loI ≤ 1000) (hb2 : 0 ≤ hiI) (hb3 : hiI ≤ 1000) (J Jx : List OPos → World → Prop)
    (hJb : ∀ pre W W', J pre W → Below W.heap.size W W' → J pre W')
    (hY : ∀ pre x W, J pre W → pre.length < 201 → YieldAt Fence.wide (n - 1) Try.prog l (oVals x) W fun e W' =>
     (e = .returned (.bool true) ∧ J (pre ++ [x]) W' ∧ KeepB [Bl, Bh, Bb, b1, b2] W W') ∨ (e = .returned (.bool false) ∧ Jx (pre ++ [x]) W'))
    (W : World) (hBl : W.cell? ⟨Bl, 0, none⟩ = some (.int .i64 loI)) (hBh : W.cell? ⟨Bh, 0, none⟩ = some (.int .i64 hiI)) (hBb : W.cell? ⟨Bb, 0, none⟩ = some (.slice (some ⟨b1, o1, none⟩) 201 cL) ∧ W.cell? ⟨Bb, 1, none⟩ = some (.slice (some ⟨b2, o2, none⟩) 201 cH)) (hL : Ints W (some ⟨b1, o1, none⟩) 201 lo) (hH : Ints W (some ⟨b2, o2, none⟩) 201 hi) (h0 : J [] W) :
    CallsIn Fence.wide n Try.prog 96 #[.func (.yield l) #[] #[], .pointer (some ⟨Bl, 0, none⟩), .pointer (some ⟨Bh, 0, none⟩), .pointer (some ⟨Bb, 0, none⟩)] W fun e W' => (∃ v, e = .returned v) ∧
     ((∃ ys : List OPos, opos ys = ofL lo hi a N ∧ J ys W') ∨ (∃ pre : List OPos, True ∧ Jx pre W')) := by
 refine callsIn_of_wp Try.func96 rfl trivial ?_ rfl
 simp only [Try.ntmps96, List.size_toArray, List.length_cons, List.length_nil, Nat.reduceAdd, Nat.reduceSub, Array.replicate_succ, Array.replicate_zero, List.push_toArray, List.append_toArray, List.nil_append, List.cons_append]
 have HC := qh (And.intro (And.intro hBl hBh) (And.intro hBb (And.intro hL hH)))
 have HA := qh (And.intro ha haN)
 have HJb := qh hJb
 have HYY := qh hY
 have hN2 : a + N ≤ 201 := by omega
 clear ha haN hBb hL hH hJb hY
 by_cases hl0 : loI < 0
 all_goals
  gi_wp2
  clear hBl
  gi_loopw [5] (fun i wr => ∃ k : Nat, k ≤ N ∧ i = .int .i64 ((a + k : Nat) : Int) ∧ (∃ pre : List OPos, opos pre = ofL lo hi a k ∧ J pre wr) ∧ KeepB [Bl, Bh, Bb, b1, b2] W wr)
   (fun i _ => 201 - (intOf i).toNat)
  case atStart => exact ⟨0, Nat.zero_le _, by have := HA.out.1; congr 1; omega, ⟨[], rfl, h0⟩, KeepB.refl _ _⟩
  case round =>
   obtain ⟨k, hk, rfl, ⟨pre, hpre, hJs⟩, hnx⟩ := hrel
   have hch : wr.cell? ⟨Bh, 0, none⟩ = some (.int .i64 hiI) := (hnx Bh (by simp) 0).trans HC.out.1.2
   have hcb : wr.cell? ⟨Bb, 0, none⟩ = some (.slice (some ⟨b1, o1, none⟩) 201 cL) := (hnx Bb (by simp) 0).trans HC.out.2.1.1
   have hcc : wr.cell? ⟨Bb, 1, none⟩ = some (.slice (some ⟨b2, o2, none⟩) 201 cH) := (hnx Bb (by simp) 1).trans HC.out.2.1.2
   have HI := qh (And.intro (ints_keep HC.out.2.2.1 (fun o => hnx b1 (by simp) o)) (ints_keep HC.out.2.2.2 (fun o => hnx b2 (by simp) o)))
   have hlen : pre.length ≤ k := by have := congrArg List.length hpre; rw [opos_length] at this; have := ofL_len lo hi a k; omega
   have HP := qh (And.intro hpre (And.intro hJs (And.intro hnx hlen)))
   obtain ⟨i, hi⟩ : ∃ i, a + k = i := ⟨_, rfl⟩
   rw [hi]
   have HII := qh hi
   clear hpre hJs hnx hlen hi
   by_cases hlt : k < N
   ·have hi0 : (0 : Int) ≤ (i : Int) := by omega
    have hi1 : i < 201 := by have := HII.out; omega
    have hie : (i : Int) ≤ hiI ∧ (i : Int) ≤ 200 := by have := HII.out; have := HA.out.2; omega
    obtain ⟨hie1, hie2⟩ := hie
    by_cases hm : 200 < hiI
    all_goals
     gi_wp2
     refine ⟨trivial, ?_⟩
     refine (callsIn_wide.2 (none_call (some ⟨b1, o1, none⟩) (some ⟨b2, o2, none⟩) 201 201 cL cH lo hi i _ HI.out.1 HI.out.2 hi1 hi1)).mono ?_
     rintro e w2 ⟨rfl, hb⟩
     have hJ2 := HJb.out _ _ _ HP.out.2.1 hb
     have hk2 : KeepB [Bl, Bh, Bb, b1, b2] W w2 := HP.out.2.2.1.below (lt5 ((HP.out.2.2.1 Bl (by simp) 0).trans HC.out.1.1) hch hcb HI.out.1 HI.out.2) hb
     by_cases hnn : nonAt lo hi i
     ·have hd : nonB lo hi i = true := nonB_t hnn
      have HO := qh (show ofL lo hi a (k + 1) = ofL lo hi a k from if_pos (by rw [HII.out]; exact hnn))
      rw [hd]
      have H2 := qh (And.intro hJ2 hk2)
      clear hb hJ2 hk2 hnn hd hch hcb hcc
      gi_wp2
      refine ⟨fun f hf => (by cases hf), ?_⟩
      gi_wp2
      go_roundw
      case rel => exact ⟨k + 1, by omega, by have := HII.out; congr 1; omega, ⟨pre, by rw [HO.out]; exact HP.out.1, H2.out.1⟩, H2.out.2⟩
      case measure => have := HII.out; simp [intOf]; omega
     have hd : nonB lo hi i = false := nonB_f hnn
     have HO := qh (show ofL lo hi a (k + 1) = ofL lo hi a k ++ [a + k] from if_neg (by rw [HII.out]; exact hnn))
     rw [hd]
     obtain ⟨fn, tmps, assign, body, hy, hR⟩ := HYY.out pre ⟨i, hi1⟩ w2 hJ2 (by have := HP.out.2.2.2; have := HII.out; omega)
     simp only [oVals] at hy
     have H2 := qh hk2
     clear hb hJ2 hk2 hnn hd hch hcb hcc
     gi_wp2
     refine hR.mono ?_
     rintro e W3 (⟨rfl, hJ3, hk3⟩ | ⟨rfl, hJx3⟩)
     ·have HK3 := qh (And.intro hJ3 (H2.out.trans hk3))
      clear hJ3 hk3 hy hR
      gi_wp2
      go_roundw
      case rel => exact ⟨k + 1, by omega, by have := HII.out; congr 1; omega, ⟨_, by rw [opos_snoc, HO.out, HP.out.1, HII.out], HK3.out.1⟩, HK3.out.2⟩
      case measure => have := HII.out; simp [intOf]; omega
     gi_wp2
     refine bodyPost_ret (results_none rfl _ _ _) rfl ?_
     exact ⟨⟨_, rfl⟩, .inr ⟨_, trivial, hJx3⟩⟩
   obtain rfl : k = N := by omega
   have hie : hiI < (i : Int) ∧ hiI ≤ 200 ∨ 200 < (i : Int) ∧ 200 < hiI := by have := HII.out; have := HA.out.2; omega
   rcases hie with ⟨h1, h2⟩ | ⟨h1, h2⟩
   all_goals
    gi_wp2
    go_end0
    exact ⟨⟨_, rfl⟩, .inl ⟨_, HP.out.1, HP.out.2.1⟩⟩
theorem of_stops (n : Nat) (hn : 1 ≤ n) (Bl Bh Bb b1 o1 b2 o2 cL cH : Nat) (loI hiI : Int) (lo hi : List Int) (a N : Nat) (ha : max loI 0 = (a : Int)) (haN : (a : Int) + (N : Int) = min hiI 200 + 1) (hb0 : -1000 ≤ loI) (hb1 : loI ≤ 1000) (hb2 : 0 ≤ hiI) (hb3 : hiI ≤ 1000) (w : World)
    (hBl : w.cell? ⟨Bl, 0, none⟩ = some (.int .i64 loI)) (hBh : w.cell? ⟨Bh, 0, none⟩ = some (.int .i64 hiI)) (hBb : w.cell? ⟨Bb, 0, none⟩ = some (.slice (some ⟨b1, o1, none⟩) 201 cL) ∧ w.cell? ⟨Bb, 1, none⟩ = some (.slice (some ⟨b2, o2, none⟩) 201 cH)) (hL : Ints w (some ⟨b1, o1, none⟩) 201 lo) (hH : Ints w (some ⟨b2, o2, none⟩) 201 hi) :
    SeqStopsK Fence.wide n Try.prog 96 #[.pointer (some ⟨Bl, 0, none⟩), .pointer (some ⟨Bh, 0, none⟩), .pointer (some ⟨Bb, 0, none⟩)] oVals (KeepB [Bl, Bh, Bb, b1, b2]) (fun ys : List OPos => opos ys = ofL lo hi a N) (fun _ => True) 201 w := fun l J Jx W hW hJ _ hY h0 =>
 of1_in n hn l Bl Bh Bb b1 o1 b2 o2 cL cH loI hiI lo hi a N ha haN hb0 hb1 hb2 hb3 J Jx (fun pre V V' h hb => hJ pre V V' none h (below_grown hb) (fun _ e => by cases e)) hY W (keep1 hW hBl) (keep1 hW hBh) ⟨keep1 hW hBb.1, keep1 hW hBb.2⟩ (hL.below hW) (hH.below hW) h0
def encO : Option (Int × Int) → Array Value
 | none => #[.bool false, .int .i64 0, .int .i64 0]
 | some p => #[.bool true, .int .i64 p.1, .int .i64 p.2]
theorem add_block {w : World} {p : Nat} {X Y a b l h : Int} (hp : w.heap[p]? = some (.cells #[.bool true, .int .i64 X, .int .i64 Y] 147 (0, 0))) (e1 : a = min X l) (e2 : b = max Y h) :
    ((w.setCell ⟨p, 1, none⟩ (.int .i64 a)).setCell ⟨p, 2, none⟩ (.int .i64 b)).drew.heap[p]? = some (.cells (encO (addO (some (X, Y)) (l, h))) 147 (0, 0)) := by
 subst e1; subst e2
 have := block_setCell (i := 2) (v := .int .i64 (max Y h)) (block_setCell (i := 1) (v := .int .i64 (min X l)) hp)
 show ((w.setCell ⟨p, 1, none⟩ (.int .i64 (min X l))).setCell ⟨p, 2, none⟩ (.int .i64 (max Y h))).heap[p]? = _
 simpa [addO, encO] using this
theorem add_call (p : Nat) (q : Option (Int × Int)) (l h : Int) (w : World) (hp : w.heap[p]? = some (.cells (encO q) 147 (0, 0))) :
    Calls Try.prog 85 #[.pointer (some ⟨p, 0, none⟩), .int .i64 l, .int .i64 h] w fun e w' => e = .returned (.tuple #[]) ∧ w'.heap[p]? = some (.cells (encO (addO q (l, h))) 147 (0, 0)) ∧ Only p w w' := by
 cases q with
 | none =>
  simp only [encO] at hp
  have c0 := cell_of_block (i := 0) hp rfl
  have c1 := cell_of_block (i := 1) hp rfl
  have c2 := cell_of_block (i := 2) hp rfl
  have f0 := free_of_block (i := 0) hp
  have f1 := free_of_block (i := 1) hp
  have f2 := free_of_block (i := 2) hp
  have HP := qh hp
  clear hp
  go_enter Try.func85, Try.ntmps85
  go_wp2_with fail
  refine bodyPost_ret (results_none rfl _ _ _) rfl ?_
  refine ⟨rfl, ?_, (((Only.refl _ _).setCell 0 _).setCell 1 _).setCell 2 _⟩
  have := block_setCell (i := 2) (v := .int .i64 h) (block_setCell (i := 1) (v := .int .i64 l) (block_setCell (i := 0) (v := .bool true) HP.out))
  simpa [addO, encO] using this
 | some q =>
  obtain ⟨X, Y⟩ := q
  simp only [encO] at hp
  have c0 := cell_of_block (i := 0) hp rfl
  have c1 := cell_of_block (i := 1) hp rfl
  have c2 := cell_of_block (i := 2) hp rfl
  have f0 := free_of_block (i := 0) hp
  have f1 := free_of_block (i := 1) hp
  have f2 := free_of_block (i := 2) hp
  have HP := qh hp
  clear hp
  by_cases hm1 : l < X
  all_goals
   by_cases hm2 : Y < h
   all_goals
    go_enter Try.func85, Try.ntmps85
    go_wp2_with fail
    go_region
    all_goals
     go_wp2_with fail
     go_end0
     exact ⟨rfl, add_block HP.out (by omega) (by omega), (((Only.refl _ _).setCell 1 _).setCell 2 _).drew⟩
end Go.Proofs.Ytikjjpjekchcjaa.Alt
end
section
namespace Go.MyLift
open Go.RowKit
theorem upon_in {P : Program} {o : Oper} {a : Act} {next : Act → World → Prop} {Q : Exit → Act → World → Prop} {l n : Nat} {r : Result Next} (h : o.upon P a next Q r) : o.uponIn (Fence.wide.inRound l) n P a next Q r := by
 cases r with
 | ok x w =>
  cases x with
  | value v => exact h
  | skip => exact h
  | defer d => exact h
  | enter f args => exact ⟨(fun e => by cases e), CallsIn.inRound l (callsIn_wide.2 h)⟩
  | row row args =>
   refine ⟨(fun e => by cases e), fun c cs _ => ?_⟩
   obtain ⟨v, w', r, s⟩ := h c cs
   exact ⟨v, w', r, stepsIn_wide.2 s⟩
  | _ => exact False.elim h
 | halt x w =>
  cases x with
  | panic v => exact h
  | _ => exact False.elim h
theorem op_in {P : Program} {o : Oper} {a : Act} {w : World} {next : Act → World → Prop} {Q : Exit → Act → World → Prop} {l n : Nat} (hd : ∀ c, o.op ≠ .defer c) (h : o.wp P a w next Q) : o.wpIn (Fence.wide.inRound l) n P a w next Q := by
 refine ⟨fun _ _ => trivial, ?_⟩
 have e : Oper.semAt (Fence.wide.inRound l).round a.eval o = execOp a.eval o := Oper.semAt_eq _ _ _ hd
 rw [e]
 exact upon_in h
def noDefer (ops : Array Oper) : Bool := ops.all fun o => match o.op with | .defer _ => false | _ => true
theorem noDefer_at {ops : Array Oper} (h : noDefer ops = true) {i : Nat} {o : Oper} (hi : ops[i]? = some o) : ∀ c, o.op ≠ .defer c := by
 intro c hc
 unfold noDefer at h
 rw [Array.all_eq_true] at h
 obtain ⟨hlt, he⟩ := Array.getElem?_eq_some_iff.1 hi
 have h2 := h i hlt
 rw [he, hc] at h2
 cases h2
theorem any_in {P : Program} {md : Region.Mode} {ops : Array Oper} {Q : Exit → Act → World → Prop} {l n : Nat} (hd : noDefer ops = true) (hno : ¬ LetsOut Q) : ∀ (fuel : Nat) (listed : Array Bool) (a : Act) (w : World), wpAny P md ops Q fuel listed a w → wpAnyIn (Fence.wide.inRound l) n P md ops Q fuel listed a w
 | 0, _, _, _, h => h
 | fuel + 1, listed, a, w, h => by
  refine ⟨h.1, fun i hi => ?_⟩
  have h2 := h.2 i hi
  unfold wpOp at h2
  unfold wpOpIn
  cases ho : ops[i]? with
  | none => rw [ho] at h2; exact any_in hd hno fuel _ _ _ h2
  | some o =>
   rw [ho] at h2
   simp only at h2 ⊢
   split
   ·rename_i hw
    rw [if_pos hw] at h2
    rcases h2 with h2 | ⟨_, h2⟩
    ·exact op_in (noDefer_at hd ho) (Oper.wp_mono (fun a w h => any_in hd hno fuel _ a w h) h2)
    exact absurd h2 hno
   rename_i hw
   rw [if_neg hw] at h2
   exact ⟨fun _ _ => trivial, any_in hd hno fuel _ _ _ h2⟩
theorem region_held_round {P : Program} {ops : Array Oper} {Q : Exit → Act → World → Prop} {S : World → Prop} {id l n : Nat} {a : Act} {w : World} (hm : P.follows .mixedOrders = true) (hd : noDefer ops = true) (hno : ¬ LetsOut Q) (hS : S w.drew)
    (h : S w.drew → wpAnyH P .any ops Q S ops.size (Array.replicate ops.size false) a w.drew) : (Code.region id ops true).wpIn (Fence.wide.inRound l) n P Q a w :=
 wpIn_region_any hm (any_in hd hno _ _ _ _ (wpAny_of_held _ _ _ _ (h hS)))
end Go.MyLift
end
section
namespace Go.Proofs.Ytikjjpjekchcjaa.Alt
open Go.RowKit Go.Shelf Go.MyRange AltMath MyHeap MyCopy MyOwn
attribute [local go_sem] Oper.semAt_some
def foldG (g : Nat → Int × Int) (l : List Nat) : Option (Int × Int) := l.foldl (fun q i => addO q (g i)) none
theorem foldG_snoc (g : Nat → Int × Int) (l : List Nat) (i : Nat) : foldG g (l ++ [i]) = addO (foldG g l) (g i) := by simp [foldG]
theorem ofL_no {lo hi : List Int} {a k : Nat} (h : nonAt lo hi (a + k)) : ofL lo hi a (k + 1) = ofL lo hi a k := if_pos h
theorem ofL_yes {lo hi : List Int} {a k : Nat} (h : ¬ nonAt lo hi (a + k)) : ofL lo hi a (k + 1) = ofL lo hi a k ++ [a + k] := if_neg h
theorem acc_no {lo hi : List Int} {g : Nat → Int × Int} {a k : Nat} (h : nonAt lo hi (a + k)) : acc (hasB lo hi) g a (k + 1) = acc (hasB lo hi) g a k := if_neg (fun e => e h)
theorem acc_yes {lo hi : List Int} {g : Nat → Int × Int} {a k : Nat} (h : ¬ nonAt lo hi (a + k)) : acc (hasB lo hi) g a (k + 1) = addO (acc (hasB lo hi) g a k) (g (a + k)) := if_pos h
theorem acc_fold (lo hi : List Int) (g : Nat → Int × Int) (a k : Nat) : acc (hasB lo hi) g a k = foldG g (ofL lo hi a k) := by
 induction k with
 | zero => rfl
 | succ k ih =>
  by_cases h : nonAt lo hi (a + k)
  ·rw [acc_no h, ofL_no h, ih]
  rw [acc_yes h, ofL_yes h, foldG_snoc, ih]
def StK (w0 : World) (n0 : Nat) (q : Option (Int × Int)) (W : World) : Prop := W.heap[n0]? = some (.cells (encO q) 147 (0, 0)) ∧ Below w0.heap.size w0 W ∧ w0.heap.size + 4 ≤ W.heap.size
theorem StK.grown {w0 : World} {n0 B : Nat} {q : Option (Int × Int)} {W W' : World} {row : Option Nat} (h : StK w0 n0 q W) (hB : w0.heap.size ≤ B) (hg : W.grownBy W' row) (hr : ∀ r, row = some r → B ≤ r ∧ ∃ o : Obj, W.heap[r]? = some o ∧ o.isCells = false) : StK w0 n0 q W' :=
 ⟨(grownBy_keeps_cells hg (fun r e => (hr r e).2) h.1 rfl).trans h.1, h.2.1.grown hg h.2.1.size (fun k e => Nat.le_trans hB (hr k e).1), Nat.le_trans h.2.2 hg.size⟩
theorem others_only {W W' : World} {b : Nat} {cs : Array Value} {T : TypeId} (hb : W.heap[b]? = some (.cells cs T (0, 0))) (h : Only b W W') : KeepsOthers W W' :=
 ⟨h.size, fun k o h1 h2 => (h.block k (lt_of_block h1) (fun e => by cases e; rw [hb] at h1; cases h1; cases h2)).trans h1⟩
theorem keepB_only {Bs : List Nat} {W W' : World} {b : Nat} (h : Only b W W') (hne : b ∉ Bs) (hlt : ∀ c ∈ Bs, c < W.heap.size) : KeepB Bs W W' := fun c hc o =>
 World.cell?_of_block (w := W) (a := ⟨c, o, none⟩) (h.block c (hlt c hc) (fun e => by cases e; exact hne hc))
theorem step1_call (b1 o1 b2 o2 cL cH : Nat) (lo hi : List Int) (P : Nat) (p q : Nat) (k : Nat) (w : World) (hk : k < 201) (hP : P ≤ 32) (hV : ∀ i, i < 201 → ¬ badAt lo hi i) (hL : Ints w (some ⟨b1, o1, none⟩) 201 lo) (hH : Ints w (some ⟨b2, o2, none⟩) 201 hi)
    (h0 : w.heap[p]? = some (.cells (bdC (some ⟨b1, o1, none⟩) 201 cL (some ⟨b2, o2, none⟩) 201 cH) 44 (0, 0))) (h1 : w.cell? ⟨q, 0, none⟩ = some (.int .i64 (P : Int))) :
    Calls Try.prog 83 #[.int .i64 (k : Int), .pointer (some ⟨p, 0, none⟩), .pointer (some ⟨q, 0, none⟩)] w (PairPost (stF lo hi P k).1 (stF lo hi P k).2 w) := by
 refine (callsIn_wide (n := 6)).1 ?_
 refine callsIn_of_wp_marks Try.func83 rfl trivial ?_ rfl
 simp only [Try.ntmps83, List.size_toArray, List.length_cons, List.length_nil, Nat.reduceAdd, Nat.reduceSub, Array.replicate_succ, Array.replicate_zero, List.push_toArray, List.append_toArray, List.nil_append, List.cons_append]
 have HV := qh hV
 have H := qh (And.intro hL hH)
 obtain ⟨k0, k1⟩ := two_cells h0
 have HX := qh h0
 have hk0 : (0 : Int) ≤ (k : Int) := by omega
 have hk1 : (k : Int) < 201 := by omega
 have hP1 : (P : Int) ≤ 32 := by omega
 have kb0 := World.block_lt_of_cell? w _ k0
 have kb1 := World.block_lt_of_cell? w _ h1
 clear hV hL hH h0
 gi_wp2_with fail
 refine ⟨trivial, ?_⟩
 refine (callsIn_wide.2 (of_call (some ⟨b1, o1, none⟩) (some ⟨b2, o2, none⟩) 201 cL 201 cH _ _ _)).mono ?_
 rintro e w2 ⟨rfl, rfl⟩
 gi_wp2_with fail
 have hA := stA_le P k hk
 obtain ⟨A, hAe⟩ : ∃ A, stA P k = A := ⟨_, rfl⟩
 obtain ⟨N, hNe⟩ : ∃ N, stN P k = N := ⟨_, rfl⟩
 rw [hAe, hNe] at hA
 have hA0 : max ((k : Int) - (P : Int)) 0 = (A : Int) := by unfold stA at hAe; omega
 have hA1 : (A : Int) + (N : Int) = min ((k : Int) + (P : Int)) 200 + 1 := by omega
 have HAN := qh (And.intro hAe hNe)
 have hB4 : Below w.heap.size w ((((w.alloc (.cells (encO none) 147)).alloc (.cells (bdC (some ⟨b1, o1, none⟩) 201 cL (some ⟨b2, o2, none⟩) 201 cH) 44)).alloc (.cells #[.int .i64 ((k : Int) - (P : Int))] 3)).alloc (.cells #[.int .i64 ((k : Int) + (P : Int))] 3)) :=
  (((below_alloc _ _).alloc (by simp) _).alloc (by simp; omega) _).alloc (by simp; omega) _
 have HI0 := qh (show StK w w.heap.size (foldG (shG lo hi) (opos [])) ((((w.alloc (.cells (encO none) 147)).alloc (.cells (bdC (some ⟨b1, o1, none⟩) 201 cL (some ⟨b2, o2, none⟩) 201 cH) 44)).alloc (.cells #[.int .i64 ((k : Int) - (P : Int))] 3)).alloc (.cells #[.int .i64 ((k : Int) + (P : Int))] 3)) from
  ⟨block_alloc (block_alloc (block_alloc (block_new _ _ rfl))), hB4, by simp⟩)
 have HC := qh (And.intro (show ((((w.alloc (.cells (encO none) 147)).alloc (.cells (bdC (some ⟨b1, o1, none⟩) 201 cL (some ⟨b2, o2, none⟩) 201 cH) 44)).alloc (.cells #[.int .i64 ((k : Int) - (P : Int))] 3)).alloc (.cells #[.int .i64 ((k : Int) + (P : Int))] 3)).heap[w.heap.size + 1]? = some (.cells (bdC (some ⟨b1, o1, none⟩) 201 cL (some ⟨b2, o2, none⟩) 201 cH) 44 (0, 0)) from block_alloc (block_alloc (block_new _ _ (by simp))))
  (And.intro (show ((((w.alloc (.cells (encO none) 147)).alloc (.cells (bdC (some ⟨b1, o1, none⟩) 201 cL (some ⟨b2, o2, none⟩) 201 cH) 44)).alloc (.cells #[.int .i64 ((k : Int) - (P : Int))] 3)).alloc (.cells #[.int .i64 ((k : Int) + (P : Int))] 3)).heap[w.heap.size + 1 + 1]? = some (.cells #[.int .i64 ((k : Int) - (P : Int))] 3 (0, 0)) from block_alloc (block_new _ _ (by simp)))
   (show ((((w.alloc (.cells (encO none) 147)).alloc (.cells (bdC (some ⟨b1, o1, none⟩) 201 cL (some ⟨b2, o2, none⟩) 201 cH) 44)).alloc (.cells #[.int .i64 ((k : Int) - (P : Int))] 3)).alloc (.cells #[.int .i64 ((k : Int) + (P : Int))] 3)).heap[w.heap.size + 1 + 1 + 1]? = some (.cells #[.int .i64 ((k : Int) + (P : Int))] 3 (0, 0)) from block_new _ _ (by simp))))
 have hsz : ((((w.alloc (.cells (encO none) 147)).alloc (.cells (bdC (some ⟨b1, o1, none⟩) 201 cL (some ⟨b2, o2, none⟩) 201 cH) 44)).alloc (.cells #[.int .i64 ((k : Int) - (P : Int))] 3)).alloc (.cells #[.int .i64 ((k : Int) + (P : Int))] 3)).heap.size = w.heap.size + 4 := by simp
 change Code.wpIn _ _ _ _ _ _ ((((w.alloc (.cells (encO none) 147)).alloc (.cells (bdC (some ⟨b1, o1, none⟩) 201 cL (some ⟨b2, o2, none⟩) 201 cH) 44)).alloc (.cells #[.int .i64 ((k : Int) - (P : Int))] 3)).alloc (.cells #[.int .i64 ((k : Int) + (P : Int))] 3))
 clear hA hAe hNe
 generalize ((((w.alloc (.cells (encO none) 147)).alloc (.cells (bdC (some ⟨b1, o1, none⟩) 201 cL (some ⟨b2, o2, none⟩) 201 cH) 44)).alloc (.cells #[.int .i64 ((k : Int) - (P : Int))] 3)).alloc (.cells #[.int .i64 ((k : Int) + (P : Int))] 3)) = w4 at *
 have hbl := World.block_lt_of_cell? w _ (ints_at H.out.1 hk).choose_spec.choose_spec.2
 have HLT : Hid (∀ b ∈ [w.heap.size + 1 + 1, w.heap.size + 1 + 1 + 1, w.heap.size + 1, b1, b2], b < w4.heap.size ∧ b ≠ w.heap.size) := qh (by
  obtain ⟨_, _, e1, x0⟩ := ints_at H.out.1 (k := 0) (by decide)
  obtain ⟨_, _, e2, y0⟩ := ints_at H.out.2 (k := 0) (by decide)
  cases e1; cases e2
  have l1 : b1 < w.heap.size := World.block_lt_of_cell? w _ x0
  have l2 : b2 < w.heap.size := World.block_lt_of_cell? w _ y0
  intro b hb
  simp only [List.mem_cons, List.not_mem_nil, or_false] at hb
  rcases hb with rfl | rfl | rfl | rfl | rfl <;> omega)
 clear hbl k0 k1 h1
 refine wpIn_rangeFunc_ownF rfl (by omega) (gf := 96) (lb := #[.pointer (some ⟨w.heap.size + 1 + 1, 0, none⟩), .pointer (some ⟨w.heap.size + 1 + 1 + 1, 0, none⟩), .pointer (some ⟨w.heap.size + 1, 0, none⟩)]) rfl trivial (enters_of Try.func96 (by kernel_rfl) rfl)
  (of_stops _ (by omega) (w.heap.size + 1 + 1) (w.heap.size + 1 + 1 + 1) (w.heap.size + 1) b1 o1 b2 o2 cL cH _ _ lo hi A N hA0 hA1 (by omega) (by omega) (by omega) (by omega) w4 (cell_of_block HC.out.2.1 rfl) (cell_of_block HC.out.2.2 rfl) (two_cells HC.out.1) (H.out.1.below hB4) (H.out.2.below hB4)) KeepB.trans (keepB_b (fun b hb => (HLT.out b hb).1)) (Below.refl _ _) (fun _ => rfl)
  (fun pre W => StK w w.heap.size (foldG (shG lo hi) (opos pre)) W)
  (fun _ _ _ => False)
  (fun _ _ _ _ hs hg hr => hs.grown (by omega) hg hr)
  (fun _ _ _ _ _ hs _ _ => hs)
  HI0.out
  (fun x => { tmps := #[.int .i64 (k : Int), .pointer (some ⟨p, 0, none⟩), .pointer (some ⟨q, 0, none⟩), undef, .int .i64 0, .int .i64 0, .pointer (some ⟨w.heap.size, 0, none⟩), .int .i64 (x.1 : Int), undef,
   .agg #[.slice (some ⟨b1, o1, none⟩) 201 cL, .slice (some ⟨b2, o2, none⟩) 201 cH], .int .i64 (k : Int), .int .i64 (P : Int), .int .i64 ((k : Int) - (P : Int)), .int .i64 (k : Int), .int .i64 (P : Int), .int .i64 ((k : Int) + (P : Int)),
   .func (.func 96) #[] #[.pointer (some ⟨w.heap.size + 1 + 1, 0, none⟩), .pointer (some ⟨w.heap.size + 1 + 1 + 1, 0, none⟩), .pointer (some ⟨w.heap.size + 1, 0, none⟩)],
   .int .i64 (x.1 : Int), undef, undef, undef, undef, undef, undef, undef, undef, undef, undef, undef, undef, undef, undef, undef, undef, undef, undef, undef, undef, undef, undef, undef, undef, undef, undef], defers := [] }) ?assign ?body ?done ?stop
 case assign =>
  intro l x W K hK
  simp only [oVals]
  gi_wp2
  exact hK
 case body =>
  rintro l pre x W hI hlen
  obtain ⟨j, hj⟩ := x
  dsimp only at *
  have hj0 : (0 : Int) ≤ (j : Int) := by omega
  have hj1 : (j : Int) < 201 := by omega
  have hX := keepO hI.2.1 HX.out
  obtain ⟨k0, k1⟩ := two_cells (w := W.drew) hX
  obtain ⟨_, _, e1, x0⟩ := ints_at (H.out.1.below hI.2.1) hj
  obtain ⟨_, _, e2, y0⟩ := ints_at (H.out.2.below hI.2.1) hj
  cases e1; cases e2
  obtain ⟨x1, x2, y1, y2⟩ := ok_bd HV.out hj
  have HS := qh (show shG lo hi j = (gi lo j + ((j : Int) - 100), gi hi j + ((j : Int) - 100)) from rfl)
  obtain ⟨X, hXX⟩ : ∃ X, gi lo j = X := ⟨_, rfl⟩
  obtain ⟨Y, hYY⟩ : ∃ Y, gi hi j = Y := ⟨_, rfl⟩
  rw [hXX] at x0 x1 x2 HS
  rw [hYY] at y0 y1 y2 HS
  have HQ := qh (foldG_snoc (shG lo hi) (opos pre) j)
  have z0 : W.drew.cell? ⟨b1, o1 + j, none⟩ = some (.int .i64 X) := x0
  have z1 : W.drew.cell? ⟨b2, o2 + j, none⟩ = some (.int .i64 Y) := y0
  have HI := qh hI
  have hp : W.drew.heap[w.heap.size]? = some (.cells (encO (foldG (shG lo hi) (opos pre))) 147 (0, 0)) := hI.1
  have HP := qh hp
  have hbb : b1 < w.heap.size ∧ b2 < w.heap.size := by
   obtain ⟨_, _, e1, u0⟩ := ints_at H.out.1 (k := 0) (by decide)
   obtain ⟨_, _, e2, v0⟩ := ints_at H.out.2 (k := 0) (by decide)
   cases e1; cases e2
   exact ⟨World.block_lt_of_cell? w _ u0, World.block_lt_of_cell? w _ v0⟩
  have HBB := qh hbb
  clear hX x0 y0 hXX hYY hI hp hbb
  gi_wp2
  refine MyLift.region_held_round (S := (fun w' => (w'.cell? ⟨p, 0, none⟩ = some (.slice (some ⟨b1, o1, none⟩) 201 cL) ∧ w'.cell? ⟨p, 1, none⟩ = some (.slice (some ⟨b2, o2, none⟩) 201 cH)) ∧ w'.cell? ⟨b1, o1 + j, none⟩ = some (.int .i64 X) ∧ w'.cell? ⟨b2, o2 + j, none⟩ = some (.int .i64 Y))) (by kernel_rfl) (by kernel_rfl) (by rintro ⟨_, _, h⟩; exact h) (by (try dsimp only); (exact ⟨⟨k0, k1⟩, z0, z1⟩)) (fun hHeld => ?_)
  refine MyHeld.tk 0 ?_
  refine MyHeld.tk 1 ?_
  refine MyHeld.tk 2 ?_
  refine MyHeld.tk 3 ?_
  refine MyHeld.tk 4 ?_
  refine MyHeld.tk 5 ?_
  refine MyHeld.tk 6 ?_
  refine MyHeld.tk 7 ?_
  refine MyHeld.tk 8 ?_
  refine MyHeld.tk 9 ?_
  refine MyHeld.tk 10 ?_
  refine MyHeld.tk 11 ?_
  refine MyHeld.tk 12 ?_
  refine MyHeld.tk 13 ?_
  refine wpAnyH_ready (rs := [14]) (by kernel_rfl) (by simp) ?_
  refine (MyHeld.next 14 (MyHeld.at_rfl rfl) (fun Kq hKq => ?_) AllReadyH.nil)
  go_simp
  ((go_at_call 85; refine (add_call w.heap.size (foldG (shG lo hi) (opos pre)) _ _ _ HP.out).mono ?_; rintro e w3 ⟨rfl, h3, ho3⟩; replace k0 := ho3.cell k0 (show p ≠ w.heap.size by omega); replace k1 := ho3.cell k1 (show p ≠ w.heap.size by omega); replace z0 := ho3.cell z0 (show b1 ≠ w.heap.size by have := HBB.out; omega); replace z1 := ho3.cell z1 (show b2 ≠ w.heap.size by have := HBB.out; omega); have H3 := qh (And.intro h3 ho3); clear h3 ho3))
  go_wp2_with fail
  refine hKq.out _ _ (by (try dsimp only); (exact ⟨⟨k0, k1⟩, z0, z1⟩)) (fun hHeld' => ?_)
  clear hKq Kq hHeld; have hHeld := hHeld'; clear hHeld'
  try simp only [Act.put, List.setIfInBounds_toArray, List.set_cons_zero, List.set_cons_succ]
  refine wpAnyH_done (by kernel_rfl) ?_ _
  all_goals (
   gi_wp2
   have hO := ((Only.refl w.heap.size W).drew).trans H3.out.2
   have hszW := HI.out.2.2
   rw [IntWalk.i64_in (X + ((j : Int) - 100)) (by omega), IntWalk.i64_in (Y + ((j : Int) - 100)) (by omega), ← HS.out, ← HQ.out] at H3
   exact ⟨others_only HI.out.1 hO, keepB_only hO (fun h => (HLT.out _ h).2 rfl) (fun c hc => Nat.lt_of_lt_of_le (HLT.out c hc).1 (by omega)), by rw [opos_snoc]; exact H3.out.1, HI.out.2.1.trans (hO.below (Nat.le_refl _) HI.out.2.1.size), Nat.le_trans hszW hO.size⟩)
 case done =>
  rintro D ys W hD hys hI hK
  rw [hys, ← acc_fold] at hI
  have hq : acc (hasB lo hi) (shG lo hi) A N = stA' lo hi P k (stN P k) := by unfold stA'; rw [HAN.out.1, HAN.out.2]
  rw [hq] at hI
  have HF := qh (show stF lo hi P k = clip (stA' lo hi P k (stN P k)) from rfl)
  cases hQ : stA' lo hi P k (stN P k) with
  | none =>
   rw [hQ] at hI HF
   have hI1 := hI.1
   simp only [encO] at hI1
   have c0 := cell_of_block (i := 0) hI1 rfl
   have HB := qh hI.2.1
   have HD := qh hK
   clear hI1 hI hK hys hq hQ
   gi_wp2
   refine ⟨by simp, .inl ⟨_, _, rfl, run_takeDeferred HD.out, ?_⟩⟩
   refine ⟨.tuple #[.int .i64 1, .int .i64 0], by simp [results, Try.f83, go_sem], by rw [HF.out]; rfl, HB.out.trans (belowK_b (w := w) (Nat.le_refl _) _ D _ _ (by omega) HD.out rfl rfl)⟩
  | some r =>
   obtain ⟨X, Y⟩ := r
   rw [hQ] at hI HF
   have hI1 := hI.1
   simp only [encO] at hI1
   have c0 := cell_of_block (i := 0) hI1 rfl
   have c1 := cell_of_block (i := 1) hI1 rfl
   have c2 := cell_of_block (i := 2) hI1 rfl
   have HB := qh hI.2.1
   have HD := qh hK
   clear hI1 hI hK hys hq hQ
   by_cases hm1 : X < -1000
   all_goals
    by_cases hm2 : 50000 < Y
    all_goals
     gi_wp2
     gi_region
     all_goals
      gi_wp2
      refine ⟨by simp, .inl ⟨_, _, rfl, run_takeDeferred HD.out, ?_⟩⟩
      refine ⟨.tuple #[.int .i64 (max X (-1000)), .int .i64 (min Y 50000)], ?_, by rw [HF.out]; rfl, (HB.out.drew).trans (belowK_b (w := w) (Nat.le_refl _) _ D _ _ (by omega) HD.out rfl rfl)⟩
      first
      | (rw [show max X (-1000) = X by omega, show min Y 50000 = Y by omega]; simp [results, Try.f83, go_sem]; done)
      | (rw [show max X (-1000) = X by omega, show min Y 50000 = 50000 by omega]; simp [results, Try.f83, go_sem]; done)
      | (rw [show max X (-1000) = -1000 by omega, show min Y 50000 = Y by omega]; simp [results, Try.f83, go_sem]; done)
      | (rw [show max X (-1000) = -1000 by omega, show min Y 50000 = 50000 by omega]; simp [results, Try.f83, go_sem]; done)
 case stop =>
  rintro D c pre W _ _ h _
  exact h.elim
end Go.Proofs.Ytikjjpjekchcjaa.Alt
end
