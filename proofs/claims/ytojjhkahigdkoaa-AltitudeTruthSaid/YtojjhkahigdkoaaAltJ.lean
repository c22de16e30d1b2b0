/-
  Layer 18 (altitude): the iterator of; the bounds' add.
-/
import Derived.Test.YtojjhkahigdkoaaAltI
import Derived.Test.YtojjhkahigdkoaaRangeLib
import Derived.Test.YtojjhkahigdkoaaQuietLib
import Derived.Sort.QuietIn
import Derived.RangeFuncNested
import Derived.RangeFuncBound
import Derived.RangeFuncCalls
import Derived.RangeFuncLeaves
import Derived.Shelf.RegionOpen
import Derived.OwnWalkIn
import Derived.TacticsInMore
import Derived.LoopNIn
import Derived.LoopIn
import Derived.BigRegion
namespace Go.Proofs.Ytojjhkahigdkoaa
open Go.RowKit Go.Shelf Go.MyRange AltMath MyHeap MyCopy MyOwn
attribute [local go_sem] Oper.semAt_some

theorem of_call (aL aH : Option Addr) (nL cL nH cH : Nat) (lo hi : Int) (w : World) :
    Calls Try.prog 37 #[bdV aL nL cL aH nH cH, .int .i64 lo, .int .i64 hi] w fun e w' =>
      e = .returned (.func (.func 51) #[] #[.pointer (some ⟨w.heap.size + 1, 0, none⟩), .pointer (some ⟨w.heap.size + 1 + 1, 0, none⟩), .pointer (some ⟨w.heap.size, 0, none⟩)]) ∧ w' = ((w.alloc (.cells (bdC aL nL cL aH nH cH) 24)).alloc (.cells #[.int .i64 lo] 3)).alloc (.cells #[.int .i64 hi] 3) := by
  unfold bdV
  go_enter Try.func37, Try.ntmps37
  go_wp2
  go_ret
  exact ⟨rfl, rfl⟩

/-- One place of a band. -/
abbrev OPos := { j : Nat // j < 201 }
def opos (pre : List OPos) : List Nat := pre.map (·.1)
theorem opos_snoc (pre : List OPos) (x : OPos) : opos (pre ++ [x]) = opos pre ++ [x.1] := by simp [opos]
theorem opos_length (pre : List OPos) : (opos pre).length = pre.length := by simp [opos]
/-- The places from a on, of k, that count. -/
def ofL (lo hi : List Int) (a : Nat) : Nat → List Nat
  | 0 => []
  | k + 1 => if nonAt lo hi (a + k) then ofL lo hi a k else ofL lo hi a k ++ [a + k]
theorem ofL_len (lo hi : List Int) (a k : Nat) : (ofL lo hi a k).length ≤ k := by
  induction k with
  | zero => exact Nat.le_refl _
  | succ k ih =>
    unfold ofL
    split
    · omega
    · rw [List.length_append, List.length_singleton]; omega
def oVals (x : OPos) : Array Value := #[.int .i64 (x.1 : Int)]
theorem ints_keep {W W' : World} {b off n : Nat} {l : List Int} (h : Ints W (some ⟨b, off, none⟩) n l) (hk : ∀ o, W'.cell? ⟨b, o, none⟩ = W.cell? ⟨b, o, none⟩) : Ints W' (some ⟨b, off, none⟩) n l := by
  refine ⟨h.len, h.bound, ?_⟩
  rcases h.cells with h0 | ⟨b', off', e, hc⟩
  · exact Or.inl h0
  · cases e
    exact Or.inr ⟨b, off, rfl, fun i hi => (hk _).trans (hc i hi)⟩
theorem below_grown {W W' : World} (h : Below W.heap.size W W') : W.grownBy W' none := ⟨h.os, h.tape, h.output, h.size, fun k hk _ => h.block k hk⟩

theorem lt5 {W : World} {Bl Bh Bb b1 o1 b2 o2 : Nat} {vl vh vb : Value} {lo hi : List Int} (h1 : W.cell? ⟨Bl, 0, none⟩ = some vl) (h2 : W.cell? ⟨Bh, 0, none⟩ = some vh) (h3 : W.cell? ⟨Bb, 0, none⟩ = some vb) (hL : Ints W (some ⟨b1, o1, none⟩) 201 lo) (hH : Ints W (some ⟨b2, o2, none⟩) 201 hi) : ∀ b ∈ [Bl, Bh, Bb, b1, b2], b < W.heap.size := by
  obtain ⟨_, _, e1, x0⟩ := ints_at hL (k := 0) (by decide)
  obtain ⟨_, _, e2, y0⟩ := ints_at hH (k := 0) (by decide)
  cases e1; cases e2
  intro b hb
  simp only [List.mem_cons, List.not_mem_nil, or_false] at hb
  rcases hb with rfl | rfl | rfl | rfl | rfl
  · exact World.block_lt_of_cell? W _ h1
  · exact World.block_lt_of_cell? W _ h2
  · exact World.block_lt_of_cell? W _ h3
  · exact World.block_lt_of_cell? W _ x0
  · exact World.block_lt_of_cell? W _ y0

set_option maxRecDepth 100000 in
set_option maxHeartbeats 4000000 in
theorem of1_in (n : Nat) (hn : 1 ≤ n) (l Bl Bh Bb b1 o1 b2 o2 cL cH : Nat) (loI hiI : Int) (lo hi : List Int) (a N : Nat) (ha : max loI 0 = (a : Int)) (haN : (a : Int) + (N : Int) = min hiI 200 + 1) (hb0 : -1000 ≤ loI) (hb1 : loI ≤ 1000) (hb2 : 0 ≤ hiI) (hb3 : hiI ≤ 1000) (J Jx : List OPos → World → Prop)
    (hJb : ∀ pre W W', J pre W → Below W.heap.size W W' → J pre W')
    (hY : ∀ pre x W, J pre W → pre.length < 201 → YieldAt Fence.wide (n - 1) Try.prog l (oVals x) W fun e W' =>
      (e = .returned (.bool true) ∧ J (pre ++ [x]) W' ∧ KeepB [Bl, Bh, Bb, b1, b2] W W') ∨ (e = .returned (.bool false) ∧ Jx (pre ++ [x]) W'))
    (W : World) (hBl : W.cell? ⟨Bl, 0, none⟩ = some (.int .i64 loI)) (hBh : W.cell? ⟨Bh, 0, none⟩ = some (.int .i64 hiI)) (hBb : W.cell? ⟨Bb, 0, none⟩ = some (.slice (some ⟨b1, o1, none⟩) 201 cL) ∧ W.cell? ⟨Bb, 1, none⟩ = some (.slice (some ⟨b2, o2, none⟩) 201 cH)) (hL : Ints W (some ⟨b1, o1, none⟩) 201 lo) (hH : Ints W (some ⟨b2, o2, none⟩) 201 hi) (h0 : J [] W) :
    CallsIn Fence.wide n Try.prog 51 #[.func (.yield l) #[] #[], .pointer (some ⟨Bl, 0, none⟩), .pointer (some ⟨Bh, 0, none⟩), .pointer (some ⟨Bb, 0, none⟩)] W fun e W' => (∃ v, e = .returned v) ∧
      ((∃ ys : List OPos, opos ys = ofL lo hi a N ∧ J ys W') ∨ (∃ pre : List OPos, True ∧ Jx pre W')) := by
  refine callsIn_of_wp Try.func51 rfl trivial ?_ rfl
  simp only [Try.ntmps51, List.size_toArray, List.length_cons, List.length_nil, Nat.reduceAdd, Nat.reduceSub, Array.replicate_succ, Array.replicate_zero, List.push_toArray, List.append_toArray, List.nil_append, List.cons_append]
  have HC := Lib.hid (And.intro (And.intro hBl hBh) (And.intro hBb (And.intro hL hH)))
  have HA := Lib.hid (And.intro ha haN)
  have HJb := Lib.hid hJb
  have HYY := Lib.hid hY
  have hN2 : a + N ≤ 201 := by omega
  clear ha haN hBb hL hH hJb hY
  by_cases hl0 : loI < 0
  all_goals
    gi_wp2
    clear hBl
    gi_loopw [5] (fun i wr => ∃ k : Nat, k ≤ N ∧ i = .int .i64 ((a + k : Nat) : Int) ∧ (∃ pre : List OPos, opos pre = ofL lo hi a k ∧ J pre wr) ∧ KeepB [Bl, Bh, Bb, b1, b2] W wr)
      (fun i _ => 201 - (intOf i).toNat)
    case atStart => exact ⟨0, Nat.zero_le _, by have := HA.out.1; congr 1; omega, ⟨[], rfl, h0⟩, KeepB.refl _ _⟩
    case round =>
      obtain ⟨k, hk, rfl, ⟨pre, hpre, hJs⟩, hnx⟩ := hrel
      have hch : wr.cell? ⟨Bh, 0, none⟩ = some (.int .i64 hiI) := (hnx Bh (by simp) 0).trans HC.out.1.2
      have hcb : wr.cell? ⟨Bb, 0, none⟩ = some (.slice (some ⟨b1, o1, none⟩) 201 cL) := (hnx Bb (by simp) 0).trans HC.out.2.1.1
      have hcc : wr.cell? ⟨Bb, 1, none⟩ = some (.slice (some ⟨b2, o2, none⟩) 201 cH) := (hnx Bb (by simp) 1).trans HC.out.2.1.2
      have HI := Lib.hid (And.intro (ints_keep HC.out.2.2.1 (fun o => hnx b1 (by simp) o)) (ints_keep HC.out.2.2.2 (fun o => hnx b2 (by simp) o)))
      have hlen : pre.length ≤ k := by have := congrArg List.length hpre; rw [opos_length] at this; have := ofL_len lo hi a k; omega
      have HP := Lib.hid (And.intro hpre (And.intro hJs (And.intro hnx hlen)))
      obtain ⟨i, hi⟩ : ∃ i, a + k = i := ⟨_, rfl⟩
      rw [hi]
      have HII := Lib.hid hi
      clear hpre hJs hnx hlen hi
      by_cases hlt : k < N
      · have hi0 : (0 : Int) ≤ (i : Int) := by omega
        have hi1 : i < 201 := by have := HII.out; omega
        have hie : (i : Int) ≤ hiI ∧ (i : Int) ≤ 200 := by have := HII.out; have := HA.out.2; omega
        obtain ⟨hie1, hie2⟩ := hie
        by_cases hm : 200 < hiI
        all_goals
          gi_wp2
          refine ⟨trivial, ?_⟩
          refine (callsIn_wide.2 (none_call (some ⟨b1, o1, none⟩) (some ⟨b2, o2, none⟩) 201 201 cL cH lo hi i _ HI.out.1 HI.out.2 hi1 hi1)).mono ?_
          rintro e w2 ⟨rfl, hb⟩
          have hJ2 := HJb.out _ _ _ HP.out.2.1 hb
          have hk2 : KeepB [Bl, Bh, Bb, b1, b2] W w2 := HP.out.2.2.1.below (lt5 ((HP.out.2.2.1 Bl (by simp) 0).trans HC.out.1.1) hch hcb HI.out.1 HI.out.2) hb
          by_cases hnn : nonAt lo hi i
          · have hd : nonB lo hi i = true := nonB_t hnn
            have HO := Lib.hid (show ofL lo hi a (k + 1) = ofL lo hi a k from if_pos (by rw [HII.out]; exact hnn))
            rw [hd]
            have H2 := Lib.hid (And.intro hJ2 hk2)
            clear hb hJ2 hk2 hnn hd hch hcb hcc
            gi_wp2
            refine ⟨fun f hf => (by cases hf), ?_⟩
            gi_wp2
            go_roundw
            case rel => exact ⟨k + 1, by omega, by have := HII.out; congr 1; omega, ⟨pre, by rw [HO.out]; exact HP.out.1, H2.out.1⟩, H2.out.2⟩
            case measure => have := HII.out; simp [intOf]; omega
          · have hd : nonB lo hi i = false := nonB_f hnn
            have HO := Lib.hid (show ofL lo hi a (k + 1) = ofL lo hi a k ++ [a + k] from if_neg (by rw [HII.out]; exact hnn))
            rw [hd]
            obtain ⟨fn, tmps, assign, body, hy, hR⟩ := HYY.out pre ⟨i, hi1⟩ w2 hJ2 (by have := HP.out.2.2.2; have := HII.out; omega)
            simp only [oVals] at hy
            have H2 := Lib.hid hk2
            clear hb hJ2 hk2 hnn hd hch hcb hcc
            gi_wp2
            refine hR.mono ?_
            rintro e W3 (⟨rfl, hJ3, hk3⟩ | ⟨rfl, hJx3⟩)
            · have HK3 := Lib.hid (And.intro hJ3 (H2.out.trans hk3))
              clear hJ3 hk3 hy hR
              gi_wp2
              go_roundw
              case rel => exact ⟨k + 1, by omega, by have := HII.out; congr 1; omega, ⟨_, by rw [opos_snoc, HO.out, HP.out.1, HII.out], HK3.out.1⟩, HK3.out.2⟩
              case measure => have := HII.out; simp [intOf]; omega
            · gi_wp2
              refine bodyPost_ret (results_none rfl _ _ _) rfl ?_
              exact ⟨⟨_, rfl⟩, .inr ⟨_, trivial, hJx3⟩⟩
      · obtain rfl : k = N := by omega
        have hie : hiI < (i : Int) ∧ hiI ≤ 200 ∨ 200 < (i : Int) ∧ 200 < hiI := by have := HII.out; have := HA.out.2; omega
        rcases hie with ⟨h1, h2⟩ | ⟨h1, h2⟩
        all_goals
          gi_wp2
          go_end0
          exact ⟨⟨_, rfl⟩, .inl ⟨_, HP.out.1, HP.out.2.1⟩⟩
theorem of_stops (n : Nat) (hn : 1 ≤ n) (Bl Bh Bb b1 o1 b2 o2 cL cH : Nat) (loI hiI : Int) (lo hi : List Int) (a N : Nat) (ha : max loI 0 = (a : Int)) (haN : (a : Int) + (N : Int) = min hiI 200 + 1) (hb0 : -1000 ≤ loI) (hb1 : loI ≤ 1000) (hb2 : 0 ≤ hiI) (hb3 : hiI ≤ 1000) (w : World)
    (hBl : w.cell? ⟨Bl, 0, none⟩ = some (.int .i64 loI)) (hBh : w.cell? ⟨Bh, 0, none⟩ = some (.int .i64 hiI)) (hBb : w.cell? ⟨Bb, 0, none⟩ = some (.slice (some ⟨b1, o1, none⟩) 201 cL) ∧ w.cell? ⟨Bb, 1, none⟩ = some (.slice (some ⟨b2, o2, none⟩) 201 cH)) (hL : Ints w (some ⟨b1, o1, none⟩) 201 lo) (hH : Ints w (some ⟨b2, o2, none⟩) 201 hi) :
    SeqStopsK Fence.wide n Try.prog 51 #[.pointer (some ⟨Bl, 0, none⟩), .pointer (some ⟨Bh, 0, none⟩), .pointer (some ⟨Bb, 0, none⟩)] oVals (KeepB [Bl, Bh, Bb, b1, b2]) (fun ys : List OPos => opos ys = ofL lo hi a N) (fun _ => True) 201 w := fun l J Jx W hW hJ _ hY h0 =>
  of1_in n hn l Bl Bh Bb b1 o1 b2 o2 cL cH loI hiI lo hi a N ha haN hb0 hb1 hb2 hb3 J Jx (fun pre V V' h hb => hJ pre V V' none h (below_grown hb) (fun _ e => by cases e)) hY W (keep1 hW hBl) (keep1 hW hBh) ⟨keep1 hW hBb.1, keep1 hW hBb.2⟩ (hL.below hW) (hH.below hW) h0

/-- Bounds as the program keeps them. -/
def encO : Option (Int × Int) → Array Value
  | none => #[.bool false, .int .i64 0, .int .i64 0]
  | some p => #[.bool true, .int .i64 p.1, .int .i64 p.2]
theorem add_block {w : World} {p : Nat} {X Y a b l h : Int} (hp : w.heap[p]? = some (.cells #[.bool true, .int .i64 X, .int .i64 Y] 67 (0, 0))) (e1 : a = min X l) (e2 : b = max Y h) :
    ((w.setCell ⟨p, 1, none⟩ (.int .i64 a)).setCell ⟨p, 2, none⟩ (.int .i64 b)).drew.heap[p]? = some (.cells (encO (addO (some (X, Y)) (l, h))) 67 (0, 0)) := by
  subst e1; subst e2
  have := block_setCell (i := 2) (v := .int .i64 (max Y h)) (block_setCell (i := 1) (v := .int .i64 (min X l)) hp)
  show ((w.setCell ⟨p, 1, none⟩ (.int .i64 (min X l))).setCell ⟨p, 2, none⟩ (.int .i64 (max Y h))).heap[p]? = _
  simpa [addO, encO] using this
set_option maxRecDepth 100000 in
set_option maxHeartbeats 4000000 in
theorem add_call (p : Nat) (q : Option (Int × Int)) (l h : Int) (w : World) (hp : w.heap[p]? = some (.cells (encO q) 67 (0, 0))) :
    Calls Try.prog 38 #[.pointer (some ⟨p, 0, none⟩), .int .i64 l, .int .i64 h] w fun e w' => e = .returned (.tuple #[]) ∧ w'.heap[p]? = some (.cells (encO (addO q (l, h))) 67 (0, 0)) ∧ Only p w w' := by
  cases q with
  | none =>
    simp only [encO] at hp
    have c0 := cell_of_block (i := 0) hp rfl
    have c1 := cell_of_block (i := 1) hp rfl
    have c2 := cell_of_block (i := 2) hp rfl
    have f0 := free_of_block (i := 0) hp
    have f1 := free_of_block (i := 1) hp
    have f2 := free_of_block (i := 2) hp
    have HP := Lib.hid hp
    clear hp
    go_enter Try.func38, Try.ntmps38
    go_wp2_with fail
    refine bodyPost_ret (results_none rfl _ _ _) rfl ?_
    refine ⟨rfl, ?_, (((Only.refl _ _).setCell 0 _).setCell 1 _).setCell 2 _⟩
    have := block_setCell (i := 2) (v := .int .i64 h) (block_setCell (i := 1) (v := .int .i64 l) (block_setCell (i := 0) (v := .bool true) HP.out))
    simpa [addO, encO] using this
  | some q =>
    obtain ⟨X, Y⟩ := q
    simp only [encO] at hp
    have c0 := cell_of_block (i := 0) hp rfl
    have c1 := cell_of_block (i := 1) hp rfl
    have c2 := cell_of_block (i := 2) hp rfl
    have f0 := free_of_block (i := 0) hp
    have f1 := free_of_block (i := 1) hp
    have f2 := free_of_block (i := 2) hp
    have HP := Lib.hid hp
    clear hp
    by_cases hm1 : l < X
    all_goals
      by_cases hm2 : Y < h
      all_goals
        go_enter Try.func38, Try.ntmps38
        go_wp2_with fail
        go_region
        all_goals
          go_wp2_with fail
          go_end0
          exact ⟨rfl, add_block HP.out (by omega) (by omega), (((Only.refl _ _).setCell 1 _).setCell 2 _).drew⟩
end Go.Proofs.Ytojjhkahigdkoaa
