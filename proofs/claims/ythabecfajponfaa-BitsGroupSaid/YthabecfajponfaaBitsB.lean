/-
  Layer 1 (bits): the field's check; the iterator over a field's positions.
-/
import Derived.Test.YthabecfajponfaaBitsA
import Derived.Test.YthabecfajponfaaRangeLib
import Derived.RangeFuncNested
import Derived.RangeFuncBound
import Derived.RangeFuncCalls
import Derived.RangeFuncLeaves
import Derived.Shelf.Abstract
import Derived.Shelf.RegionOpen
import Derived.OwnWalkIn
import Derived.TacticsInMore
import Derived.LoopNIn
import Derived.LoopIn
namespace Go.Proofs.Ythabecfajponfaa
open Go.RowKit Go.Shelf Go.MyRange BitsMath
attribute [local go_sem] Oper.semAt_some

/-- The error of a field of a bit string. -/
def fldE (xs : List Nat) (p n : Int) : Int :=
  if chkE xs ≠ 0 then chkE xs else if n < 0 ∨ 64 < n then 1 else if p < 0 ∨ (xs.length : Int) - n < p then 8 else 0

theorem chkE_cases (xs : List Nat) : chkE xs = 0 ∨ chkE xs = 1 ∨ chkE xs = 4 := by
  unfold chkE; split
  · exact Or.inr (Or.inr rfl)
  · split
    · exact Or.inr (Or.inl rfl)
    · exact Or.inl rfl

set_option maxRecDepth 100000 in
set_option maxHeartbeats 2000000 in
theorem field_call (a : Option Addr) (m c : Nat) (xs : List Nat) (p n : Int) (w : World) (h : U8s w a m xs) (n0 : -9223372036854775808 ≤ n) (n1 : n ≤ 9223372036854775807) :
    Calls Try.prog 29 #[.slice a m c, .int .i64 p, .int .i64 n] w fun e w' => e = .returned (.int .i64 (fldE xs p n)) ∧ Below w.heap.size w w' := by
  have hm := h.bound
  have hl := h.len
  have H := Lib.hid h
  clear h
  unfold fldE
  rw [hl]
  clear hl
  have HB := Lib.hid (show ∀ o : Obj, Below w.heap.size w (w.alloc o) from fun o => (Below.refl _ _).alloc (Nat.le_refl _) _)
  have HS := Lib.hid (show ∀ o : Obj, U8s (w.alloc o) a m xs from fun o => H.out.below (HB.out o))
  have hck := chkE_cases xs
  by_cases hc : chkE xs = 0
  · have hcb : (chkE xs != 0) = false := by simp [hc]
    by_cases h1 : n < 0 ∨ 64 < n
    · rw [if_neg (by simp [hc]), if_pos h1]
      clear hck hc
      rcases h1 with h1 | h1
      · go_enter Try.func29, Try.ntmps29
        go_wp2_with fail
        refine (check1_call _ a m c xs _ (HS.out _) ?_).mono ?_
        · go_simp
        rintro e w' ⟨rfl, rfl⟩
        go_wp2
        go_ret
        exact ⟨rfl, HB.out _⟩
      · have h1' : ¬ n < 0 := by omega
        go_enter Try.func29, Try.ntmps29
        go_wp2_with fail
        refine (check1_call _ a m c xs _ (HS.out _) ?_).mono ?_
        · go_simp
        rintro e w' ⟨rfl, rfl⟩
        go_wp2
        go_ret
        exact ⟨rfl, HB.out _⟩
    · rw [if_neg (by simp [hc]), if_neg h1]
      have h1a : ¬ n < 0 := by omega
      have h1b : ¬ 64 < n := by omega
      by_cases h2 : p < 0 ∨ (m : Int) - n < p
      · rw [if_pos h2]
        clear hck hc h1
        rcases h2 with h2 | h2
        · go_enter Try.func29, Try.ntmps29
          go_wp2_with fail
          refine (check1_call _ a m c xs _ (HS.out _) ?_).mono ?_
          · go_simp
          rintro e w' ⟨rfl, rfl⟩
          go_wp2
          go_ret
          exact ⟨rfl, HB.out _⟩
        · by_cases h3 : p < 0
          · go_enter Try.func29, Try.ntmps29
            go_wp2_with fail
            refine (check1_call _ a m c xs _ (HS.out _) ?_).mono ?_
            · go_simp
            rintro e w' ⟨rfl, rfl⟩
            go_wp2
            go_ret
            exact ⟨rfl, HB.out _⟩
          · go_enter Try.func29, Try.ntmps29
            go_wp2_with fail
            refine (check1_call _ a m c xs _ (HS.out _) ?_).mono ?_
            · go_simp
            rintro e w' ⟨rfl, rfl⟩
            go_wp2
            go_ret
            exact ⟨rfl, HB.out _⟩
      · rw [if_neg h2]
        have h2a : ¬ p < 0 := by omega
        have h2b : ¬ (m : Int) - n < p := by omega
        clear hck hc h1 h2
        go_enter Try.func29, Try.ntmps29
        go_wp2_with fail
        refine (check1_call _ a m c xs _ (HS.out _) ?_).mono ?_
        · go_simp
        rintro e w' ⟨rfl, rfl⟩
        go_wp2
        go_ret
        exact ⟨rfl, HB.out _⟩
  · rw [if_pos hc]
    have hcb : (chkE xs != 0) = true := by simpa using hc
    clear hck hc
    go_enter Try.func29, Try.ntmps29
    go_wp2_with fail
    refine (check1_call _ a m c xs _ (HS.out _) ?_).mono ?_
    · go_simp
    rintro e w' ⟨rfl, rfl⟩
    go_wp2
    go_ret
    exact ⟨rfl, HB.out _⟩

theorem positions_call (p n : Int) (w : World) :
    Calls Try.prog 30 #[.int .i64 p, .int .i64 n] w fun e w' =>
      e = .returned (.func (.func 44) #[] #[.pointer (some ⟨w.heap.size + 1, 0, none⟩), .pointer (some ⟨w.heap.size, 0, none⟩)]) ∧ w' = (w.alloc (.cells #[.int .i64 p] 3)).alloc (.cells #[.int .i64 n] 3) := by
  go_enter Try.func30, Try.ntmps30
  go_wp2
  go_ret
  exact ⟨rfl, rfl⟩

/-- One position of a field of N bits. -/
abbrev Pos (N : Nat) := { j : Nat // j < N }
/-- The numbers of the positions that have come. -/
def posList {N : Nat} (pre : List (Pos N)) : List Nat := pre.map (·.1)
theorem posList_snoc {N : Nat} (pre : List (Pos N)) (x : Pos N) : posList (pre ++ [x]) = posList pre ++ [x.1] := by simp [posList]
theorem posList_length {N : Nat} (pre : List (Pos N)) : (posList pre).length = pre.length := by simp [posList]
def posVals (p : Int) (N : Nat) (j : Pos N) : Array Value := #[.int .i64 (p + (N : Int) - 1 - (j.1 : Int)), .int .i64 (j.1 : Int)]

set_option maxRecDepth 100000 in
set_option maxHeartbeats 2000000 in
theorem positions1_in (F : Fence) (n : Nat) (hF : F.fn 44) (hro : F.round = none) (hn : 1 ≤ n) (l Bn Bp N : Nat) (p : Int) (hN : N ≤ 64) (hp0 : 0 ≤ p) (hp1 : p ≤ 1000000) (J Jx : List (Pos N) → World → Prop)
    (hY : ∀ pre x W, J pre W → pre.length < N → YieldAt F (n - 1) Try.prog l (posVals p N x) W fun e W' =>
      (e = .returned (.bool true) ∧ J (pre ++ [x]) W' ∧ KeepB [Bn, Bp] W W') ∨ (e = .returned (.bool false) ∧ Jx (pre ++ [x]) W'))
    (W : World) (hBn : W.cell? ⟨Bn, 0, none⟩ = some (.int .i64 (N : Int))) (hBp : W.cell? ⟨Bp, 0, none⟩ = some (.int .i64 p)) (h0 : J [] W) :
    CallsIn F n Try.prog 44 #[.func (.yield l) #[] #[], .pointer (some ⟨Bn, 0, none⟩), .pointer (some ⟨Bp, 0, none⟩)] W fun e W' => (∃ v, e = .returned v) ∧
      ((∃ ys : List (Pos N), posList ys = List.range N ∧ J ys W') ∨ (∃ pre : List (Pos N), True ∧ Jx pre W')) := by
  refine callsIn_of_wp Try.func44 rfl hF ?_ hro
  simp only [Try.ntmps44, List.size_toArray, List.length_cons, List.length_nil, Nat.reduceAdd, Nat.reduceSub, Array.replicate_succ, Array.replicate_zero, List.push_toArray, List.append_toArray, List.nil_append, List.cons_append]
  gi_wp2
  gi_loopw [6] (fun i wr => ∃ k : Nat, k ≤ N ∧ i = .int .i64 k ∧ (∃ pre : List (Pos N), posList pre = List.range k ∧ J pre wr) ∧ KeepB [Bn, Bp] W wr)
    (fun i _ => N - (intOf i).toNat)
  case atStart => exact ⟨0, Nat.zero_le _, rfl, ⟨[], rfl, h0⟩, KeepB.refl _ _⟩
  case round =>
    obtain ⟨k, hk, rfl, ⟨pre, hpre, hJs⟩, hnx⟩ := hrel
    have hcn : wr.cell? ⟨Bn, 0, none⟩ = some (.int .i64 (N : Int)) := (hnx Bn (by simp) 0).trans hBn
    have hcp : wr.cell? ⟨Bp, 0, none⟩ = some (.int .i64 p) := (hnx Bp (by simp) 0).trans hBp
    have hlen : pre.length = k := by have := congrArg List.length hpre; simpa [posList_length] using this
    by_cases hlt : k < N
    · obtain ⟨fn, tmps, assign, body, hy, hR⟩ := hY pre ⟨k, hlt⟩ wr hJs (by rw [hlen]; exact hlt)
      have HP := Lib.hid hpre
      clear hpre hlen
      dsimp only [posVals] at hy
      gi_wp2
      refine hR.mono ?_
      rintro e W3 (⟨rfl, hJ3, hk3⟩ | ⟨rfl, hJx3⟩)
      · gi_wp2
        go_roundw
        case rel => exact ⟨k + 1, by omega, by simp, ⟨_, by rw [posList_snoc, HP.out, List.range_succ], hJ3⟩, hnx.trans hk3⟩
        case measure => simp [intOf]; omega
      · gi_wp2
        refine bodyPost_ret (results_none rfl _ _ _) rfl ?_
        exact ⟨⟨_, rfl⟩, .inr ⟨_, trivial, hJx3⟩⟩
    · obtain rfl : k = N := by omega
      have HP := Lib.hid hpre
      clear hpre hlen
      gi_wp2
      go_end0
      exact ⟨⟨_, rfl⟩, .inl ⟨_, HP.out, hJs⟩⟩

theorem positions_stops (F : Fence) (n : Nat) (hF : F.fn 44) (hro : F.round = none) (hn : 1 ≤ n) (Bn Bp N : Nat) (p : Int) (hN : N ≤ 64) (hp0 : 0 ≤ p) (hp1 : p ≤ 1000000) (w : World) (hbn : Bn < w.heap.size) (hbp : Bp < w.heap.size)
    (hBn : w.cell? ⟨Bn, 0, none⟩ = some (.int .i64 (N : Int))) (hBp : w.cell? ⟨Bp, 0, none⟩ = some (.int .i64 p)) :
    SeqStopsK F n Try.prog 44 #[.pointer (some ⟨Bn, 0, none⟩), .pointer (some ⟨Bp, 0, none⟩)] (posVals p N) (KeepB [Bn, Bp]) (fun ys : List (Pos N) => posList ys = List.range N) (fun _ => True) N w := fun l J Jx W hW _ _ hY h0 =>
  positions1_in F n hF hro hn l Bn Bp N p hN hp0 hp1 J Jx hY W ((hW.cell (p := ⟨Bn, 0, none⟩) hbn).trans hBn) ((hW.cell (p := ⟨Bp, 0, none⟩) hbp).trans hBp) h0
end Go.Proofs.Ythabecfajponfaa
