/-
  Layer 1 (bits): the iterator over a string's groups of four.
-/
import Derived.Test.YthabecfajponfaaBtP
import Derived.Test.YthabecfajponfaaBitsB
import Derived.Test.YthabecfajponfaaQuietLib
import Derived.Sort.QuietIn
namespace Go.Proofs.Ythabecfajponfaa
open Go.RowKit Go.Shelf Go.MyRange BitsMath ParityMath MyHeap
attribute [local go_sem] Oper.semAt_some

theorem chunk_call (a : Option Addr) (m c : Nat) (w : World) :
    Calls Try.prog 38 #[.slice a m c, .int .i64 4] w fun e w' =>
      e = .returned (.func (.func 47) #[] #[.pointer (some ⟨w.heap.size, 0, none⟩), .pointer (some ⟨w.heap.size + 1, 0, none⟩)]) ∧ w' = (w.alloc (.cells #[.slice a m c] 23)).alloc (.cells #[.int .i64 4] 3) := by
  go_enter Try.func38, Try.ntmps38
  go_wp2
  go_ret
  exact ⟨rfl, rfl⟩

/-- The j-th group of four. -/
def chAt (a : Option Addr) (j : Nat) : Option Addr := a.map fun ad => ⟨ad.block, ad.off + 4 * j, none⟩
def chVals (a : Option Addr) {N : Nat} (j : Pos N) : Array Value := #[.slice (chAt a j.1) 4 4]

set_option maxRecDepth 100000 in
set_option maxHeartbeats 2000000 in
theorem chunk1_in (n : Nat) (hn : 1 ≤ n) (l Bs Bn N : Nat) (a : Option Addr) (c : Nat) (hN : N ≤ 100) (hc : 4 * N ≤ c) (hc1 : c ≤ 9223372036854775807) (ha : N = 0 ∨ ∃ b off, a = some ⟨b, off, none⟩) (J Jx : List (Pos N) → World → Prop)
    (hY : ∀ pre x W, J pre W → pre.length < N → YieldAt Fence.wide (n - 1) Try.prog l (chVals a x) W fun e W' =>
      (e = .returned (.bool true) ∧ J (pre ++ [x]) W' ∧ KeepB [Bs, Bn] W W') ∨ (e = .returned (.bool false) ∧ Jx (pre ++ [x]) W'))
    (W : World) (hBs : W.cell? ⟨Bs, 0, none⟩ = some (.slice a (4 * N) c)) (hBn : W.cell? ⟨Bn, 0, none⟩ = some (.int .i64 4)) (hJd : ∀ pre W k, J pre W → J pre (W.drewN k)) (h0 : J [] W) :
    CallsIn Fence.wide n Try.prog 47 #[.func (.yield l) #[] #[], .pointer (some ⟨Bs, 0, none⟩), .pointer (some ⟨Bn, 0, none⟩)] W fun e W' => (∃ v, e = .returned v) ∧
      ((∃ ys : List (Pos N), posList ys = List.range N ∧ J ys W') ∨ (∃ pre : List (Pos N), True ∧ Jx pre W')) := by
  refine callsIn_of_wp Try.func47 rfl trivial ?_ rfl
  simp only [Try.ntmps47, List.size_toArray, List.length_cons, List.length_nil, Nat.reduceAdd, Nat.reduceSub, Array.replicate_succ, Array.replicate_zero, List.push_toArray, List.append_toArray, List.nil_append, List.cons_append]
  gi_wp2
  gi_loopw [4] (fun i wr => ∃ k : Nat, k ≤ N ∧ i = .int .i64 ((4 * k : Nat) : Int) ∧ (∃ pre : List (Pos N), posList pre = List.range k ∧ J pre wr) ∧ KeepB [Bs, Bn] W wr)
    (fun i _ => 4 * N - (intOf i).toNat)
  case atStart => exact ⟨0, Nat.zero_le _, rfl, ⟨[], rfl, h0⟩, KeepB.refl _ _⟩
  case round =>
    obtain ⟨k, hk, rfl, ⟨pre, hpre, hJs⟩, hnx⟩ := hrel
    have hcs : wr.cell? ⟨Bs, 0, none⟩ = some (.slice a (4 * N) c) := (hnx Bs (by simp) 0).trans hBs
    have hcn : wr.cell? ⟨Bn, 0, none⟩ = some (.int .i64 4) := (hnx Bn (by simp) 0).trans hBn
    have hlen : pre.length = k := by have := congrArg List.length hpre; simpa [posList_length] using this
    by_cases hlt : k < N
    · rcases ha with h0 | ⟨b, off, rfl⟩
      · omega
      obtain ⟨x, hx⟩ : ∃ x : Pos N, x.1 = k := ⟨⟨k, hlt⟩, rfl⟩
      have hYY := fun Wk hJ => hY pre x Wk hJ (by rw [hlen]; exact hlt)
      simp only [chVals, chAt, Option.map_some, hx] at hYY
      have HP := Lib.hid hpre
      have HJ := Lib.hid hJs
      have HN := Lib.hid hnx
      have HB := Lib.hid (And.intro hBs hBn)
      obtain ⟨q, hq⟩ : ∃ q : Nat, 4 * k = q := ⟨_, rfl⟩
      obtain ⟨M, hM⟩ : ∃ M : Nat, 4 * N = M := ⟨_, rfl⟩
      have hcs' : wr.cell? ⟨Bs, 0, none⟩ = some (.slice (some ⟨b, off, none⟩) M c) := by rw [hcs, hM]
      have hqM : q + 4 ≤ M := by omega
      have hMc : M ≤ c := by omega
      have hM1 : M ≤ 400 := by omega
      have e0 : ((4 * N : Nat) : Int) = (M : Int) := by omega
      have e1 : 4 * (N : Int) = (M : Int) := by omega
      have hlt1 : (q : Int) < (M : Int) := by omega
      have hq0 : (0 : Int) ≤ (q : Int) := by omega
      have hmin : min (4 : Int) ((M - q : Nat) : Int) = 4 := by omega
      have HQ := Lib.hid (And.intro (And.intro hq hM) (And.intro hx hk))
      rw [hq] at hYY ⊢
      have HY := Lib.hid hYY
      have HD := Lib.hid hJd
      clear hcs hM hc hN hlt e0 e1 hx hk hpre hlen hYY hJs hY hnx hBs hBn hJd h0 hq
      gi_wp2
      gi_quiet (fail)
      clear hmin
      obtain ⟨fn, tmps, assign, body, hy, hR⟩ := HY.out _ (HD.out _ _ nq HJ.out)
      have hcd : (wr.drewN nq).cell? ⟨Bs, 0, none⟩ = some (.slice (some ⟨b, off, none⟩) M c) := hcs'
      have HK := Lib.hid (show KeepB [Bs, Bn] W (wr.drewN nq) from HN.out)
      have hq1 : q + 4 ≤ c := by omega
      have hqq : q + 4 - q = 4 := by omega
      generalize wr.drewN nq = wd at *
      clear hcs' hcn HN HY HD HJ
      gi_wp2
      refine hR.mono ?_
      rintro e W3 (⟨rfl, hJ3, hk3⟩ | ⟨rfl, hJx3⟩)
      · have hK3 := HK.out.trans hk3
        have hcn3 : W3.cell? ⟨Bn, 0, none⟩ = some (.int .i64 4) := (hK3 Bn (by simp) 0).trans HB.out.2
        have HK3 := Lib.hid (And.intro hJ3 hK3)
        clear hJ3 hk3 hK3 hy hR
        gi_wp2
        go_roundw
        case rel => exact ⟨k + 1, by have := HQ.out.1; omega, by have := HQ.out.1.1; congr 1; omega, ⟨_, by rw [posList_snoc, HP.out, HQ.out.2.1, List.range_succ], HK3.out.1⟩, HK3.out.2⟩
        case measure => have := HQ.out.1; simp [intOf]; omega
      · gi_wp2
        refine bodyPost_ret (results_none rfl _ _ _) rfl ?_
        exact ⟨⟨_, rfl⟩, .inr ⟨_, trivial, hJx3⟩⟩
    · obtain rfl : k = N := by omega
      have HP := Lib.hid hpre
      clear hpre hlen
      gi_wp2
      go_end0
      exact ⟨⟨_, rfl⟩, .inl ⟨_, HP.out, hJs⟩⟩

theorem grown_drewN (w : World) (k : Nat) (r : Option Nat) : w.grownBy (w.drewN k) r := ⟨rfl, rfl, rfl, Nat.le_refl _, fun _ _ _ => rfl⟩
theorem chunk_stops (n : Nat) (hn : 1 ≤ n) (Bs Bn N : Nat) (a : Option Addr) (c : Nat) (hN : N ≤ 100) (hc : 4 * N ≤ c) (hc1 : c ≤ 9223372036854775807) (ha : N = 0 ∨ ∃ b off, a = some ⟨b, off, none⟩) (w : World) (hbs : Bs < w.heap.size) (hbn : Bn < w.heap.size)
    (hBs : w.cell? ⟨Bs, 0, none⟩ = some (.slice a (4 * N) c)) (hBn : w.cell? ⟨Bn, 0, none⟩ = some (.int .i64 4)) :
    SeqStopsK Fence.wide n Try.prog 47 #[.pointer (some ⟨Bs, 0, none⟩), .pointer (some ⟨Bn, 0, none⟩)] (chVals a) (KeepB [Bs, Bn]) (fun ys : List (Pos N) => posList ys = List.range N) (fun _ => True) N w := fun l J Jx W hW hJ _ hY h0 =>
  chunk1_in n hn l Bs Bn N a c hN hc hc1 ha J Jx hY W ((hW.cell (p := ⟨Bs, 0, none⟩) hbs).trans hBs) ((hW.cell (p := ⟨Bn, 0, none⟩) hbn).trans hBn) (fun pre W k h => hJ pre W (W.drewN k) none h (grown_drewN W k none) (fun _ e => by cases e)) h0
theorem chunk_stops' (k : Nat) (hk : 1 ≤ k) (Bs Bn N : Nat) (a : Option Addr) (n c : Nat) (hN : N ≤ 100) (hn : 4 * N = n) (hc : n ≤ c) (hc1 : c ≤ 9223372036854775807) (ha : N = 0 ∨ ∃ b off, a = some ⟨b, off, none⟩) (w : World) (hbs : Bs < w.heap.size) (hbn : Bn < w.heap.size)
    (hBs : w.cell? ⟨Bs, 0, none⟩ = some (.slice a n c)) (hBn : w.cell? ⟨Bn, 0, none⟩ = some (.int .i64 4)) :
    SeqStopsK Fence.wide k Try.prog 47 #[.pointer (some ⟨Bs, 0, none⟩), .pointer (some ⟨Bn, 0, none⟩)] (chVals a) (KeepB [Bs, Bn]) (fun ys : List (Pos N) => posList ys = List.range N) (fun _ => True) N w := by
  subst hn
  exact chunk_stops k hk Bs Bn N a c hN hc hc1 ha w hbs hbn hBs hBn
end Go.Proofs.Ythabecfajponfaa
