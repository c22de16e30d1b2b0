/-
  Layer 19 (assign): matrices in memory; Check of the program and of the reference.
-/
import Derived.Test.YtbehpkggmomgeaaProg
import Derived.Test.YtbehpkggmomgeaaAsgRows
import Derived.Test.YtbehpkggmomgeaaHeapLib
import Derived.Test.YtbehpkggmomgeaaOwnLib
import Derived.WalkKit
import Derived.WalkSpells
import Derived.WalkLawsBesides
import Derived.Handy
import Derived.Lib.Hide
import Derived.BigQuiet
import Derived.IntWalk
import Derived.Deep.LoopGhost
import Derived.Deep.QuietTactic
import Derived.Deep.RegionHeld3
import Derived.Deep.DeepCutAuto
namespace Go.Proofs.Ytbehpkggmomgeaa
open Go.RowKit AsgRows MyHeap

theorem below_alloc (w : World) (o : Obj) : Below w.heap.size w (w.alloc o) := (Below.refl _ _).alloc (Nat.le_refl _) _
theorem below_drew (w : World) : Below w.heap.size w w.drew := ⟨rfl, rfl, rfl, Nat.le_refl _, fun _ _ => rfl⟩
theorem below_drewN {b : Nat} {w w' : World} (h : Below b w w') (d : Nat) : Below b w (w'.drewN d) := ⟨h.os, h.tape, h.output, h.size, h.block⟩
structure Ints (w : World) (a : Option Addr) (n : Nat) (l : List Int) : Prop where
  len : l.length = n
  bound : n ≤ 9223372036854775807
  cells : n = 0 ∨ ∃ b off, a = some ⟨b, off, none⟩ ∧ ∀ i, i < n → w.cell? ⟨b, off + i, none⟩ = some (.int .i64 (gi l i))
theorem Ints.below {w w' : World} {a : Option Addr} {n : Nat} {l : List Int} (h : Ints w a n l) (hb : Below w.heap.size w w') : Ints w' a n l := by
  refine ⟨h.len, h.bound, ?_⟩
  rcases h.cells with h0 | ⟨b, off, e, hc⟩
  · exact Or.inl h0
  · exact Or.inr ⟨b, off, e, fun i hi => keep1 hb (hc i hi)⟩
theorem ints_at {w : World} {a : Option Addr} {n : Nat} {l : List Int} (h : Ints w a n l) {k : Nat} (hk : k < n) : ∃ b off, a = some ⟨b, off, none⟩ ∧ w.cell? ⟨b, off + k, none⟩ = some (.int .i64 (gi l k)) := by
  rcases h.cells with h0 | ⟨b, off, e, hc⟩
  · omega
  · exact ⟨b, off, e, hc k hk⟩
/-- A matrix in memory. -/
structure Mtx (w : World) (a : Option Addr) (n : Nat) (L : List (List Int)) : Prop where
  len : L.length = n
  bound : n ≤ 9223372036854775807
  cells : n = 0 ∨ ∃ b off, a = some ⟨b, off, none⟩ ∧ ∀ i, i < n → ∃ ra rc, w.cell? ⟨b, off + i, none⟩ = some (.slice ra (rowL L i).length rc) ∧ Ints w ra (rowL L i).length (rowL L i)
theorem Mtx.below {w w' : World} {a : Option Addr} {n : Nat} {L : List (List Int)} (h : Mtx w a n L) (hb : Below w.heap.size w w') : Mtx w' a n L := by
  refine ⟨h.len, h.bound, ?_⟩
  rcases h.cells with h0 | ⟨b, off, e, hc⟩
  · exact Or.inl h0
  · exact Or.inr ⟨b, off, e, fun i hi => by
      obtain ⟨ra, rc, h1, h2⟩ := hc i hi
      exact ⟨ra, rc, keep1 hb h1, h2.below hb⟩⟩
theorem mtx_at {w : World} {a : Option Addr} {n : Nat} {L : List (List Int)} (h : Mtx w a n L) {i : Nat} (hi : i < n) : ∃ b off, a = some ⟨b, off, none⟩ ∧ ∃ ra rc, w.cell? ⟨b, off + i, none⟩ = some (.slice ra (rowL L i).length rc) ∧ Ints w ra (rowL L i).length (rowL L i) := by
  rcases h.cells with h0 | ⟨b, off, e, hc⟩
  · omega
  · exact ⟨b, off, e, hc i hi⟩
/-- The first row and row i lie in one block. -/
theorem mtx_two {w : World} {a : Option Addr} {n : Nat} {L : List (List Int)} (h : Mtx w a n L) {i : Nat} (hi : i < n) : ∃ b off r0 c0 ra rc, a = some ⟨b, off, none⟩ ∧ w.cell? ⟨b, off, none⟩ = some (.slice r0 (wid L) c0) ∧ w.cell? ⟨b, off + i, none⟩ = some (.slice ra (rowL L i).length rc) ∧ Ints w ra (rowL L i).length (rowL L i) := by
  rcases h.cells with h0 | ⟨b, off, e, hc⟩
  · omega
  · obtain ⟨r0, c0, h1, -⟩ := hc 0 (by omega)
    obtain ⟨ra, rc, h2, h3⟩ := hc i hi
    exact ⟨b, off, r0, c0, ra, rc, e, h1, h2, h3⟩
def BPost (r : Bool) (w : World) (e : Ending) (w' : World) : Prop := e = .returned (.bool r) ∧ Below w.heap.size w w'
theorem bPost_of {r r' : Bool} {w w' : World} (h : r = r') (hB : Below w.heap.size w w') : BPost r' w (.returned (.bool r)) w' := by subst h; exact ⟨rfl, hB⟩
def NPost (r : Int) (w : World) (e : Ending) (w' : World) : Prop := e = .returned (.int .i64 r) ∧ Below w.heap.size w w'
theorem nPost_of {r r' : Int} {w w' : World} (h : r = r') (hB : Below w.heap.size w w') : NPost r' w (.returned (.int .i64 r)) w' := by subst h; exact ⟨rfl, hB⟩

theorem rows_bound {w : World} {a : Option Addr} {n : Nat} {L : List (List Int)} (h : Mtx w a n L) {i : Nat} (hi : i < n) : (rowL L i).length ≤ 9223372036854775807 := by
  obtain ⟨b, off, e, ra, rc, h1, h2⟩ := mtx_at h hi
  exact h2.bound

set_option maxRecDepth 100000 in
set_option maxHeartbeats 4000000 in
theorem pCheck_call (a : Option Addr) (n c : Nat) (L : List (List Int)) (w : World) (h : Mtx w a n L) :
    Calls Try.prog 14 #[.slice a n c] w (NPost (chM L) w) := by
  have hl := h.len
  have hbn := h.bound
  have HM := Lib.hid h
  by_cases h16 : 16 < n
  · have HR := Lib.hid (show longM L from Or.inl (by omega))
    clear h hl
    have hg : (16 : Int) < (n : Int) := by omega
    go_enter Try.func14, Try.ntmps14
    go_wp2_with fail
    go_ret
    exact nPost_of (chM_long HR.out).symm (Below.refl _ _)
  · have hg : ¬ (16 : Int) < (n : Int) := by omega
    by_cases h0 : n = 0
    · subst h0
      have HR := Lib.hid (show chM L = 0 from chM_zero (by unfold longM; omega) (fun i hi => by omega) (fun i hi => by omega))
      clear h hl
      go_enter Try.func14, Try.ntmps14
      go_wp2_with fail
      go_loopw [26] (fun kv wr => kv = .int .i64 0 ∧ w = wr) (fun kv _ => 0)
      case atStart => exact ⟨rfl, rfl⟩
      case round =>
        obtain ⟨rfl, rfl⟩ := hrel
        go_wp2_with fail
        go_loopw [40] (fun kv wr' => kv = .int .i64 0 ∧ w = wr') (fun kv _ => 0)
        case atStart => exact ⟨rfl, rfl⟩
        case round =>
          obtain ⟨rfl, rfl⟩ := hrel
          go_wp2_with fail
          go_ret
          exact nPost_of HR.out.symm (Below.refl _ _)
    · obtain ⟨b, off, r0, c0, -, -, rfl, x0, -⟩ := mtx_two h (i := 0) (by omega)
      have q0 := World.block_lt_of_cell? w _ x0
      have hw := rows_bound h (i := 0) (by omega)
      have hw' : wid L ≤ 9223372036854775807 := hw
      have hn0 : (0 : Int) < (n : Int) := by omega
      by_cases hw16 : 16 < wid L
      · have HR := Lib.hid (show longM L from Or.inr ⟨by omega, hw16⟩)
        have hg2 : (16 : Int) < (wid L : Int) := by omega
        generalize wid L = m at *
        clear h hl hw
        go_enter Try.func14, Try.ntmps14
        go_wp2_with fail
        go_ret
        exact nPost_of (chM_long HR.out).symm (Below.refl _ _)
      · have hg2 : ¬ (16 : Int) < (wid L : Int) := by omega
        have HR := Lib.hid (show ¬ longM L by unfold longM; omega)
        have HL := Lib.hid hl
        obtain ⟨m, hm⟩ : ∃ m, wid L = m := ⟨_, rfl⟩
        rw [hm] at x0 hw' hg2
        have HW := Lib.hid hm
        clear h hl hw hm hw16
        go_enter Try.func14, Try.ntmps14
        go_wp2_with fail
        go_loopw [26] (fun kv wr => ∃ k : Nat, k ≤ n ∧ kv = .int .i64 k ∧ (∀ i, i < k → (rowL L i).length = wid L) ∧ w = wr) (fun kv _ => n - (intOf kv).toNat)
        case atStart => exact ⟨0, by omega, rfl, fun i hi => by omega, rfl⟩
        case round =>
          obtain ⟨k, hk, rfl, hS, rfl⟩ := hrel
          have HS := Lib.hid hS
          clear hS
          by_cases hlt : k < n
          · obtain ⟨b', off', r0', c0', ra, rc, e, -, y0, hI⟩ := mtx_two HM.out (i := k) hlt
            cases e
            have hrb := hI.bound
            have q1 := World.block_lt_of_cell? w _ y0
            have hk0 : (0 : Int) ≤ (k : Int) := by omega
            have hk1 : (k : Int) < (n : Int) := by omega
            clear hI
            by_cases hx : (rowL L k).length = wid L
            · have HX := Lib.hid hx
              rw [hx, HW.out] at y0
              clear hx hrb
              have ht : ((m : Int) != (m : Int)) = false := by simp
              go_wp2_with fail
              go_roundw
              case rel => exact ⟨k + 1, by omega, by go_num, fun i hi => by
                by_cases e : i = k
                · subst e; exact HX.out
                · exact HS.out i (by omega), trivial⟩
              case measure => simp [intOf]; omega
            · have HX := Lib.hid hx
              obtain ⟨r, hr⟩ : ∃ r, (rowL L k).length = r := ⟨_, rfl⟩
              rw [hr] at y0 hrb
              have ht : ((r : Int) != (m : Int)) = true := by rw [bne_iff_ne]; have := HW.out; omega
              clear hx hr
              go_wp2_with fail
              go_ret
              exact nPost_of (chM_form HR.out (by rw [HL.out]; exact hlt) HX.out).symm (Below.refl _ _)
          · obtain rfl : n = k := by omega
            go_wp2_with fail
            clear hk hlt
            go_loopw [40] (fun kv wr' => ∃ k : Nat, k ≤ n ∧ kv = .int .i64 k ∧ (∀ i, i < k → ∀ j, j < (rowL L i).length → -1 ≤ ent L i j ∧ ent L i j ≤ 1048576) ∧ w = wr') (fun kv _ => n - (intOf kv).toNat)
            case atStart => exact ⟨0, by omega, rfl, fun i hi => by omega, rfl⟩
            case round =>
              obtain ⟨k, hk, rfl, hE, rfl⟩ := hrel
              have HE := Lib.hid hE
              clear hE
              by_cases hlt : k < n
              · obtain ⟨b', off', r0', c0', ra, rc, e, -, y0, hI⟩ := mtx_two HM.out (i := k) hlt
                cases e
                rw [HS.out k hlt, HW.out] at y0 hI
                have HI := Lib.hid hI
                have hk0 : (0 : Int) ≤ (k : Int) := by omega
                have hk1 : (k : Int) < (n : Int) := by omega
                clear hI
                go_wp2_with fail
                go_loopw [46] (fun kv wr' => ∃ j : Nat, j ≤ m ∧ kv = .int .i64 j ∧ (∀ i, i < j → -1 ≤ ent L k i ∧ ent L k i ≤ 1048576) ∧ w = wr') (fun kv _ => m - (intOf kv).toNat)
                case atStart => exact ⟨0, by omega, rfl, fun i hi => by omega, rfl⟩
                case round =>
                  obtain ⟨j, hj, rfl, hJ, rfl⟩ := hrel
                  have HJ := Lib.hid hJ
                  clear hJ
                  by_cases hjm : j < m
                  · obtain ⟨b2, o2, rfl, z0⟩ := ints_at HI.out (k := j) hjm
                    obtain ⟨X, hX⟩ : ∃ X, gi (rowL L k) j = X := ⟨_, rfl⟩
                    rw [hX] at z0
                    have HX := Lib.hid (show ent L k j = X from hX)
                    have q2 := World.block_lt_of_cell? w _ z0
                    have hj0 : (0 : Int) ≤ (j : Int) := by omega
                    have hj1 : (j : Int) < (m : Int) := by omega
                    clear hX
                    by_cases hlo : X < -1
                    · go_wp2_with fail
                      go_ret
                      exact nPost_of (chM_arg HR.out (fun i hi => HS.out i (by rw [← HL.out]; exact hi)) (by rw [HL.out]; exact hlt) (k := j) (by rw [HS.out k hlt, HW.out]; exact hjm) (by rw [HX.out]; omega)).symm (Below.refl _ _)
                    · by_cases hhi : 1048576 < X
                      · go_wp2_with fail
                        go_ret
                        exact nPost_of (chM_arg HR.out (fun i hi => HS.out i (by rw [← HL.out]; exact hi)) (by rw [HL.out]; exact hlt) (k := j) (by rw [HS.out k hlt, HW.out]; exact hjm) (by rw [HX.out]; omega)).symm (Below.refl _ _)
                      · have HY := Lib.hid (show -1 ≤ X ∧ X ≤ 1048576 by omega)
                        go_wp2_with fail
                        go_roundw
                        case rel => exact ⟨j + 1, by omega, by go_num, fun i hi => by
                          by_cases e : i = j
                          · subst e; rw [HX.out]; exact HY.out
                          · exact HJ.out i (by omega), trivial⟩
                        case measure => simp [intOf]; omega
                  · obtain rfl : m = j := by omega
                    clear hj hjm
                    go_wp2_with fail
                    go_roundw
                    case rel => exact ⟨k + 1, by omega, by go_num, fun i hi => by
                      by_cases e : i = k
                      · subst e; rw [HS.out i hlt, HW.out]; exact HJ.out
                      · exact HE.out i (by omega), trivial⟩
                    case measure => simp [intOf]; omega
              · obtain rfl : n = k := by omega
                go_wp2_with fail
                go_ret
                exact nPost_of (chM_zero HR.out (fun i hi => HS.out i (by rw [← HL.out]; exact hi)) (fun i hi => HE.out i (by rw [← HL.out]; exact hi))).symm (Below.refl _ _)
end Go.Proofs.Ytbehpkggmomgeaa
