/-
  Layer 1 (bits): Parse's closure, combine over it, Parse.
-/
import Derived.Test.YthabecfajponfaaBtM
import Derived.Test.YthabecfajponfaaTextMath
import Derived.Test.YthabecfajponfaaBtShelf
namespace Go.Proofs.Ythabecfajponfaa
open Go.RowKit BitsMath ParityMath MyHeap MyCopy MyOwn TextMath

theorem sixteen {V : Nat} (h : V < 16) : V = 0 ∨ V = 1 ∨ V = 2 ∨ V = 3 ∨ V = 4 ∨ V = 5 ∨ V = 6 ∨ V = 7 ∨ V = 8 ∨ V = 9 ∨ V = 10 ∨ V = 11 ∨ V = 12 ∨ V = 13 ∨ V = 14 ∨ V = 15 := by omega
theorem nib_bit (V : Nat) (hV : V < 16) : bits .and .i64 ((V : Int) / 8) 1 % 256 = ((gu (nib V) 0 : Nat) : Int) ∧ bits .and .i64 ((V : Int) / 4) 1 % 256 = ((gu (nib V) 1 : Nat) : Int) ∧ bits .and .i64 ((V : Int) / 2) 1 % 256 = ((gu (nib V) 2 : Nat) : Int) ∧ bits .and .i64 (V : Int) 1 % 256 = ((gu (nib V) 3 : Nat) : Int) := by
  rcases sixteen hV with rfl | rfl | rfl | rfl | rfl | rfl | rfl | rfl | rfl | rfl | rfl | rfl | rfl | rfl | rfl | rfl <;> exact ⟨rfl, rfl, rfl, rfl⟩
theorem parse1_call (bV V : Nat) (hV : V < 16) (k : Nat) (hk : k < 4) (w : World) (h : w.cell? ⟨bV, 0, none⟩ = some (.int .i64 (V : Int))) :
    Calls Try.prog 43 #[.int .i64 (k : Int), .pointer (some ⟨bV, 0, none⟩)] w fun e w' => e = .returned (.int .u8 ((gu (nib V) k : Nat) : Int)) ∧ w = w' := by
  have HB := Lib.hid (nib_bit V hV)
  have : k = 0 ∨ k = 1 ∨ k = 2 ∨ k = 3 := by omega
  rcases this with rfl | rfl | rfl | rfl
  · go_enter Try.func43, Try.ntmps43
    go_wp2
    go_ret
    exact ⟨by rw [HB.out.1]; rfl, rfl⟩
  · go_enter Try.func43, Try.ntmps43
    go_wp2
    go_ret
    exact ⟨by rw [HB.out.2.1]; rfl, rfl⟩
  · go_enter Try.func43, Try.ntmps43
    go_wp2
    go_ret
    exact ⟨by rw [HB.out.2.2.1]; rfl, rfl⟩
  · go_enter Try.func43, Try.ntmps43
    go_wp2
    go_ret
    exact ⟨by rw [HB.out.2.2.2]; rfl, rfl⟩

set_option maxRecDepth 100000 in
set_option maxHeartbeats 2000000 in
theorem combineP_n (n : Nat) (hn : n = 4) (bV V : Nat) (hV : V < 16) (w : World) (h : w.cell? ⟨bV, 0, none⟩ = some (.int .i64 (V : Int))) (hb : bV < w.heap.size) :
    Calls Try.prog 34 #[.int .i64 (n : Int), .func (.func 43) #[] #[.pointer (some ⟨bV, 0, none⟩)]] w (OwnPost (nib V) w) := by
  have HV := Lib.hid (And.intro hV (And.intro h hb))
  have hxl : (nib V).length = n := hn.symm ▸ rfl
  have HLn := Lib.hid hxl
  have mk := hmkU n (by omega)
  have hn100 : n ≤ 1000 := by omega
  have HN := Lib.hid hn
  clear h hb hV hxl hn
  go_enter Try.func34, Try.ntmps34
  go_wp2_with fail
  have K0 := Lib.hid (show (w.alloc (.cells (madeCells #[.int .u8 0] n) 5)).heap[w.heap.size]? = some (.cells (madeCells #[.int .u8 0] n) 5 (0, 0)) ∧ Below w.heap.size w (w.alloc (.cells (madeCells #[.int .u8 0] n) 5)) from ⟨block_new _ _ rfl, below_alloc _ _⟩)
  go_loopw [11] (fun kv wr => ∃ k : Nat, k ≤ n ∧ kv = .int .i64 k ∧ (∃ cs : Array Value, wr.heap[w.heap.size]? = some (.cells cs 5 (0, 0)) ∧ cs.toList = flatU ((nib V).take k ++ List.replicate (n - k) 0)) ∧ Below w.heap.size w wr) (fun kv _ => n - (intOf kv).toNat)
  case atStart => exact ⟨0, Nat.zero_le _, rfl, ⟨_, K0.out.1, madeU n⟩, K0.out.2⟩
  case round =>
    clear K0 mk
    obtain ⟨k, hk, rfl, ⟨cs, hc, hcs⟩, hB⟩ := hrel
    have HC := Lib.hid (And.intro hc (And.intro hcs hB))
    have hcl : cs.size = n := by
      rw [← Array.length_toList, hcs, flatU_len, List.length_append, List.length_replicate, List.length_take, HLn.out]; omega
    by_cases hlt : k < n
    · have hk0 : (0 : Int) ≤ (k : Int) := by omega
      have hk1 : (k : Int) < (n : Int) := by omega
      obtain ⟨u0, hu0⟩ : ∃ u0, cs[k]? = some u0 := ⟨_, Array.getElem?_eq_getElem (by omega)⟩
      have x0 : wr.cell? ⟨w.heap.size, k, none⟩ = some u0 := cell_of_block hc hu0
      have f0 : wr.frozen? ⟨w.heap.size, k, none⟩ = false := free_of_block hc
      have hv : wr.cell? ⟨bV, 0, none⟩ = some (.int .i64 (V : Int)) := (hB.cell (p := ⟨bV, 0, none⟩) HV.out.2.2).trans HV.out.2.1
      have HVr := Lib.hid hv
      clear hc hcs hB hv hcl hu0
      go_wp2_with fail
      refine (parse1_call bV V HV.out.1 k (by have := HN.out; omega) _ HVr.out).mono ?_; rintro e w3 ⟨rfl, rfl⟩
      go_wp2_with fail
      go_roundw
      case rel =>
        refine ⟨k + 1, by omega, by go_num, ⟨cs.setIfInBounds k (.int .u8 ((gu (nib V) k : Nat) : Int)), block_setCell HC.out.1, ?_⟩, HC.out.2.2.setCell (p := ⟨w.heap.size, k, none⟩) (Nat.le_refl _) _⟩
        rw [toList_set, HC.out.2.1, ← flatU_set, pad_set HLn.out hlt]
      case measure => simp [intOf]; omega
    · obtain rfl : k = n := by omega
      have HO := Lib.hid (show wr.ownsRow w.heap.size 5 1 (.slice (some ⟨w.heap.size, 0, none⟩) k k) k (flatU (nib V)) ∧ Below w.heap.size w wr from by
        rw [Nat.sub_self, List.replicate_zero, List.append_nil, List.take_of_length_le (by rw [HLn.out]; exact Nat.le_refl _)] at hcs
        exact ⟨own_litM hc (Nat.le_refl _) hcs HLn.out (by omega), hB⟩)
      clear hc hcs hB hcl
      go_wp2_with fail
      go_ret
      exact ⟨_, rfl, by rw [HLn.out]; exact HO.out.1, HO.out.2⟩
theorem combineP_call (bV V : Nat) (hV : V < 16) (w : World) (h : w.cell? ⟨bV, 0, none⟩ = some (.int .i64 (V : Int))) (hb : bV < w.heap.size) :
    Calls Try.prog 34 #[.int .i64 4, .func (.func 43) #[] #[.pointer (some ⟨bV, 0, none⟩)]] w (OwnPost (nib V) w) := combineP_n 4 rfl bV V hV w h hb
end Go.Proofs.Ythabecfajponfaa
