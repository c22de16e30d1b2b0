/-
  Layer 1 (bits): the law's awake.
-/
import Derived.Test.YthabecfajponfaaBtR
import Derived.Test.YthabecfajponfaaBtF
import Derived.Test.YthabecfajponfaaBtH
import Derived.Test.YthabecfajponfaaBtJ
import Derived.Test.YthabecfajponfaaBtN
namespace Go.Proofs.Ythabecfajponfaa
open Go.RowKit BitsMath ParityMath TextMath MyHeap MyOwn

def awB : List Nat := [1, 0, 1, 1, 0, 0, 1, 0]
def awC : List Nat := [1, 0, 0, 0, 1, 0, 1, 0]
theorem aw1 : getR awB 2 3 = 6 ∧ fldE awB 2 3 = 0 := ⟨by kernel_rfl, by kernel_rfl⟩
theorem aw2 : putE awB 2 3 1 = 0 ∧ putL awB 2 3 1 = awC := ⟨by kernel_rfl, by kernel_rfl⟩
theorem aw3 : txtR awB = [98, 50] ∧ txtE awB = 0 := ⟨by kernel_rfl, by kernel_rfl⟩
theorem aw4 : wtR awB = 4 ∧ chkE awB = 0 := ⟨by kernel_rfl, by kernel_rfl⟩
theorem aw5 : xorE [1, 1, 0] [0, 1, 1] = 0 ∧ xr [1, 1, 0] [0, 1, 1] = [1, 0, 1] := ⟨by kernel_rfl, by kernel_rfl⟩

set_option maxRecDepth 100000 in
set_option maxHeartbeats 4000000 in
theorem awake_call (w : World) : Calls Try.prog 9 #[] w (BPost true w) := by
  have A1 := Lib.hid aw1
  have A2 := Lib.hid aw2
  have A3 := Lib.hid aw3
  have A4 := Lib.hid aw4
  have A5 := Lib.hid aw5
  go_enter Try.func9, Try.ntmps9
  go_wp2_with fail
  have H0 := Lib.hid (show U8s (w.alloc (.cells #[.int .u8 1, .int .u8 0, .int .u8 1, .int .u8 1, .int .u8 0, .int .u8 0, .int .u8 1, .int .u8 0] 5)) (some ⟨w.heap.size, 0, none⟩) 8 awB from u8s_block (xs := awB) (block_new _ _ rfl) rfl (by decide))
  have hb0 := below_alloc w (.cells #[.int .u8 1, .int .u8 0, .int .u8 1, .int .u8 1, .int .u8 0, .int .u8 0, .int .u8 1, .int .u8 0] 5)
  refine (Get_call (some ⟨w.heap.size, 0, none⟩) 8 8 awB 2 3 _ H0.out (by decide) (by decide)).mono ?_; rintro e w1 ⟨rfl, hb⟩
  rw [A1.out.1, A1.out.2]
  have K := Lib.hid (show Below w.heap.size w w1 ∧ U8s w1 (some ⟨w.heap.size, 0, none⟩) 8 awB from ⟨hb0.trans (hb.mono (by simp)), H0.out.below hb⟩)
  clear hb hb0 H0
  go_wp2_with fail
  refine (Put_call (some ⟨w.heap.size, 0, none⟩) 8 8 awB 2 3 1 _ K.out.2 (by decide) (by decide) (by decide)).mono ?_; rintro e w2 ⟨v2, rfl, hO, hb⟩
  rw [show (2 : Int).toNat = 2 from rfl, show (3 : Int).toNat = 3 from rfl, A2.out.2] at hO
  rw [A2.out.1] at hO ⊢
  obtain ⟨a2, c2, rfl, hU2, hc2⟩ := own_u8s (hO.1 rfl) rfl (by decide)
  have K2 := Lib.hid (show Below w.heap.size w w2 ∧ U8s w2 (some ⟨w.heap.size, 0, none⟩) 8 awB ∧ U8s w2 a2 8 awC from ⟨K.out.1.trans (hb.mono K.out.1.size), K.out.2.below hb, hU2⟩)
  clear hb hO hU2 K
  rw [show awC.length = 8 from rfl]
  go_wp2_with fail
  refine (Text_call (some ⟨w.heap.size, 0, none⟩) 8 8 awB _ K2.out.2.1 (by decide) (by decide)).mono ?_; rintro e w3 ⟨rfl, hb⟩
  rw [A3.out.1, A3.out.2]
  have K3 := Lib.hid (show Below w.heap.size w w3 ∧ U8s w3 (some ⟨w.heap.size, 0, none⟩) 8 awB ∧ U8s w3 a2 8 awC from ⟨K2.out.1.trans (hb.mono K2.out.1.size), K2.out.2.1.below hb, K2.out.2.2.below hb⟩)
  clear hb K2
  go_wp2_with fail
  refine (Weight_call (some ⟨w.heap.size, 0, none⟩) 8 8 awB _ K3.out.2.1).mono ?_; rintro e w4 ⟨rfl, hb⟩
  rw [A4.out.1, A4.out.2]
  have K4 := Lib.hid (show Below w.heap.size w w4 ∧ U8s w4 a2 8 awC from ⟨K3.out.1.trans (hb.mono K3.out.1.size), K3.out.2.2.below hb⟩)
  clear hb K3
  go_wp2_with fail
  have H5 := Lib.hid (show U8s ((w4.alloc (.cells #[.int .u8 1, .int .u8 1, .int .u8 0] 5)).alloc (.cells #[.int .u8 0, .int .u8 1, .int .u8 1] 5)) (some ⟨w4.heap.size, 0, none⟩) 3 [1, 1, 0] from (u8s_block (xs := [1, 1, 0]) (block_new w4 (.cells #[.int .u8 1, .int .u8 1, .int .u8 0] 5) rfl) rfl (by decide)).below (below_alloc _ _))
  have H6 := Lib.hid (show U8s ((w4.alloc (.cells #[.int .u8 1, .int .u8 1, .int .u8 0] 5)).alloc (.cells #[.int .u8 0, .int .u8 1, .int .u8 1] 5)) (some ⟨w4.heap.size + 1, 0, none⟩) 3 [0, 1, 1] from u8s_block (xs := [0, 1, 1]) (block_new _ _ (by simp)) rfl (by decide))
  have hb45 := ((below_alloc w4 (.cells #[.int .u8 1, .int .u8 1, .int .u8 0] 5)).alloc (by simp) (.cells #[.int .u8 0, .int .u8 1, .int .u8 1] 5))
  refine (Xor_call (some ⟨w4.heap.size, 0, none⟩) (some ⟨w4.heap.size + 1, 0, none⟩) 3 3 3 3 [1, 1, 0] [0, 1, 1] _ H5.out H6.out).mono ?_; rintro e w5 ⟨v5, rfl, hO, hb⟩
  rw [A5.out.2] at hO
  rw [A5.out.1] at hO ⊢
  obtain ⟨a5, c5, rfl, hU5, hc5⟩ := own_u8s (hO.1 rfl) rfl (by decide)
  have hb5 := hb45.trans (hb.mono (by simp; omega))
  have K5 := Lib.hid (show Below w.heap.size w w5 ∧ U8s w5 a2 8 awC ∧ U8s w5 a5 3 [1, 0, 1] from ⟨K4.out.1.trans (hb5.mono K4.out.1.size), K4.out.2.below hb5, hU5⟩)
  clear hb hO hU5 K4 hb5 hb45 H5 H6
  rw [show ([1, 0, 1] : List Nat).length = 3 from rfl]
  go_wp2_with fail
  have H7 := Lib.hid (show U8s (w5.alloc (.cells #[.int .u8 1, .int .u8 0, .int .u8 0, .int .u8 0, .int .u8 1, .int .u8 0, .int .u8 1, .int .u8 0] 5)) (some ⟨w5.heap.size, 0, none⟩) 8 awC from u8s_block (xs := awC) (block_new _ _ rfl) rfl (by decide))
  have hb0 := below_alloc w5 (.cells #[.int .u8 1, .int .u8 0, .int .u8 0, .int .u8 0, .int .u8 1, .int .u8 0, .int .u8 1, .int .u8 0] 5)
  refine (equalBits_call a2 (some ⟨w5.heap.size, 0, none⟩) 8 8 c2 8 awC awC _ (K5.out.2.1.below hb0) H7.out).mono ?_; rintro e w6 ⟨rfl, hb⟩
  rw [decide_eq_true (rfl : awC = awC)]
  have hb6 := hb0.trans (hb.mono (by simp))
  have K6 := Lib.hid (show Below w.heap.size w w6 ∧ U8s w6 a5 3 [1, 0, 1] from ⟨K5.out.1.trans (hb6.mono K5.out.1.size), K5.out.2.2.below hb6⟩)
  clear hb hb0 hb6 K5 H7
  go_wp2_with fail
  have H8 := Lib.hid (show U8s (w6.alloc (.cells #[.int .u8 1, .int .u8 0, .int .u8 1] 5)) (some ⟨w6.heap.size, 0, none⟩) 3 [1, 0, 1] from u8s_block (xs := [1, 0, 1]) (block_new _ _ rfl) rfl (by decide))
  have hb0 := below_alloc w6 (.cells #[.int .u8 1, .int .u8 0, .int .u8 1] 5)
  refine (equalBits_call a5 (some ⟨w6.heap.size, 0, none⟩) 3 3 c5 3 [1, 0, 1] [1, 0, 1] _ (K6.out.2.below hb0) H8.out).mono ?_; rintro e w7 ⟨rfl, hb⟩
  rw [decide_eq_true (rfl : ([1, 0, 1] : List Nat) = [1, 0, 1])]
  have K7 := Lib.hid (K6.out.1.trans ((hb0.trans (hb.mono (by simp))).mono K6.out.1.size))
  clear hb hb0 K6 H8
  go_wp2_with fail
  go_ret
  exact ⟨rfl, K7.out⟩
end Go.Proofs.Ythabecfajponfaa
