/-
  Layer 2 (parity): the law's awake.
-/
import Derived.Test.YtpfohhmhadjdpaaParG
import Derived.Test.YtpfohhmhadjdpaaParH
import Derived.Test.YtpfohhmhadjdpaaZerosLib
namespace Go.Proofs.Ytpfohhmhadjdpaa
open Go.RowKit BitsMath ParityMath MyHeap MyOwn

theorem own_u8s {w : World} {base : Nat} {T : TypeId} {v : Value} {n : Nat} {ys : List Nat} (h : w.ownsRow base T 1 v n (flatU ys)) (hn : ys.length = n) (hm : n ≤ 9223372036854775807) : ∃ a c, v = .slice a n c ∧ U8s w a n ys ∧ n ≤ c := by
  rcases h.2 with ⟨rfl, h0⟩ | ⟨g, cap, cur, rfl, hg, hh, hc, hcm, hcs, htake⟩
  · exact ⟨none, 0, by rw [h0], ⟨hn, hm, Or.inl h0⟩, by omega⟩
  · refine ⟨some ⟨g, 0, none⟩, cap, rfl, ⟨hn, hm, Or.inr ⟨g, 0, rfl, fun i hi => ?_⟩⟩, hc⟩
    have hx := flatU_get (xs := ys) (i := i) (by omega)
    rw [← htake, List.getElem?_take_of_lt (by omega)] at hx
    rw [Nat.zero_add]
    exact cell_of_block hh (by simpa using hx)
theorem own_lit {w : World} {b base n : Nat} {cs : Array Value} {T : TypeId} {ys : List Nat} (h : w.heap[b]? = some (.cells cs T (0, 0))) (hb : base ≤ b) (hcs : cs.toList = flatU ys) (hn : ys.length = n) (hm : n ≤ 1000) : w.ownsRow base T 1 (.slice (some ⟨b, 0, none⟩) n n) n (flatU ys) := by
  refine ⟨by rw [flatU_len, hn, Nat.mul_one], Or.inr ⟨b, n, cs, rfl, hb, h, Nat.le_refl _, by unfold maxLen; omega, ?_, ?_⟩⟩
  · rw [← Array.length_toList, hcs, flatU_len, hn, Nat.mul_one]
  · rw [hcs, List.take_of_length_le (by rw [flatU_len]; omega)]
def wantL : List Nat := [1] ++ List.replicate 24 0
theorem aw1 : remR [1] = 16774153 ∧ remE [1] = 0 ∧ remR [0] = 0 ∧ remE [0] = 0 ∧ remR [1, 0] = 7195 ∧ remE [1, 0] = 0 := ⟨by kernel_rfl, by kernel_rfl, by kernel_rfl, by kernel_rfl, by kernel_rfl, by kernel_rfl⟩
theorem aw2 : seaE [1] 16774153 = 0 ∧ seaL [1] 16774153 = wantL ∧ seaE [1] 0 = 0 := ⟨by kernel_rfl, by kernel_rfl, by kernel_rfl⟩
theorem aw3 : getR (seaL [1] 0) 1 24 = 16774153 ∧ fldE (seaL [1] 0) 1 24 = 0 ∧ (seaL [1] 0).length = 25 := ⟨by kernel_rfl, by kernel_rfl, by kernel_rfl⟩
theorem aw4 : synR 25 24 = 1 ∧ synE 25 24 = 0 ∧ synR 25 0 = 16774153 ∧ synE 25 0 = 0 := ⟨by kernel_rfl, by kernel_rfl, by kernel_rfl, by kernel_rfl⟩

set_option maxRecDepth 100000 in
set_option maxHeartbeats 4000000 in
theorem awake_call (w : World) : Calls Try.prog 12 #[] w (BPost true w) := by
  have A1 := Lib.hid aw1
  have A2 := Lib.hid aw2
  have A3 := Lib.hid aw3
  have A4 := Lib.hid aw4
  go_enter Try.func12, Try.ntmps12
  go_wp2_with fail
  refine (Remainder_call (some ⟨w.heap.size, 0, none⟩) 1 1 [1] _ (u8s_block (xs := [1]) (block_new _ _ rfl) rfl (by decide))).mono ?_; rintro e w1 ⟨rfl, hb1⟩
  rw [A1.out.1, A1.out.2.1]
  have K1 := Lib.hid ((below_alloc w (.cells #[.int .u8 1] 5)).trans (hb1.mono (by simp)))
  clear hb1
  go_wp2_with fail
  refine (Remainder_call (some ⟨w1.heap.size, 0, none⟩) 1 1 [0] _ (u8s_block (xs := [0]) (block_new _ _ rfl) rfl (by decide))).mono ?_; rintro e w2 ⟨rfl, hb2⟩
  rw [A1.out.2.2.1, A1.out.2.2.2.1]
  have K2 := Lib.hid ((K1.out.alloc K1.out.size (.cells #[.int .u8 0] 5)).trans (hb2.mono (by have := K1.out.size; simp; omega)))
  clear hb2 K1
  go_wp2_with fail
  refine (Remainder_call (some ⟨w2.heap.size, 0, none⟩) 2 2 [1, 0] _ (u8s_block (xs := [1, 0]) (block_new _ _ rfl) rfl (by decide))).mono ?_; rintro e w3 ⟨rfl, hb3⟩
  rw [A1.out.2.2.2.2.1, A1.out.2.2.2.2.2]
  have K3 := Lib.hid ((K2.out.alloc K2.out.size (.cells #[.int .u8 1, .int .u8 0] 5)).trans (hb3.mono (by have := K2.out.size; simp; omega)))
  clear hb3 K2
  go_wp2_with fail
  refine (Seal_call (some ⟨w3.heap.size, 0, none⟩) 1 1 [1] 16774153 _ (u8s_block (xs := [1]) (block_new _ _ rfl) rfl (by decide))).mono ?_; rintro e w4 ⟨v4, rfl, hO, hb4⟩
  rw [show (16774153 : Int).toNat = 16774153 from rfl, A2.out.2.1] at hO
  rw [A2.out.1] at hO ⊢
  obtain ⟨a4, c4, rfl, hU4, hc4⟩ := own_u8s (hO.1 rfl) rfl (by decide)
  have K4 := Lib.hid (show Below w.heap.size w w4 ∧ U8s w4 a4 25 wantL from ⟨(K3.out.alloc K3.out.size (.cells #[.int .u8 1] 5)).trans (hb4.mono (by have := K3.out.size; simp; omega)), hU4⟩)
  clear hb4 K3 hO hU4
  rw [show wantL.length = 25 from rfl]
  go_wp2_with fail
  refine (Seal_call (some ⟨w4.heap.size, 0, none⟩) 1 1 [1] 0 _ (u8s_block (xs := [1]) (block_new _ _ rfl) rfl (by decide))).mono ?_; rintro e w5 ⟨v5, rfl, hO, hb5⟩
  rw [show (0 : Int).toNat = 0 from rfl] at hO
  rw [A2.out.2.2] at hO ⊢
  obtain ⟨a5, c5, rfl, hU5, hc5⟩ := own_u8s (hO.1 rfl) A3.out.2.2 (by decide)
  have hb45 := (below_alloc w4 (.cells #[.int .u8 1] 5)).trans (hb5.mono (by simp))
  have K5 := Lib.hid (show Below w.heap.size w w5 ∧ U8s w5 a4 25 wantL ∧ U8s w5 a5 25 (seaL [1] 0) from ⟨K4.out.1.trans (hb45.mono K4.out.1.size), K4.out.2.below hb45, hU5⟩)
  clear hb5 hb45 K4 hO hU5
  rw [A3.out.2.2]
  go_wp2_with fail
  refine (Get_call a5 25 c5 (seaL [1] 0) 1 24 _ K5.out.2.2 (by decide) (by decide)).mono ?_; rintro e w6 ⟨rfl, hb6⟩
  rw [A3.out.1, A3.out.2.1]
  have K6 := Lib.hid (show Below w.heap.size w w6 ∧ U8s w6 a4 25 wantL from ⟨K5.out.1.trans (hb6.mono K5.out.1.size), K5.out.2.1.below hb6⟩)
  clear hb6 K5
  go_wp2_with fail
  refine (Syndrome_call 25 24 _).mono ?_; rintro e w7 ⟨rfl, hb7⟩
  rw [A4.out.1, A4.out.2.1]
  have K7 := Lib.hid (show Below w.heap.size w w7 ∧ U8s w7 a4 25 wantL from ⟨K6.out.1.trans (hb7.mono K6.out.1.size), K6.out.2.below hb7⟩)
  clear hb7 K6
  go_wp2_with fail
  refine (Syndrome_call 25 0 _).mono ?_; rintro e w8 ⟨rfl, hb8⟩
  rw [A4.out.2.2.1, A4.out.2.2.2]
  have K8 := Lib.hid (show Below w.heap.size w w8 ∧ U8s w8 a4 25 wantL from ⟨K7.out.1.trans (hb8.mono K7.out.1.size), K7.out.2.below hb8⟩)
  clear hb8 K7
  obtain ⟨i0, hi, hiz, his, hib⟩ := info_parts' infoU8
  have hOw : (w8.alloc (.cells #[.int .u8 1] 5)).ownsRow w8.heap.size 5 1 (.slice (some ⟨w8.heap.size, 0, none⟩) 1 1) 1 (flatU [1]) := own_lit (block_new _ _ rfl) (Nat.le_refl _) rfl rfl (by decide)
  obtain ⟨v9, w9, hr, hO9, hg9⟩ := MyZeros.run_append_zeros_own (P := Try.prog) (w8.alloc (.cells #[.int .u8 1] 5)) w8.heap.size 28 3 28 5 i0 (.int .u8 0) 1 .i64 .i64 Try.underlying28 Try.underlying3 hi hiz his hib rfl rfl _ 1 _ hOw 24 (by decide) (by decide) (by decide) (by simp)
  have hU9 := own_u8s (ys := wantL) (n := 25) hO9 rfl (by decide)
  obtain ⟨a9, c9, rfl, hU9, hc9⟩ := hU9
  have hb89 : Below w8.heap.size w8 w9 := (below_alloc w8 (.cells #[.int .u8 1] 5)).trans (grownB hOw hg9 (Nat.le_refl _) (by simp))
  have K9 := Lib.hid (show Below w.heap.size w w9 ∧ U8s w9 a4 25 wantL ∧ U8s w9 a9 25 wantL from ⟨K8.out.1.trans (hb89.mono K8.out.1.size), K8.out.2.below hb89, hU9⟩)
  have HR := Lib.hid hr
  clear hi hiz his hib hOw hO9 hg9 hU9 hb89 K8 hr
  go_wp2_with (refine Lib.wpList_append_run _ rfl _ _ 28 3 rfl _ _ rfl rfl _ _ HR.out ?_)
  refine (equalBits_call a4 a9 25 25 c4 c9 wantL wantL _ K9.out.2.1 K9.out.2.2).mono ?_; rintro e wE ⟨rfl, hbE⟩
  rw [decide_eq_true (rfl : wantL = wantL)]
  have KE := Lib.hid (K9.out.1.trans (hbE.mono K9.out.1.size))
  clear hbE K9
  go_wp2_with fail
  go_ret
  exact ⟨rfl, KE.out⟩
end Go.Proofs.Ytpfohhmhadjdpaa
