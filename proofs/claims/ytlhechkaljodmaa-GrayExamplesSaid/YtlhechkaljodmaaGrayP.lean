/-
  Layer 3: the law GrayExamples, walked.
-/
import Derived.Test.YtlhechkaljodmaaGrayO
namespace Go.Proofs.Ytlhechkaljodmaa
open Go.RowKit GrayMath BitsMath

theorem u8s_made (w : World) (xs : List Nat) (T : TypeId) (h : xs.length ≤ 9223372036854775807) : U8s (w.alloc (.cells (xs.map fun x : Nat => Value.int .u8 (x : Int)).toArray T)) (some ⟨w.heap.size, 0, none⟩) xs.length xs := by
  refine ⟨rfl, h, Or.inr ⟨w.heap.size, 0, rfl, fun i hi => ?_⟩⟩
  rw [World.cell?_alloc_at _ T w.heap.size (0 + i) rfl]
  simp [hi]

set_option maxRecDepth 100000 in
set_option maxHeartbeats 8000000 in
theorem examples_walk (w : World) :
    Calls Try.prog 8 #[] w fun e w' => e = .returned (.bool true) ∧ Below w.heap.size w w' := by
  have f1 : errA (-1001) = 1 := by decide +kernel
  have f2 : errA 50001 = 1 := by decide +kernel
  have f3 : errA 50000 = 0 := by decide +kernel
  have f4 : fineC 50000 = 5124 := by decide +kernel
  have f5 : coarseC 50000 = 682 := by decide +kernel
  have g1 : altE 5124 = 0 := by decide +kernel
  have g2 : altA 5124 = 50000 := by decide +kernel
  have g3 : altS 5124 = 25 := by decide +kernel
  have g4 : altE 682 = 0 := by decide +kernel
  have g5 : altA 682 = 50000 := by decide +kernel
  have g6 : altS 682 = 100 := by decide +kernel
  have g7 : altE 8192 = 1 := by decide +kernel
  have g8 : altE (-1) = 1 := by decide +kernel
  have g9 : altE 5 = 2 := by decide +kernel
  have h1 : altE 7 = 2 := by decide +kernel
  have h2 : grI 2041 = 1029 := by decide +kernel
  have h3 : altE 5125 = 7 := by decide +kernel
  have h4 : altE 2 = 0 := by decide +kernel
  have h5 : altA 2 = -1000 := by decide +kernel
  have h6 : altS 2 = 100 := by decide +kernel
  have h7 : altE 3 = 7 := by decide +kernel
  have h8 : fieldR (List.replicate 12 0) 0 = 8 := by decide +kernel
  have h9 : fieldR (List.replicate 13 0) 0 = 2 := by decide +kernel
  have k1 : grI (-5) = 0 := by decide +kernel
  have k2 : unI (-5) = 0 := by decide +kernel
  have mk12 : ∀ w, (Instr.makeSlice 32 (.int .i64 12) (.int .i64 12)).run Try.prog w = .ok (.slice (some ⟨w.heap.size, 0, none⟩) 12 12) (w.alloc (.cells #[.int .u8 0, .int .u8 0, .int .u8 0, .int .u8 0, .int .u8 0, .int .u8 0, .int .u8 0, .int .u8 0, .int .u8 0, .int .u8 0, .int .u8 0, .int .u8 0] 5)) := fun _ => by kernel_rfl
  have mk13 : ∀ w, (Instr.makeSlice 32 (.int .i64 13) (.int .i64 13)).run Try.prog w = .ok (.slice (some ⟨w.heap.size, 0, none⟩) 13 13) (w.alloc (.cells #[.int .u8 0, .int .u8 0, .int .u8 0, .int .u8 0, .int .u8 0, .int .u8 0, .int .u8 0, .int .u8 0, .int .u8 0, .int .u8 0, .int .u8 0, .int .u8 0, .int .u8 0] 5)) := fun _ => by kernel_rfl
  have H8 := Lib.hid h8
  have H9 := Lib.hid h9
  clear h8 h9
  go_enter Try.func8, Try.ntmps8
  go_wp2_with fail
  refine (awake_call _).mono ?_; rintro e w1 ⟨rfl, hb1⟩
  go_wp2_with fail
  refine (Fine_call _ _).mono ?_; rintro e w2 ⟨rfl, hb2⟩
  go_wp2_with fail
  refine (Coarse_call _ _).mono ?_; rintro e w3 ⟨rfl, hb3⟩
  go_wp2_with fail
  refine (Fine_call _ _).mono ?_; rintro e w4 ⟨rfl, hb4⟩
  go_wp2_with fail
  refine (Altitude_call _ _).mono ?_; rintro e w5 ⟨rfl, hb5⟩
  go_wp2_with fail
  refine (Coarse_call _ _).mono ?_; rintro e w6 ⟨rfl, hb6⟩
  go_wp2_with fail
  refine (Altitude_call _ _).mono ?_; rintro e w7 ⟨rfl, hb7⟩
  go_wp2_with fail
  refine (Altitude_call _ _).mono ?_; rintro e w8 ⟨rfl, hb8⟩
  go_wp2_with fail
  refine (Altitude_call _ _).mono ?_; rintro e w9 ⟨rfl, hb9⟩
  go_wp2_with fail
  refine (Altitude_call _ _).mono ?_; rintro e w10 ⟨rfl, hb10⟩
  go_wp2_with fail
  refine (Altitude_call _ _).mono ?_; rintro e w11 ⟨rfl, hb11⟩
  go_wp2_with fail
  refine (gray_call _ _ (by decide)).mono ?_; rintro e w' ⟨rfl, rfl⟩
  go_wp2_with fail
  refine (Altitude_call _ _).mono ?_; rintro e w12 ⟨rfl, hb12⟩
  go_wp2_with fail
  refine (Altitude_call _ _).mono ?_; rintro e w13 ⟨rfl, hb13⟩
  go_wp2_with fail
  refine (Altitude_call _ _).mono ?_; rintro e w14 ⟨rfl, hb14⟩
  have hB := hb1.trans (hb2.mono hb1.size)
  have hB := hB.trans (hb3.mono hB.size)
  have hB := hB.trans (hb4.mono hB.size)
  have hB := hB.trans (hb5.mono hB.size)
  have hB := hB.trans (hb6.mono hB.size)
  have hB := hB.trans (hb7.mono hB.size)
  have hB := hB.trans (hb8.mono hB.size)
  have hB := hB.trans (hb9.mono hB.size)
  have hB := hB.trans (hb10.mono hB.size)
  have hB := hB.trans (hb11.mono hB.size)
  have hB := hB.trans (hb12.mono hB.size)
  have hB := hB.trans (hb13.mono hB.size)
  have hB := hB.trans (hb14.mono hB.size)
  go_wp2_with fail
  refine (Field_call _ _ _ _ _ _ (u8s_made w14 (List.replicate 12 0) 5 (by decide))).mono ?_
  rw [H8.out]
  rintro e w15 ⟨rfl, hb15⟩
  go_wp2_with fail
  refine (Field_call _ _ _ _ _ _ (u8s_made w15 (List.replicate 13 0) 5 (by decide))).mono ?_
  rw [H9.out]
  rintro e w16 ⟨rfl, hb16⟩
  have hB := (hB.alloc hB.size _).trans (hb15.mono (by simp; have := hB.size; omega))
  have hB := (hB.alloc hB.size _).trans (hb16.mono (by simp; have := hB.size; omega))
  go_wp2_with fail
  refine (gray_call _ _ (by decide)).mono ?_; rintro e w' ⟨rfl, rfl⟩
  go_wp2_with fail
  refine (ungray_call _ _ (by decide)).mono ?_; rintro e w17 ⟨rfl, hb17⟩
  have hB := hB.trans (hb17.mono hB.size)
  go_wp2_with fail
  go_ret
  exact ⟨rfl, hB⟩
end Go.Proofs.Ytlhechkaljodmaa
