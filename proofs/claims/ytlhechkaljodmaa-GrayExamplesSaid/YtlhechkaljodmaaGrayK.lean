import Derived.Test.YtlhechkaljodmaaGrayJ
import Derived.Test.YtlhechkaljodmaaGrayMathB
namespace Go.Proofs.Ytlhechkaljodmaa
open Go.RowKit GrayMath

set_option maxRecDepth 100000 in
set_option maxHeartbeats 4000000 in
theorem awake_call (w : World) :
    Calls Try.prog 19 #[] w fun e w' => e = .returned (.bool true) ∧ Below w.heap.size w w' := by
  have f1 : fineC (-1000) = 4096 := by decide +kernel
  have f2 : fineC (-975) = 4097 := by decide +kernel
  have f3 : fineC (-951) = 4097 := by decide +kernel
  have f4 : fineC 0 = 4156 := by decide +kernel
  have f5 : coarseC 0 = 26 := by decide +kernel
  have f6 : coarseC (-700) = 12 := by decide +kernel
  have f7 : altA 26 = 0 := by decide +kernel
  have f8 : altS 26 = 100 := by decide +kernel
  have f9 : altE 26 = 0 := by decide +kernel
  have f10 : altE 0 = 2 := by decide +kernel
  have f11 : altE 1 = 7 := by decide +kernel
  have g0 : grI 0 = 0 := by decide +kernel
  have g1 : grI 1 = 1 := by decide +kernel
  have g2 : grI 2 = 3 := by decide +kernel
  have g3 : grI 3 = 2 := by decide +kernel
  have g4 : grI 4 = 6 := by decide +kernel
  go_enter Try.func19, Try.ntmps19
  go_wp2_with fail
  refine (Fine_call _ _).mono ?_; rintro e w1 ⟨rfl, hb1⟩
  go_wp2_with fail
  refine (Fine_call _ _).mono ?_; rintro e w2 ⟨rfl, hb2⟩
  go_wp2_with fail
  refine (Fine_call _ _).mono ?_; rintro e w3 ⟨rfl, hb3⟩
  go_wp2_with fail
  refine (Fine_call _ _).mono ?_; rintro e w4 ⟨rfl, hb4⟩
  go_wp2_with fail
  refine (Coarse_call _ _).mono ?_; rintro e w5 ⟨rfl, hb5⟩
  go_wp2_with fail
  refine (Coarse_call _ _).mono ?_; rintro e w6 ⟨rfl, hb6⟩
  go_wp2_with fail
  refine (Altitude_call _ _).mono ?_; rintro e w7 ⟨rfl, hb7⟩
  go_wp2_with fail
  refine (Altitude_call _ _).mono ?_; rintro e w8 ⟨rfl, hb8⟩
  go_wp2_with fail
  refine (Altitude_call _ _).mono ?_; rintro e w9 ⟨rfl, hb9⟩
  have hB := hb1.trans (hb2.mono hb1.size)
  have hB := hB.trans (hb3.mono hB.size)
  have hB := hB.trans (hb4.mono hB.size)
  have hB := hB.trans (hb5.mono hB.size)
  have hB := hB.trans (hb6.mono hB.size)
  have hB := hB.trans (hb7.mono hB.size)
  have hB := hB.trans (hb8.mono hB.size)
  have hB := hB.trans (hb9.mono hB.size)
  go_wp2_with (go_at_call 15; refine (gray_call _ _ (by decide)).mono ?_; rintro e w' ⟨rfl, rfl⟩)
  go_ret
  exact ⟨rfl, hB⟩

/-- 'one' at numbers whose xor is the power of two x. -/
theorem one_call (a b : Int) (x : Nat) (w : World) (hx : bits .xor .i64 a b = (x : Int)) (hy : bits .and .i64 (x : Int) ((x : Int) - 1) = 0) (h1 : 1 ≤ x) (h2 : x < 9223372036854775808) :
    Calls Try.prog 20 #[.int .i64 a, .int .i64 b] w fun e w' => e = .returned (.bool true) ∧ w = w' := by
  have b1 : ((x : Int) != 0) = true := by rw [bne_iff_ne]; omega
  go_enter Try.func20, Try.ntmps20
  go_wp2
  go_ret
  exact ⟨rfl, rfl⟩
end Go.Proofs.Ytlhechkaljodmaa
