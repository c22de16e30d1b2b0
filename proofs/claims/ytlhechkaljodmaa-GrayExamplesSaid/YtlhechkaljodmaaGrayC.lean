import Derived.Test.YtlhechkaljodmaaProg
import Derived.Test.YtlhechkaljodmaaBitsLib
import Derived.Test.YtlhechkaljodmaaGrayMath
import Derived.WalkKit
import Derived.WalkSpells
import Derived.WalkLawsBesides
import Derived.Handy
namespace Go.Proofs.Ytlhechkaljodmaa
open Go.RowKit

theorem ref_bit (g i : Nat) (h1 : g < 2 ^ 63) : bits .xor .i64 (((GrayMath.un g).testBit (i + 1)).toNat : Int) (bits .and .i64 ((g : Int) / 2 ^ i) 1) = (((GrayMath.un g).testBit i).toNat : Nat) := by
  have hd := GrayMath.digit_step g i (by omega)
  have e : ((g : Int) / 2 ^ i) % 2 = ((g / 2 ^ i % 2 : Nat) : Int) := by push_cast; rfl
  rw [MyBits.i64_and1, e, MyBits.i64_xor_nat _ _ (by have := Bool.toNat_le ((GrayMath.un g).testBit (i + 1)); omega) (by omega), hd]

theorem ref_or (g i : Nat) (h1 : g < 2 ^ 63) (hi : i + 1 ≤ 63) : bits .or .i64 (GrayMath.upper (GrayMath.un g) (i + 1) : Nat) (wrap64 ((((GrayMath.un g).testBit i).toNat : Nat) * 2 ^ i)) = (GrayMath.upper (GrayMath.un g) i : Nat) := by
  have hu := GrayMath.un_lt g 63 h1
  have hup : GrayMath.upper (GrayMath.un g) (i + 1) < 2 ^ 63 := by
    refine Nat.lt_of_le_of_lt ?_ hu
    unfold GrayMath.upper
    rw [Nat.shiftRight_eq_div_pow, Nat.shiftLeft_eq]
    exact Nat.div_mul_le_self _ _
  have hp : 2 ^ i ≤ 2 ^ 62 := Nat.pow_le_pow_right (by decide) (by omega)
  have hb := Bool.toNat_le ((GrayMath.un g).testBit i)
  have hm : ((GrayMath.un g).testBit i).toNat * 2 ^ i < 2 ^ 63 := by
    have : ((GrayMath.un g).testBit i).toNat * 2 ^ i ≤ 1 * 2 ^ i := Nat.mul_le_mul_right _ hb
    omega
  have e : ((((GrayMath.un g).testBit i).toNat : Nat) : Int) * 2 ^ i = ((((GrayMath.un g).testBit i).toNat * 2 ^ i : Nat) : Int) := by push_cast; rfl
  rw [e, IntWalk.wrap64_in _ ⟨by omega, by omega⟩, MyBits.i64_or_nat _ _ (by omega) (by omega), ← GrayMath.upper_step (GrayMath.un g) i, Nat.shiftLeft_eq]

set_option maxHeartbeats 400000 in
theorem refUngray_walk (g : Nat) (w : World) (h1 : g < 2 ^ 63) :
    Calls Try.prog 18 #[.int .i64 g] w fun e w' => e = .returned (.int .i64 (GrayMath.un g : Nat)) ∧ w = w' := by
  have hu := GrayMath.un_lt g 63 h1
  go_enter Try.func18, Try.ntmps18
  go_wp2
  go_loop [3, 4, 5] (fun n d k => ∃ j : Nat, j ≤ 63 ∧ k = .int .i64 ((j : Int) - 1) ∧ n = .int .i64 (GrayMath.upper (GrayMath.un g) j : Nat) ∧ d = .int .i64 (((GrayMath.un g).testBit j).toNat : Nat)) (fun _ _ k => (intOf k + 1).toNat)
  case atStart => exact ⟨63, by omega, rfl, by rw [GrayMath.upper_top _ 63 hu]; rfl, by rw [Nat.testBit_lt_two_pow hu]; rfl⟩
  case round =>
    obtain ⟨j, hj, rfl, rfl, rfl⟩ := hrel
    by_cases hz : j = 0
    · subst hz
      go_wp2
      go_ret
      exact ⟨congrArg (fun x : Nat => Ending.returned (.int .i64 x)) (GrayMath.upper_zero _), rfl⟩
    · obtain ⟨i, rfl⟩ : ∃ i, j = i + 1 := ⟨j - 1, by omega⟩
      go_wp2
      refine ⟨⟨i, by omega, rfl, ?_, ?_⟩, by simp [intOf]⟩
      · rw [ref_bit g i h1, ref_or g i h1 hj]
      · rw [ref_bit g i h1]
end Go.Proofs.Ytlhechkaljodmaa
