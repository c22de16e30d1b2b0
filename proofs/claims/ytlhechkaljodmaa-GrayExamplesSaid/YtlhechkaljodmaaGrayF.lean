import Derived.Test.YtlhechkaljodmaaGrayE
import Derived.Lib.Hide
namespace Go.Proofs.Ytlhechkaljodmaa
open Go.RowKit GrayMath

theorem or_low (g l : Int) (h0 : 0 ≤ g) (h1 : g < 1024) (h2 : 1 ≤ l) (h3 : l ≤ 6) : bits .or .i64 (g * 8) l = 8 * g + l := by
  obtain ⟨a, rfl⟩ := Int.eq_ofNat_of_zero_le h0
  obtain ⟨b, rfl⟩ := Int.eq_ofNat_of_zero_le (show 0 ≤ l by omega)
  have e : ((a : Int) * 8) = ((a * 8 : Nat) : Int) := by push_cast; rfl
  rw [e, MyBits.i64_or_nat _ _ (by omega) (by omega)]
  have : 2 ^ 3 * a ||| b = 2 ^ 3 * a + b := (Nat.two_pow_add_eq_or_of_lt (i := 3) (b := b) (by omega) a).symm
  rw [Nat.mul_comm a 8]
  have e2 : (2 : Nat) ^ 3 = 8 := rfl
  rw [e2] at this
  rw [this]; push_cast; rfl

set_option maxHeartbeats 1000000 in
theorem coarse1_core (k l : Int) (A : Array Value) (w : World) (h0 : 0 ≤ k) (h1 : k < 2560)
    (hA : ∀ w, Calls Try.prog 28 #[.int .i64 (k / 5)] w fun e w' => e = .returned (.agg A) ∧ Below w.heap.size w w')
    (hi : ∀ w, (Instr.index 41 (.agg A) (.int .i64 (k % 5))).run Try.prog w = .ok (.int .i64 l) w) (hl : lowI (k / 5) (k % 5) = l) :
    Calls Try.prog 34 #[.int .i64 k] w fun e w' => e = .returned (.int .i64 (8 * grI (k / 5) + lowI (k / 5) (k % 5))) ∧ Below w.heap.size w w' := by
  have g0 := grI_nonneg (k / 5)
  have g1 := grI_lt (k / 5) 9 (by omega)
  have l0 := lowI_bd (k / 5) (k % 5)
  have HO := Lib.hid (or_low (grI (k / 5)) (lowI (k / 5) (k % 5)) g0 (by omega) l0.1 l0.2)
  have HL := Lib.hid hl
  have HA := Lib.hid hA
  clear hA hl l0
  go_enter Try.func34, Try.ntmps34
  go_wp2_with (first | (go_at_call 15; refine (gray_call _ _ (by omega)).mono ?_; rintro e w' ⟨rfl, rfl⟩) | (go_at_call 28; refine (HA.out _).mono ?_; rintro e w' ⟨rfl, hb⟩))
  go_ret
  refine ⟨?_, hb⟩
  rw [← HO.out, HL.out]
  rfl

theorem coarse1_call (k : Int) (w : World) (h0 : 0 ≤ k) (h1 : k < 2560) :
    Calls Try.prog 34 #[.int .i64 k] w fun e w' => e = .returned (.int .i64 (8 * grI (k / 5) + lowI (k / 5) (k % 5))) ∧ Below w.heap.size w w' := by
  have hr : k % 5 = 0 ∨ k % 5 = 1 ∨ k % 5 = 2 ∨ k % 5 = 3 ∨ k % 5 = 4 := by omega
  by_cases hp : k / 5 % 2 = 1
  · have hp' : (k / 5).toNat % 2 = 1 := by omega
    rcases hr with hr | hr | hr | hr | hr
    · exact coarse1_core k 4 _ w h0 h1 (fun w => hundreds_odd _ w hp) (by rw [hr]; exact fun _ => by kernel_rfl) (by simp [lowI, low, hr, hp'])
    · exact coarse1_core k 6 _ w h0 h1 (fun w => hundreds_odd _ w hp) (by rw [hr]; exact fun _ => by kernel_rfl) (by simp [lowI, low, hr, hp'])
    · exact coarse1_core k 2 _ w h0 h1 (fun w => hundreds_odd _ w hp) (by rw [hr]; exact fun _ => by kernel_rfl) (by simp [lowI, low, hr, hp'])
    · exact coarse1_core k 3 _ w h0 h1 (fun w => hundreds_odd _ w hp) (by rw [hr]; exact fun _ => by kernel_rfl) (by simp [lowI, low, hr, hp'])
    · exact coarse1_core k 1 _ w h0 h1 (fun w => hundreds_odd _ w hp) (by rw [hr]; exact fun _ => by kernel_rfl) (by simp [lowI, low, hr, hp'])
  · have hp0 : k / 5 % 2 = 0 := by omega
    have hp' : (k / 5).toNat % 2 = 0 := by omega
    rcases hr with hr | hr | hr | hr | hr
    · exact coarse1_core k 1 _ w h0 h1 (fun w => hundreds_even _ w hp0) (by rw [hr]; exact fun _ => by kernel_rfl) (by simp [lowI, low, hr, hp'])
    · exact coarse1_core k 3 _ w h0 h1 (fun w => hundreds_even _ w hp0) (by rw [hr]; exact fun _ => by kernel_rfl) (by simp [lowI, low, hr, hp'])
    · exact coarse1_core k 2 _ w h0 h1 (fun w => hundreds_even _ w hp0) (by rw [hr]; exact fun _ => by kernel_rfl) (by simp [lowI, low, hr, hp'])
    · exact coarse1_core k 6 _ w h0 h1 (fun w => hundreds_even _ w hp0) (by rw [hr]; exact fun _ => by kernel_rfl) (by simp [lowI, low, hr, hp'])
    · exact coarse1_core k 4 _ w h0 h1 (fun w => hundreds_even _ w hp0) (by rw [hr]; exact fun _ => by kernel_rfl) (by simp [lowI, low, hr, hp'])
end Go.Proofs.Ytlhechkaljodmaa
