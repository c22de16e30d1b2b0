import Derived.Test.YtlhechkaljodmaaGrayB
import Derived.Test.YtlhechkaljodmaaGrayC
import Derived.Laws.EntriesVeiled
namespace Go.Proofs.Ytlhechkaljodmaa
open Go.RowKit GrayMath

theorem gray_call (n : Int) (w : World) (h1 : n < 9223372036854775808) :
    Calls Try.prog 15 #[.int .i64 n] w fun e w' => e = .returned (.int .i64 (grI n)) ∧ w = w' := by
  by_cases h : n < 0
  · have hg : grI n = 0 := by simp [grI, h]
    go_enter Try.func15, Try.ntmps15
    go_wp2
    go_ret
    exact ⟨by first | rfl | simp [hg], rfl⟩
  · obtain ⟨m, rfl⟩ := Int.eq_ofNat_of_zero_le (show 0 ≤ n by omega)
    have hb : bits .xor .i64 (m : Int) ((m : Int) / 2) = (grI m) := by
      rw [grI_nat, gr, ← MyBits.i64_xor_nat m (m / 2) (by omega) (by omega)]; simp
    go_enter Try.func15, Try.ntmps15
    go_wp2
    go_ret
    exact ⟨by first | rfl | simp [hb], rfl⟩

theorem refGray_call (n : Int) (w : World) (h1 : n < 9223372036854775808) :
    Calls Try.prog 16 #[.int .i64 n] w fun e w' => e = .returned (.int .i64 (grI n)) ∧ w = w' := by
  by_cases h : n < 0
  · have hg : grI n = 0 := by simp [grI, h]
    go_enter Try.func16, Try.ntmps16
    go_wp2
    go_ret
    exact ⟨by first | rfl | simp [hg], rfl⟩
  · obtain ⟨m, rfl⟩ := Int.eq_ofNat_of_zero_le (show 0 ≤ n by omega)
    have hb : bits .xor .i64 (m : Int) ((m : Int) / 2) = (grI m) := by
      rw [grI_nat, gr, ← MyBits.i64_xor_nat m (m / 2) (by omega) (by omega)]; simp
    go_enter Try.func16, Try.ntmps16
    go_wp2
    go_ret
    exact ⟨by first | rfl | simp [hb], rfl⟩

theorem ungray_call (n : Int) (w : World) (h1 : n < 9223372036854775808) :
    Calls Try.prog 17 #[.int .i64 n] w fun e w' => e = .returned (.int .i64 (unI n)) ∧ Below w.heap.size w w' := by
  by_cases h : n < 0
  · have hg : unI n = 0 := by simp [unI, h]
    go_enter Try.func17, Try.ntmps17
    go_wp2
    go_ret
    exact ⟨by first | rfl | simp [hg], by go_grown⟩
  · obtain ⟨m, rfl⟩ := Int.eq_ofNat_of_zero_le (show 0 ≤ n by omega)
    rw [unI_nat]
    exact ungray_walk m w (by omega)

theorem refUngray_call (n : Int) (w : World) (h1 : n < 9223372036854775808) :
    Calls Try.prog 18 #[.int .i64 n] w fun e w' => e = .returned (.int .i64 (unI n)) ∧ w = w' := by
  by_cases h : n < 0
  · have hg : unI n = 0 := by simp [unI, h]
    go_enter Try.func18, Try.ntmps18
    go_wp2
    go_ret
    exact ⟨by first | rfl | simp [hg], rfl⟩
  · obtain ⟨m, rfl⟩ := Int.eq_ofNat_of_zero_le (show 0 ≤ n by omega)
    rw [unI_nat]
    exact refUngray_walk m w (by omega)

theorem known_call (n : Int) (w : World) :
    Calls Try.prog 30 #[.int .i64 n] w fun e w' => e = .returned (.bool (inR n)) ∧ w = w' := by
  unfold inR
  by_cases h : -1000 ≤ n <;> by_cases h2 : n ≤ 50000
  all_goals
    go_enter Try.func30, Try.ntmps30
    go_wp2
    go_ret
    exact ⟨by simp [h, h2], rfl⟩

theorem in_call (n : Int) (w : World) :
    Calls Try.prog 25 #[.int .i64 n] w fun e w' => e = .returned (.bool (inR n)) ∧ w = w' := by
  unfold inR
  by_cases h : -1000 ≤ n <;> by_cases h2 : n ≤ 50000
  all_goals
    go_enter Try.func25, Try.ntmps25
    go_wp2
    go_ret
    exact ⟨by simp [h, h2], rfl⟩

theorem fine_call (w : World) :
    Calls Try.prog 24 #[] w fun e w' => e = .returned (.agg #[.int .i64 25, .int .i64 (-1000), .int .i64 4096, .func (.func 15) #[] #[]]) ∧ Below w.heap.size w w' := by
  go_enter Try.func24, Try.ntmps24
  go_wp2

  go_returns
  exact ⟨rfl, by go_grown⟩

theorem coarse_call (w : World) :
    Calls Try.prog 26 #[] w fun e w' => e = .returned (.agg #[.int .i64 100, .int .i64 (-1200), .int .i64 0, .func (.func 34) #[] #[]]) ∧ Below w.heap.size w w' := by
  go_enter Try.func26, Try.ntmps26
  go_wp2
  go_returns
  exact ⟨rfl, by go_grown⟩

theorem lower_call (h r : Int) (w : World) (h0 : 0 ≤ h) (r0 : 0 ≤ r) (r4 : r ≤ 4) :
    Calls Try.prog 27 #[.int .i64 h, .int .i64 r] w fun e w' => e = .returned (.int .i64 (lowI h r)) ∧ Below w.heap.size w w' := by
  have hr : r = 0 ∨ r = 1 ∨ r = 2 ∨ r = 3 ∨ r = 4 := by omega
  by_cases hp : h % 2 = 1
  · have hp' : h.toNat % 2 = 1 := by omega
    rcases hr with rfl | rfl | rfl | rfl | rfl
    all_goals
      simp only [lowI, low, hp']
      go_enter Try.func27, Try.ntmps27
      go_wp2
      go_ret
      exact ⟨rfl, by go_grown⟩
  · have hp' : h.toNat % 2 = 0 := by omega
    have hp0 : h % 2 = 0 := by omega
    clear hp
    rcases hr with rfl | rfl | rfl | rfl | rfl
    all_goals
      simp only [lowI, low, hp']
      go_enter Try.func27, Try.ntmps27
      go_wp2
      go_ret
      exact ⟨rfl, by go_grown⟩
end Go.Proofs.Ytlhechkaljodmaa
