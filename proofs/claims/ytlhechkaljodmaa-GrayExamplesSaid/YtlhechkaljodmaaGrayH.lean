import Derived.Test.YtlhechkaljodmaaGrayG
namespace Go.Proofs.Ytlhechkaljodmaa
open Go.RowKit GrayMath

theorem bcell {W w1 : World} (hb : Below W.heap.size W w1) : (∀ b o, b < W.heap.size → w1.cell? ⟨b, o, none⟩ = W.cell? ⟨b, o, none⟩) ∧ (∀ b o, b < W.heap.size → w1.frozen? ⟨b, o, none⟩ = W.frozen? ⟨b, o, none⟩) :=
  ⟨fun b o h => hb.cell (p := ⟨b, o, none⟩) h, fun b o h => hb.frozen (p := ⟨b, o, none⟩) h⟩

def ix5 (x v0 v1 v2 v3 v4 : Int) : Int := if x = v0 then 0 else if x = v1 then 1 else if x = v2 then 2 else if x = v3 then 3 else if x = v4 then 4 else -1

set_option maxHeartbeats 1000000 in
theorem index5 (x v0 v1 v2 v3 v4 : Int) (b : Nat) (w : World) (h0 : w.cell? ⟨b, 0, none⟩ = some (.int .i64 v0)) (h1 : w.cell? ⟨b, 1, none⟩ = some (.int .i64 v1)) (h2 : w.cell? ⟨b, 2, none⟩ = some (.int .i64 v2)) (h3 : w.cell? ⟨b, 3, none⟩ = some (.int .i64 v3)) (h4 : w.cell? ⟨b, 4, none⟩ = some (.int .i64 v4)) :
    Calls Try.prog 29 #[.slice (some ⟨b, 0, none⟩) 5 5, .int .i64 x] w fun e w' => e = .returned (.int .i64 (ix5 x v0 v1 v2 v3 v4)) ∧ w = w' := by
  go_enter Try.func29, Try.ntmps29
  go_wp2
  refine wp_loop_rounds 6 ?_
  rw [rounds_succ]; go_wp2
  all_goals try (rw [rounds_succ]; go_wp2)
  all_goals try (rw [rounds_succ]; go_wp2)
  all_goals try (rw [rounds_succ]; go_wp2)
  all_goals try (rw [rounds_succ]; go_wp2)
  all_goals try (rw [rounds_succ]; go_wp2)
  all_goals go_ret
  all_goals exact ⟨by simp_all [ix5], rfl⟩

/-- The place of x among the five, or -1. -/
def idxI (h x : Nat) : Int := match idx h x with | some r => (r : Int) | none => -1
theorem idx_mod (h x : Nat) : idx h x = idx (h % 2) x := by
  have : ∀ r, low h r = low (h % 2) r := fun r => by unfold low; rw [Nat.mod_mod]
  unfold idx
  congr 1
  funext r
  rw [this]
theorem idxI_tab : ∀ x, x < 8 → idxI 0 x = ix5 x 1 3 2 6 4 ∧ idxI 1 x = ix5 x 4 6 2 3 1 := by decide +kernel
theorem idxI_even (h x : Nat) (hx : x < 8) (hp : h % 2 = 0) : idxI h x = ix5 x 1 3 2 6 4 := by
  have := (idxI_tab x hx).1
  unfold idxI at this ⊢
  rwa [idx_mod, hp]
theorem idxI_odd (h x : Nat) (hx : x < 8) (hp : h % 2 = 1) : idxI h x = ix5 x 4 6 2 3 1 := by
  have := (idxI_tab x hx).2
  unfold idxI at this ⊢
  rwa [idx_mod, hp]

theorem andnot_tab : ∀ a, a < 64 → ∀ b, b < 128 → ((128 * a + b) &&& (18446744073709551615 - 4096)) = (128 * a + b) % 4096 := by decide +kernel
theorem andnot_4096 (c : Int) (h0 : 0 ≤ c) (h1 : c ≤ 8191) : bits .andNot .i64 c 4096 = c % 4096 := by
  obtain ⟨a, rfl⟩ := Int.eq_ofNat_of_zero_le h0
  have := andnot_tab (a / 128) (by omega) (a % 128) (by omega)
  rw [show 128 * (a / 128) + a % 128 = a by omega] at this
  have e := MyBits.i64_andNot_nat a 4096 (by omega) (by omega)
  rw [this] at e
  simpa using e

theorem altT_out (c : Int) (h : c < 0 ∨ 8191 < c) : altA c = 0 ∧ altS c = 0 ∧ altE c = 1 := by
  unfold altA altS altE altT; rw [if_pos h]; exact ⟨rfl, rfl, rfl⟩
theorem altT_fine (c : Int) (h0 : 4096 ≤ c) (h1 : c ≤ 8191) : altT c = if inR (-1000 + 25 * unI (c - 4096)) then (-1000 + 25 * unI (c - 4096), 25, 0) else (0, 0, 7) := by
  rw [show -1000 + 25 * unI (c - 4096) = 25 * unI (c - 4096) - 1000 by omega]
  obtain ⟨a, ha⟩ := Int.eq_ofNat_of_zero_le (show 0 ≤ c - 4096 by omega)
  unfold altT
  rw [if_neg (by omega), if_pos h0, ha, unI_nat, Int.toNat_natCast]
theorem altT_coarse (c : Int) (h0 : 0 ≤ c) (h1 : c < 4096) : altT c = if idxI (unI (c / 8)).toNat (c % 8).toNat < 0 then (0, 0, 2) else if inR (-1200 + 100 * (5 * unI (c / 8) + idxI (unI (c / 8)).toNat (c % 8).toNat)) then (-1200 + 100 * (5 * unI (c / 8) + idxI (unI (c / 8)).toNat (c % 8).toNat), 100, 0) else (0, 0, 7) := by
  rw [show -1200 + 100 * (5 * unI (c / 8) + idxI (unI (c / 8)).toNat (c % 8).toNat) = 100 * (5 * unI (c / 8) + idxI (unI (c / 8)).toNat (c % 8).toNat) - 1200 by omega]
  obtain ⟨a, rfl⟩ := Int.eq_ofNat_of_zero_le h0
  have e1 : (a : Int) / 8 = ((a / 8 : Nat) : Int) := by omega
  have e2 : ((a : Int) % 8).toNat = a % 8 := by omega
  unfold altT dec
  rw [if_neg (by omega), if_neg (by omega), e1, e2, unI_nat, Int.toNat_natCast, Int.toNat_natCast]
  unfold idxI
  cases idx (un (a / 8)) (a % 8) with
  | none => simp
  | some r =>
    have : ¬ ((r : Int) < 0) := by omega
    simp [this]
end Go.Proofs.Ytlhechkaljodmaa
