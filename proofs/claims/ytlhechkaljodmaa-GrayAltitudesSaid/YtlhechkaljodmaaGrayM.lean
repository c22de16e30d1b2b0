import Derived.Test.YtlhechkaljodmaaGrayK
namespace Go.Proofs.Ytlhechkaljodmaa
open Go.RowKit GrayMath

theorem inR_bd {n : Int} (h : inR n = true) : -1000 ≤ n ∧ n ≤ 50000 := by simpa [inR] using h
theorem inR_mk {n : Int} (h0 : -1000 ≤ n) (h1 : n ≤ 50000) : inR n = true := by simp [inR, h0, h1]

theorem fineC_nat (n : Int) (h : inR n = true) : ∃ k : Nat, (k : Int) = (n + 1000) / 25 ∧ k ≤ 2040 ∧ fineC n = ((4096 + gr k : Nat) : Int) := by
  have hb := inR_bd h
  obtain ⟨m, hm⟩ := Int.eq_ofNat_of_zero_le (show 0 ≤ (n + 1000) / 25 by omega)
  refine ⟨m, by omega, by omega, ?_⟩
  unfold fineC
  rw [if_pos h, hm, Int.toNat_natCast]
theorem coarseC_nat (n : Int) (h : inR n = true) : ∃ k : Nat, (k : Int) = (n + 1200) / 100 ∧ 2 ≤ k ∧ k ≤ 512 ∧ coarseC n = ((cc k : Nat) : Int) := by
  have hb := inR_bd h
  obtain ⟨m, hm⟩ := Int.eq_ofNat_of_zero_le (show 0 ≤ (n + 1200) / 100 by omega)
  refine ⟨m, by omega, by omega, by omega, ?_⟩
  unfold coarseC
  rw [if_pos h, hm, Int.toNat_natCast]
theorem altT_of {c x y z : Int} (h : altT c = (x, y, z)) : altA c = x ∧ altS c = y ∧ altE c = z := by
  unfold altA altS altE; rw [h]; exact ⟨rfl, rfl, rfl⟩

theorem fine_alt (n : Int) (h : inR n = true) : altE (fineC n) = 0 ∧ altS (fineC n) = 25 ∧ altA (fineC n) ≤ n ∧ n < altA (fineC n) + 25 ∧ -1000 ≤ altA (fineC n) := by
  have hb := inR_bd h
  obtain ⟨k, hk, hk2, hc⟩ := fineC_nat n h
  have hl := gr_lt k 12 (by omega)
  rw [hc]
  have ht := altT_fine ((4096 + gr k : Nat) : Int) (by omega) (by omega)
  have hs : ((4096 + gr k : Nat) : Int) - 4096 = (gr k : Nat) := by omega
  rw [hs, unI_nat, un_gr k (by omega), if_pos (inR_mk (by omega) (by omega))] at ht
  obtain ⟨e1, e2, e3⟩ := altT_of ht
  rw [e1, e2, e3]
  refine ⟨rfl, rfl, by omega, by omega, by omega⟩
theorem coarse_alt (n : Int) (h : inR n = true) : altE (coarseC n) = 0 ∧ altS (coarseC n) = 100 ∧ altA (coarseC n) ≤ n ∧ n < altA (coarseC n) + 100 ∧ -1000 ≤ altA (coarseC n) := by
  have hb := inR_bd h
  obtain ⟨k, hk, hk1, hk2, hc⟩ := coarseC_nat n h
  have hl := cc_lt k (by omega)
  rw [hc]
  have ht := alt_some ((cc k : Nat) : Int) k (by omega) (by omega) (by omega) rfl
  rw [if_pos (inR_mk (by omega) (by omega))] at ht
  obtain ⟨e1, e2, e3⟩ := altT_of ht
  rw [e1, e2, e3]
  refine ⟨rfl, rfl, by omega, by omega, by omega⟩

theorem alt_err (n : Int) (h : altE n ≠ 0) : altA n = 0 ∧ altS n = 0 := by
  have key : ∀ t : Int × Int × Int, altT n = t → t.2.2 ≠ 0 → t.1 = 0 ∧ t.2.1 = 0 := by
    intro t ht hz
    unfold altT at ht
    split at ht
    · subst ht; exact ⟨rfl, rfl⟩
    · split at ht
      · split at ht
        · subst ht; exact absurd rfl hz
        · subst ht; exact ⟨rfl, rfl⟩
      · cases hd : dec n.toNat with
        | none => rw [hd] at ht; subst ht; exact ⟨rfl, rfl⟩
        | some k =>
          rw [hd] at ht
          dsimp only at ht
          split at ht
          · subst ht; exact absurd rfl hz
          · subst ht; exact ⟨rfl, rfl⟩
  exact key _ rfl h

theorem alt_inv (n : Int) (h : altE n = 0) : inR (altA n) = true ∧ ((altS n = 25 ∧ fineC (altA n) = n) ∨ (altS n = 100 ∧ coarseC (altA n) = n)) := by
  by_cases h0 : n < 0 ∨ 8191 < n
  · rw [(altT_out n h0).2.2] at h; exact absurd h (by decide)
  · by_cases h1 : 4096 ≤ n
    · obtain ⟨m, hm⟩ := Int.eq_ofNat_of_zero_le (show 0 ≤ n - 4096 by omega)
      have ht := altT_fine n h1 (by omega)
      rw [hm, unI_nat] at ht
      cases hr : inR (-1000 + 25 * ((un m : Nat) : Int)) with
      | false =>
        rw [hr] at ht
        have := (altT_of ht).2.2
        rw [this] at h; exact absurd h (by decide)
      | true =>
        rw [hr] at ht
        obtain ⟨e1, e2, e3⟩ := altT_of ht
        rw [e1, e2]
        refine ⟨hr, Or.inl ⟨rfl, ?_⟩⟩
        obtain ⟨k, hk, _, hc⟩ := fineC_nat _ hr
        have hk' : k = un m := by omega
        rw [hc, hk', gr_un m (by omega)]
        omega
    · obtain ⟨m, rfl⟩ := Int.eq_ofNat_of_zero_le (show 0 ≤ n by omega)
      cases hd : dec m with
      | none =>
        have : altT (m : Int) = (0, 0, 2) := by unfold altT; rw [if_neg h0, if_neg h1, Int.toNat_natCast, hd]
        rw [(altT_of this).2.2] at h; exact absurd h (by decide)
      | some k =>
        obtain ⟨k1, k2⟩ := cc_dec m k (by omega) hd
        have ht := alt_some (m : Int) k (by omega) (by omega) k1 (by rw [k2])
        cases hr : inR (100 * (k : Int) - 1200) with
        | false =>
          rw [hr] at ht
          have := (altT_of ht).2.2
          rw [this] at h; exact absurd h (by decide)
        | true =>
          rw [hr] at ht
          obtain ⟨e1, e2, e3⟩ := altT_of ht
          rw [e1, e2]
          refine ⟨hr, Or.inr ⟨rfl, ?_⟩⟩
          obtain ⟨j, hj, _, _, hc⟩ := coarseC_nat _ hr
          have hj' : j = k := by omega
          rw [hc, hj', k2]

theorem fine_one (n : Int) (h : inR n = true) (h' : n + 25 ≤ 50000) : ∃ x : Nat, bits .xor .i64 (fineC n) (fineC (n + 25)) = (x : Int) ∧ bits .and .i64 (x : Int) ((x : Int) - 1) = 0 ∧ 1 ≤ x ∧ x < 9223372036854775808 := by
  have hb := inR_bd h
  obtain ⟨k, hk, hk2, hc⟩ := fineC_nat n h
  obtain ⟨k', hk', hk2', hc'⟩ := fineC_nat (n + 25) (inR_mk (by omega) h')
  have e : k' = k + 1 := by omega
  subst e
  have hl := gr_lt k 12 (by omega)
  have hl' := gr_lt (k + 1) 12 (by omega)
  obtain ⟨t, ht, hx⟩ := fine_next k (by omega)
  have ho := one_of_pow _ _ t ht hx (by omega) (by omega)
  have hp : 2 ^ t ≤ 2 ^ 62 := Nat.pow_le_pow_right (by decide) ht
  exact ⟨2 ^ t, by rw [hc, hc']; exact ho.1, ho.2, Nat.pow_pos (by decide), by omega⟩
theorem coarse_one (n : Int) (h : inR n = true) (h' : n + 100 ≤ 50000) : ∃ x : Nat, bits .xor .i64 (coarseC n) (coarseC (n + 100)) = (x : Int) ∧ bits .and .i64 (x : Int) ((x : Int) - 1) = 0 ∧ 1 ≤ x ∧ x < 9223372036854775808 := by
  have hb := inR_bd h
  obtain ⟨k, hk, _, hk2, hc⟩ := coarseC_nat n h
  obtain ⟨k', hk', _, hk2', hc'⟩ := coarseC_nat (n + 100) (inR_mk (by omega) h')
  have e : k' = k + 1 := by omega
  subst e
  have hl := cc_lt k (by omega)
  have hl' := cc_lt (k + 1) (by omega)
  obtain ⟨t, ht, hx⟩ := coarse_next k (by omega)
  have ho := one_of_pow _ _ t ht hx (by omega) (by omega)
  have hp : 2 ^ t ≤ 2 ^ 62 := Nat.pow_le_pow_right (by decide) ht
  exact ⟨2 ^ t, by rw [hc, hc']; exact ho.1, ho.2, Nat.pow_pos (by decide), by omega⟩

set_option maxRecDepth 100000 in
set_option maxHeartbeats 4000000 in
theorem neighbours_walk (n : Int) (w : World) (b0 : -9223372036854775808 ≤ n) (b1 : n ≤ 9223372036854775807) :
    Calls Try.prog 6 #[.int .i64 n] w fun e w' => e = .returned (.bool true) ∧ Below w.heap.size w w' := by
  by_cases h : -1000 ≤ n ∧ n ≤ 50000
  · obtain ⟨h0, h1⟩ := h
    have hE : errA n = 0 := by unfold errA; rw [if_pos (inR_mk h0 h1)]
    by_cases h2 : n + 25 ≤ 50000
    · have hE2 : errA (n + 25) = 0 := by unfold errA; rw [if_pos (inR_mk (by omega) h2)]
      obtain ⟨x, hx1, hx2, hx3, hx4⟩ := fine_one n (inR_mk h0 h1) h2
      have HX := Lib.hid (And.intro hx1 hx2)
      clear hx1 hx2
      by_cases h3 : n + 100 ≤ 50000
      · have hE3 : errA (n + 100) = 0 := by unfold errA; rw [if_pos (inR_mk (by omega) h3)]
        obtain ⟨y, hy1, hy2, hy3, hy4⟩ := coarse_one n (inR_mk h0 h1) h3
        have HY := Lib.hid (And.intro hy1 hy2)
        clear hy1 hy2
        go_enter Try.func6, Try.ntmps6
        go_wp2_with fail
        refine (awake_call _).mono ?_; rintro e w1 ⟨rfl, hb1⟩
        go_wp2_with fail
        refine (Fine_call _ _).mono ?_; rintro e w2 ⟨rfl, hb2⟩
        go_wp2_with fail
        refine (Coarse_call _ _).mono ?_; rintro e w3 ⟨rfl, hb3⟩
        go_wp2_with fail
        refine (Fine_call _ _).mono ?_; rintro e w4 ⟨rfl, hb4⟩
        go_wp2_with fail
        refine (one_call _ _ _ _ HX.out.1 HX.out.2 hx3 hx4).mono ?_; rintro e w5 ⟨rfl, rfl⟩
        go_wp2_with fail
        refine (Coarse_call _ _).mono ?_; rintro e w6 ⟨rfl, hb6⟩
        go_wp2_with fail
        refine (one_call _ _ _ _ HY.out.1 HY.out.2 hy3 hy4).mono ?_; rintro e w5 ⟨rfl, rfl⟩
        have hB := hb1.trans (hb2.mono hb1.size)
        have hB := hB.trans (hb3.mono hB.size)
        have hB := hB.trans (hb4.mono hB.size)
        have hB := hB.trans (hb6.mono hB.size)
        go_wp2_with fail
        go_ret
        exact ⟨rfl, hB⟩
      · go_enter Try.func6, Try.ntmps6
        go_wp2_with fail
        refine (awake_call _).mono ?_; rintro e w1 ⟨rfl, hb1⟩
        go_wp2_with fail
        refine (Fine_call _ _).mono ?_; rintro e w2 ⟨rfl, hb2⟩
        go_wp2_with fail
        refine (Coarse_call _ _).mono ?_; rintro e w3 ⟨rfl, hb3⟩
        go_wp2_with fail
        refine (Fine_call _ _).mono ?_; rintro e w4 ⟨rfl, hb4⟩
        go_wp2_with fail
        refine (one_call _ _ _ _ HX.out.1 HX.out.2 hx3 hx4).mono ?_; rintro e w5 ⟨rfl, rfl⟩
        have hB := hb1.trans (hb2.mono hb1.size)
        have hB := hB.trans (hb3.mono hB.size)
        have hB := hB.trans (hb4.mono hB.size)
        go_wp2_with fail
        go_ret
        exact ⟨rfl, hB⟩
    · have h3 : ¬ n + 100 ≤ 50000 := by omega
      go_enter Try.func6, Try.ntmps6
      go_wp2_with fail
      refine (awake_call _).mono ?_; rintro e w1 ⟨rfl, hb1⟩
      go_wp2_with fail
      refine (Fine_call _ _).mono ?_; rintro e w2 ⟨rfl, hb2⟩
      go_wp2_with fail
      refine (Coarse_call _ _).mono ?_; rintro e w3 ⟨rfl, hb3⟩
      have hB := hb1.trans (hb2.mono hb1.size)
      have hB := hB.trans (hb3.mono hB.size)
      go_wp2_with fail
      go_ret
      exact ⟨rfl, hB⟩
  · have h' : n < -1000 ∨ 50000 < n := by omega
    clear h
    rcases h' with h' | h'
    · go_enter Try.func6, Try.ntmps6
      go_wp2_with fail
      refine (awake_call _).mono ?_; rintro e w1 ⟨rfl, hb1⟩
      go_wp2_with fail
      go_ret
      exact ⟨rfl, hb1⟩
    · have h'' : ¬ n < -1000 := by omega
      go_enter Try.func6, Try.ntmps6
      go_wp2_with fail
      refine (awake_call _).mono ?_; rintro e w1 ⟨rfl, hb1⟩
      go_wp2_with fail
      go_ret
      exact ⟨rfl, hb1⟩
end Go.Proofs.Ytlhechkaljodmaa
