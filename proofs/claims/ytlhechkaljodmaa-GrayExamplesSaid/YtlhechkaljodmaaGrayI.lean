import Derived.Test.YtlhechkaljodmaaGrayH
namespace Go.Proofs.Ytlhechkaljodmaa
open Go.RowKit GrayMath

theorem alt_ret {c x y z : Int} (h : altT c = (x, y, z)) : Value.tuple #[.int .i64 (altA c), .int .i64 (altS c), .int .i64 (altE c)] = .tuple #[.int .i64 x, .int .i64 y, .int .i64 z] := by
  unfold altA altS altE; rw [h]

set_option maxHeartbeats 1000000 in
theorem Altitude_out (c : Int) (w : World) (h : c < 0 ∨ 8191 < c) :
    Calls Try.prog 13 #[.int .i64 c] w fun e w' => e = .returned (.tuple #[.int .i64 (altA c), .int .i64 (altS c), .int .i64 (altE c)]) ∧ Below w.heap.size w w' := by
  rw [(altT_out c h).1, (altT_out c h).2.1, (altT_out c h).2.2]
  rcases h with h | h
  · go_enter Try.func13, Try.ntmps13
    go_wp2
    go_ret3
    exact ⟨rfl, by go_grown⟩
  · have h' : ¬ c < 0 := by omega
    go_enter Try.func13, Try.ntmps13
    go_wp2
    go_ret3
    exact ⟨rfl, by go_grown⟩

set_option maxHeartbeats 2000000 in
theorem Altitude_fine (c : Int) (w : World) (h0 : 4096 ≤ c) (h1 : c ≤ 8191) :
    Calls Try.prog 13 #[.int .i64 c] w fun e w' => e = .returned (.tuple #[.int .i64 (altA c), .int .i64 (altS c), .int .i64 (altE c)]) ∧ Below w.heap.size w w' := by
  have hn : ¬ c < 0 := by omega
  have ea : bits .andNot .i64 c 4096 = c - 4096 := by rw [andnot_4096 c (by omega) h1]; omega
  have u0 := unI_nonneg (c - 4096)
  have u1 := unI_lt (c - 4096) 12 (by omega)
  have HB := Lib.hid (show c - 4096 < 9223372036854775808 by omega)
  have HT := Lib.hid (altT_fine c h0 h1)
  cases hr : inR (-1000 + 25 * unI (c - 4096))
  all_goals
    have HR := Lib.hid hr
    go_enter Try.func13, Try.ntmps13
    go_wp2_with (first | (go_at_call 24; refine (fine_call _).mono ?_; rintro e w1 ⟨rfl, hb1⟩; have hz1 := hb1.size) | (go_at_call 17; refine (ungray_call _ _ HB.out).mono ?_; rintro e w2 ⟨rfl, hb2⟩; have hz2 := hb2.size) | (go_at_call 30; refine (known_call _ _).mono ?_; rintro e w' ⟨rfl, rfl⟩))
  · go_ret3
    rw [alt_ret (HT.out.trans (by rw [HR.out]; first | done | rfl))]
    exact ⟨rfl, (hb1.trans (hb2.mono hz1)).alloc (by omega) _⟩
  · go_quiet (fail)
    go_wp2
    go_ret3
    rw [alt_ret (HT.out.trans (by rw [HR.out]; first | done | rfl))]
    exact ⟨rfl, below_drewN ((hb1.trans (hb2.mono hz1)).alloc (by omega) _) _⟩

set_option maxHeartbeats 4000000 in
theorem Altitude_coarse (c r v0 v1 v2 v3 v4 : Int) (w : World) (h0 : 0 ≤ c) (h1 : c ≤ 4095)
    (hA : ∀ w, Calls Try.prog 28 #[.int .i64 (unI (c / 8))] w fun e w' => e = .returned (.agg #[.int .i64 v0, .int .i64 v1, .int .i64 v2, .int .i64 v3, .int .i64 v4]) ∧ Below w.heap.size w w')
    (hx : ix5 (c % 8) v0 v1 v2 v3 v4 = r) (hi : idxI (unI (c / 8)).toNat (c % 8).toNat = r) (hr1 : -1 ≤ r) (hr2 : r ≤ 4) :
    Calls Try.prog 13 #[.int .i64 c] w fun e w' => e = .returned (.tuple #[.int .i64 (altA c), .int .i64 (altS c), .int .i64 (altE c)]) ∧ Below w.heap.size w w' := by
  have ea : bits .andNot .i64 c 4096 = c := by rw [andnot_4096 c (by omega) (by omega)]; omega
  have e7 : bits .and .i64 c 7 = c % 8 := MyBits.i64_and7 c
  have u0 := unI_nonneg (c / 8)
  have u1 := unI_lt (c / 8) 9 (by omega)
  have HB := Lib.hid (show c < 9223372036854775808 by omega)
  have HB2 := Lib.hid (show c / 8 < 9223372036854775808 by omega)
  have HA := Lib.hid hA
  have HX := Lib.hid hx
  have ht := altT_coarse c h0 (by omega)
  rw [hi] at ht
  have HT := Lib.hid ht
  clear hA hx ht hi
  have hcase : r < 0 ∨ (0 ≤ r ∧ inR (-1200 + 100 * (5 * unI (c / 8) + r)) = true) ∨ (0 ≤ r ∧ inR (-1200 + 100 * (5 * unI (c / 8) + r)) = false) := by
    by_cases hn : r < 0
    · exact Or.inl hn
    · cases hr : inR (-1200 + 100 * (5 * unI (c / 8) + r))
      · exact Or.inr (Or.inr ⟨by omega, rfl⟩)
      · exact Or.inr (Or.inl ⟨by omega, rfl⟩)
  rcases hcase with hn | ⟨hn, hr⟩ | ⟨hn, hr⟩
  all_goals
    go_enter Try.func13, Try.ntmps13
    go_wp2_with fail
    refine (fine_call _).mono ?_; rintro e w1 ⟨rfl, hb1⟩; have hz1 := hb1.size
    go_wp2_with fail
    refine (ungray_call _ _ HB.out).mono ?_; rintro e w2 ⟨rfl, hb2⟩; have hz2 := hb2.size
    have hB2 := hb1.trans (hb2.mono hz1)
    go_wp2_with fail
    refine (coarse_call _).mono ?_; rintro e w3 ⟨rfl, hb3⟩
    have hz3 : w2.heap.size < w3.heap.size := by have := hb3.size; simp at this; omega
    have hB3 := (hB2.alloc (by omega) _).trans (hb3.mono (by simp; omega))
    obtain ⟨hc3, hf3⟩ := bcell hb3
    clear hb3
    go_wp2_with fail
    refine (ungray_call _ _ HB2.out).mono ?_; rintro e w4 ⟨rfl, hb4⟩
    have hz4 : w3.heap.size ≤ w4.heap.size := by have := hb4.size; simpa using this
    have hB4 := ((((hB3.setCell (p := ⟨w2.heap.size, 0, none⟩) (by simp; omega) _).setCell (p := ⟨w2.heap.size, 1, none⟩) (by simp; omega) _).setCell (p := ⟨w2.heap.size, 2, none⟩) (by simp; omega) _).setCell (p := ⟨w2.heap.size, 3, none⟩) (by simp; omega) _).trans (hb4.mono (by simp; omega))
    obtain ⟨hc4, hf4⟩ := bcell hb4
    clear hb4
    have hz42 : w2.heap.size < w4.heap.size := by omega
    go_wp2_with fail
    refine (HA.out _).mono ?_; rintro e w5 ⟨rfl, hb5⟩
    have hz5 := hb5.size
    have hB5 := hB4.trans (hb5.mono (by omega))
    obtain ⟨hc5, hf5⟩ := bcell hb5
    clear hb5
    have hz52 : w2.heap.size < w5.heap.size := by omega
    go_wp2_with fail
    refine (index5 _ v0 v1 v2 v3 v4 _ _ ?_ ?_ ?_ ?_ ?_).mono ?_
    · go_simp
    · go_simp
    · go_simp
    · go_simp
    · go_simp
    rw [HX.out]
    rintro e w6 ⟨rfl, rfl⟩
    have HR : Hid (r = r) := rfl
    go_wp2_with (first | (go_at_call 30; refine (known_call _ _).mono ?_; rintro e w' ⟨rfl, rfl⟩))
  · go_ret3
    rw [alt_ret (HT.out.trans (if_pos hn))]
    exact ⟨rfl, hB5.alloc (by omega) _⟩
  · go_quiet (fail)
    go_wp2
    go_ret3
    rw [alt_ret ((HT.out.trans (if_neg (by omega))).trans (if_pos hr))]
    exact ⟨rfl, below_drewN (hB5.alloc (by omega) _) _⟩
  · go_ret3
    rw [alt_ret ((HT.out.trans (if_neg (by omega))).trans (if_neg (by simp [hr])))]
    exact ⟨rfl, hB5.alloc (by omega) _⟩

theorem ix5_bd (x v0 v1 v2 v3 v4 : Int) : -1 ≤ ix5 x v0 v1 v2 v3 v4 ∧ ix5 x v0 v1 v2 v3 v4 ≤ 4 := by
  unfold ix5; repeat' split
  all_goals omega

theorem Altitude_call (c : Int) (w : World) :
    Calls Try.prog 13 #[.int .i64 c] w fun e w' => e = .returned (.tuple #[.int .i64 (altA c), .int .i64 (altS c), .int .i64 (altE c)]) ∧ Below w.heap.size w w' := by
  by_cases h : c < 0 ∨ 8191 < c
  · exact Altitude_out c w h
  · by_cases h2 : 4096 ≤ c
    · exact Altitude_fine c w h2 (by omega)
    · have hm : ((c % 8).toNat : Int) = c % 8 := by omega
      by_cases hp : unI (c / 8) % 2 = 1
      · have hi := idxI_odd (unI (c / 8)).toNat (c % 8).toNat (by omega) (by have := unI_nonneg (c / 8); omega)
        rw [hm] at hi
        exact Altitude_coarse c _ _ _ _ _ _ w (by omega) (by omega) (fun w => hundreds_odd _ w hp) rfl hi (ix5_bd _ _ _ _ _ _).1 (ix5_bd _ _ _ _ _ _).2
      · have hi := idxI_even (unI (c / 8)).toNat (c % 8).toNat (by omega) (by have := unI_nonneg (c / 8); omega)
        rw [hm] at hi
        exact Altitude_coarse c _ _ _ _ _ _ w (by omega) (by omega) (fun w => hundreds_even _ w (by omega)) rfl hi (ix5_bd _ _ _ _ _ _).1 (ix5_bd _ _ _ _ _ _).2
end Go.Proofs.Ytlhechkaljodmaa
