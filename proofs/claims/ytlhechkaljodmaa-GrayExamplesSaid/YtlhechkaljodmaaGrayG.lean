import Derived.Test.YtlhechkaljodmaaGrayF
import Derived.BigQuiet
import Derived.Deep.QuietTactic
namespace Go.Proofs.Ytlhechkaljodmaa
open Go.RowKit GrayMath

theorem or_4096 (g : Int) (h0 : 0 ≤ g) (h1 : g < 4096) : bits .or .i64 4096 g = 4096 + g := by
  obtain ⟨a, rfl⟩ := Int.eq_ofNat_of_zero_le h0
  have e := MyBits.i64_or_nat 4096 a (by omega) (by omega)
  have : 2 ^ 12 * 1 ||| a = 2 ^ 12 * 1 + a := (Nat.two_pow_add_eq_or_of_lt (i := 12) (b := a) (by omega) 1).symm
  have e2 : (2 : Nat) ^ 12 * 1 = 4096 := rfl
  rw [e2] at this
  rw [this] at e
  simpa using e
theorem or_0 (g : Int) (h0 : 0 ≤ g) (h1 : g < 4096) : bits .or .i64 0 g = g := by
  obtain ⟨a, rfl⟩ := Int.eq_ofNat_of_zero_le h0
  have e := MyBits.i64_or_nat 0 a (by omega) (by omega)
  simpa using e

theorem keep4 {w W w' : World} {v0 v1 v2 v3 : Value} (hb : Below W.heap.size W w')
    (h : W.cell? ⟨w.heap.size, 0, none⟩ = some v0 ∧ W.cell? ⟨w.heap.size, 1, none⟩ = some v1 ∧ W.cell? ⟨w.heap.size, 2, none⟩ = some v2 ∧ W.cell? ⟨w.heap.size, 3, none⟩ = some v3 ∧ Below w.heap.size w W) :
    w'.cell? ⟨w.heap.size, 0, none⟩ = some v0 ∧ w'.cell? ⟨w.heap.size, 1, none⟩ = some v1 ∧ w'.cell? ⟨w.heap.size, 2, none⟩ = some v2 ∧ w'.cell? ⟨w.heap.size, 3, none⟩ = some v3 ∧ Below w.heap.size w w' := by
  obtain ⟨h0, h1, h2, h3, hB⟩ := h
  have hlt : w.heap.size < W.heap.size := World.block_lt_of_cell? W _ h0
  exact ⟨(hb.cell (p := ⟨w.heap.size, 0, none⟩) hlt).trans h0, (hb.cell (p := ⟨w.heap.size, 1, none⟩) hlt).trans h1, (hb.cell (p := ⟨w.heap.size, 2, none⟩) hlt).trans h2, (hb.cell (p := ⟨w.heap.size, 3, none⟩) hlt).trans h3, hB.trans (hb.mono (by omega))⟩

set_option maxHeartbeats 1000000 in
theorem encode_fine (a : Int) (w : World) (h : inR a = true) :
    Calls Try.prog 23 #[.agg #[.int .i64 25, .int .i64 (-1000), .int .i64 4096, .func (.func 15) #[] #[]], .int .i64 a] w fun e w' => e = .returned (.tuple #[.int .i64 (4096 + grI ((a + 1000) / 25)), .int .i64 0]) ∧ Below w.heap.size w w' := by
  have hb : -1000 ≤ a ∧ a ≤ 50000 := by simpa [inR] using h
  obtain ⟨b0, b1⟩ := hb
  have g0 := grI_nonneg ((a + 1000) / 25)
  have g1 := grI_lt ((a + 1000) / 25) 11 (by omega)
  have HO := Lib.hid (or_4096 (grI ((a + 1000) / 25)) g0 (by omega))
  have HB := Lib.hid (show (a + 1000) / 25 < 9223372036854775808 by omega)
  have hs1 : IntKind.i64.wrap (a + 1000) = a + 1000 := IntWalk.i64_in _ (by omega)
  have hs2 : IntKind.i64.wrap ((a + 1000).tdiv 25) = (a + 1000) / 25 := by rw [Int.tdiv_eq_ediv_of_nonneg (by omega)]; exact IntWalk.i64_in _ (by omega)
  go_enter Try.func23, Try.ntmps23
  go_wp2_with (first | (go_at_call 30; refine (known_call _ _).mono ?_; rintro e w' ⟨rfl, rfl⟩))
  go_region_held3 (fun w' => w'.cell? ⟨w.heap.size, 0, none⟩ = some (.int .i64 25) ∧ w'.cell? ⟨w.heap.size, 1, none⟩ = some (.int .i64 (-1000)) ∧ w'.cell? ⟨w.heap.size, 2, none⟩ = some (.int .i64 4096) ∧ w'.cell? ⟨w.heap.size, 3, none⟩ = some (.func (.func 15) #[] #[])) (go_keep)
    (first | (go_at_call 15; refine (gray_call _ _ HB.out).mono ?_; rintro e w' ⟨rfl, rfl⟩))
  go_wp2
  go_ret2
  exact ⟨by rw [HO.out]; rfl, by go_grown⟩

set_option maxHeartbeats 1000000 in
theorem encode_coarse (a : Int) (w : World) (h : inR a = true) :
    Calls Try.prog 23 #[.agg #[.int .i64 100, .int .i64 (-1200), .int .i64 0, .func (.func 34) #[] #[]], .int .i64 a] w fun e w' => e = .returned (.tuple #[.int .i64 (8 * grI ((a + 1200) / 100 / 5) + lowI ((a + 1200) / 100 / 5) ((a + 1200) / 100 % 5)), .int .i64 0]) ∧ Below w.heap.size w w' := by
  have hb : -1000 ≤ a ∧ a ≤ 50000 := by simpa [inR] using h
  obtain ⟨b0, b1⟩ := hb
  have HB := Lib.hid (show 0 ≤ (a + 1200) / 100 ∧ (a + 1200) / 100 < 2560 by omega)
  have HO := Lib.hid (or_0 (8 * grI ((a + 1200) / 100 / 5) + lowI ((a + 1200) / 100 / 5) ((a + 1200) / 100 % 5)) (by have := grI_nonneg ((a + 1200) / 100 / 5); have := lowI_bd ((a + 1200) / 100 / 5) ((a + 1200) / 100 % 5); omega) (by have := grI_lt ((a + 1200) / 100 / 5) 8 (by omega); have := lowI_bd ((a + 1200) / 100 / 5) ((a + 1200) / 100 % 5); omega))
  have hs1 : IntKind.i64.wrap (a + 1200) = a + 1200 := IntWalk.i64_in _ (by omega)
  have hs2 : IntKind.i64.wrap ((a + 1200).tdiv 100) = (a + 1200) / 100 := by rw [Int.tdiv_eq_ediv_of_nonneg (by omega)]; exact IntWalk.i64_in _ (by omega)
  go_enter Try.func23, Try.ntmps23
  go_wp2_with (first | (go_at_call 30; refine (known_call _ _).mono ?_; rintro e w' ⟨rfl, rfl⟩))
  go_region_held3 (fun w' => w'.cell? ⟨w.heap.size, 0, none⟩ = some (.int .i64 100) ∧ w'.cell? ⟨w.heap.size, 1, none⟩ = some (.int .i64 (-1200)) ∧ w'.cell? ⟨w.heap.size, 2, none⟩ = some (.int .i64 0) ∧ w'.cell? ⟨w.heap.size, 3, none⟩ = some (.func (.func 34) #[] #[]) ∧ Below w.heap.size w w') (first | exact hk | exact ⟨by simp [go_sem], by simp [go_sem], by simp [go_sem], by simp [go_sem], by go_grown⟩)
    (first | (go_at_call 34; refine (coarse1_call _ _ HB.out.1 HB.out.2).mono ?_; rintro e w' ⟨rfl, hb⟩; have hk := keep4 hb (by assumption)))
  go_wp2
  go_ret2
  exact ⟨by rw [HO.out]; rfl, hk.2.2.2.2⟩

set_option maxHeartbeats 1000000 in
theorem encode_no (v0 v1 v2 v3 : Value) (a : Int) (w : World) (h : inR a = false) :
    Calls Try.prog 23 #[.agg #[v0, v1, v2, v3], .int .i64 a] w fun e w' => e = .returned (.tuple #[.int .i64 0, .int .i64 1]) ∧ Below w.heap.size w w' := by
  go_enter Try.func23, Try.ntmps23
  go_wp2_with (first | (go_at_call 30; refine (known_call _ _).mono ?_; rintro e w' ⟨rfl, rfl⟩))
  go_ret2
  exact ⟨rfl, by go_grown⟩

theorem fineC_in (a : Int) (h : inR a = true) : fineC a = 4096 + grI ((a + 1000) / 25) ∧ errA a = 0 := by
  have hb : -1000 ≤ a ∧ a ≤ 50000 := by simpa [inR] using h
  obtain ⟨m, hm⟩ := Int.eq_ofNat_of_zero_le (show 0 ≤ (a + 1000) / 25 by omega)
  refine ⟨?_, by unfold errA; rw [if_pos h]⟩
  unfold fineC
  rw [if_pos h, hm, grI_nat, Int.toNat_natCast]
  omega
theorem fineC_out (a : Int) (h : inR a = false) : fineC a = 0 ∧ errA a = 1 := by simp [fineC, errA, h]
theorem coarseC_in (a : Int) (h : inR a = true) : coarseC a = 8 * grI ((a + 1200) / 100 / 5) + lowI ((a + 1200) / 100 / 5) ((a + 1200) / 100 % 5) := by
  have hb : -1000 ≤ a ∧ a ≤ 50000 := by simpa [inR] using h
  obtain ⟨m, hm⟩ := Int.eq_ofNat_of_zero_le (show 0 ≤ (a + 1200) / 100 by omega)
  unfold coarseC
  rw [if_pos h, hm, Int.toNat_natCast]
  exact (ccI m).symm
theorem coarseC_out (a : Int) (h : inR a = false) : coarseC a = 0 := by simp [coarseC, h]

set_option maxHeartbeats 1000000 in
theorem Fine_call (a : Int) (w : World) :
    Calls Try.prog 9 #[.int .i64 a] w fun e w' => e = .returned (.tuple #[.int .i64 (fineC a), .int .i64 (errA a)]) ∧ Below w.heap.size w w' := by
  cases h : inR a with
  | true =>
    rw [(fineC_in a h).1, (fineC_in a h).2]
    have H := Lib.hid h
    clear h
    go_enter Try.func9, Try.ntmps9
    go_wp2_with (first | (go_at_call 24; refine (fine_call _).mono ?_; rintro e w1 ⟨rfl, hb1⟩) | (go_at_call 23; refine (encode_fine _ _ H.out).mono ?_; rintro e w2 ⟨rfl, hb2⟩))
    go_ret2
    exact ⟨rfl, hb1.trans (hb2.mono hb1.size)⟩
  | false =>
    rw [(fineC_out a h).1, (fineC_out a h).2]
    have H := Lib.hid h
    clear h
    go_enter Try.func9, Try.ntmps9
    go_wp2_with (first | (go_at_call 24; refine (fine_call _).mono ?_; rintro e w1 ⟨rfl, hb1⟩) | (go_at_call 23; refine (encode_no _ _ _ _ _ _ H.out).mono ?_; rintro e w2 ⟨rfl, hb2⟩))
    go_ret2
    exact ⟨rfl, hb1.trans (hb2.mono hb1.size)⟩

set_option maxHeartbeats 1000000 in
theorem Coarse_call (a : Int) (w : World) :
    Calls Try.prog 11 #[.int .i64 a] w fun e w' => e = .returned (.tuple #[.int .i64 (coarseC a), .int .i64 (errA a)]) ∧ Below w.heap.size w w' := by
  cases h : inR a with
  | true =>
    rw [coarseC_in a h, (fineC_in a h).2]
    have H := Lib.hid h
    clear h
    go_enter Try.func11, Try.ntmps11
    go_wp2_with (first | (go_at_call 26; refine (coarse_call _).mono ?_; rintro e w1 ⟨rfl, hb1⟩) | (go_at_call 23; refine (encode_coarse _ _ H.out).mono ?_; rintro e w2 ⟨rfl, hb2⟩))
    go_ret2
    exact ⟨rfl, hb1.trans (hb2.mono hb1.size)⟩
  | false =>
    rw [coarseC_out a h, (fineC_out a h).2]
    have H := Lib.hid h
    clear h
    go_enter Try.func11, Try.ntmps11
    go_wp2_with (first | (go_at_call 26; refine (coarse_call _).mono ?_; rintro e w1 ⟨rfl, hb1⟩) | (go_at_call 23; refine (encode_no _ _ _ _ _ _ H.out).mono ?_; rintro e w2 ⟨rfl, hb2⟩))
    go_ret2
    exact ⟨rfl, hb1.trans (hb2.mono hb1.size)⟩

set_option maxHeartbeats 1000000 in
theorem refFine_call (a : Int) (w : World) :
    Calls Try.prog 10 #[.int .i64 a] w fun e w' => e = .returned (.tuple #[.int .i64 (fineC a), .int .i64 (errA a)]) ∧ w = w' := by
  cases h : inR a with
  | true =>
    have hb : -1000 ≤ a ∧ a ≤ 50000 := by simpa [inR] using h
    obtain ⟨b0, b1⟩ := hb
    rw [(fineC_in a h).1, (fineC_in a h).2]
    have HB := Lib.hid (show (a + 1000) / 25 < 9223372036854775808 by omega)
    have g0 := grI_nonneg ((a + 1000) / 25)
    have g1 := grI_lt ((a + 1000) / 25) 11 (by omega)
    go_enter Try.func10, Try.ntmps10
    go_wp2_with (first | (go_at_call 25; refine (in_call _ _).mono ?_; rintro e w1 ⟨rfl, rfl⟩) | (go_at_call 16; refine (refGray_call _ _ HB.out).mono ?_; rintro e w2 ⟨rfl, rfl⟩))
    go_ret2
    exact ⟨rfl, rfl⟩
  | false =>
    rw [(fineC_out a h).1, (fineC_out a h).2]
    go_enter Try.func10, Try.ntmps10
    go_wp2_with (first | (go_at_call 25; refine (in_call _ _).mono ?_; rintro e w1 ⟨rfl, rfl⟩))
    go_ret2
    exact ⟨rfl, rfl⟩

set_option maxHeartbeats 1000000 in
theorem refCoarse_call (a : Int) (w : World) :
    Calls Try.prog 12 #[.int .i64 a] w fun e w' => e = .returned (.tuple #[.int .i64 (coarseC a), .int .i64 (errA a)]) ∧ Below w.heap.size w w' := by
  cases h : inR a with
  | true =>
    have hb : -1000 ≤ a ∧ a ≤ 50000 := by simpa [inR] using h
    obtain ⟨b0, b1⟩ := hb
    rw [coarseC_in a h, (fineC_in a h).2]
    have HB := Lib.hid (show 0 ≤ (a + 1200) / 100 / 5 ∧ (a + 1200) / 100 / 5 < 9223372036854775808 ∧ 0 ≤ (a + 1200) / 100 % 5 ∧ (a + 1200) / 100 % 5 ≤ 4 by omega)
    have g0 := grI_nonneg ((a + 1200) / 100 / 5)
    have g1 := grI_lt ((a + 1200) / 100 / 5) 9 (by omega)
    have l0 := lowI_bd ((a + 1200) / 100 / 5) ((a + 1200) / 100 % 5)
    obtain ⟨l0, l1⟩ := l0
    go_enter Try.func12, Try.ntmps12
    go_wp2_with (first | (go_at_call 25; refine (in_call _ _).mono ?_; rintro e w1 ⟨rfl, rfl⟩) | (go_at_call 16; refine (refGray_call _ _ HB.out.2.1).mono ?_; rintro e w2 ⟨rfl, rfl⟩) | (go_at_call 27; refine (lower_call _ _ _ HB.out.1 HB.out.2.2.1 HB.out.2.2.2).mono ?_; rintro e w2 ⟨rfl, hb⟩))
    go_ret2
    exact ⟨rfl, hb⟩
  | false =>
    rw [coarseC_out a h, (fineC_out a h).2]
    go_enter Try.func12, Try.ntmps12
    go_wp2_with (first | (go_at_call 25; refine (in_call _ _).mono ?_; rintro e w1 ⟨rfl, rfl⟩))
    go_ret2
    exact ⟨rfl, by go_grown⟩
end Go.Proofs.Ytlhechkaljodmaa
