/-
  Layer 1 (bits): Get at every input; the reference's Check, field, Get.
-/
import Derived.Test.YtlhechkaljodmaaBitsC
namespace Go.Proofs.Ytlhechkaljodmaa
open Go.RowKit BitsMath

theorem Get_err (a : Option Addr) (m c : Nat) (xs : List Nat) (p n : Int) (w : World) (h : U8s w a m xs) (n0 : -9223372036854775808 ≤ n) (n1 : n ≤ 9223372036854775807) (he : fldE xs p n ≠ 0) :
    Calls Try.prog 32 #[.slice a m c, .int .i64 p, .int .i64 n] w fun e w' => e = .returned (.tuple #[.int .u64 0, .int .i64 (fldE xs p n)]) ∧ Below w.heap.size w w' := by
  have H := Lib.hid h
  clear h
  have HB2 := Lib.hid (show ∀ o o' : Obj, Below w.heap.size w ((w.alloc o).alloc o') from fun o o' => ((Below.refl _ _).alloc (Nat.le_refl _) _).alloc (by simp) _)
  have hb : (fldE xs p n != 0) = true := by simpa using he
  clear he
  go_enter Try.func32, Try.ntmps32
  go_wp2_with fail
  refine (field_call a m c xs p n _ (H.out.below (HB2.out _ _)) n0 n1).mono ?_
  rintro e w1 ⟨rfl, hb1⟩
  have hc1 : ∀ b o, b < w.heap.size + 1 + 1 → w1.cell? ⟨b, o, none⟩ = ((w.alloc (.cells #[.slice a m c] 32)).alloc (.cells #[.int .u64 0] 46)).cell? ⟨b, o, none⟩ := fun b o hh => hb1.cell (p := ⟨b, o, none⟩) (by simpa using hh)
  have hf1 : ∀ b o, b < w.heap.size + 1 + 1 → w1.frozen? ⟨b, o, none⟩ = ((w.alloc (.cells #[.slice a m c] 32)).alloc (.cells #[.int .u64 0] 46)).frozen? ⟨b, o, none⟩ := fun b o hh => hb1.frozen (p := ⟨b, o, none⟩) (by simpa using hh)
  have hz : w.heap.size + 1 + 1 ≤ w1.heap.size := by have := hb1.size; simpa using this
  have hB : Below w.heap.size w w1 := (HB2.out _ _).trans (hb1.mono (by simp; omega))
  clear hb1
  go_wp2
  have hc2 : w1.cell? ⟨w.heap.size + 1, 0, none⟩ = some (.int .u64 0) := (hc1 _ _ (by omega)).trans (by simp [go_sem])
  refine bodyPost_ret (v := .tuple #[.int .u64 0, .int .i64 (fldE xs p n)]) ?_ rfl ⟨rfl, hB.setCell (p := ⟨w.heap.size + 1, 0, none⟩) (by simp) _⟩
  have hc3 := World.cell?_setCell_same' w1 ⟨w.heap.size + 1, 0, none⟩ (.int .u64 0) (by rw [hc2]; rfl)
  simp [results, Try.f32, go_sem, hc3]

theorem small_of {xs : List Nat} (h : chkE xs = 0) : xs.length ≤ 128 ∧ Small xs xs.length := by
  unfold chkE at h
  by_cases h1 : 128 < xs.length
  · rw [if_pos h1] at h; exact absurd h (by decide)
  · rw [if_neg h1] at h
    cases hb : anyBig xs with
    | true => rw [hb] at h; exact absurd h (by decide)
    | false =>
      refine ⟨by omega, fun i hi => ?_⟩
      unfold anyBig at hb
      rw [List.any_eq_false] at hb
      have := hb xs[i] (List.getElem_mem hi)
      rw [List.getElem?_eq_getElem hi]
      simpa using this
theorem fld_ok {xs : List Nat} {p n : Int} (h : fldE xs p n = 0) : chkE xs = 0 ∧ 0 ≤ n ∧ n ≤ 64 ∧ 0 ≤ p ∧ p + n ≤ xs.length := by
  unfold fldE at h
  by_cases h1 : chkE xs ≠ 0
  · rw [if_pos h1] at h; exact absurd h h1
  · rw [if_neg h1] at h
    by_cases h2 : n < 0 ∨ 64 < n
    · rw [if_pos h2] at h; exact absurd h (by decide)
    · rw [if_neg h2] at h
      by_cases h3 : p < 0 ∨ (xs.length : Int) - n < p
      · rw [if_pos h3] at h; exact absurd h (by decide)
      · exact ⟨Decidable.byContradiction h1, by omega, by omega, by omega, by omega⟩

/-- What Get returns beside the error. -/
def getR (xs : List Nat) (p n : Int) : Int := if fldE xs p n = 0 then (getV xs p.toNat n.toNat : Nat) else 0

theorem Get_call (a : Option Addr) (m c : Nat) (xs : List Nat) (p n : Int) (w : World) (h : U8s w a m xs) (n0 : -9223372036854775808 ≤ n) (n1 : n ≤ 9223372036854775807) :
    Calls Try.prog 32 #[.slice a m c, .int .i64 p, .int .i64 n] w fun e w' => e = .returned (.tuple #[.int .u64 (getR xs p n), .int .i64 (fldE xs p n)]) ∧ Below w.heap.size w w' := by
  unfold getR
  by_cases he : fldE xs p n = 0
  · obtain ⟨h1, h2, h3, h4, h5⟩ := fld_ok he
    obtain ⟨s1, s2⟩ := small_of h1
    obtain ⟨P, rfl⟩ := Int.eq_ofNat_of_zero_le h4
    obtain ⟨N, rfl⟩ := Int.eq_ofNat_of_zero_le h2
    rw [if_pos he, he]
    rw [h.len] at s1 s2 h5
    exact Get_ok a m c xs P N w h he (by omega) s1 (by omega) s2
  · rw [if_neg he]
    exact Get_err a m c xs p n w h n0 n1 he

set_option maxHeartbeats 1000000 in
theorem refCheck_call (a : Option Addr) (m c : Nat) (xs : List Nat) (w : World) (h : U8s w a m xs) :
    Calls Try.prog 41 #[.slice a m c] w fun e w' => e = .returned (.int .i64 (chkE xs)) ∧ w = w' := by
  obtain ⟨hl, hm, hcs⟩ := h
  unfold chkE
  rw [hl]
  by_cases h1 : 128 < m
  · have h1' : (128 : Int) < (m : Int) := by omega
    rw [if_pos h1]
    clear hl hcs
    go_enter Try.func41, Try.ntmps41
    go_wp2
    go_ret
    exact ⟨rfl, rfl⟩
  · have h1' : ¬ (128 : Int) < (m : Int) := by omega
    rw [if_neg h1]
    have HL := Lib.hid hl
    clear hl
    generalize hr : (if anyBig xs = true then (1 : Int) else 0) = r
    have HR := Lib.hid hr
    clear hr
    go_enter Try.func41, Try.ntmps41
    go_wp2
    go_loop [3] (fun k => ∃ j : Nat, j ≤ m ∧ k = .int .i64 j ∧ Small xs j) (fun k => m - (intOf k).toNat)
    case atStart => exact ⟨0, by omega, rfl, fun i hi => by omega⟩
    case round =>
      obtain ⟨j, hj, rfl, hA⟩ := hrel
      have HA := Lib.hid hA
      clear hA
      by_cases hlt : j < m
      · rcases hcs with h0 | ⟨b, off, rfl, hc⟩
        · omega
        · have hcj := hc j hlt
          clear hc
          by_cases hx : 1 < xs[j]?.getD 0
          · have hx' : (1 : Int) < ((xs[j]?.getD 0 : Nat) : Int) := by omega
            have HX := Lib.hid hx
            clear hx
            go_wp2
            go_ret
            refine ⟨?_, rfl⟩
            rw [← HR.out, anyBig_true (by rw [HL.out]; exact hlt) HX.out]; rfl
          · have hx' : ¬ (1 : Int) < ((xs[j]?.getD 0 : Nat) : Int) := by omega
            have HX := Lib.hid hx
            clear hx
            go_wp2
            go_round
            case rel => exact ⟨j + 1, by omega, by go_num, fun i hi => by
              by_cases e : i = j
              · subst e; have := HX.out; omega
              · exact HA.out i (by omega)⟩
            case measure => simp [intOf]; omega
      · obtain rfl : j = m := by omega
        go_wp2
        go_ret
        refine ⟨?_, rfl⟩
        rw [← HR.out, anyBig_false (by rw [HL.out]; exact HA.out)]; rfl

set_option maxRecDepth 100000 in
set_option maxHeartbeats 2000000 in
theorem refField_call (a : Option Addr) (m c : Nat) (xs : List Nat) (p n : Int) (w : World) (h : U8s w a m xs) (n0 : -9223372036854775808 ≤ n) (n1 : n ≤ 9223372036854775807) :
    Calls Try.prog 38 #[.slice a m c, .int .i64 p, .int .i64 n] w fun e w' => e = .returned (.int .i64 (fldE xs p n)) ∧ w = w' := by
  have hm := h.bound
  have hl := h.len
  have H := Lib.hid h
  clear h
  unfold fldE
  rw [hl]
  clear hl
  by_cases hc : chkE xs = 0
  · have hcb : (chkE xs != 0) = false := by simp [hc]
    by_cases h1 : n < 0 ∨ 64 < n
    · rw [if_neg (by simp [hc]), if_pos h1]
      clear hc
      rcases h1 with h1 | h1
      · go_enter Try.func38, Try.ntmps38
        go_wp2_with fail
        refine (refCheck_call a m c xs _ H.out).mono ?_; rintro e w' ⟨rfl, rfl⟩
        go_wp2
        go_ret
        exact ⟨rfl, rfl⟩
      · have h1' : ¬ n < 0 := by omega
        go_enter Try.func38, Try.ntmps38
        go_wp2_with fail
        refine (refCheck_call a m c xs _ H.out).mono ?_; rintro e w' ⟨rfl, rfl⟩
        go_wp2
        go_ret
        exact ⟨rfl, rfl⟩
    · rw [if_neg (by simp [hc]), if_neg h1]
      have h1a : ¬ n < 0 := by omega
      have h1b : ¬ 64 < n := by omega
      by_cases h2 : p < 0 ∨ (m : Int) - n < p
      · rw [if_pos h2]
        clear hc h1
        rcases h2 with h2 | h2
        · go_enter Try.func38, Try.ntmps38
          go_wp2_with fail
          refine (refCheck_call a m c xs _ H.out).mono ?_; rintro e w' ⟨rfl, rfl⟩
          go_wp2
          go_ret
          exact ⟨rfl, rfl⟩
        · by_cases h3 : p < 0
          · go_enter Try.func38, Try.ntmps38
            go_wp2_with fail
            refine (refCheck_call a m c xs _ H.out).mono ?_; rintro e w' ⟨rfl, rfl⟩
            go_wp2
            go_ret
            exact ⟨rfl, rfl⟩
          · go_enter Try.func38, Try.ntmps38
            go_wp2_with fail
            refine (refCheck_call a m c xs _ H.out).mono ?_; rintro e w' ⟨rfl, rfl⟩
            go_wp2
            go_ret
            exact ⟨rfl, rfl⟩
      · rw [if_neg h2]
        have h2a : ¬ p < 0 := by omega
        have h2b : ¬ (m : Int) - n < p := by omega
        clear hc h1 h2
        go_enter Try.func38, Try.ntmps38
        go_wp2_with fail
        refine (refCheck_call a m c xs _ H.out).mono ?_; rintro e w' ⟨rfl, rfl⟩
        go_wp2
        go_ret
        exact ⟨rfl, rfl⟩
  · rw [if_pos hc]
    have hcb : (chkE xs != 0) = true := by simpa using hc
    clear hc
    go_enter Try.func38, Try.ntmps38
    go_wp2_with fail
    refine (refCheck_call a m c xs _ H.out).mono ?_; rintro e w' ⟨rfl, rfl⟩
    go_wp2
    go_ret
    exact ⟨rfl, rfl⟩

set_option maxRecDepth 100000 in
set_option maxHeartbeats 2000000 in
theorem refGet_call (a : Option Addr) (m c : Nat) (xs : List Nat) (p n : Int) (w : World) (h : U8s w a m xs) (n0 : -9223372036854775808 ≤ n) (n1 : n ≤ 9223372036854775807) :
    Calls Try.prog 33 #[.slice a m c, .int .i64 p, .int .i64 n] w fun e w' => e = .returned (.tuple #[.int .u64 (getR xs p n), .int .i64 (fldE xs p n)]) ∧ w = w' := by
  have H := Lib.hid h
  by_cases he : fldE xs p n = 0
  · obtain ⟨h1, h2, h3, h4, h5⟩ := fld_ok he
    obtain ⟨s1, s2⟩ := small_of h1
    obtain ⟨P, rfl⟩ := Int.eq_ofNat_of_zero_le h4
    obtain ⟨N, rfl⟩ := Int.eq_ofNat_of_zero_le h2
    rw [h.len] at s1 s2 h5
    have hg : getR xs (P : Int) (N : Int) = ((refV xs P N : Nat) : Int) := by
      unfold getR
      rw [if_pos he, Int.toNat_natCast, Int.toNat_natCast, getV_ref xs P N m s2 (by omega)]
    rw [he, hg]
    have HE := Lib.hid he
    have hcs := h.cells
    clear h hg h1 h2 h4 he
    have hN : N ≤ 64 := by omega
    have hPm : P + N ≤ m := by omega
    clear h3 h5
    go_enter Try.func33, Try.ntmps33
    go_wp2_with fail
    refine (refField_call a m c xs _ _ _ H.out n0 n1).mono ?_
    rw [HE.out]
    rintro e w' ⟨rfl, rfl⟩
    go_wp2
    go_loop [9, 10] (fun v k => ∃ j : Nat, j ≤ N ∧ k = .int .i64 j ∧ v = .int .u64 (refV xs P j : Nat)) (fun _ k => N - (intOf k).toNat)
    case atStart => exact ⟨0, by omega, rfl, rfl⟩
    case round =>
      obtain ⟨j, hj, rfl, rfl⟩ := hrel
      by_cases hlt : j < N
      · rcases hcs with h0 | ⟨b, off, rfl, hc⟩
        · omega
        · have hcj := hc (P + j) (by omega)
          have hv := refV_lt xs P m s2 j (by omega)
          have hx := s2 (P + j) (by omega)
          have hp : 2 ^ j ≤ 2 ^ 63 := Nat.pow_le_pow_right (by decide) (by omega)
          have e1 : IntKind.u64.wrap (2 * ((refV xs P j : Nat) : Int)) = ((2 * refV xs P j : Nat) : Int) := by rw [IntKind.wrap_u64]; omega
          have e2 : IntKind.u64.wrap (((xs[P + j]?.getD 0 : Nat) : Int)) = ((xs[P + j]?.getD 0 : Nat) : Int) := by rw [IntKind.wrap_u64]; omega
          have e3 : IntKind.u64.wrap (((2 * refV xs P j : Nat) : Int) + ((xs[P + j]?.getD 0 : Nat) : Int)) = ((refV xs P (j + 1) : Nat) : Int) := by rw [IntKind.wrap_u64, show refV xs P (j + 1) = 2 * refV xs P j + xs[P + j]?.getD 0 from rfl]; omega
          have HE3 := Lib.hid (And.intro e1 (And.intro e2 e3))
          clear hc hv hp e1 e2 e3
          go_wp2
          exact ⟨⟨j + 1, by omega, by go_num, by rw [HE3.out.1, HE3.out.2.2]⟩, by simp [intOf]; omega⟩
      · obtain rfl : j = N := by omega
        go_wp2
        go_ret2
        exact ⟨rfl, rfl⟩
  · have hg : getR xs p n = 0 := by unfold getR; rw [if_neg he]
    rw [hg]
    have hb : (fldE xs p n != 0) = true := by simpa using he
    clear he hg h
    go_enter Try.func33, Try.ntmps33
    go_wp2_with fail
    refine (refField_call a m c xs _ _ _ H.out n0 n1).mono ?_
    rintro e w' ⟨rfl, rfl⟩
    go_wp2
    go_ret2
    exact ⟨rfl, rfl⟩
end Go.Proofs.Ytlhechkaljodmaa
