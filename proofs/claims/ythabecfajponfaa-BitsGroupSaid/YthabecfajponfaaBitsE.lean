/-
  Layer 1 (bits): Get at every input.
-/
import Derived.Test.YthabecfajponfaaBitsC
namespace Go.Proofs.Ythabecfajponfaa
open Go.RowKit BitsMath

theorem Get_err (a : Option Addr) (m c : Nat) (xs : List Nat) (p n : Int) (w : World) (h : U8s w a m xs) (n0 : -9223372036854775808 ≤ n) (n1 : n ≤ 9223372036854775807) (he : fldE xs p n ≠ 0) :
    Calls Try.prog 10 #[.slice a m c, .int .i64 p, .int .i64 n] w fun e w' => e = .returned (.tuple #[.int .u64 0, .int .i64 (fldE xs p n)]) ∧ Below w.heap.size w w' := by
  have H := Lib.hid h
  clear h
  have HB2 := Lib.hid (show ∀ o o' : Obj, Below w.heap.size w ((w.alloc o).alloc o') from fun o o' => ((Below.refl _ _).alloc (Nat.le_refl _) _).alloc (by simp) _)
  have hb : (fldE xs p n != 0) = true := by simpa using he
  clear he
  go_enter Try.func10, Try.ntmps10
  go_wp2_with fail
  refine (field_call a m c xs p n _ (H.out.below (HB2.out _ _)) n0 n1).mono ?_
  rintro e w1 ⟨rfl, hb1⟩
  have hc1 : ∀ b o, b < w.heap.size + 1 + 1 → w1.cell? ⟨b, o, none⟩ = ((w.alloc (.cells #[.slice a m c] 23)).alloc (.cells #[.int .u64 0] 24)).cell? ⟨b, o, none⟩ := fun b o hh => hb1.cell (p := ⟨b, o, none⟩) (by simpa using hh)
  have hf1 : ∀ b o, b < w.heap.size + 1 + 1 → w1.frozen? ⟨b, o, none⟩ = ((w.alloc (.cells #[.slice a m c] 23)).alloc (.cells #[.int .u64 0] 24)).frozen? ⟨b, o, none⟩ := fun b o hh => hb1.frozen (p := ⟨b, o, none⟩) (by simpa using hh)
  have hz : w.heap.size + 1 + 1 ≤ w1.heap.size := by have := hb1.size; simpa using this
  have hB : Below w.heap.size w w1 := (HB2.out _ _).trans (hb1.mono (by simp; omega))
  clear hb1
  go_wp2
  have hc2 : w1.cell? ⟨w.heap.size + 1, 0, none⟩ = some (.int .u64 0) := (hc1 _ _ (by omega)).trans (by simp [go_sem])
  refine bodyPost_ret (v := .tuple #[.int .u64 0, .int .i64 (fldE xs p n)]) ?_ rfl ⟨rfl, hB.setCell (p := ⟨w.heap.size + 1, 0, none⟩) (by simp) _⟩
  have hc3 := World.cell?_setCell_same' w1 ⟨w.heap.size + 1, 0, none⟩ (.int .u64 0) (by rw [hc2]; rfl)
  simp [results, Try.f10, go_sem, hc3]

theorem small_of {xs : List Nat} (h : chkE xs = 0) : xs.length ≤ 128 ∧ Small xs xs.length := by
  unfold chkE at h
  by_cases h1 : 128 < xs.length
  · rw [if_pos h1] at h; exact absurd h (by decide)
  · rw [if_neg h1] at h
    cases hb : anyBig xs with
    | true => rw [hb] at h; exact absurd h (by decide)
    | false =>
      refine ⟨by omega, fun i hi => ?_⟩
      unfold anyBig at hb
      rw [List.any_eq_false] at hb
      have := hb xs[i] (List.getElem_mem hi)
      rw [List.getElem?_eq_getElem hi]
      simpa using this
theorem fld_ok {xs : List Nat} {p n : Int} (h : fldE xs p n = 0) : chkE xs = 0 ∧ 0 ≤ n ∧ n ≤ 64 ∧ 0 ≤ p ∧ p + n ≤ xs.length := by
  unfold fldE at h
  by_cases h1 : chkE xs ≠ 0
  · rw [if_pos h1] at h; exact absurd h h1
  · rw [if_neg h1] at h
    by_cases h2 : n < 0 ∨ 64 < n
    · rw [if_pos h2] at h; exact absurd h (by decide)
    · rw [if_neg h2] at h
      by_cases h3 : p < 0 ∨ (xs.length : Int) - n < p
      · rw [if_pos h3] at h; exact absurd h (by decide)
      · exact ⟨Decidable.byContradiction h1, by omega, by omega, by omega, by omega⟩

/-- What Get returns beside the error. -/
def getR (xs : List Nat) (p n : Int) : Int := if fldE xs p n = 0 then (getV xs p.toNat n.toNat : Nat) else 0

theorem Get_call (a : Option Addr) (m c : Nat) (xs : List Nat) (p n : Int) (w : World) (h : U8s w a m xs) (n0 : -9223372036854775808 ≤ n) (n1 : n ≤ 9223372036854775807) :
    Calls Try.prog 10 #[.slice a m c, .int .i64 p, .int .i64 n] w fun e w' => e = .returned (.tuple #[.int .u64 (getR xs p n), .int .i64 (fldE xs p n)]) ∧ Below w.heap.size w w' := by
  unfold getR
  by_cases he : fldE xs p n = 0
  · obtain ⟨h1, h2, h3, h4, h5⟩ := fld_ok he
    obtain ⟨s1, s2⟩ := small_of h1
    obtain ⟨P, rfl⟩ := Int.eq_ofNat_of_zero_le h4
    obtain ⟨N, rfl⟩ := Int.eq_ofNat_of_zero_le h2
    rw [if_pos he, he]
    rw [h.len] at s1 s2 h5
    exact Get_ok a m c xs P N w h he (by omega) s1 (by omega) s2
  · rw [if_neg he]
    exact Get_err a m c xs p n w h n0 n1 he

end Go.Proofs.Ythabecfajponfaa
