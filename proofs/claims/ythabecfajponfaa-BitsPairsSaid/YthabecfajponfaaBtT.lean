/-
  Layer 1 (bits): the reference's Text, walked at every string.
-/
import Derived.Test.YthabecfajponfaaBtR
import Derived.Test.YthabecfajponfaaBtG
import Derived.Test.YthabecfajponfaaBtD
import Derived.BigQuiet
namespace Go.Proofs.Ythabecfajponfaa
open Go.RowKit BitsMath ParityMath MyHeap TextMath

theorem str_snoc (S : List UInt8) (V : Nat) (hV : V < 16) : (⟨S.toArray⟩ : ByteArray) ++ (⟨#[48, 49, 50, 51, 52, 53, 54, 55, 56, 57, 97, 98, 99, 100, 101, 102]⟩ : ByteArray).extract V (V + 1) = ⟨(S ++ [hexD V]).toArray⟩ := by
  have h : (⟨#[48, 49, 50, 51, 52, 53, 54, 55, 56, 57, 97, 98, 99, 100, 101, 102]⟩ : ByteArray).extract V (V + 1) = ⟨#[hexD V]⟩ := by
    have : V = 0 ∨ V = 1 ∨ V = 2 ∨ V = 3 ∨ V = 4 ∨ V = 5 ∨ V = 6 ∨ V = 7 ∨ V = 8 ∨ V = 9 ∨ V = 10 ∨ V = 11 ∨ V = 12 ∨ V = 13 ∨ V = 14 ∨ V = 15 := by omega
    rcases this with rfl | rfl | rfl | rfl | rfl | rfl | rfl | rfl | rfl | rfl | rfl | rfl | rfl | rfl | rfl | rfl <;> decide
  rw [h]
  apply ByteArray.ext
  rw [ByteArray.data_append]
  simp
set_option maxRecDepth 100000 in
set_option maxHeartbeats 2000000 in
theorem refText_ok (a : Option Addr) (N c : Nat) (xs : List Nat) (w : World) (h : U8s w a (4 * N) xs) (he : chkE xs = 0) :
    Calls Try.prog 21 #[.slice a (4 * N) c] w (TxPost (txtK xs N) 0 w) := by
  obtain ⟨h1, h2⟩ := all1_of he
  have HL := Lib.hid h
  have HE := Lib.hid he
  have H1 := Lib.hid h1
  obtain ⟨n, hn⟩ : ∃ n : Nat, 4 * N = n := ⟨_, rfl⟩
  rw [hn] at h ⊢
  have hl := h.len
  have hrem : ((n : Int) % 4 != 0) = false := by
    have : (n : Int) % 4 = 0 := by omega
    rw [this]; rfl
  have HN := Lib.hid (And.intro hn hl)
  have hn1 : n ≤ 128 := by omega
  have HU := Lib.hid h
  clear h he hn h1 h2 hl
  go_enter Try.func21, Try.ntmps21
  go_wp2_with fail
  refine (refCheck_call a n c xs _ HU.out).mono ?_; rintro e w1 ⟨rfl, rfl⟩
  rw [HE.out]
  go_wp2_with fail
  go_loopw [5, 6] (fun v kv wr => ∃ k : Nat, k ≤ N ∧ kv = .int .i64 ((4 * k : Nat) : Int) ∧ v = .string ⟨(txtK xs k).toArray⟩ ∧ ∃ d, wr = w.drewN d) (fun _ kv _ => n - (intOf kv).toNat)
  case atStart => exact ⟨0, by omega, rfl, rfl, 0, rfl⟩
  case round =>
    obtain ⟨k, hk, rfl, rfl, d, rfl⟩ := hrel
    obtain ⟨q, hq⟩ : ∃ q : Nat, 4 * k = q := ⟨_, rfl⟩
    by_cases hlt : k < N
    · have hqn : q + 4 ≤ n := by have := HN.out.1; omega
      obtain ⟨b, off, rfl, x0⟩ := u8s_at HU.out (k := q) (by omega)
      obtain ⟨_, _, e1, x1⟩ := u8s_at HU.out (k := q + 1) (by omega)
      obtain ⟨_, _, e2, x2⟩ := u8s_at HU.out (k := q + 2) (by omega)
      obtain ⟨_, _, e3, x3⟩ := u8s_at HU.out (k := q + 3) (by omega)
      cases e1; cases e2; cases e3
      have y0 := all1_get H1.out q
      have y1 := all1_get H1.out (q + 1)
      have y2 := all1_get H1.out (q + 2)
      have y3 := all1_get H1.out (q + 3)
      have hv : v4 xs k = 8 * xs[q]?.getD 0 + 4 * xs[q + 1]?.getD 0 + 2 * xs[q + 2]?.getD 0 + xs[q + 3]?.getD 0 := by subst hq; rfl
      generalize xs[q]?.getD 0 = b0 at *
      generalize xs[q + 1]?.getD 0 = b1 at *
      generalize xs[q + 2]?.getD 0 = b2 at *
      generalize xs[q + 3]?.getD 0 = b3 at *
      have HT := Lib.hid (txtK_succ xs k)
      have HV := Lib.hid hv
      have hq0 : (0 : Int) ≤ (q : Int) := by omega
      have hqn1 : (q : Int) < (n : Int) := by omega
      have hqn2 : (q : Int) + 1 < (n : Int) := by omega
      have hqn3 : (q : Int) + 2 < (n : Int) := by omega
      have hqn4 : (q : Int) + 3 < (n : Int) := by omega
      have HQ := Lib.hid (And.intro hq (And.intro hk hlt))
      rw [hq]
      generalize hS : (txtK xs k) = S at *
      have HS := Lib.hid hS
      clear hq hv hS hk hlt
      go_wp2_with fail
      go_quiet (fail)
      obtain ⟨V, hV⟩ : ∃ V : Nat, 8 * b0 + 4 * b1 + 2 * b2 + b3 = V := ⟨_, rfl⟩
      have hVi : 8 * (b0 : Int) + 4 * (b1 : Int) + 2 * (b2 : Int) + (b3 : Int) = (V : Int) := by omega
      have hV16 : V < 16 := by omega
      have HVV := Lib.hid (show v4 xs k = V by rw [HV.out]; exact hV)
      rw [hVi]
      clear hVi hV x0 x1 x2 x3 y0 y1 y2 y3 HV
      have hov : ¬ 9223372036854775807 < S.length + (min (V + 1) 16 - V) := by
        have := txtK_len xs k
        rw [HS.out] at this
        have := HQ.out
        have := HN.out.1
        omega
      go_wp2_with fail
      refine ⟨⟨k + 1, by have := HQ.out; omega, by have := HQ.out.1; congr 1; omega, ?_, d + nq, rfl⟩, ?_⟩
      · rw [HT.out, HVV.out, str_snoc S V hV16]
      · simp [intOf]; omega
    · obtain rfl : k = N := by omega
      have HQ := Lib.hid (show (q : Int) = (n : Int) by have := HN.out.1; omega)
      rw [hq]
      have hqn : q = n := by have := HN.out.1; omega
      subst hqn
      clear hq HQ
      go_wp2_with fail
      go_ret2
      exact ⟨rfl, below_drewN (Below.refl _ _) _⟩
set_option maxRecDepth 100000 in
theorem refText_call (a : Option Addr) (n c : Nat) (xs : List Nat) (w : World) (h : U8s w a n xs) : Calls Try.prog 21 #[.slice a n c] w (TxPost (txtR xs) (txtE xs) w) := by
  have hl := h.len
  by_cases he : chkE xs = 0
  · obtain ⟨h1, h2⟩ := all1_of he
    by_cases h4 : xs.length % 4 = 0
    · have hE : txtE xs = 0 := by unfold txtE; rw [if_neg (by rw [he]; decide), if_neg (by rw [h4]; decide)]
      have hR : txtR xs = txtK xs (xs.length / 4) := if_pos hE
      obtain ⟨N, hN⟩ : ∃ N, xs.length / 4 = N := ⟨_, rfl⟩
      rw [hE, hR, hN]
      have hn : n = 4 * N := by omega
      subst hn
      exact refText_ok a N c xs w h he
    · have hE : txtE xs = 2 := by unfold txtE; rw [if_neg (by rw [he]; decide), if_pos h4]
      have hR : txtR xs = [] := if_neg (by rw [hE]; decide)
      have hrem : ((n : Int) % 4 != 0) = true := bne_iff_ne.2 (by omega)
      have HF := Lib.hid h
      have HE := Lib.hid he
      have HR := Lib.hid (And.intro hR hE)
      have hn1 : n ≤ 128 := by omega
      clear h he hE hR hl h1 h2 h4
      go_enter Try.func21, Try.ntmps21
      go_wp2_with fail
      refine (refCheck_call a n c xs _ HF.out).mono ?_
      rw [HE.out]
      rintro e w1 ⟨rfl, rfl⟩
      go_wp2_with fail
      go_ret2
      exact txPost_of (HR.out.1.symm) HR.out.2.symm (Below.refl _ _)
  · have hE : txtE xs = chkE xs := if_pos he
    have hR : txtR xs = [] := if_neg (by rw [hE]; exact he)
    have d1 : (chkE xs != 0) = true := bne_iff_ne.2 he
    have HF := Lib.hid h
    have HR := Lib.hid (And.intro hR hE)
    clear h he hE hR hl
    go_enter Try.func21, Try.ntmps21
    go_wp2_with fail
    refine (refCheck_call a n c xs _ HF.out).mono ?_
    rintro e w1 ⟨rfl, rfl⟩
    go_wp2_with fail
    go_ret2
    exact txPost_of (HR.out.1.symm) HR.out.2.symm (Below.refl _ _)
end Go.Proofs.Ythabecfajponfaa
