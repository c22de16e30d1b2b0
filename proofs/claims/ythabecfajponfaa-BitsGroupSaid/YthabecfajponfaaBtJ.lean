/-
  Layer 1 (bits): Weight, walked.
-/
import Derived.Test.YthabecfajponfaaBtI
namespace Go.Proofs.Ythabecfajponfaa
open Go.RowKit BitsMath ParityMath MyHeap MyCopy MyOwn

def wtL (xs : List Nat) : Nat := xs.foldl (fun a x => a + x) 0
theorem wtL_snoc (xs : List Nat) (x : Nat) : wtL (xs ++ [x]) = wtL xs + x := by simp [wtL]
theorem wtL_le {xs : List Nat} (h : all1 xs) : wtL xs ≤ xs.length := by
  induction xs using snoc_ind with
  | h0 => exact Nat.le_refl _
  | h1 xs x ih =>
    have h1 := ih (all1_app h).1
    have h2 := h x (by simp)
    rw [wtL_snoc, List.length_append, List.length_singleton]
    omega
def wtR (xs : List Nat) : Int := if chkE xs = 0 then (wtL xs : Nat) else 0

set_option maxRecDepth 100000 in
set_option maxHeartbeats 1000000 in
theorem Weight_call (a : Option Addr) (n c : Nat) (xs : List Nat) (w : World) (h : U8s w a n xs) : Calls Try.prog 14 #[.slice a n c] w (TPost (wtR xs) (chkE xs) w) := by
  have HL := Lib.hid h
  have hn := h.bound
  have hl := h.len
  have B1 := Lib.hid (below_alloc w (.cells #[.slice a n c] 23))
  have hC := Lib.hid (cell_of_block (i := 0) (block_new w (.cells #[.slice a n c] 23) rfl) rfl)
  clear h
  by_cases hE : chkE xs = 0
  · obtain ⟨h1, h2⟩ := all1_of hE
    have HE := Lib.hid hE
    have H1 := Lib.hid h1
    have HLn := Lib.hid hl
    rw [hl] at h2
    clear hl h1 hE
    go_enter Try.func14, Try.ntmps14
    go_wp2_with fail
    refine (check1_call w.heap.size a n c xs _ (HL.out.below B1.out) hC.out).mono ?_; rintro e w1 ⟨rfl, rfl⟩
    rw [HE.out]
    go_wp2_with fail
    go_loopw [2, 15] (fun v kv wr => ∃ k : Nat, k ≤ n ∧ kv = .int .i64 k ∧ v = .int .i64 ((wtL (xs.take k) : Nat) : Int) ∧ wr = w.alloc (.cells #[.slice a n c] 23)) (fun _ kv _ => n - (intOf kv).toNat)
    case atStart => exact ⟨0, Nat.zero_le _, rfl, rfl, rfl⟩
    case round =>
      obtain ⟨k, hk, rfl, rfl, rfl⟩ := hrel
      have hw := wtL_le (xs := xs.take k) (fun x hx => H1.out x (List.mem_of_mem_take hx))
      rw [List.length_take, HLn.out] at hw
      by_cases hlt : k < n
      · obtain ⟨b, off, rfl, x0⟩ := u8s_at (HL.out.below B1.out) hlt
        have hx := all1_get H1.out k
        have hk0 : (0 : Int) ≤ (k : Int) := by omega
        have hk1 : (k : Int) < (n : Int) := by omega
        have HT := Lib.hid (take_snoc' (xs := xs) (k := k) (by rw [HLn.out]; exact hlt))
        obtain ⟨x, hxx⟩ : ∃ x, xs[k]?.getD 0 = x := ⟨_, rfl⟩
        rw [hxx] at x0 hx HT
        clear hxx
        generalize hW : wtL (xs.take k) = W at *
        have HW := Lib.hid hW
        clear hW
        go_wp2_with fail
        go_roundw
        case rel => exact ⟨k + 1, by omega, by go_num, by rw [HT.out, wtL_snoc, HW.out]; push_cast; rfl, trivial⟩
        case measure => simp [intOf]; omega
      · obtain rfl : k = n := by omega
        rw [List.take_of_length_le (by rw [HLn.out]; exact Nat.le_refl _)]
        clear hw
        go_wp2_with fail
        go_ret2
        exact tPost_of (by unfold wtR; rw [if_pos HE.out]) HE.out.symm B1.out
  · have d1 : (chkE xs != 0) = true := by simpa using hE
    have HE := Lib.hid hE
    clear hl hE
    go_enter Try.func14, Try.ntmps14
    go_wp2_with fail
    refine (check1_call w.heap.size a n c xs _ (HL.out.below B1.out) hC.out).mono ?_; rintro e w1 ⟨rfl, rfl⟩
    go_wp2_with fail
    go_ret2
    exact tPost_of (by unfold wtR; rw [if_neg HE.out]) rfl B1.out
end Go.Proofs.Ythabecfajponfaa
