/-
  Layer 2 (parity): the remainder of a valid string, walked.
-/
import Derived.Test.YtpfohhmhadjdpaaBitsF
import Derived.Test.YtpfohhmhadjdpaaBitsLib
import Derived.Test.YtpfohhmhadjdpaaParityMath
import Derived.Test.YtpfohhmhadjdpaaHeapLib
namespace Go.Proofs.Ytpfohhmhadjdpaa
open Go.RowKit BitsMath ParityMath MyHeap

theorem top_eq (r x : Nat) (hr : r < 16777216) (hx : x ≤ 1) : bits .xor .i64 (bits .and .i64 ((r : Int) / (8388608 : Int)) 1) (x : Int) = ((((r >>> 23) &&& 1) ^^^ x : Nat) : Int) := by
  have e : (r : Int) / (8388608 : Int) = ((r >>> 23 : Nat) : Int) := by
    rw [Nat.shiftRight_eq_div_pow]
    show _ = ((r / 8388608 : Nat) : Int)
    omega
  have hle : r >>> 23 ≤ 1 := by
    rw [Nat.shiftRight_eq_div_pow]
    show r / 8388608 ≤ 1
    omega
  have h2 : (r >>> 23) &&& 1 < 2 := Nat.and_lt_two_pow (n := 1) _ (by decide)
  rw [e, show (1 : Int) = ((1 : Nat) : Int) from rfl, MyBits.i64_and_nat _ _ (by omega) (by omega), MyBits.i64_xor_nat _ _ (by omega) (by omega)]
theorem dbl_eq (r : Nat) (hr : r < 16777216) : bits .and .i64 ((r : Int) * (2 : Int)) (16777215 : Int) = (((r <<< 1) &&& 16777215 : Nat) : Int) := by
  have e : (r : Int) * (2 : Int) = ((r <<< 1 : Nat) : Int) := by
    rw [Nat.shiftLeft_eq]
    show _ = ((r * 2 : Nat) : Int)
    omega
  have hle : r <<< 1 < 33554432 := by
    rw [Nat.shiftLeft_eq]
    show r * 2 < _
    omega
  rw [e, show (16777215 : Int) = ((16777215 : Nat) : Int) from rfl, MyBits.i64_and_nat _ _ (by omega) (by omega)]
theorem pol_eq (a : Nat) (ha : a < 16777216) : bits .xor .i64 ((a : Nat) : Int) (16774153 : Int) = ((a ^^^ 16774153 : Nat) : Int) := by
  rw [show (16774153 : Int) = ((16774153 : Nat) : Int) from rfl, MyBits.i64_xor_nat _ _ (by omega) (by omega)]
theorem below_alloc (w : World) (o : Obj) : Below w.heap.size w (w.alloc o) := (Below.refl _ _).alloc (Nat.le_refl _) _
/-- One bit went into the register. -/
def StPost (b r x : Nat) (w : World) (e : Ending) (w' : World) : Prop := e = .returned (.tuple #[]) ∧ w'.heap[b]? = some (.cells #[.int .i64 (stepN r x : Nat)] 3 (0, 0)) ∧ Only b w w'

set_option maxRecDepth 100000 in
theorem rest_call (b r x : Nat) (w : World) (h : w.heap[b]? = some (.cells #[.int .i64 (r : Int)] 3 (0, 0))) (hr : r < 16777216) (hx : x ≤ 1) :
    Calls Try.prog 44 #[.int .u8 (x : Int), .pointer (some ⟨b, 0, none⟩)] w (StPost b r x w) := by
  have c0 : w.cell? ⟨b, 0, none⟩ = some (.int .i64 (r : Int)) := cell_of_block h rfl
  have f0 := free_of_block (i := 0) h
  have HH := Lib.hid h
  have hlt : (r <<< 1) &&& 16777215 < 16777216 := Nat.and_lt_two_pow (n := 24) _ (by decide)
  have HP := Lib.hid (pol_eq _ hlt)
  have E2 := dbl_eq r hr
  have E1 := top_eq r x hr hx
  clear h
  by_cases ht : ((r >>> 23) &&& 1) ^^^ x = 1
  · have HS := Lib.hid (show stepN r x = ((r <<< 1) &&& 16777215) ^^^ 16774153 from if_pos ht)
    rw [ht] at E1
    generalize (r <<< 1) &&& 16777215 = q at *
    have E3 := HP.out
    clear ht
    go_enter Try.func44, Try.ntmps44
    go_wp2
    go_end0
    exact ⟨rfl, by rw [HS.out]; exact block_setCell (block_setCell HH.out), ((Only.refl _ _).setCell 0 _).setCell 0 _⟩
  · have HS := Lib.hid (show stepN r x = (r <<< 1) &&& 16777215 from if_neg ht)
    have d1 : ((((r >>> 23) &&& 1) ^^^ x : Nat) : Int) ≠ 1 := by omega
    generalize ((r >>> 23) &&& 1) ^^^ x = q1 at *
    generalize (r <<< 1) &&& 16777215 = q at *
    have d2 : ((q1 : Int) == 1) = false := by simpa using d1
    clear ht d1
    go_enter Try.func44, Try.ntmps44
    go_wp2
    go_end0
    exact ⟨rfl, by rw [HS.out]; exact block_setCell HH.out, (Only.refl _ _).setCell 0 _⟩
theorem u8s_at {w : World} {a : Option Addr} {n : Nat} {xs : List Nat} (h : U8s w a n xs) {k : Nat} (hk : k < n) : ∃ b off, a = some ⟨b, off, none⟩ ∧ w.cell? ⟨b, off + k, none⟩ = some (.int .u8 ((xs[k]?.getD 0 : Nat) : Int)) := by
  rcases h.cells with h0 | ⟨b, off, e, hc⟩
  · omega
  · exact ⟨b, off, e, hc k hk⟩
theorem all1_get {xs : List Nat} (h : all1 xs) (k : Nat) : xs[k]?.getD 0 ≤ 1 := by
  by_cases hk : k < xs.length
  · rw [List.getElem?_eq_getElem hk]; exact h _ (List.getElem_mem hk)
  · rw [List.getElem?_eq_none (by omega)]; decide
theorem take_snoc' {xs : List Nat} {k : Nat} (hk : k < xs.length) : xs.take (k + 1) = xs.take k ++ [xs[k]?.getD 0] := by
  rw [List.take_succ_eq_append_getElem hk, List.getElem?_eq_getElem hk]; rfl

def NPost (r : Int) (w : World) (e : Ending) (w' : World) : Prop := e = .returned (.int .i64 r) ∧ Below w.heap.size w w'
set_option maxRecDepth 100000 in
theorem remainder_call (a : Option Addr) (n c : Nat) (xs : List Nat) (w : World) (h : U8s w a n xs) (hs : all1 xs) :
    Calls Try.prog 30 #[.slice a n c] w (NPost (remN xs : Nat) w) := by
  have HL := Lib.hid h
  have HS := Lib.hid hs
  have hn := h.bound
  clear h hs
  go_enter Try.func30, Try.ntmps30
  go_wp2
  go_loopw [10] (fun iv wr => ∃ k : Nat, k ≤ n ∧ iv = .int .i64 k ∧ wr.heap[w.heap.size]? = some (.cells #[.int .i64 (remN (xs.take k) : Nat)] 3 (0, 0)) ∧ Below w.heap.size w wr) (fun iv _ => n - (intOf iv).toNat)
  case atStart => exact ⟨0, Nat.zero_le _, rfl, block_new _ _ rfl, below_alloc _ _⟩
  case round =>
    obtain ⟨k, hk, rfl, hC, hB⟩ := hrel
    have HC := Lib.hid hC
    by_cases hlt : k < n
    · obtain ⟨b, off, rfl, x0⟩ := u8s_at (HL.out.below hB) hlt
      have hx := all1_get HS.out k
      have hk0 : (0 : Int) ≤ (k : Int) := by omega
      have hk1 : (k : Int) < (n : Int) := by omega
      have HT := Lib.hid (take_snoc' (xs := xs) (k := k) (by rw [HL.out.len]; exact hlt))
      have HB := Lib.hid hB
      generalize xs[k]?.getD 0 = x at *
      clear hC hB
      go_wp2_with fail
      refine (rest_call w.heap.size _ x _ HC.out (remN_lt (fun y hy => HS.out y (List.mem_of_mem_take hy))) hx).mono ?_; rintro e w3 ⟨rfl, hC3, hO3⟩
      have H3 := Lib.hid (And.intro hC3 hO3)
      clear hC3 hO3
      go_wp2_with fail
      go_roundw
      case rel => exact ⟨k + 1, by omega, by go_num, by rw [HT.out, remN_snoc]; exact H3.out.1, HB.out.trans (H3.out.2.below (Nat.le_refl _) HB.out.size)⟩
      case measure => simp [intOf]; omega
    · obtain rfl : k = n := by omega
      have c0 : wr.cell? ⟨w.heap.size, 0, none⟩ = some (.int .i64 (remN xs : Nat)) := by
        have := cell_of_block (i := 0) hC rfl
        rwa [List.take_of_length_le (by rw [HL.out.len]; exact Nat.le_refl _)] at this
      have HB := Lib.hid hB
      clear hC hB
      go_wp2_with fail
      go_ret
      exact ⟨rfl, HB.out⟩
end Go.Proofs.Ytpfohhmhadjdpaa
