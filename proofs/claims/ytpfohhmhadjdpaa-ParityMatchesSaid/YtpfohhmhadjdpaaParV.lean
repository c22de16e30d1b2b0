/-
  Layer 2 (parity): the reference's address, Syndrome, walked; the law Syndromes.
-/
import Derived.Test.YtpfohhmhadjdpaaParU
namespace Go.Proofs.Ytpfohhmhadjdpaa
open Go.RowKit BitsMath ParityMath MyHeap MyCopy MyOwn

set_option maxRecDepth 100000 in
set_option maxHeartbeats 4000000 in
theorem raddress_call (a : Option Addr) (m c : Nat) (xs : List Nat) (w : World) (h : U8s w a (m + 24) xs) (hs : all1 xs) (hn : m + 24 ≤ 128) (hc : m + 24 ≤ c) :
    Calls Try.prog 38 #[.slice a (m + 24) c] w (NPost ((rg xs : Nat) : Int) w) := by
  have HL := Lib.hid h
  have hl := h.len
  have HLn := Lib.hid hl
  have HA := Lib.hid hs
  have hcut := Lib.hid (h.cut (k := m) (by omega))
  have hcz := Lib.hid (show a = none → c = 0 from fun e => by
    obtain ⟨b, off, e2, _⟩ := u8s_at h (k := 0) (by omega)
    rw [e2] at e; cases e)
  have hvl : (xs.drop m).length = 24 := by rw [List.length_drop, hl]; omega
  have hv1 : all1 (xs.drop m) := fun x hx => hs x (List.mem_of_mem_drop hx)
  have HV := Lib.hid (And.intro hv1 hvl)
  have hr := remN_lt (xs := xs.take m) (fun x hx => hs x (List.mem_of_mem_take hx))
  have hr2 : remN (xs.take m) < 16777216 := hr
  have hvv := vl_lt hv1
  rw [hvl] at hvv
  have hvv2 : vl (xs.drop m) < 16777216 := hvv
  have HAD := Lib.hid (show vl (xs.drop m) ^^^ remN (xs.take m) = rg xs from by
    rw [← adr_rg hs (by omega), adr, hl, show m + 24 - 24 = m by omega, Nat.xor_comm])
  have HXA := Lib.hid (xor_adr (vl (xs.drop m)) (remN (xs.take m)) hvv2 hr2)
  have d0 : (((m : Nat) : Int) + 24 - 24) = (m : Int) := by omega
  clear h hl hs hvl hv1 hr hvv
  go_enter Try.func38, Try.ntmps38
  go_wp2_with fail
  go_loopw [4, 5] (fun v iv wq => ∃ k : Nat, k ≤ 24 ∧ iv = .int .i64 ((m : Int) + (k : Int)) ∧ v = .int .i64 ((vl ((xs.drop m).take k) : Nat) : Int) ∧ Below w.heap.size w wq) (fun _ iv _ => m + 24 - (intOf iv).toNat)
  case atStart => exact ⟨0, by omega, by simp, rfl, Below.refl _ _⟩
  case round =>
    obtain ⟨k, hk, rfl, rfl, hB⟩ := hrel
    have HQ := Lib.hid hB
    have hvt := vl_lt (xs := (xs.drop m).take k) (fun x hx => HV.out.1 x (List.mem_of_mem_take hx))
    rw [List.length_take, HV.out.2] at hvt
    have hp : (2 : Nat) ^ (min k 24) ≤ 2 ^ 24 := Nat.pow_le_pow_right (by decide) (by omega)
    have hvt2 : vl ((xs.drop m).take k) < 16777216 := by omega
    clear hvt hp
    by_cases hk24 : k < 24
    · obtain ⟨b, off, rfl, y0⟩ := u8s_at (HL.out.below hB) (k := m + k) (by omega)
      have hxa : xs[m + k]?.getD 0 ≤ 1 := all1_get HA.out (m + k)
      have HT := Lib.hid (show vl ((xs.drop m).take (k + 1)) = 2 * vl ((xs.drop m).take k) + xs[m + k]?.getD 0 from by
        rw [take_snoc' (by rw [HV.out.2]; exact hk24), vl_snoc, List.getElem?_drop])
      generalize xs[m + k]?.getD 0 = x at *
      generalize hvv : vl ((xs.drop m).take k) = V at *
      have hik0 : (0 : Int) ≤ (m : Int) + (k : Int) := by omega
      have hik1 : (m : Int) + (k : Int) < (m : Int) + 24 := by omega
      have hik2 : ((m : Int) + (k : Int)).toNat = m + k := by omega
      have hik3 : m + k < m + 24 := by omega
      clear hB hvv
      go_wp2_with fail
      go_roundw
      case rel => exact ⟨k + 1, by omega, by simp; omega, by rw [HT.out]; push_cast; rfl, HQ.out⟩
      case measure => simp [intOf]; omega
    · have hk5 : k = 24 := by omega
      have hk6 : ¬ (m : Int) + (k : Int) < (m : Int) + 24 := by omega
      have e24 : vl ((xs.drop m).take k) = vl (xs.drop m) := by rw [hk5, List.take_of_length_le (by rw [HV.out.2]; exact Nat.le_refl _)]
      rw [e24]
      clear hB hk5 e24 hvt2
      go_wp2_with fail
      refine (rRemainder_call a m c (xs.take m) _ (hcut.out.below HQ.out) (fun x hx => HA.out x (List.mem_of_mem_take hx)) (by omega) hcz.out).mono ?_; rintro e w5 ⟨rfl, hb5⟩
      have HB5 := Lib.hid (HQ.out.trans (hb5.mono HQ.out.size))
      clear hb5
      go_wp2_with fail
      go_ret
      exact ⟨by rw [HXA.out, HAD.out]; rfl, HB5.out⟩

set_option maxRecDepth 100000 in
set_option maxHeartbeats 2000000 in
theorem rsyndrome_call (N I : Nat) (w : World) (h1 : 24 ≤ N) (h2 : N ≤ 128) (d5 : I < N) : Calls Try.prog 27 #[.int .i64 (N : Int), .int .i64 (I : Int)] w (NPost ((rg (unitL N I) : Nat) : Int) w) := by
  have mk := hmkU N (by omega)
  have HN := Lib.hid (And.intro h1 h2)
  have d6 : (0 : Int) ≤ (I : Int) := by omega
  have hI2 : (I : Int) < (N : Int) := by omega
  clear h1 h2
  go_enter Try.func27, Try.ntmps27
  go_upto_region 2 with fail
  have hb := block_new w (.cells (madeCells #[.int .u8 0] N) 5) rfl
  have c0 : (w.alloc (.cells (madeCells #[.int .u8 0] N) 5)).cell? ⟨w.heap.size, I, none⟩ = some (.int .u8 0) := cell_of_block hb (by
    have := congrArg (fun l : List Value => l[I]?) (madeU N)
    simp only [Array.getElem?_toList] at this
    rw [this, flatU_get (by simpa using d5), List.getElem?_replicate, if_pos d5]
    rfl)
  have f0 : (w.alloc (.cells (madeCells #[.int .u8 0] N) 5)).frozen? ⟨w.heap.size, I, none⟩ = false := free_of_block hb
  have HB := Lib.hid (below_alloc w (.cells (madeCells #[.int .u8 0] N) 5))
  have HK := Lib.hid hb
  clear hb
  generalize w.alloc (.cells (madeCells #[.int .u8 0] N) 5) = w1 at *
  clear mk
  go_wp2_with fail
  have hU : U8s (w1.setCell ⟨w.heap.size, I, none⟩ (.int .u8 1)) (some ⟨w.heap.size, 0, none⟩) N (unitL N I) := by
    have := u8s_block (xs := unitL N I) (block_setCell (i := I) (v := .int .u8 1) HK.out) (by rw [toList_set, madeU]; exact (flatU_set _ _ _).symm) (by rw [unit_len]; have := HN.out; omega)
    rwa [unit_len] at this
  have HB2 := Lib.hid (HB.out.setCell (p := ⟨w.heap.size, I, none⟩) (Nat.le_refl _) (.int .u8 1))
  have HU := Lib.hid hU
  clear hU c0 f0
  obtain ⟨M, rfl⟩ : ∃ M, N = M + 24 := ⟨N - 24, by have := HN.out; omega⟩
  refine (raddress_call (some ⟨w.heap.size, 0, none⟩) M (M + 24) (unitL (M + 24) I) _ HU.out (unit_all1 _ _) HN.out.2 (Nat.le_refl _)).mono ?_; rintro e w2 ⟨rfl, hb2⟩
  have HB3 := Lib.hid (HB2.out.trans (hb2.mono HB2.out.size))
  clear hb2
  go_wp2_with fail
  go_ret
  exact ⟨rfl, HB3.out⟩

set_option maxRecDepth 100000 in
theorem rSyndrome_call (n i : Int) (w : World) : Calls Try.prog 10 #[.int .i64 n, .int .i64 i] w (TPost (synR n i) (synE n i) w) := by
  by_cases h1 : n < 24
  · have HR := Lib.hid (show synE n i = 1 from if_pos (Or.inl h1))
    have d1 : decide (n < 24) = true := decide_eq_true h1
    clear h1
    go_enter Try.func10, Try.ntmps10
    go_wp2_with fail
    go_ret2
    exact tPost_of (by unfold synR; rw [HR.out]; rfl) (by rw [HR.out]) (Below.refl _ _)
  · have d1 : decide (n < 24) = false := decide_eq_false h1
    by_cases h2 : 128 < n
    · have HR := Lib.hid (show synE n i = 1 from if_pos (Or.inr h2))
      have d2 : decide (128 < n) = true := decide_eq_true h2
      clear h1 h2
      go_enter Try.func10, Try.ntmps10
      go_wp2_with fail
      go_ret2
      exact tPost_of (by unfold synR; rw [HR.out]; rfl) (by rw [HR.out]) (Below.refl _ _)
    · have d2 : decide (128 < n) = false := decide_eq_false h2
      by_cases h3 : i < 0
      · have HR := Lib.hid (show synE n i = 8 from by unfold synE; rw [if_neg (by omega), if_pos (Or.inl h3)])
        have d3 : decide (i < 0) = true := decide_eq_true h3
        clear h1 h2 h3
        go_enter Try.func10, Try.ntmps10
        go_wp2_with fail
        go_ret2
        exact tPost_of (by unfold synR; rw [HR.out]; rfl) (by rw [HR.out]) (Below.refl _ _)
      · have d3 : decide (i < 0) = false := decide_eq_false h3
        by_cases h4 : n ≤ i
        · have HR := Lib.hid (show synE n i = 8 from by unfold synE; rw [if_neg (by omega), if_pos (Or.inr h4)])
          have d4 : decide (n ≤ i) = true := decide_eq_true h4
          clear h1 h2 h3 h4
          go_enter Try.func10, Try.ntmps10
          go_wp2_with fail
          go_ret2
          exact tPost_of (by unfold synR; rw [HR.out]; rfl) (by rw [HR.out]) (Below.refl _ _)
        · have HR := Lib.hid (show synE n i = 0 from by unfold synE; rw [if_neg (by omega), if_neg (by omega)])
          obtain ⟨N, rfl⟩ := Int.eq_ofNat_of_zero_le (show 0 ≤ n by omega)
          obtain ⟨I, rfl⟩ := Int.eq_ofNat_of_zero_le (show 0 ≤ i by omega)
          have d4 : decide ((N : Int) ≤ (I : Int)) = false := decide_eq_false h4
          have d7 : decide (N ≤ I) = false := decide_eq_false (by omega)
          have HN := Lib.hid (show 24 ≤ N ∧ N ≤ 128 ∧ I < N by omega)
          clear h1 h2 h3 h4
          go_enter Try.func10, Try.ntmps10
          go_wp2_with fail
          refine (rsyndrome_call N I _ HN.out.1 HN.out.2.1 HN.out.2.2).mono ?_; rintro e w2 ⟨rfl, hb2⟩
          have HB3 := Lib.hid hb2
          clear hb2
          go_wp2_with fail
          go_ret2
          exact tPost_of (by unfold synR; rw [if_pos HR.out]; rfl) (by rw [HR.out]) HB3.out

set_option maxRecDepth 100000 in
theorem syndromes_call (n i : Int) (w : World) : Calls Try.prog 3 #[.int .i64 n, .int .i64 i] w (BPost true w) := by
  go_enter Try.func3, Try.ntmps3
  go_wp2_with fail
  refine (rSyndrome_call n i _).mono ?_; rintro e w1 ⟨rfl, hb1⟩
  have B1 := Lib.hid hb1
  clear hb1
  go_wp2_with fail
  refine (Syndrome_call n i _).mono ?_; rintro e w2 ⟨rfl, hb2⟩
  have B2 := Lib.hid (B1.out.trans (hb2.mono B1.out.size))
  clear hb2
  generalize synR n i = R at *
  generalize synE n i = E at *
  have d1 : (R == R) = true := by simp
  have d2 : (E == E) = true := by simp
  go_wp2_with fail
  refine (awake_call _).mono ?_; rintro e w3 ⟨rfl, hb3⟩
  have B3 := Lib.hid (B2.out.trans (hb3.mono B2.out.size))
  clear hb3
  go_wp2_with fail
  go_ret
  exact bPost_of rfl B3.out
end Go.Proofs.Ytpfohhmhadjdpaa
