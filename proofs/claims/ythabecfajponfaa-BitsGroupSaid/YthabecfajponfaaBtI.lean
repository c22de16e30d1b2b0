/-
  Layer 1 (bits): Flip, Weight, walked.
-/
import Derived.Test.YthabecfajponfaaBtF
import Derived.Test.YthabecfajponfaaBtH
import Derived.Test.YthabecfajponfaaSealMath
namespace Go.Proofs.Ythabecfajponfaa
open Go.RowKit BitsMath ParityMath MyHeap MyCopy MyOwn

def flE (xs : List Nat) (i : Int) : Int := if chkE xs ≠ 0 then chkE xs else if i < 0 ∨ (xs.length : Int) ≤ i then 8 else 0
theorem own_at {w : World} {base : Nat} {T : TypeId} {a : Option Addr} {n c : Nat} {ys : List Nat} (h : w.ownsRow base T 1 (.slice a n c) ys.length (flatU ys)) {i : Nat} (hi : i < ys.length) : ∃ g, a = some ⟨g, 0, none⟩ ∧ base ≤ g ∧ w.cell? ⟨g, i, none⟩ = some (.int .u8 ((ys[i]?.getD 0 : Nat) : Int)) ∧ w.frozen? ⟨g, i, none⟩ = false := by
  rcases h.2 with ⟨_, h0⟩ | ⟨g, cap, cur, hv, hg, hh, hc, hm, hs, ht⟩
  · omega
  · cases hv
    refine ⟨g, rfl, hg, cell_of_block hh ?_, free_of_block hh⟩
    have hx := flatU_get hi
    rw [← ht, List.getElem?_take_of_lt (by omega)] at hx
    simpa using hx
theorem xor_bit (x : Nat) (h : x ≤ 1) : bits .xor .u8 ((x : Nat) : Int) 1 = ((x ^^^ 1 : Nat) : Int) := by
  have : x = 0 ∨ x = 1 := by omega
  rcases this with rfl | rfl <;> decide

set_option maxRecDepth 100000 in
set_option maxHeartbeats 1000000 in
theorem Flip_call (a : Option Addr) (n c : Nat) (xs : List Nat) (i : Int) (w : World) (h : U8s w a n xs) : Calls Try.prog 15 #[.slice a n c, .int .i64 i] w (OPost (flE xs i) (flL xs i.toNat) w) := by
  have HL := Lib.hid h
  have hn := h.bound
  have hl := h.len
  have B1 := Lib.hid (below_alloc w (.cells #[.slice a n c] 23))
  have hC := Lib.hid (cell_of_block (i := 0) (block_new w (.cells #[.slice a n c] 23) rfl) rfl)
  clear h
  by_cases hE : chkE xs = 0
  · obtain ⟨h1, h2⟩ := all1_of hE
    have HE := Lib.hid hE
    rw [hl] at h2
    by_cases h3 : i < 0
    · have HR := Lib.hid (show flE xs i = 8 from by unfold flE; rw [if_neg (by rw [hE]; decide), if_pos (Or.inl h3)])
      have d1 : decide (i < 0) = true := decide_eq_true h3
      clear hl h1 hE h3
      go_enter Try.func15, Try.ntmps15
      go_wp2_with fail
      refine (check1_call w.heap.size a n c xs _ (HL.out.below B1.out) hC.out).mono ?_; rintro e w1 ⟨rfl, rfl⟩
      rw [HE.out]
      go_wp2_with fail
      go_ret2
      exact oPost_err (by rw [HR.out]; decide) (by rw [HR.out]) B1.out
    · have d1 : decide (i < 0) = false := decide_eq_false h3
      obtain ⟨I, rfl⟩ := Int.eq_ofNat_of_zero_le (show 0 ≤ i by omega)
      by_cases h4 : n ≤ I
      · have HR := Lib.hid (show flE xs (I : Int) = 8 from by unfold flE; rw [if_neg (by rw [hE]; decide), if_pos (Or.inr (by omega))])
        have d2 : decide ((n : Int) ≤ (I : Int)) = true := decide_eq_true (by omega)
        have d3 : decide (n ≤ I) = true := decide_eq_true h4
        clear hl h1 hE h3 h4
        go_enter Try.func15, Try.ntmps15
        go_wp2_with fail
        refine (check1_call w.heap.size a n c xs _ (HL.out.below B1.out) hC.out).mono ?_; rintro e w1 ⟨rfl, rfl⟩
        rw [HE.out]
        go_wp2_with fail
        go_ret2
        exact oPost_err (by rw [HR.out]; decide) (by rw [HR.out]) B1.out
      · have HR := Lib.hid (show flE xs (I : Int) = 0 from by unfold flE; rw [if_neg (by rw [hE]; decide), if_neg (by omega)])
        have d2 : decide ((n : Int) ≤ (I : Int)) = false := decide_eq_false (by omega)
        have d3 : decide (n ≤ I) = false := decide_eq_false h4
        have d4 : (0 : Int) ≤ (I : Int) := by omega
        have d5 : (I : Int) < (n : Int) := by omega
        have d6 : I < n := by omega
        have HX := Lib.hid (xor_bit _ (all1_get h1 I))
        have HLn := Lib.hid hl
        clear hl h1 hE h3 h4
        go_enter Try.func15, Try.ntmps15
        go_wp2_with fail
        refine (check1_call w.heap.size a n c xs _ (HL.out.below B1.out) hC.out).mono ?_; rintro e w1 ⟨rfl, rfl⟩
        rw [HE.out]
        go_wp2_with fail
        refine (clone_call a n c xs _ (HL.out.below B1.out) (by omega)).mono ?_; rintro e w2 ⟨vC, rfl, hO, hb2⟩
        obtain ⟨aC, cC, rfl⟩ := own_slice hO
        obtain ⟨g, rfl, hg, hcell, hfree⟩ := own_at hO (i := I) (by rw [HLn.out]; exact d6)
        have HB := Lib.hid (B1.out.trans (hb2.mono B1.out.size))
        have HO := Lib.hid hO
        have E1 := HX.out
        have HLe := HLn.out
        rw [HLe]
        clear hb2 hO HLe
        obtain ⟨x, hx⟩ : ∃ x, xs[I]?.getD 0 = x := ⟨_, rfl⟩
        have HXX := Lib.hid hx
        rw [hx] at hcell E1
        clear hx
        go_wp2_with fail
        go_ret2
        have hB3 : Below w.heap.size w (w2.setCell ⟨g, I, none⟩ (.int .u8 ((x ^^^ 1 : Nat) : Int))) := HB.out.setCell (p := ⟨g, I, none⟩) (show w.heap.size ≤ g by simp at hg; omega) _
        have hs := own_set HO.out I (x ^^^ 1)
        have he : flL xs (I : Int).toNat = xs.set I (x ^^^ 1) := by unfold flL; rw [Int.toNat_natCast, HXX.out]
        rw [he]
        rw [HLn.out] at hs
        refine oPost_ok (v := .slice (some ⟨g, 0, none⟩) n cC) HR.out ?_ hB3
        exact ownsRow_base hs (show w.heap.size ≤ (w.alloc _).heap.size by simp)
  · have HR := Lib.hid (show flE xs i = chkE xs from if_pos hE)
    have d1 : (chkE xs != 0) = true := by simpa using hE
    have HE := Lib.hid hE
    clear hl hE
    go_enter Try.func15, Try.ntmps15
    go_wp2_with fail
    refine (check1_call w.heap.size a n c xs _ (HL.out.below B1.out) hC.out).mono ?_; rintro e w1 ⟨rfl, rfl⟩
    go_wp2_with fail
    go_ret2
    exact oPost_err (by rw [HR.out]; exact HE.out) (by rw [HR.out]) B1.out
end Go.Proofs.Ythabecfajponfaa
