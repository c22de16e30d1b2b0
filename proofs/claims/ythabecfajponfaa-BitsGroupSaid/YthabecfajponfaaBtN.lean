/-
  Layer 1 (bits): Xor, walked at every input.
-/
import Derived.Test.YthabecfajponfaaBtJ
import Derived.Test.YthabecfajponfaaBtM
namespace Go.Proofs.Ythabecfajponfaa
open Go.RowKit BitsMath ParityMath MyHeap MyCopy MyOwn

def xorE (xs ys : List Nat) : Int := if chk2E xs ys ≠ 0 then chk2E xs ys else if xs.length ≠ ys.length then 16 else 0
theorem chk2_zero {xs ys : List Nat} (h : chk2E xs ys = 0) : chkE xs = 0 ∧ chkE ys = 0 := by
  unfold chk2E at h
  by_cases h1 : chkE xs = 0
  · rw [if_neg (by rw [h1]; decide)] at h; exact ⟨h1, h⟩
  · rw [if_pos h1] at h; exact absurd h h1

set_option maxRecDepth 100000 in
set_option maxHeartbeats 2000000 in
theorem Xor_call (a a' : Option Addr) (n n' c c' : Nat) (xs ys : List Nat) (w : World) (h : U8s w a n xs) (h' : U8s w a' n' ys) :
    Calls Try.prog 13 #[.slice a n c, .slice a' n' c'] w (OPost (xorE xs ys) (xr xs ys) w) := by
  have hl := h.len
  have hl' := h'.len
  have hm := h.bound
  have hm' := h'.bound
  have HL := Lib.hid h
  have HL' := Lib.hid h'
  have B2 := Lib.hid ((below_alloc w (.cells #[.slice a n c] 23)).alloc (by simp) (.cells #[.slice a' n' c'] 23))
  have B3 := Lib.hid (B2.out.alloc (by simp; omega) (.cells #[.slice a n c, .slice a' n' c'] 23))
  have C3 := Lib.hid (block_new ((w.alloc (.cells #[.slice a n c] 23)).alloc (.cells #[.slice a' n' c'] 23)) (.cells #[.slice a n c, .slice a' n' c'] 23) (n := w.heap.size + 1 + 1) (by simp))
  clear h h'
  by_cases hE : chk2E xs ys = 0
  · obtain ⟨e1, e2⟩ := chk2_zero hE
    obtain ⟨h1, h2⟩ := all1_of e1
    obtain ⟨h1', h2'⟩ := all1_of e2
    have H1 := Lib.hid (And.intro h1 h1')
    have HE := Lib.hid hE
    rw [hl] at h2
    by_cases h3 : n = n'
    · subst h3
      have HR := Lib.hid (show xorE xs ys = 0 from by unfold xorE; rw [hE, if_neg (by decide), if_neg (by rw [hl, hl']; exact fun h => h rfl)])
      have d1 : ((n : Int) != (n : Int)) = false := by simp
      have KX := Lib.hid (show XrK ((((w.alloc (.cells #[.slice a n c] 23)).alloc (.cells #[.slice a' n c'] 23)).alloc (.cells #[.slice a n c, .slice a' n c'] 23))) w.heap.size (w.heap.size + 1) a a' n c c' xs ys ((((w.alloc (.cells #[.slice a n c] 23)).alloc (.cells #[.slice a' n c'] 23)).alloc (.cells #[.slice a n c, .slice a' n c'] 23))) from
        ⟨⟨cell_of_block (block_alloc (block_alloc (block_new _ _ rfl))) rfl, cell_of_block (block_alloc (block_new _ _ (by simp))) rfl⟩, ⟨HL.out.below B3.out, HL'.out.below B3.out⟩, Below.refl _ _⟩)
      clear hl hl' hE e1 e2 h1 h1'
      go_enter Try.func13, Try.ntmps13
      go_wp2_with fail
      refine (check2_call (w.heap.size + 1 + 1) a a' n n c c' xs ys _ (HL.out.below B3.out) (HL'.out.below B3.out) (cell_of_block C3.out rfl) (cell_of_block C3.out rfl)).mono ?_; rintro e w1 ⟨rfl, rfl⟩
      rw [HE.out]
      go_wp2_with fail
      refine (combine_call w.heap.size (w.heap.size + 1) a a' n c c' xs ys _ KX.out H1.out.1 H1.out.2 (by omega)).mono ?_; rintro e w5 ⟨v5, rfl, hO, hb5⟩
      have H5 := Lib.hid (And.intro hO hb5)
      clear hO hb5
      go_wp2_with fail
      go_ret2
      refine oPost_ok (v := v5) HR.out ?_ (B3.out.trans (H5.out.2.mono (by simp; omega)))
      exact ownsRow_base H5.out.1 (by simp; omega)
    · have HR := Lib.hid (show xorE xs ys = 16 from by unfold xorE; rw [hE, if_neg (by decide), if_pos (by rw [hl, hl']; exact h3)])
      have d1 : ((n : Int) != (n' : Int)) = true := bne_iff_ne.2 (by omega)
      clear hl hl' hE e1 e2 h1 h1' h3
      go_enter Try.func13, Try.ntmps13
      go_wp2_with fail
      refine (check2_call (w.heap.size + 1 + 1) a a' n n' c c' xs ys _ (HL.out.below B3.out) (HL'.out.below B3.out) (cell_of_block C3.out rfl) (cell_of_block C3.out rfl)).mono ?_; rintro e w1 ⟨rfl, rfl⟩
      rw [HE.out]
      go_wp2_with fail
      go_ret2
      exact oPost_err (by rw [HR.out]; decide) (by rw [HR.out]) B3.out
  · have HR := Lib.hid (show xorE xs ys = chk2E xs ys from if_pos hE)
    have d1 : (chk2E xs ys != 0) = true := bne_iff_ne.2 hE
    have HE := Lib.hid hE
    clear hl hl' hE
    go_enter Try.func13, Try.ntmps13
    go_wp2_with fail
    refine (check2_call (w.heap.size + 1 + 1) a a' n n' c c' xs ys _ (HL.out.below B3.out) (HL'.out.below B3.out) (cell_of_block C3.out rfl) (cell_of_block C3.out rfl)).mono ?_; rintro e w1 ⟨rfl, rfl⟩
    go_wp2_with fail
    go_ret2
    exact oPost_err (by rw [HR.out]; exact HE.out) (by rw [HR.out]) B3.out
end Go.Proofs.Ythabecfajponfaa
