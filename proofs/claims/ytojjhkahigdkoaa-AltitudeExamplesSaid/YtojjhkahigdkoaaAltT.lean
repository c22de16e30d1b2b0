/-
  Layer 18 (altitude): bands compared and overwritten.
-/
import Derived.Test.YtojjhkahigdkoaaAltS
namespace Go.Proofs.Ytojjhkahigdkoaa
open Go.RowKit AltMath MyHeap MyOwn MyCopy

set_option maxRecDepth 100000 in
set_option maxHeartbeats 4000000 in
theorem equalBand_call (aL aH dL dH : Option Addr) (nL nH cL cH mL mH eL eH : Nat) (lo hi lo' hi' : List Int) (w : World) (hL : Ints w aL nL lo) (hH : Ints w aH nH hi) (hL' : Ints w dL mL lo') (hH' : Ints w dH mH hi') :
    Calls Try.prog 18 #[bdV aL nL cL aH nH cH, bdV dL mL eL dH mH eH] w (BPost (decide (lo = lo') && decide (hi = hi')) w) := by
  have H := Lib.hid (And.intro (And.intro hL hH) (And.intro hL' hH'))
  have B := Lib.hid (And.intro ((below_alloc w (.cells (bdC aL nL cL aH nH cH) 24)).alloc (by simp) (.cells (bdC dL mL eL dH mH eH) 24)) (And.intro (block_alloc (o' := .cells (bdC dL mL eL dH mH eH) 24) (block_new w (.cells (bdC aL nL cL aH nH cH) 24) rfl)) (block_new (w.alloc (.cells (bdC aL nL cL aH nH cH) 24)) (.cells (bdC dL mL eL dH mH eH) 24) (n := w.heap.size + 1) (by simp))))
  clear hL hH hL' hH'
  unfold bdV
  unfold bdC at B
  cases d1 : decide (lo = lo')
  · go_enter Try.func18, Try.ntmps18
    go_wp2_with fail
    refine (equalInts_call aL dL nL mL cL eL lo lo' _ (H.out.1.1.below B.out.1) (H.out.2.1.below B.out.1)).mono ?_; rintro e w1 ⟨rfl, hb⟩
    rw [d1]
    replace B := Lib.hid (B.out.1.trans (hb.mono B.out.1.size))
    clear hb
    go_wp2_with fail
    go_ret
    exact bPost_of (by simp) B.out
  · go_enter Try.func18, Try.ntmps18
    go_wp2_with fail
    refine (equalInts_call aL dL nL mL cL eL lo lo' _ (H.out.1.1.below B.out.1) (H.out.2.1.below B.out.1)).mono ?_; rintro e w1 ⟨rfl, hb⟩
    rw [d1]
    replace B := Lib.hid (And.intro (B.out.1.trans (hb.mono B.out.1.size)) (And.intro (keepO hb B.out.2.1) (keepO hb B.out.2.2)))
    obtain ⟨-, k1⟩ := two_cells B.out.2.1
    obtain ⟨-, k2⟩ := two_cells B.out.2.2
    clear hb
    go_wp2_with fail
    refine (equalInts_call aH dH nH mH cH eH hi hi' _ (H.out.1.2.below B.out.1) (H.out.2.2.below B.out.1)).mono ?_; rintro e w2 ⟨rfl, hb⟩
    replace B := Lib.hid (B.out.1.trans (hb.mono B.out.1.size))
    clear hb
    go_wp2_with fail
    go_ret
    exact bPost_of (by simp) B.out

set_option maxRecDepth 100000 in
set_option maxHeartbeats 4000000 in
theorem has_at (b1 o1 b2 o2 cL cH : Nat) (lo hi : List Int) (j : Nat) (x y : Int) (w : World) (hj : j < 201) (hL : Ints w (some ⟨b1, o1, none⟩) 201 lo) (hH : Ints w (some ⟨b2, o2, none⟩) 201 hi) (hx : gi lo j = x) (hy : gi hi j = y) :
    Calls Try.prog 33 #[bdV (some ⟨b1, o1, none⟩) 201 cL (some ⟨b2, o2, none⟩) 201 cH, .int .i64 ((j : Int) - 100), .int .i64 x, .int .i64 y] w (BPost true w) := by
  have hj0 : (0 : Int) ≤ (j : Int) := by omega
  have hj1 : (j : Int) < 201 := by omega
  have B := Lib.hid (below_alloc w (.cells (bdC (some ⟨b1, o1, none⟩) 201 cL (some ⟨b2, o2, none⟩) 201 cH) 24))
  obtain ⟨_, _, e1, x0⟩ := ints_at (hL.below B.out) hj
  obtain ⟨_, _, e2, y0⟩ := ints_at (hH.below B.out) hj
  cases e1; cases e2
  rw [hx] at x0
  rw [hy] at y0
  have kb1 := World.block_lt_of_cell? w _ (show w.cell? ⟨b1, o1 + j, none⟩ = some (.int .i64 (gi lo j)) by obtain ⟨_, _, e3, u⟩ := ints_at hL hj; cases e3; exact u)
  have kb2 := World.block_lt_of_cell? w _ (show w.cell? ⟨b2, o2 + j, none⟩ = some (.int .i64 (gi hi j)) by obtain ⟨_, _, e3, u⟩ := ints_at hH hj; cases e3; exact u)
  clear hL hH hx hy
  unfold bdV
  unfold bdC at *
  go_enter Try.func33, Try.ntmps33
  go_wp2_with fail
  go_ret
  exact bPost_of rfl B.out
end Go.Proofs.Ytojjhkahigdkoaa
