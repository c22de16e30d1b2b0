/-
  Altitude in seat 36: New (printed by genBand.py)
-/
import Derived.Test.YthaokofhepngbaaBdG
import Derived.Test.YthaokofhepngbaaBdE
import Derived.Shelf.Abstract
namespace Go.Proofs.Ythaokofhepngbaa.Alt
open Go.RowKit Go.Shelf AltMath MyHeap MyCopy MyOwn

/-- What made has made is stored in the result's block. -/
theorem pt_store {w0 W W' : World} {R : Nat} {aL aH : Option Addr} {nL cL nH cH : Nat} {lo hi : List Int} (hR : w0.heap.size ≤ R) (h1 : W.heap[R]? = some (.cells #[.slice none 0 0, .slice none 0 0] 50 (0, 0))) (hK : Below w0.heap.size w0 W) (hT : TwoOwn W.heap.size (.slice aL nL cL) (.slice aH nH cH) lo hi W') (hB : Below W.heap.size W W') :
    TwoOwn w0.heap.size (.slice aL nL cL) (.slice aH nH cH) lo hi ((W'.setCell ⟨R, 0, none⟩ (.slice aL nL cL)).setCell ⟨R, 1, none⟩ (.slice aH nH cH)) ∧ Below w0.heap.size w0 ((W'.setCell ⟨R, 0, none⟩ (.slice aL nL cL)).setCell ⟨R, 1, none⟩ (.slice aH nH cH)) ∧
      ((W'.setCell ⟨R, 0, none⟩ (.slice aL nL cL)).setCell ⟨R, 1, none⟩ (.slice aH nH cH)).cell? ⟨R, 0, none⟩ = some (.slice aL nL cL) ∧ ((W'.setCell ⟨R, 0, none⟩ (.slice aL nL cL)).setCell ⟨R, 1, none⟩ (.slice aH nH cH)).cell? ⟨R, 1, none⟩ = some (.slice aH nH cH) := by
  have hlt := lt_of_block h1
  have hx := block_setCell (i := 1) (v := .slice aH nH cH) (block_setCell (i := 0) (v := .slice aL nL cL) (keepO hB h1))
  have hO : Only R W' ((W'.setCell ⟨R, 0, none⟩ (.slice aL nL cL)).setCell ⟨R, 1, none⟩ (.slice aH nH cH)) := ((Only.refl _ _).setCell 0 _).setCell 1 _
  have hK' := hK.trans (hB.mono hK.size)
  exact ⟨TwoOwn.base ⟨own_keep hT.L hO (Or.inr fun e => by have := (hT.L.lt _ e).1; omega), own_keep hT.H hO (Or.inr fun e => by have := (hT.H.lt _ e).1; omega), hT.A⟩ hK.size, hK'.trans (hO.below hR hK'.size), cell_of_block (i := 0) (v := .slice aL nL cL) hx rfl, cell_of_block (i := 1) (v := .slice aH nH cH) hx rfl⟩

set_option maxRecDepth 100000 in
set_option maxHeartbeats 4000000 in
theorem pNew_call (alt size : Int) (w : World) : Calls Try.prog 24 #[.int .i64 alt, .int .i64 size] w (BOPost (meE alt size) (loK (neF alt size) 201) (hiK (neF alt size) 201) w) := by
  have K := Lib.hid (show Below w.heap.size w (((w.alloc (.cells #[.int .i64 alt] 3)).alloc (.cells #[.int .i64 size] 3)).alloc (.cells #[.slice none 0 0, .slice none 0 0] 50)) ∧ (((w.alloc (.cells #[.int .i64 alt] 3)).alloc (.cells #[.int .i64 size] 3)).alloc (.cells #[.slice none 0 0, .slice none 0 0] 50)).heap[w.heap.size + 1 + 1]? = some (.cells #[.slice none 0 0, .slice none 0 0] 50 (0, 0)) ∧
      (((w.alloc (.cells #[.int .i64 alt] 3)).alloc (.cells #[.int .i64 size] 3)).alloc (.cells #[.slice none 0 0, .slice none 0 0] 50)).heap[w.heap.size]? = some (.cells #[.int .i64 alt] 3 (0, 0)) ∧ (((w.alloc (.cells #[.int .i64 alt] 3)).alloc (.cells #[.int .i64 size] 3)).alloc (.cells #[.slice none 0 0, .slice none 0 0] 50)).heap[w.heap.size + 1]? = some (.cells #[.int .i64 size] 3 (0, 0))
    from ⟨((below_alloc w _).alloc (by simp) _).alloc (by simp; omega) _, block_new _ _ (by simp), block_alloc (block_alloc (block_new _ _ rfl)), block_alloc (block_new _ _ (by simp))⟩)
  rcases meE_or alt size with hE | hE
  · obtain ⟨h1, h2, h3⟩ := meE_ok hE
    have hs : 25 ≤ size ∧ size ≤ 100 := by omega
    have HB := Lib.hid (And.intro (And.intro h1 h2) hs)
    have HE := Lib.hid hE
    clear hE h3 h1 h2 hs
    go_enter Try.func24, Try.ntmps24
    go_wp2_with fail
    refine (measured_call alt size _).mono ?_; rintro e w1 ⟨rfl, rfl⟩
    rw [HE.out]
    go_wp2_with fail
    have hsz : w.heap.size + 3 = (((w.alloc (.cells #[.int .i64 alt] 3)).alloc (.cells #[.int .i64 size] 3)).alloc (.cells #[.slice none 0 0, .slice none 0 0] 50)).heap.size := by simp
    generalize (((w.alloc (.cells #[.int .i64 alt] 3)).alloc (.cells #[.int .i64 size] 3)).alloc (.cells #[.slice none 0 0, .slice none 0 0] 50)) = W at *
    refine (made_call (neF alt size) 35 #[.pointer (some ⟨w.heap.size, 0, none⟩), .pointer (some ⟨w.heap.size + 1, 0, none⟩)] W (enters_of Try.func35 (by kernel_rfl) rfl) (fun V hV i _ => new1_call alt size w.heap.size (w.heap.size + 1) i V (keep1 hV (cell_of_block K.out.2.2.1 rfl)) (keep1 hV (cell_of_block K.out.2.2.2 rfl)) HB.out.1.1 HB.out.1.2 HB.out.2.1 HB.out.2.2)).mono ?_
    rintro e w2 ⟨vL, vH, rfl, hT, hB⟩
    obtain ⟨aL, nL, cL, rfl⟩ := own_slice3 hT.L
    obtain ⟨aH, nH, cH, rfl⟩ := own_slice3 hT.H
    obtain ⟨d0, d1, g0, g1⟩ := two_facts (keepO hB K.out.2.1)
    have H := Lib.hid (And.intro hT hB)
    clear hT hB
    go_wp2_with fail
    obtain ⟨hT9, hB9, r0, r1⟩ := pt_store (R := w.heap.size + 1 + 1) (by omega) K.out.2.1 K.out.1 H.out.1 H.out.2
    refine bodyPost_ret (v := .tuple #[.agg #[.slice aL nL cL, .slice aH nH cH], .int .i64 0]) ?_ rfl ⟨_, _, by rw [HE.out], fun _ => hT9, fun e => absurd HE.out e, hB9⟩
    simp [results, Try.f24, go_sem, r0, r1]
  · have HE := Lib.hid hE
    clear hE
    go_enter Try.func24, Try.ntmps24
    go_wp2_with fail
    refine (measured_call alt size _).mono ?_; rintro e w1 ⟨rfl, rfl⟩
    rw [HE.out]
    go_wp2_with fail
    have r0 := cell_of_block (i := 0) (v := .slice none 0 0) K.out.2.1 rfl
    have r1 := cell_of_block (i := 1) (v := .slice none 0 0) K.out.2.1 rfl
    refine bodyPost_ret (v := .tuple #[.agg #[.slice none 0 0, .slice none 0 0], .int .i64 1]) ?_ rfl (bo_err HE.out (by decide) K.out.1)
    simp [results, Try.f24, go_sem, r0, r1]
end Go.Proofs.Ythaokofhepngbaa.Alt
