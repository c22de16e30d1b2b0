/-
  Layer 18 (altitude): the program's New and Measure.
-/
import Derived.Test.YtojjhkahigdkoaaAltE
import Derived.Test.YtojjhkahigdkoaaAltG
import Derived.Shelf.Abstract
namespace Go.Proofs.Ytojjhkahigdkoaa
open Go.RowKit Go.Shelf AltMath MyHeap MyCopy MyOwn

/-- What made has made is stored in the result's block. -/
theorem pt_store {w0 W W' : World} {R : Nat} {aL aH : Option Addr} {nL cL nH cH : Nat} {lo hi : List Int} (hR : w0.heap.size ≤ R) (h1 : W.heap[R]? = some (.cells #[.slice none 0 0, .slice none 0 0] 24 (0, 0))) (hK : Below w0.heap.size w0 W) (hT : TwoOwn W.heap.size (.slice aL nL cL) (.slice aH nH cH) lo hi W') (hB : Below W.heap.size W W') :
    TwoOwn w0.heap.size (.slice aL nL cL) (.slice aH nH cH) lo hi ((W'.setCell ⟨R, 0, none⟩ (.slice aL nL cL)).setCell ⟨R, 1, none⟩ (.slice aH nH cH)) ∧ Below w0.heap.size w0 ((W'.setCell ⟨R, 0, none⟩ (.slice aL nL cL)).setCell ⟨R, 1, none⟩ (.slice aH nH cH)) ∧
      ((W'.setCell ⟨R, 0, none⟩ (.slice aL nL cL)).setCell ⟨R, 1, none⟩ (.slice aH nH cH)).cell? ⟨R, 0, none⟩ = some (.slice aL nL cL) ∧ ((W'.setCell ⟨R, 0, none⟩ (.slice aL nL cL)).setCell ⟨R, 1, none⟩ (.slice aH nH cH)).cell? ⟨R, 1, none⟩ = some (.slice aH nH cH) := by
  have hlt := lt_of_block h1
  have hx := block_setCell (i := 1) (v := .slice aH nH cH) (block_setCell (i := 0) (v := .slice aL nL cL) (keepO hB h1))
  have hO : Only R W' ((W'.setCell ⟨R, 0, none⟩ (.slice aL nL cL)).setCell ⟨R, 1, none⟩ (.slice aH nH cH)) := ((Only.refl _ _).setCell 0 _).setCell 1 _
  have hK' := hK.trans (hB.mono hK.size)
  exact ⟨TwoOwn.base ⟨own_keep hT.L hO (Or.inr fun e => by have := (hT.L.lt _ e).1; omega), own_keep hT.H hO (Or.inr fun e => by have := (hT.H.lt _ e).1; omega), hT.A⟩ hK.size, hK'.trans (hO.below hR hK'.size), cell_of_block (i := 0) (v := .slice aL nL cL) hx rfl, cell_of_block (i := 1) (v := .slice aH nH cH) hx rfl⟩

set_option maxRecDepth 100000 in
set_option maxHeartbeats 4000000 in
theorem pNew_call (alt size : Int) (w : World) : Calls Try.prog 20 #[.int .i64 alt, .int .i64 size] w (BOPost (meE alt size) (loK (neF alt size) 201) (hiK (neF alt size) 201) w) := by
  have K := Lib.hid (show Below w.heap.size w (((w.alloc (.cells #[.int .i64 alt] 3)).alloc (.cells #[.int .i64 size] 3)).alloc (.cells #[.slice none 0 0, .slice none 0 0] 24)) ∧ (((w.alloc (.cells #[.int .i64 alt] 3)).alloc (.cells #[.int .i64 size] 3)).alloc (.cells #[.slice none 0 0, .slice none 0 0] 24)).heap[w.heap.size + 1 + 1]? = some (.cells #[.slice none 0 0, .slice none 0 0] 24 (0, 0)) ∧
      (((w.alloc (.cells #[.int .i64 alt] 3)).alloc (.cells #[.int .i64 size] 3)).alloc (.cells #[.slice none 0 0, .slice none 0 0] 24)).heap[w.heap.size]? = some (.cells #[.int .i64 alt] 3 (0, 0)) ∧ (((w.alloc (.cells #[.int .i64 alt] 3)).alloc (.cells #[.int .i64 size] 3)).alloc (.cells #[.slice none 0 0, .slice none 0 0] 24)).heap[w.heap.size + 1]? = some (.cells #[.int .i64 size] 3 (0, 0))
    from ⟨((below_alloc w _).alloc (by simp) _).alloc (by simp; omega) _, block_new _ _ (by simp), block_alloc (block_alloc (block_new _ _ rfl)), block_alloc (block_new _ _ (by simp))⟩)
  rcases meE_or alt size with hE | hE
  · obtain ⟨h1, h2, h3⟩ := meE_ok hE
    have hs : 25 ≤ size ∧ size ≤ 100 := by omega
    have HB := Lib.hid (And.intro (And.intro h1 h2) hs)
    have HE := Lib.hid hE
    clear hE h3 h1 h2 hs
    go_enter Try.func20, Try.ntmps20
    go_wp2_with fail
    refine (measured_call alt size _).mono ?_; rintro e w1 ⟨rfl, rfl⟩
    rw [HE.out]
    go_wp2_with fail
    have hsz : w.heap.size + 3 = (((w.alloc (.cells #[.int .i64 alt] 3)).alloc (.cells #[.int .i64 size] 3)).alloc (.cells #[.slice none 0 0, .slice none 0 0] 24)).heap.size := by simp
    generalize (((w.alloc (.cells #[.int .i64 alt] 3)).alloc (.cells #[.int .i64 size] 3)).alloc (.cells #[.slice none 0 0, .slice none 0 0] 24)) = W at *
    refine (made_call (neF alt size) 47 #[.pointer (some ⟨w.heap.size, 0, none⟩), .pointer (some ⟨w.heap.size + 1, 0, none⟩)] W (enters_of Try.func47 (by kernel_rfl) rfl) (fun V hV i _ => new1_call alt size w.heap.size (w.heap.size + 1) i V (keep1 hV (cell_of_block K.out.2.2.1 rfl)) (keep1 hV (cell_of_block K.out.2.2.2 rfl)) HB.out.1.1 HB.out.1.2 HB.out.2.1 HB.out.2.2)).mono ?_
    rintro e w2 ⟨vL, vH, rfl, hT, hB⟩
    obtain ⟨aL, nL, cL, rfl⟩ := own_slice3 hT.L
    obtain ⟨aH, nH, cH, rfl⟩ := own_slice3 hT.H
    obtain ⟨d0, d1, g0, g1⟩ := two_facts (keepO hB K.out.2.1)
    have H := Lib.hid (And.intro hT hB)
    clear hT hB
    go_wp2_with fail
    obtain ⟨hT9, hB9, r0, r1⟩ := pt_store (R := w.heap.size + 1 + 1) (by omega) K.out.2.1 K.out.1 H.out.1 H.out.2
    refine bodyPost_ret (v := .tuple #[.agg #[.slice aL nL cL, .slice aH nH cH], .int .i64 0]) ?_ rfl ⟨_, _, by rw [HE.out], fun _ => hT9, fun e => absurd HE.out e, hB9⟩
    simp [results, Try.f20, go_sem, r0, r1]
  · have HE := Lib.hid hE
    clear hE
    go_enter Try.func20, Try.ntmps20
    go_wp2_with fail
    refine (measured_call alt size _).mono ?_; rintro e w1 ⟨rfl, rfl⟩
    rw [HE.out]
    go_wp2_with fail
    have r0 := cell_of_block (i := 0) (v := .slice none 0 0) K.out.2.1 rfl
    have r1 := cell_of_block (i := 1) (v := .slice none 0 0) K.out.2.1 rfl
    refine bodyPost_ret (v := .tuple #[.agg #[.slice none 0 0, .slice none 0 0], .int .i64 1]) ?_ rfl (bo_err HE.out (by decide) K.out.1)
    simp [results, Try.f20, go_sem, r0, r1]

set_option maxRecDepth 100000 in
set_option maxHeartbeats 4000000 in
theorem mea1_call (b1 o1 b2 o2 cL cH : Nat) (lo hi : List Int) (alt size : Int) (p q r : Nat) (i : Nat) (W : World) (hi1 : i < 201) (hL : Ints W (some ⟨b1, o1, none⟩) 201 lo) (hH : Ints W (some ⟨b2, o2, none⟩) 201 hi)
    (h0 : W.heap[p]? = some (.cells (bdC (some ⟨b1, o1, none⟩) 201 cL (some ⟨b2, o2, none⟩) 201 cH) 24 (0, 0))) (h1 : W.cell? ⟨q, 0, none⟩ = some (.int .i64 alt)) (h2 : W.cell? ⟨r, 0, none⟩ = some (.int .i64 size)) (a1 : -1000 ≤ alt) (a2 : alt ≤ 50000) (s1 : 25 ≤ size) (s2 : size ≤ 100) :
    Calls Try.prog 42 #[.int .i64 (i : Int), .pointer (some ⟨p, 0, none⟩), .pointer (some ⟨q, 0, none⟩), .pointer (some ⟨r, 0, none⟩)] W (PairPost (maF lo hi alt size i).1 (maF lo hi alt size i).2 W) := by
  have hi0 : (0 : Int) ≤ (i : Int) := by omega
  have hi2 : (i : Int) < 201 := by omega
  obtain ⟨k0, k1⟩ := two_cells h0
  have H := Lib.hid (And.intro hL hH)
  obtain ⟨_, _, e1, x0⟩ := ints_at hL hi1
  obtain ⟨_, _, e2, y0⟩ := ints_at hH hi1
  cases e1; cases e2
  have HX := Lib.hid (And.intro (And.intro x0 y0) (And.intro h1 h2))
  have HK := Lib.hid (And.intro k0 k1)
  clear hL hH h0 x0 y0
  by_cases hn : nonAt lo hi i
  · have HF := Lib.hid (show maF lo hi alt size i = (1, 0) from if_pos hn)
    have hd : nonB lo hi i = true := nonB_t hn
    clear hn
    go_enter Try.func42, Try.ntmps42
    go_wp2_with fail
    refine (none_call (some ⟨b1, o1, none⟩) (some ⟨b2, o2, none⟩) 201 201 cL cH lo hi i _ H.out.1 H.out.2 hi1 hi1).mono ?_; rintro e w2 ⟨rfl, hb⟩
    rw [hd]
    have B := Lib.hid hb
    clear hb hd
    go_wp2_with fail
    go_ret2
    exact pairPost_of (by rw [HF.out]) (by rw [HF.out]) B.out
  · have HF := Lib.hid (show maF lo hi alt size i = (max (gi lo i) alt, min (gi hi i) (alt + size - 1)) from if_neg hn)
    have hd : nonB lo hi i = false := nonB_f hn
    clear hn
    obtain ⟨X, hX⟩ : ∃ X, gi lo i = X := ⟨_, rfl⟩
    obtain ⟨Y, hY⟩ : ∃ Y, gi hi i = Y := ⟨_, rfl⟩
    rw [hX, hY] at HF HX
    clear hX hY
    go_enter Try.func42, Try.ntmps42
    go_wp2_with fail
    refine (none_call (some ⟨b1, o1, none⟩) (some ⟨b2, o2, none⟩) 201 201 cL cH lo hi i _ H.out.1 H.out.2 hi1 hi1).mono ?_; rintro e w2 ⟨rfl, hb⟩
    rw [hd]
    clear k0 k1 h1 h2
    have k0 := keep1 hb HK.out.1
    have k1 := keep1 hb HK.out.2
    have x0 := keep1 hb HX.out.1.1
    have y0 := keep1 hb HX.out.1.2
    have z0 := keep1 hb HX.out.2.1
    have z1 := keep1 hb HX.out.2.2
    have B := Lib.hid hb
    clear hb hd
    by_cases hm1 : X < alt
    all_goals
      by_cases hm2 : alt + size - 1 < Y
      all_goals
        go_wp2_with fail
        go_region
        all_goals
          go_wp2_with fail
          all_goals
            go_ret2
            exact pairPost_of (by rw [HF.out]; show _ = max X alt; omega) (by rw [HF.out]; show _ = min Y (alt + size - 1); omega) (B.out.trans ⟨rfl, rfl, rfl, Nat.le_refl _, fun _ _ => rfl⟩)
end Go.Proofs.Ytojjhkahigdkoaa
