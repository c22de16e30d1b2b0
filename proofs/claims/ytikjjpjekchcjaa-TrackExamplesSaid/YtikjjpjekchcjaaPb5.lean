/-
  PtAltH, PtAltI, RangeLib, QuietLib, PtAltJ, LiftIn
-/
import Derived.Test.YtikjjpjekchcjaaPb4
import Derived.Shelf.Abstract
import Derived.RangeFuncNested
import Derived.RangeFuncBound
import Derived.RangeFuncCalls
import Derived.RangeFuncLeaves
import Derived.WalkKit
import Derived.Deep.QuietTactic
import Derived.Sort.QuietIn
import Derived.Shelf.RegionOpen
import Derived.OwnWalkIn
import Derived.TacticsInMore
import Derived.LoopNIn
import Derived.LoopIn
import Derived.BigRegion
import Derived.OrdersIn
import Derived.Deep.RegionHeld3
section
namespace Go.Proofs.Ytikjjpjekchcjaa.Alt
open Go.RowKit Go.Shelf AltMath MyHeap MyCopy MyOwn
set_option maxRecDepth 100000 in
theorem pt_store {w0 W W' : World} {R : Nat} {aL aH : Option Addr} {nL cL nH cH : Nat} {lo hi : List Int} (hR : w0.heap.size ≤ R) (h1 : W.heap[R]? = some (.cells #[.slice none 0 0, .slice none 0 0] 44 (0, 0))) (hK : Below w0.heap.size w0 W) (hT : TwoOwn W.heap.size (.slice aL nL cL) (.slice aH nH cH) lo hi W') (hB : Below W.heap.size W W') :
    TwoOwn w0.heap.size (.slice aL nL cL) (.slice aH nH cH) lo hi ((W'.setCell ⟨R, 0, none⟩ (.slice aL nL cL)).setCell ⟨R, 1, none⟩ (.slice aH nH cH)) ∧ Below w0.heap.size w0 ((W'.setCell ⟨R, 0, none⟩ (.slice aL nL cL)).setCell ⟨R, 1, none⟩ (.slice aH nH cH)) ∧
     ((W'.setCell ⟨R, 0, none⟩ (.slice aL nL cL)).setCell ⟨R, 1, none⟩ (.slice aH nH cH)).cell? ⟨R, 0, none⟩ = some (.slice aL nL cL) ∧ ((W'.setCell ⟨R, 0, none⟩ (.slice aL nL cL)).setCell ⟨R, 1, none⟩ (.slice aH nH cH)).cell? ⟨R, 1, none⟩ = some (.slice aH nH cH) := by
 have hlt := lt_of_block h1
 have hx := block_setCell (i := 1) (v := .slice aH nH cH) (block_setCell (i := 0) (v := .slice aL nL cL) (keepO hB h1))
 have hO : Only R W' ((W'.setCell ⟨R, 0, none⟩ (.slice aL nL cL)).setCell ⟨R, 1, none⟩ (.slice aH nH cH)) := ((Only.refl _ _).setCell 0 _).setCell 1 _
 have hK' := hK.trans (hB.mono hK.size)
 exact ⟨TwoOwn.base ⟨own_keep hT.L hO (Or.inr fun e => by have := (hT.L.lt _ e).1; omega), own_keep hT.H hO (Or.inr fun e => by have := (hT.H.lt _ e).1; omega), hT.A⟩ hK.size, hK'.trans (hO.below hR hK'.size), cell_of_block (i := 0) (v := .slice aL nL cL) hx rfl, cell_of_block (i := 1) (v := .slice aH nH cH) hx rfl⟩
set_option maxRecDepth 100000 in
set_option maxHeartbeats 4000000 in
theorem pNew_call (alt size : Int) (w : World) : Calls Try.prog 17 #[.int .i64 alt, .int .i64 size] w (BOPost (meE alt size) (loK (neF alt size) 201) (hiK (neF alt size) 201) w) := by
 have K := Lib.hid (show Below w.heap.size w (((w.alloc (.cells #[.int .i64 alt] 3)).alloc (.cells #[.int .i64 size] 3)).alloc (.cells #[.slice none 0 0, .slice none 0 0] 44)) ∧ (((w.alloc (.cells #[.int .i64 alt] 3)).alloc (.cells #[.int .i64 size] 3)).alloc (.cells #[.slice none 0 0, .slice none 0 0] 44)).heap[w.heap.size + 1 + 1]? = some (.cells #[.slice none 0 0, .slice none 0 0] 44 (0, 0)) ∧
     (((w.alloc (.cells #[.int .i64 alt] 3)).alloc (.cells #[.int .i64 size] 3)).alloc (.cells #[.slice none 0 0, .slice none 0 0] 44)).heap[w.heap.size]? = some (.cells #[.int .i64 alt] 3 (0, 0)) ∧ (((w.alloc (.cells #[.int .i64 alt] 3)).alloc (.cells #[.int .i64 size] 3)).alloc (.cells #[.slice none 0 0, .slice none 0 0] 44)).heap[w.heap.size + 1]? = some (.cells #[.int .i64 size] 3 (0, 0))
  from ⟨((below_alloc w _).alloc (by simp) _).alloc (by simp; omega) _, block_new _ _ (by simp), block_alloc (block_alloc (block_new _ _ rfl)), block_alloc (block_new _ _ (by simp))⟩)
 rcases meE_or alt size with hE | hE
 ·obtain ⟨h1, h2, h3⟩ := meE_ok hE
  have hs : 25 ≤ size ∧ size ≤ 100 := by omega
  have HB := Lib.hid (And.intro (And.intro h1 h2) hs)
  have HE := Lib.hid hE
  clear hE h3 h1 h2 hs
  go_enter Try.func17, Try.ntmps17
  go_wp2_with fail
  refine (measured_call alt size _).mono ?_; rintro e w1 ⟨rfl, rfl⟩
  rw [HE.out]
  go_wp2_with fail
  have hsz : w.heap.size + 3 = (((w.alloc (.cells #[.int .i64 alt] 3)).alloc (.cells #[.int .i64 size] 3)).alloc (.cells #[.slice none 0 0, .slice none 0 0] 44)).heap.size := by simp
  generalize (((w.alloc (.cells #[.int .i64 alt] 3)).alloc (.cells #[.int .i64 size] 3)).alloc (.cells #[.slice none 0 0, .slice none 0 0] 44)) = W at *
  refine (made_call (neF alt size) 44 #[.pointer (some ⟨w.heap.size, 0, none⟩), .pointer (some ⟨w.heap.size + 1, 0, none⟩)] W (enters_of Try.func44 (by kernel_rfl) rfl) (fun V hV i _ => new1_call alt size w.heap.size (w.heap.size + 1) i V (keep1 hV (cell_of_block K.out.2.2.1 rfl)) (keep1 hV (cell_of_block K.out.2.2.2 rfl)) HB.out.1.1 HB.out.1.2 HB.out.2.1 HB.out.2.2)).mono ?_
  rintro e w2 ⟨vL, vH, rfl, hT, hB⟩
  obtain ⟨aL, nL, cL, rfl⟩ := own_slice3 hT.L
  obtain ⟨aH, nH, cH, rfl⟩ := own_slice3 hT.H
  obtain ⟨d0, d1, g0, g1⟩ := two_facts (keepO hB K.out.2.1)
  have H := Lib.hid (And.intro hT hB)
  clear hT hB
  go_wp2_with fail
  obtain ⟨hT9, hB9, r0, r1⟩ := pt_store (R := w.heap.size + 1 + 1) (by omega) K.out.2.1 K.out.1 H.out.1 H.out.2
  refine bodyPost_ret (v := .tuple #[.agg #[.slice aL nL cL, .slice aH nH cH], .int .i64 0]) ?_ rfl ⟨_, _, by rw [HE.out], fun _ => hT9, fun e => absurd HE.out e, hB9⟩
  simp [results, Try.f17, go_sem, r0, r1]
 ·have HE := Lib.hid hE
  clear hE
  go_enter Try.func17, Try.ntmps17
  go_wp2_with fail
  refine (measured_call alt size _).mono ?_; rintro e w1 ⟨rfl, rfl⟩
  rw [HE.out]
  go_wp2_with fail
  have r0 := cell_of_block (i := 0) (v := .slice none 0 0) K.out.2.1 rfl
  have r1 := cell_of_block (i := 1) (v := .slice none 0 0) K.out.2.1 rfl
  refine bodyPost_ret (v := .tuple #[.agg #[.slice none 0 0, .slice none 0 0], .int .i64 1]) ?_ rfl (bo_err HE.out (by decide) K.out.1)
  simp [results, Try.f17, go_sem, r0, r1]
set_option maxRecDepth 100000 in
set_option maxHeartbeats 4000000 in
theorem mea1_call (b1 o1 b2 o2 cL cH : Nat) (lo hi : List Int) (alt size : Int) (p q r : Nat) (i : Nat) (W : World) (hi1 : i < 201) (hL : Ints W (some ⟨b1, o1, none⟩) 201 lo) (hH : Ints W (some ⟨b2, o2, none⟩) 201 hi)
    (h0 : W.heap[p]? = some (.cells (bdC (some ⟨b1, o1, none⟩) 201 cL (some ⟨b2, o2, none⟩) 201 cH) 44 (0, 0))) (h1 : W.cell? ⟨q, 0, none⟩ = some (.int .i64 alt)) (h2 : W.cell? ⟨r, 0, none⟩ = some (.int .i64 size)) (a1 : -1000 ≤ alt) (a2 : alt ≤ 50000) (s1 : 25 ≤ size) (s2 : size ≤ 100) :
    Calls Try.prog 46 #[.int .i64 (i : Int), .pointer (some ⟨p, 0, none⟩), .pointer (some ⟨q, 0, none⟩), .pointer (some ⟨r, 0, none⟩)] W (PairPost (maF lo hi alt size i).1 (maF lo hi alt size i).2 W) := by
 have hi0 : (0 : Int) ≤ (i : Int) := by omega
 have hi2 : (i : Int) < 201 := by omega
 obtain ⟨k0, k1⟩ := two_cells h0
 have H := Lib.hid (And.intro hL hH)
 obtain ⟨_, _, e1, x0⟩ := ints_at hL hi1
 obtain ⟨_, _, e2, y0⟩ := ints_at hH hi1
 cases e1; cases e2
 have HX := Lib.hid (And.intro (And.intro x0 y0) (And.intro h1 h2))
 have HK := Lib.hid (And.intro k0 k1)
 clear hL hH h0 x0 y0
 by_cases hn : nonAt lo hi i
 ·have HF := Lib.hid (show maF lo hi alt size i = (1, 0) from if_pos hn)
  have hd : nonB lo hi i = true := nonB_t hn
  clear hn
  go_enter Try.func46, Try.ntmps46
  go_wp2_with fail
  refine (none_call (some ⟨b1, o1, none⟩) (some ⟨b2, o2, none⟩) 201 201 cL cH lo hi i _ H.out.1 H.out.2 hi1 hi1).mono ?_; rintro e w2 ⟨rfl, hb⟩
  rw [hd]
  have B := Lib.hid hb
  clear hb hd
  go_wp2_with fail
  go_ret2
  exact pairPost_of (by rw [HF.out]) (by rw [HF.out]) B.out
 ·have HF := Lib.hid (show maF lo hi alt size i = (max (gi lo i) alt, min (gi hi i) (alt + size - 1)) from if_neg hn)
  have hd : nonB lo hi i = false := nonB_f hn
  clear hn
  obtain ⟨X, hX⟩ : ∃ X, gi lo i = X := ⟨_, rfl⟩
  obtain ⟨Y, hY⟩ : ∃ Y, gi hi i = Y := ⟨_, rfl⟩
  rw [hX, hY] at HF HX
  clear hX hY
  go_enter Try.func46, Try.ntmps46
  go_wp2_with fail
  refine (none_call (some ⟨b1, o1, none⟩) (some ⟨b2, o2, none⟩) 201 201 cL cH lo hi i _ H.out.1 H.out.2 hi1 hi1).mono ?_; rintro e w2 ⟨rfl, hb⟩
  rw [hd]
  clear k0 k1 h1 h2
  have k0 := keep1 hb HK.out.1
  have k1 := keep1 hb HK.out.2
  have x0 := keep1 hb HX.out.1.1
  have y0 := keep1 hb HX.out.1.2
  have z0 := keep1 hb HX.out.2.1
  have z1 := keep1 hb HX.out.2.2
  have B := Lib.hid hb
  clear hb hd
  by_cases hm1 : X < alt
  all_goals
   by_cases hm2 : alt + size - 1 < Y
   all_goals
    go_wp2_with fail
    go_region
    all_goals
     go_wp2_with fail
     all_goals
      go_ret2
      exact pairPost_of (by rw [HF.out]; show _ = max X alt; omega) (by rw [HF.out]; show _ = min Y (alt + size - 1); omega) (B.out.trans ⟨rfl, rfl, rfl, Nat.le_refl _, fun _ _ => rfl⟩)
end Go.Proofs.Ytikjjpjekchcjaa.Alt
end
section
namespace Go.Proofs.Ytikjjpjekchcjaa.Alt
open Go.RowKit Go.Shelf AltMath MyHeap MyCopy MyOwn
def MeW (w : World) (aL : Option Addr) (nL cL : Nat) (aH : Option Addr) (nH cH : Nat) (alt size : Int) : World := (((w.alloc (.cells #[.slice aL nL cL, .slice aH nH cH] 44)).alloc (.cells #[.int .i64 alt] 3)).alloc (.cells #[.int .i64 size] 3)).alloc (.cells #[.slice none 0 0, .slice none 0 0] 44)
structure MeK (w : World) (aL : Option Addr) (nL cL : Nat) (aH : Option Addr) (nH cH : Nat) (alt size : Int) (W : World) : Prop where
 B : Below w.heap.size w W
 X : W.heap[w.heap.size]? = some (.cells (bdC aL nL cL aH nH cH) 44 (0, 0))
 a : W.heap[w.heap.size + 1]? = some (.cells #[.int .i64 alt] 3 (0, 0))
 s : W.heap[w.heap.size + 1 + 1]? = some (.cells #[.int .i64 size] 3 (0, 0))
 R : W.heap[w.heap.size + 1 + 1 + 1]? = some (.cells #[.slice none 0 0, .slice none 0 0] 44 (0, 0))
theorem MeK.new (w : World) (aL : Option Addr) (nL cL : Nat) (aH : Option Addr) (nH cH : Nat) (alt size : Int) : MeK w aL nL cL aH nH cH alt size (MeW w aL nL cL aH nH cH alt size) :=
 ⟨(((below_alloc w _).alloc (by simp) _).alloc (by simp; omega) _).alloc (by simp; omega) _, block_alloc (block_alloc (block_alloc (block_new _ _ rfl))), block_alloc (block_alloc (block_new _ _ (by simp))), block_alloc (block_new _ _ (by simp)), block_new _ _ (by simp)⟩
theorem MeK.keep {w W W' : World} {aL : Option Addr} {nL cL : Nat} {aH : Option Addr} {nH cH : Nat} {alt size : Int} (h : MeK w aL nL cL aH nH cH alt size W) (hb : Below W.heap.size W W') : MeK w aL nL cL aH nH cH alt size W' := ⟨h.B.trans (hb.mono h.B.size), keepO hb h.X, keepO hb h.a, keepO hb h.s, keepO hb h.R⟩
set_option maxRecDepth 100000 in
set_option maxHeartbeats 4000000 in
theorem pMea_call (aL aH : Option Addr) (nL nH cL cH : Nat) (lo hi : List Int) (alt size : Int) (w : World) (hL : Ints w aL nL lo) (hH : Ints w aH nH hi) :
    Calls Try.prog 18 #[bdV aL nL cL aH nH cH, .int .i64 alt, .int .i64 size] w (BOPost (maE lo hi alt size) (loK (maF lo hi alt size) 201) (hiK (maF lo hi alt size) 201) w) := by
 have H := Lib.hid (And.intro hL hH)
 have K := Lib.hid (MeK.new w aL nL cL aH nH cH alt size)
 clear hL hH
 unfold MeW at K
 unfold bdV
 by_cases hE : chB lo hi = 0
 ·rcases meE_or alt size with hM | hM
  ·obtain ⟨h1, h2, h3⟩ := meE_ok hM
   have hs : 25 ≤ size ∧ size ≤ 100 := by omega
   have HB := Lib.hid (And.intro (And.intro h1 h2) hs)
   obtain ⟨e1, e2, -⟩ := chB_ok hE
   obtain rfl : nL = 201 := by rw [← H.out.1.len]; exact e1
   obtain rfl : nH = 201 := by rw [← H.out.2.len]; exact e2
   obtain ⟨b1, o1, rfl, -⟩ := ints_at H.out.1 (k := 0) (by decide)
   obtain ⟨b2, o2, rfl, -⟩ := ints_at H.out.2 (k := 0) (by decide)
   have HE := Lib.hid (And.intro hE hM)
   clear hE hM h1 h2 h3 hs e1 e2
   go_enter Try.func18, Try.ntmps18
   go_wp2_with fail
   refine (pCheck_call (some ⟨b1, o1, none⟩) (some ⟨b2, o2, none⟩) 201 201 cL cH lo hi _ (H.out.1.below K.out.B) (H.out.2.below K.out.B)).mono ?_; rintro e w1 ⟨rfl, hb⟩
   replace K := Lib.hid (K.out.keep hb)
   rw [HE.out.1]
   have p0 := cell_of_block (i := 0) K.out.a rfl
   have p1 := cell_of_block (i := 0) K.out.s rfl
   clear hb
   go_wp2_with fail
   refine (measured_call alt size _).mono ?_; rintro e w2 ⟨rfl, rfl⟩
   rw [HE.out.2]
   go_wp2_with fail
   refine (made_call (maF lo hi alt size) 46 #[.pointer (some ⟨w.heap.size, 0, none⟩), .pointer (some ⟨w.heap.size + 1, 0, none⟩), .pointer (some ⟨w.heap.size + 1 + 1, 0, none⟩)] w1 (enters_of Try.func46 (by kernel_rfl) rfl)
    (fun V hV i hi1 => mea1_call b1 o1 b2 o2 cL cH lo hi alt size w.heap.size (w.heap.size + 1) (w.heap.size + 1 + 1) i V hi1 (H.out.1.below (K.out.keep hV).B) (H.out.2.below (K.out.keep hV).B) (K.out.keep hV).X (cell_of_block (K.out.keep hV).a rfl) (cell_of_block (K.out.keep hV).s rfl) HB.out.1.1 HB.out.1.2 HB.out.2.1 HB.out.2.2)).mono ?_
   rintro e w3 ⟨vL, vH, rfl, hT, hB⟩
   obtain ⟨aP, nP, cP, rfl⟩ := own_slice3 hT.L
   obtain ⟨aQ, nQ, cQ, rfl⟩ := own_slice3 hT.H
   obtain ⟨d0, d1, g0, g1⟩ := two_facts (keepO hB K.out.R)
   have HT := Lib.hid (And.intro hT hB)
   clear hT hB p0 p1
   go_wp2_with fail
   obtain ⟨hT9, hB9, r0, r1⟩ := pt_store (R := w.heap.size + 1 + 1 + 1) (by omega) K.out.R K.out.B HT.out.1 HT.out.2
   have hE0 : maE lo hi alt size = 0 := by rw [maE_me HE.out.1, HE.out.2]
   refine bodyPost_ret (v := .tuple #[.agg #[.slice aP nP cP, .slice aQ nQ cQ], .int .i64 0]) ?_ rfl ⟨_, _, by rw [hE0], fun _ => hT9, fun e => absurd hE0 e, hB9⟩
   simp [results, Try.f18, go_sem, r0, r1]
  ·have HE := Lib.hid (And.intro hE hM)
   clear hE hM
   go_enter Try.func18, Try.ntmps18
   go_wp2_with fail
   refine (pCheck_call aL aH nL nH cL cH lo hi _ (H.out.1.below K.out.B) (H.out.2.below K.out.B)).mono ?_; rintro e w1 ⟨rfl, hb⟩
   replace K := Lib.hid (K.out.keep hb)
   rw [HE.out.1]
   have p0 := cell_of_block (i := 0) K.out.a rfl
   have p1 := cell_of_block (i := 0) K.out.s rfl
   clear hb
   go_wp2_with fail
   refine (measured_call alt size _).mono ?_; rintro e w2 ⟨rfl, rfl⟩
   rw [HE.out.2]
   obtain ⟨d0, d1, g0, g1⟩ := two_facts K.out.R
   clear p0 p1
   go_wp2_with fail
   have hx := block_setCell (i := 1) (v := .slice none 0 0) (block_setCell (i := 0) (v := .slice none 0 0) K.out.R)
   have hO : Only (w.heap.size + 1 + 1 + 1) w1 ((w1.setCell ⟨w.heap.size + 1 + 1 + 1, 0, none⟩ (.slice none 0 0)).setCell ⟨w.heap.size + 1 + 1 + 1, 1, none⟩ (.slice none 0 0)) := ((Only.refl _ _).setCell 0 _).setCell 1 _
   have r0 := cell_of_block (i := 0) (v := .slice none 0 0) hx rfl
   have r1 := cell_of_block (i := 1) (v := .slice none 0 0) hx rfl
   refine bodyPost_ret (v := .tuple #[.agg #[.slice none 0 0, .slice none 0 0], .int .i64 1]) ?_ rfl (bo_err ((maE_me HE.out.1).trans HE.out.2) (by decide) (K.out.B.trans (hO.below (by omega) K.out.B.size)))
   simp [results, Try.f18, go_sem, r0, r1]
 ·have d1 : (chB lo hi != 0) = true := bne_iff_ne.2 hE
  have HE := Lib.hid hE
  clear hE
  go_enter Try.func18, Try.ntmps18
  go_wp2_with fail
  refine (pCheck_call aL aH nL nH cL cH lo hi _ (H.out.1.below K.out.B) (H.out.2.below K.out.B)).mono ?_; rintro e w1 ⟨rfl, hb⟩
  replace K := Lib.hid (K.out.keep hb)
  obtain ⟨c0, c1, g0, g1⟩ := two_facts K.out.R
  clear hb
  go_wp2_with fail
  have hx := block_setCell (i := 1) (v := .slice none 0 0) (block_setCell (i := 0) (v := .slice none 0 0) K.out.R)
  have hO : Only (w.heap.size + 1 + 1 + 1) w1 ((w1.setCell ⟨w.heap.size + 1 + 1 + 1, 0, none⟩ (.slice none 0 0)).setCell ⟨w.heap.size + 1 + 1 + 1, 1, none⟩ (.slice none 0 0)) := ((Only.refl _ _).setCell 0 _).setCell 1 _
  have r0 := cell_of_block (i := 0) (v := .slice none 0 0) hx rfl
  have r1 := cell_of_block (i := 1) (v := .slice none 0 0) hx rfl
  refine bodyPost_ret (v := .tuple #[.agg #[.slice none 0 0, .slice none 0 0], .int .i64 (chB lo hi)]) ?_ rfl (bo_err (maE_ch HE.out) HE.out (K.out.B.trans (hO.below (by omega) K.out.B.size)))
  simp [results, Try.f18, go_sem, r0, r1]
end Go.Proofs.Ytikjjpjekchcjaa.Alt
end
section
namespace Go.MyRange
open Go.RowKit
def KeepB (Bs : List Nat) (W W' : World) : Prop := ∀ b, b ∈ Bs → ∀ o, W'.cell? ⟨b, o, none⟩ = W.cell? ⟨b, o, none⟩
theorem KeepB.refl (Bs : List Nat) (W : World) : KeepB Bs W W := fun _ _ _ => rfl
theorem KeepB.trans {Bs : List Nat} {A B C : World} (h : KeepB Bs A B) (k : KeepB Bs B C) : KeepB Bs A C := fun b hb o => (k b hb o).trans (h b hb o)
theorem KeepB.put {Bs : List Nat} {n₀ : Nat} (hB : ∀ b, b ∈ Bs → b < n₀) (W : World) (l : Nat) (o' : Obj) (hl : n₀ ≤ l) : KeepB Bs W (W.putObj l o') := fun b hb o => by
 have hne : b ≠ l := by have := hB b hb; omega
 have : (W.putObj l o').heap[b]? = W.heap[b]? := World.putObj_heap_other hne
 exact World.cell?_of_block (w := W) (a := ⟨b, o, none⟩) this
theorem keepB_b {Bs : List Nat} {w : World} (hB : ∀ b, b ∈ Bs → b < w.heap.size) (W : World) (l : Nat) (o o' : Obj) (hl : w.heap.size ≤ l) (_ : W.heap[l]? = some o) (_ : o.isCells = false) (_ : o.isWalk = false) : KeepB Bs W (W.putObj l o') := KeepB.put hB W l o' hl
theorem KeepB.setCell {Bs : List Nat} {W W' : World} (h : KeepB Bs W W') {p : Addr} (hp : p.block ∉ Bs) (v : Value) : KeepB Bs W (W'.setCell p v) := fun b hb o => by
 have hne : b ≠ p.block := fun e => hp (e ▸ hb)
 have : (W'.setCell p v).heap[b]? = W'.heap[b]? := Below.heap_setCell _ _ _ _ hne
 exact (World.cell?_of_block (w := W') (a := ⟨b, o, none⟩) this).trans (h b hb o)
theorem KeepB.drew {Bs : List Nat} {W W' : World} (h : KeepB Bs W W') : KeepB Bs W W'.drew := h
theorem KeepB.alloc {Bs : List Nat} {W W' : World} (h : KeepB Bs W W') (hB : ∀ b, b ∈ Bs → b < W'.heap.size) (o : Obj) : KeepB Bs W (W'.alloc o) := fun b hb i => by
 have : (W'.alloc o).heap[b]? = W'.heap[b]? := Below.heap_alloc _ _ _ (hB b hb)
 exact (World.cell?_of_block (w := W') (a := ⟨b, i, none⟩) this).trans (h b hb i)
theorem KeepB.below {Bs : List Nat} {n : Nat} {W W' W'' : World} (h : KeepB Bs W W') (hB : ∀ b, b ∈ Bs → b < n) (k : Below n W' W'') : KeepB Bs W W'' := fun b hb o => (k.cell (p := ⟨b, o, none⟩) (hB b hb)).trans (h b hb o)
theorem cell_alloc_l {w : World} {a : Addr} {v : Value} (o : Obj) (h : w.cell? a = some v) : (w.alloc o).cell? a = some v :=
 (World.cell?_of_block (w := w) (Below.heap_alloc w o a.block (World.block_lt_of_cell? w a h))).trans h
end Go.MyRange
end
section
namespace Go.MyQuiet
theorem left {P : Program} {f : FuncId} {args : Array Value} {w : World} {n : Nat} {v : Value}
    (h : Calls P f args (w.drewN n) fun e w' => e = .returned v ∧ w.drewN n = w') : Calls P f args (w.drewN n) fun e w'' => e = .returned v ∧ ∃ m, w'' = w.drewN m :=
 h.mono fun _ _ ⟨he, hm⟩ => ⟨he, n, hm.symm⟩
end Go.MyQuiet
end
section
namespace Go.Proofs.Ytikjjpjekchcjaa.Alt
open Go.RowKit Go.Shelf Go.MyRange AltMath MyHeap MyCopy MyOwn
attribute [local go_sem] Oper.semAt_some
set_option maxRecDepth 100000 in
theorem of_call (aL aH : Option Addr) (nL cL nH cH : Nat) (lo hi : Int) (w : World) :
    Calls Try.prog 84 #[bdV aL nL cL aH nH cH, .int .i64 lo, .int .i64 hi] w fun e w' =>
     e = .returned (.func (.func 96) #[] #[.pointer (some ⟨w.heap.size + 1, 0, none⟩), .pointer (some ⟨w.heap.size + 1 + 1, 0, none⟩), .pointer (some ⟨w.heap.size, 0, none⟩)]) ∧ w' = ((w.alloc (.cells (bdC aL nL cL aH nH cH) 44)).alloc (.cells #[.int .i64 lo] 3)).alloc (.cells #[.int .i64 hi] 3) := by
 unfold bdV
 go_enter Try.func84, Try.ntmps84
 go_wp2
 go_ret
 exact ⟨rfl, rfl⟩
abbrev OPos := { j : Nat // j < 201 }
def opos (pre : List OPos) : List Nat := pre.map (·.1)
theorem opos_snoc (pre : List OPos) (x : OPos) : opos (pre ++ [x]) = opos pre ++ [x.1] := by simp [opos]
theorem opos_length (pre : List OPos) : (opos pre).length = pre.length := by simp [opos]
def ofL (lo hi : List Int) (a : Nat) : Nat → List Nat
 | 0 => []
 | k + 1 => if nonAt lo hi (a + k) then ofL lo hi a k else ofL lo hi a k ++ [a + k]
theorem ofL_len (lo hi : List Int) (a k : Nat) : (ofL lo hi a k).length ≤ k := by
 induction k with
 | zero => exact Nat.le_refl _
 | succ k ih =>
  unfold ofL
  split
  ·omega
  ·rw [List.length_append, List.length_singleton]; omega
def oVals (x : OPos) : Array Value := #[.int .i64 (x.1 : Int)]
theorem ints_keep {W W' : World} {b off n : Nat} {l : List Int} (h : Ints W (some ⟨b, off, none⟩) n l) (hk : ∀ o, W'.cell? ⟨b, o, none⟩ = W.cell? ⟨b, o, none⟩) : Ints W' (some ⟨b, off, none⟩) n l := by
 refine ⟨h.len, h.bound, ?_⟩
 rcases h.cells with h0 | ⟨b', off', e, hc⟩
 ·exact Or.inl h0
 ·cases e
  exact Or.inr ⟨b, off, rfl, fun i hi => (hk _).trans (hc i hi)⟩
theorem below_grown {W W' : World} (h : Below W.heap.size W W') : W.grownBy W' none := ⟨h.os, h.tape, h.output, h.size, fun k hk _ => h.block k hk⟩
theorem lt5 {W : World} {Bl Bh Bb b1 o1 b2 o2 : Nat} {vl vh vb : Value} {lo hi : List Int} (h1 : W.cell? ⟨Bl, 0, none⟩ = some vl) (h2 : W.cell? ⟨Bh, 0, none⟩ = some vh) (h3 : W.cell? ⟨Bb, 0, none⟩ = some vb) (hL : Ints W (some ⟨b1, o1, none⟩) 201 lo) (hH : Ints W (some ⟨b2, o2, none⟩) 201 hi) : ∀ b ∈ [Bl, Bh, Bb, b1, b2], b < W.heap.size := by
 obtain ⟨_, _, e1, x0⟩ := ints_at hL (k := 0) (by decide)
 obtain ⟨_, _, e2, y0⟩ := ints_at hH (k := 0) (by decide)
 cases e1; cases e2
 intro b hb
 simp only [List.mem_cons, List.not_mem_nil, or_false] at hb
 rcases hb with rfl | rfl | rfl | rfl | rfl
 ·exact World.block_lt_of_cell? W _ h1
 ·exact World.block_lt_of_cell? W _ h2
 ·exact World.block_lt_of_cell? W _ h3
 ·exact World.block_lt_of_cell? W _ x0
 ·exact World.block_lt_of_cell? W _ y0
set_option maxRecDepth 100000 in
set_option maxHeartbeats 4000000 in
theorem of1_in (n : Nat) (hn : 1 ≤ n) (l Bl Bh Bb b1 o1 b2 o2 cL cH : Nat) (loI hiI : Int) (lo hi : List Int) (a N : Nat) (ha : max loI 0 = (a : Int)) (haN : (a : Int) + (N : Int) = min hiI 200 + 1) (hb0 : -1000 ≤ loI) (hb1 : loI ≤ 1000) (hb2 : 0 ≤ hiI) (hb3 : hiI ≤ 1000) (J Jx : List OPos → World → Prop)
    (hJb : ∀ pre W W', J pre W → Below W.heap.size W W' → J pre W')
    (hY : ∀ pre x W, J pre W → pre.length < 201 → YieldAt Fence.wide (n - 1) Try.prog l (oVals x) W fun e W' =>
     (e = .returned (.bool true) ∧ J (pre ++ [x]) W' ∧ KeepB [Bl, Bh, Bb, b1, b2] W W') ∨ (e = .returned (.bool false) ∧ Jx (pre ++ [x]) W'))
    (W : World) (hBl : W.cell? ⟨Bl, 0, none⟩ = some (.int .i64 loI)) (hBh : W.cell? ⟨Bh, 0, none⟩ = some (.int .i64 hiI)) (hBb : W.cell? ⟨Bb, 0, none⟩ = some (.slice (some ⟨b1, o1, none⟩) 201 cL) ∧ W.cell? ⟨Bb, 1, none⟩ = some (.slice (some ⟨b2, o2, none⟩) 201 cH)) (hL : Ints W (some ⟨b1, o1, none⟩) 201 lo) (hH : Ints W (some ⟨b2, o2, none⟩) 201 hi) (h0 : J [] W) :
    CallsIn Fence.wide n Try.prog 96 #[.func (.yield l) #[] #[], .pointer (some ⟨Bl, 0, none⟩), .pointer (some ⟨Bh, 0, none⟩), .pointer (some ⟨Bb, 0, none⟩)] W fun e W' => (∃ v, e = .returned v) ∧
     ((∃ ys : List OPos, opos ys = ofL lo hi a N ∧ J ys W') ∨ (∃ pre : List OPos, True ∧ Jx pre W')) := by
 refine callsIn_of_wp Try.func96 rfl trivial ?_ rfl
 simp only [Try.ntmps96, List.size_toArray, List.length_cons, List.length_nil, Nat.reduceAdd, Nat.reduceSub, Array.replicate_succ, Array.replicate_zero, List.push_toArray, List.append_toArray, List.nil_append, List.cons_append]
 have HC := Lib.hid (And.intro (And.intro hBl hBh) (And.intro hBb (And.intro hL hH)))
 have HA := Lib.hid (And.intro ha haN)
 have HJb := Lib.hid hJb
 have HYY := Lib.hid hY
 have hN2 : a + N ≤ 201 := by omega
 clear ha haN hBb hL hH hJb hY
 by_cases hl0 : loI < 0
 all_goals
  gi_wp2
  clear hBl
  gi_loopw [5] (fun i wr => ∃ k : Nat, k ≤ N ∧ i = .int .i64 ((a + k : Nat) : Int) ∧ (∃ pre : List OPos, opos pre = ofL lo hi a k ∧ J pre wr) ∧ KeepB [Bl, Bh, Bb, b1, b2] W wr)
   (fun i _ => 201 - (intOf i).toNat)
  case atStart => exact ⟨0, Nat.zero_le _, by have := HA.out.1; congr 1; omega, ⟨[], rfl, h0⟩, KeepB.refl _ _⟩
  case round =>
   obtain ⟨k, hk, rfl, ⟨pre, hpre, hJs⟩, hnx⟩ := hrel
   have hch : wr.cell? ⟨Bh, 0, none⟩ = some (.int .i64 hiI) := (hnx Bh (by simp) 0).trans HC.out.1.2
   have hcb : wr.cell? ⟨Bb, 0, none⟩ = some (.slice (some ⟨b1, o1, none⟩) 201 cL) := (hnx Bb (by simp) 0).trans HC.out.2.1.1
   have hcc : wr.cell? ⟨Bb, 1, none⟩ = some (.slice (some ⟨b2, o2, none⟩) 201 cH) := (hnx Bb (by simp) 1).trans HC.out.2.1.2
   have HI := Lib.hid (And.intro (ints_keep HC.out.2.2.1 (fun o => hnx b1 (by simp) o)) (ints_keep HC.out.2.2.2 (fun o => hnx b2 (by simp) o)))
   have hlen : pre.length ≤ k := by have := congrArg List.length hpre; rw [opos_length] at this; have := ofL_len lo hi a k; omega
   have HP := Lib.hid (And.intro hpre (And.intro hJs (And.intro hnx hlen)))
   obtain ⟨i, hi⟩ : ∃ i, a + k = i := ⟨_, rfl⟩
   rw [hi]
   have HII := Lib.hid hi
   clear hpre hJs hnx hlen hi
   by_cases hlt : k < N
   ·have hi0 : (0 : Int) ≤ (i : Int) := by omega
    have hi1 : i < 201 := by have := HII.out; omega
    have hie : (i : Int) ≤ hiI ∧ (i : Int) ≤ 200 := by have := HII.out; have := HA.out.2; omega
    obtain ⟨hie1, hie2⟩ := hie
    by_cases hm : 200 < hiI
    all_goals
     gi_wp2
     refine ⟨trivial, ?_⟩
     refine (callsIn_wide.2 (none_call (some ⟨b1, o1, none⟩) (some ⟨b2, o2, none⟩) 201 201 cL cH lo hi i _ HI.out.1 HI.out.2 hi1 hi1)).mono ?_
     rintro e w2 ⟨rfl, hb⟩
     have hJ2 := HJb.out _ _ _ HP.out.2.1 hb
     have hk2 : KeepB [Bl, Bh, Bb, b1, b2] W w2 := HP.out.2.2.1.below (lt5 ((HP.out.2.2.1 Bl (by simp) 0).trans HC.out.1.1) hch hcb HI.out.1 HI.out.2) hb
     by_cases hnn : nonAt lo hi i
     ·have hd : nonB lo hi i = true := nonB_t hnn
      have HO := Lib.hid (show ofL lo hi a (k + 1) = ofL lo hi a k from if_pos (by rw [HII.out]; exact hnn))
      rw [hd]
      have H2 := Lib.hid (And.intro hJ2 hk2)
      clear hb hJ2 hk2 hnn hd hch hcb hcc
      gi_wp2
      refine ⟨fun f hf => (by cases hf), ?_⟩
      gi_wp2
      go_roundw
      case rel => exact ⟨k + 1, by omega, by have := HII.out; congr 1; omega, ⟨pre, by rw [HO.out]; exact HP.out.1, H2.out.1⟩, H2.out.2⟩
      case measure => have := HII.out; simp [intOf]; omega
     ·have hd : nonB lo hi i = false := nonB_f hnn
      have HO := Lib.hid (show ofL lo hi a (k + 1) = ofL lo hi a k ++ [a + k] from if_neg (by rw [HII.out]; exact hnn))
      rw [hd]
      obtain ⟨fn, tmps, assign, body, hy, hR⟩ := HYY.out pre ⟨i, hi1⟩ w2 hJ2 (by have := HP.out.2.2.2; have := HII.out; omega)
      simp only [oVals] at hy
      have H2 := Lib.hid hk2
      clear hb hJ2 hk2 hnn hd hch hcb hcc
      gi_wp2
      refine hR.mono ?_
      rintro e W3 (⟨rfl, hJ3, hk3⟩ | ⟨rfl, hJx3⟩)
      ·have HK3 := Lib.hid (And.intro hJ3 (H2.out.trans hk3))
       clear hJ3 hk3 hy hR
       gi_wp2
       go_roundw
       case rel => exact ⟨k + 1, by omega, by have := HII.out; congr 1; omega, ⟨_, by rw [opos_snoc, HO.out, HP.out.1, HII.out], HK3.out.1⟩, HK3.out.2⟩
       case measure => have := HII.out; simp [intOf]; omega
      ·gi_wp2
       refine bodyPost_ret (results_none rfl _ _ _) rfl ?_
       exact ⟨⟨_, rfl⟩, .inr ⟨_, trivial, hJx3⟩⟩
   ·obtain rfl : k = N := by omega
    have hie : hiI < (i : Int) ∧ hiI ≤ 200 ∨ 200 < (i : Int) ∧ 200 < hiI := by have := HII.out; have := HA.out.2; omega
    rcases hie with ⟨h1, h2⟩ | ⟨h1, h2⟩
    all_goals
     gi_wp2
     go_end0
     exact ⟨⟨_, rfl⟩, .inl ⟨_, HP.out.1, HP.out.2.1⟩⟩
set_option maxRecDepth 100000 in
theorem of_stops (n : Nat) (hn : 1 ≤ n) (Bl Bh Bb b1 o1 b2 o2 cL cH : Nat) (loI hiI : Int) (lo hi : List Int) (a N : Nat) (ha : max loI 0 = (a : Int)) (haN : (a : Int) + (N : Int) = min hiI 200 + 1) (hb0 : -1000 ≤ loI) (hb1 : loI ≤ 1000) (hb2 : 0 ≤ hiI) (hb3 : hiI ≤ 1000) (w : World)
    (hBl : w.cell? ⟨Bl, 0, none⟩ = some (.int .i64 loI)) (hBh : w.cell? ⟨Bh, 0, none⟩ = some (.int .i64 hiI)) (hBb : w.cell? ⟨Bb, 0, none⟩ = some (.slice (some ⟨b1, o1, none⟩) 201 cL) ∧ w.cell? ⟨Bb, 1, none⟩ = some (.slice (some ⟨b2, o2, none⟩) 201 cH)) (hL : Ints w (some ⟨b1, o1, none⟩) 201 lo) (hH : Ints w (some ⟨b2, o2, none⟩) 201 hi) :
    SeqStopsK Fence.wide n Try.prog 96 #[.pointer (some ⟨Bl, 0, none⟩), .pointer (some ⟨Bh, 0, none⟩), .pointer (some ⟨Bb, 0, none⟩)] oVals (KeepB [Bl, Bh, Bb, b1, b2]) (fun ys : List OPos => opos ys = ofL lo hi a N) (fun _ => True) 201 w := fun l J Jx W hW hJ _ hY h0 =>
 of1_in n hn l Bl Bh Bb b1 o1 b2 o2 cL cH loI hiI lo hi a N ha haN hb0 hb1 hb2 hb3 J Jx (fun pre V V' h hb => hJ pre V V' none h (below_grown hb) (fun _ e => by cases e)) hY W (keep1 hW hBl) (keep1 hW hBh) ⟨keep1 hW hBb.1, keep1 hW hBb.2⟩ (hL.below hW) (hH.below hW) h0
def encO : Option (Int × Int) → Array Value
 | none => #[.bool false, .int .i64 0, .int .i64 0]
 | some p => #[.bool true, .int .i64 p.1, .int .i64 p.2]
set_option maxRecDepth 100000 in
theorem add_block {w : World} {p : Nat} {X Y a b l h : Int} (hp : w.heap[p]? = some (.cells #[.bool true, .int .i64 X, .int .i64 Y] 147 (0, 0))) (e1 : a = min X l) (e2 : b = max Y h) :
    ((w.setCell ⟨p, 1, none⟩ (.int .i64 a)).setCell ⟨p, 2, none⟩ (.int .i64 b)).drew.heap[p]? = some (.cells (encO (addO (some (X, Y)) (l, h))) 147 (0, 0)) := by
 subst e1; subst e2
 have := block_setCell (i := 2) (v := .int .i64 (max Y h)) (block_setCell (i := 1) (v := .int .i64 (min X l)) hp)
 show ((w.setCell ⟨p, 1, none⟩ (.int .i64 (min X l))).setCell ⟨p, 2, none⟩ (.int .i64 (max Y h))).heap[p]? = _
 simpa [addO, encO] using this
set_option maxRecDepth 100000 in
set_option maxHeartbeats 4000000 in
theorem add_call (p : Nat) (q : Option (Int × Int)) (l h : Int) (w : World) (hp : w.heap[p]? = some (.cells (encO q) 147 (0, 0))) :
    Calls Try.prog 85 #[.pointer (some ⟨p, 0, none⟩), .int .i64 l, .int .i64 h] w fun e w' => e = .returned (.tuple #[]) ∧ w'.heap[p]? = some (.cells (encO (addO q (l, h))) 147 (0, 0)) ∧ Only p w w' := by
 cases q with
 | none =>
  simp only [encO] at hp
  have c0 := cell_of_block (i := 0) hp rfl
  have c1 := cell_of_block (i := 1) hp rfl
  have c2 := cell_of_block (i := 2) hp rfl
  have f0 := free_of_block (i := 0) hp
  have f1 := free_of_block (i := 1) hp
  have f2 := free_of_block (i := 2) hp
  have HP := Lib.hid hp
  clear hp
  go_enter Try.func85, Try.ntmps85
  go_wp2_with fail
  refine bodyPost_ret (results_none rfl _ _ _) rfl ?_
  refine ⟨rfl, ?_, (((Only.refl _ _).setCell 0 _).setCell 1 _).setCell 2 _⟩
  have := block_setCell (i := 2) (v := .int .i64 h) (block_setCell (i := 1) (v := .int .i64 l) (block_setCell (i := 0) (v := .bool true) HP.out))
  simpa [addO, encO] using this
 | some q =>
  obtain ⟨X, Y⟩ := q
  simp only [encO] at hp
  have c0 := cell_of_block (i := 0) hp rfl
  have c1 := cell_of_block (i := 1) hp rfl
  have c2 := cell_of_block (i := 2) hp rfl
  have f0 := free_of_block (i := 0) hp
  have f1 := free_of_block (i := 1) hp
  have f2 := free_of_block (i := 2) hp
  have HP := Lib.hid hp
  clear hp
  by_cases hm1 : l < X
  all_goals
   by_cases hm2 : Y < h
   all_goals
    go_enter Try.func85, Try.ntmps85
    go_wp2_with fail
    go_region
    all_goals
     go_wp2_with fail
     go_end0
     exact ⟨rfl, add_block HP.out (by omega) (by omega), (((Only.refl _ _).setCell 1 _).setCell 2 _).drew⟩
end Go.Proofs.Ytikjjpjekchcjaa.Alt
end
section
namespace Go.MyLift
open Go.RowKit
theorem upon_in {P : Program} {o : Oper} {a : Act} {next : Act → World → Prop} {Q : Exit → Act → World → Prop} {l n : Nat} {r : Result Next} (h : o.upon P a next Q r) : o.uponIn (Fence.wide.inRound l) n P a next Q r := by
 cases r with
 | ok x w =>
  cases x with
  | value v => exact h
  | skip => exact h
  | defer d => exact h
  | enter f args => exact ⟨(fun e => by cases e), CallsIn.inRound l (callsIn_wide.2 h)⟩
  | row row args =>
   refine ⟨(fun e => by cases e), fun c cs _ => ?_⟩
   obtain ⟨v, w', r, s⟩ := h c cs
   exact ⟨v, w', r, stepsIn_wide.2 s⟩
  | _ => exact False.elim h
 | halt x w =>
  cases x with
  | panic v => exact h
  | _ => exact False.elim h
theorem op_in {P : Program} {o : Oper} {a : Act} {w : World} {next : Act → World → Prop} {Q : Exit → Act → World → Prop} {l n : Nat} (hd : ∀ c, o.op ≠ .defer c) (h : o.wp P a w next Q) : o.wpIn (Fence.wide.inRound l) n P a w next Q := by
 refine ⟨fun _ _ => trivial, ?_⟩
 have e : Oper.semAt (Fence.wide.inRound l).round a.eval o = execOp a.eval o := Oper.semAt_eq _ _ _ hd
 rw [e]
 exact upon_in h
def noDefer (ops : Array Oper) : Bool := ops.all fun o => match o.op with | .defer _ => false | _ => true
theorem noDefer_at {ops : Array Oper} (h : noDefer ops = true) {i : Nat} {o : Oper} (hi : ops[i]? = some o) : ∀ c, o.op ≠ .defer c := by
 intro c hc
 unfold noDefer at h
 rw [Array.all_eq_true] at h
 obtain ⟨hlt, he⟩ := Array.getElem?_eq_some_iff.1 hi
 have h2 := h i hlt
 rw [he, hc] at h2
 cases h2
theorem any_in {P : Program} {md : Region.Mode} {ops : Array Oper} {Q : Exit → Act → World → Prop} {l n : Nat} (hd : noDefer ops = true) (hno : ¬ LetsOut Q) : ∀ (fuel : Nat) (listed : Array Bool) (a : Act) (w : World), wpAny P md ops Q fuel listed a w → wpAnyIn (Fence.wide.inRound l) n P md ops Q fuel listed a w
 | 0, _, _, _, h => h
 | fuel + 1, listed, a, w, h => by
  refine ⟨h.1, fun i hi => ?_⟩
  have h2 := h.2 i hi
  unfold wpOp at h2
  unfold wpOpIn
  cases ho : ops[i]? with
  | none => rw [ho] at h2; exact any_in hd hno fuel _ _ _ h2
  | some o =>
   rw [ho] at h2
   simp only at h2 ⊢
   split
   ·rename_i hw
    rw [if_pos hw] at h2
    rcases h2 with h2 | ⟨_, h2⟩
    ·exact op_in (noDefer_at hd ho) (Oper.wp_mono (fun a w h => any_in hd hno fuel _ a w h) h2)
    ·exact absurd h2 hno
   ·rename_i hw
    rw [if_neg hw] at h2
    exact ⟨fun _ _ => trivial, any_in hd hno fuel _ _ _ h2⟩
theorem region_held_round {P : Program} {ops : Array Oper} {Q : Exit → Act → World → Prop} {S : World → Prop} {id l n : Nat} {a : Act} {w : World} (hm : P.follows .mixedOrders = true) (hd : noDefer ops = true) (hno : ¬ LetsOut Q) (hS : S w.drew)
    (h : S w.drew → wpAnyH P .any ops Q S ops.size (Array.replicate ops.size false) a w.drew) : (Code.region id ops true).wpIn (Fence.wide.inRound l) n P Q a w :=
 wpIn_region_any hm (any_in hd hno _ _ _ _ (wpAny_of_held _ _ _ _ (h hS)))
end Go.MyLift
end
