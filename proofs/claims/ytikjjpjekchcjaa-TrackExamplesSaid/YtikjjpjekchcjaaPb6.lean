/-
  PtAltK
-/
import Derived.Test.YtikjjpjekchcjaaPb4
import Derived.Test.YtikjjpjekchcjaaPb5
import Derived.Test.YtikjjpjekchcjaaPb2
namespace Go.Proofs.Ytikjjpjekchcjaa.Alt
open Go.RowKit Go.Shelf Go.MyRange AltMath MyHeap MyCopy MyOwn
attribute [local go_sem] Oper.semAt_some
def foldG (g : Nat → Int × Int) (l : List Nat) : Option (Int × Int) := l.foldl (fun q i => addO q (g i)) none
theorem foldG_snoc (g : Nat → Int × Int) (l : List Nat) (i : Nat) : foldG g (l ++ [i]) = addO (foldG g l) (g i) := by simp [foldG]
theorem ofL_no {lo hi : List Int} {a k : Nat} (h : nonAt lo hi (a + k)) : ofL lo hi a (k + 1) = ofL lo hi a k := if_pos h
theorem ofL_yes {lo hi : List Int} {a k : Nat} (h : ¬ nonAt lo hi (a + k)) : ofL lo hi a (k + 1) = ofL lo hi a k ++ [a + k] := if_neg h
theorem acc_no {lo hi : List Int} {g : Nat → Int × Int} {a k : Nat} (h : nonAt lo hi (a + k)) : acc (hasB lo hi) g a (k + 1) = acc (hasB lo hi) g a k := if_neg (fun e => e h)
theorem acc_yes {lo hi : List Int} {g : Nat → Int × Int} {a k : Nat} (h : ¬ nonAt lo hi (a + k)) : acc (hasB lo hi) g a (k + 1) = addO (acc (hasB lo hi) g a k) (g (a + k)) := if_pos h
theorem acc_fold (lo hi : List Int) (g : Nat → Int × Int) (a k : Nat) : acc (hasB lo hi) g a k = foldG g (ofL lo hi a k) := by
 induction k with
 | zero => rfl
 | succ k ih =>
  by_cases h : nonAt lo hi (a + k)
  ·rw [acc_no h, ofL_no h, ih]
  ·rw [acc_yes h, ofL_yes h, foldG_snoc, ih]
def StK (w0 : World) (n0 : Nat) (q : Option (Int × Int)) (W : World) : Prop := W.heap[n0]? = some (.cells (encO q) 147 (0, 0)) ∧ Below w0.heap.size w0 W ∧ w0.heap.size + 4 ≤ W.heap.size
theorem StK.grown {w0 : World} {n0 B : Nat} {q : Option (Int × Int)} {W W' : World} {row : Option Nat} (h : StK w0 n0 q W) (hB : w0.heap.size ≤ B) (hg : W.grownBy W' row) (hr : ∀ r, row = some r → B ≤ r ∧ ∃ o : Obj, W.heap[r]? = some o ∧ o.isCells = false) : StK w0 n0 q W' :=
 ⟨(grownBy_keeps_cells hg (fun r e => (hr r e).2) h.1 rfl).trans h.1, h.2.1.grown hg h.2.1.size (fun k e => Nat.le_trans hB (hr k e).1), Nat.le_trans h.2.2 hg.size⟩
theorem others_only {W W' : World} {b : Nat} {cs : Array Value} {T : TypeId} (hb : W.heap[b]? = some (.cells cs T (0, 0))) (h : Only b W W') : KeepsOthers W W' :=
 ⟨h.size, fun k o h1 h2 => (h.block k (lt_of_block h1) (fun e => by cases e; rw [hb] at h1; cases h1; cases h2)).trans h1⟩
theorem keepB_only {Bs : List Nat} {W W' : World} {b : Nat} (h : Only b W W') (hne : b ∉ Bs) (hlt : ∀ c ∈ Bs, c < W.heap.size) : KeepB Bs W W' := fun c hc o =>
 World.cell?_of_block (w := W) (a := ⟨c, o, none⟩) (h.block c (hlt c hc) (fun e => by cases e; exact hne hc))
set_option maxRecDepth 100000 in
set_option maxHeartbeats 4000000 in
theorem step1_call (b1 o1 b2 o2 cL cH : Nat) (lo hi : List Int) (P : Nat) (p q : Nat) (k : Nat) (w : World) (hk : k < 201) (hP : P ≤ 32) (hV : ∀ i, i < 201 → ¬ badAt lo hi i) (hL : Ints w (some ⟨b1, o1, none⟩) 201 lo) (hH : Ints w (some ⟨b2, o2, none⟩) 201 hi)
    (h0 : w.heap[p]? = some (.cells (bdC (some ⟨b1, o1, none⟩) 201 cL (some ⟨b2, o2, none⟩) 201 cH) 44 (0, 0))) (h1 : w.cell? ⟨q, 0, none⟩ = some (.int .i64 (P : Int))) :
    Calls Try.prog 83 #[.int .i64 (k : Int), .pointer (some ⟨p, 0, none⟩), .pointer (some ⟨q, 0, none⟩)] w (PairPost (stF lo hi P k).1 (stF lo hi P k).2 w) := by
 refine (callsIn_wide (n := 6)).1 ?_
 refine callsIn_of_wp_marks Try.func83 rfl trivial ?_ rfl
 simp only [Try.ntmps83, List.size_toArray, List.length_cons, List.length_nil, Nat.reduceAdd, Nat.reduceSub, Array.replicate_succ, Array.replicate_zero, List.push_toArray, List.append_toArray, List.nil_append, List.cons_append]
 have HV := Lib.hid hV
 have H := Lib.hid (And.intro hL hH)
 obtain ⟨k0, k1⟩ := two_cells h0
 have HX := Lib.hid h0
 have hk0 : (0 : Int) ≤ (k : Int) := by omega
 have hk1 : (k : Int) < 201 := by omega
 have hP1 : (P : Int) ≤ 32 := by omega
 have kb0 := World.block_lt_of_cell? w _ k0
 have kb1 := World.block_lt_of_cell? w _ h1
 clear hV hL hH h0
 gi_wp2_with fail
 refine ⟨trivial, ?_⟩
 refine (callsIn_wide.2 (of_call (some ⟨b1, o1, none⟩) (some ⟨b2, o2, none⟩) 201 cL 201 cH _ _ _)).mono ?_
 rintro e w2 ⟨rfl, rfl⟩
 gi_wp2_with fail
 have hA := stA_le P k hk
 obtain ⟨A, hAe⟩ : ∃ A, stA P k = A := ⟨_, rfl⟩
 obtain ⟨N, hNe⟩ : ∃ N, stN P k = N := ⟨_, rfl⟩
 rw [hAe, hNe] at hA
 have hA0 : max ((k : Int) - (P : Int)) 0 = (A : Int) := by unfold stA at hAe; omega
 have hA1 : (A : Int) + (N : Int) = min ((k : Int) + (P : Int)) 200 + 1 := by omega
 have HAN := Lib.hid (And.intro hAe hNe)
 have hB4 : Below w.heap.size w ((((w.alloc (.cells (encO none) 147)).alloc (.cells (bdC (some ⟨b1, o1, none⟩) 201 cL (some ⟨b2, o2, none⟩) 201 cH) 44)).alloc (.cells #[.int .i64 ((k : Int) - (P : Int))] 3)).alloc (.cells #[.int .i64 ((k : Int) + (P : Int))] 3)) :=
  (((below_alloc _ _).alloc (by simp) _).alloc (by simp; omega) _).alloc (by simp; omega) _
 have HI0 := Lib.hid (show StK w w.heap.size (foldG (shG lo hi) (opos [])) ((((w.alloc (.cells (encO none) 147)).alloc (.cells (bdC (some ⟨b1, o1, none⟩) 201 cL (some ⟨b2, o2, none⟩) 201 cH) 44)).alloc (.cells #[.int .i64 ((k : Int) - (P : Int))] 3)).alloc (.cells #[.int .i64 ((k : Int) + (P : Int))] 3)) from
  ⟨block_alloc (block_alloc (block_alloc (block_new _ _ rfl))), hB4, by simp⟩)
 have HC := Lib.hid (And.intro (show ((((w.alloc (.cells (encO none) 147)).alloc (.cells (bdC (some ⟨b1, o1, none⟩) 201 cL (some ⟨b2, o2, none⟩) 201 cH) 44)).alloc (.cells #[.int .i64 ((k : Int) - (P : Int))] 3)).alloc (.cells #[.int .i64 ((k : Int) + (P : Int))] 3)).heap[w.heap.size + 1]? = some (.cells (bdC (some ⟨b1, o1, none⟩) 201 cL (some ⟨b2, o2, none⟩) 201 cH) 44 (0, 0)) from block_alloc (block_alloc (block_new _ _ (by simp))))
  (And.intro (show ((((w.alloc (.cells (encO none) 147)).alloc (.cells (bdC (some ⟨b1, o1, none⟩) 201 cL (some ⟨b2, o2, none⟩) 201 cH) 44)).alloc (.cells #[.int .i64 ((k : Int) - (P : Int))] 3)).alloc (.cells #[.int .i64 ((k : Int) + (P : Int))] 3)).heap[w.heap.size + 1 + 1]? = some (.cells #[.int .i64 ((k : Int) - (P : Int))] 3 (0, 0)) from block_alloc (block_new _ _ (by simp)))
   (show ((((w.alloc (.cells (encO none) 147)).alloc (.cells (bdC (some ⟨b1, o1, none⟩) 201 cL (some ⟨b2, o2, none⟩) 201 cH) 44)).alloc (.cells #[.int .i64 ((k : Int) - (P : Int))] 3)).alloc (.cells #[.int .i64 ((k : Int) + (P : Int))] 3)).heap[w.heap.size + 1 + 1 + 1]? = some (.cells #[.int .i64 ((k : Int) + (P : Int))] 3 (0, 0)) from block_new _ _ (by simp))))
 have hsz : ((((w.alloc (.cells (encO none) 147)).alloc (.cells (bdC (some ⟨b1, o1, none⟩) 201 cL (some ⟨b2, o2, none⟩) 201 cH) 44)).alloc (.cells #[.int .i64 ((k : Int) - (P : Int))] 3)).alloc (.cells #[.int .i64 ((k : Int) + (P : Int))] 3)).heap.size = w.heap.size + 4 := by simp
 change Code.wpIn _ _ _ _ _ _ ((((w.alloc (.cells (encO none) 147)).alloc (.cells (bdC (some ⟨b1, o1, none⟩) 201 cL (some ⟨b2, o2, none⟩) 201 cH) 44)).alloc (.cells #[.int .i64 ((k : Int) - (P : Int))] 3)).alloc (.cells #[.int .i64 ((k : Int) + (P : Int))] 3))
 clear hA hAe hNe
 generalize ((((w.alloc (.cells (encO none) 147)).alloc (.cells (bdC (some ⟨b1, o1, none⟩) 201 cL (some ⟨b2, o2, none⟩) 201 cH) 44)).alloc (.cells #[.int .i64 ((k : Int) - (P : Int))] 3)).alloc (.cells #[.int .i64 ((k : Int) + (P : Int))] 3)) = w4 at *
 have hbl := World.block_lt_of_cell? w _ (ints_at H.out.1 hk).choose_spec.choose_spec.2
 have HLT : Hid (∀ b ∈ [w.heap.size + 1 + 1, w.heap.size + 1 + 1 + 1, w.heap.size + 1, b1, b2], b < w4.heap.size ∧ b ≠ w.heap.size) := Lib.hid (by
  obtain ⟨_, _, e1, x0⟩ := ints_at H.out.1 (k := 0) (by decide)
  obtain ⟨_, _, e2, y0⟩ := ints_at H.out.2 (k := 0) (by decide)
  cases e1; cases e2
  have l1 : b1 < w.heap.size := World.block_lt_of_cell? w _ x0
  have l2 : b2 < w.heap.size := World.block_lt_of_cell? w _ y0
  intro b hb
  simp only [List.mem_cons, List.not_mem_nil, or_false] at hb
  rcases hb with rfl | rfl | rfl | rfl | rfl <;> omega)
 clear hbl k0 k1 h1
 refine wpIn_rangeFunc_ownF rfl (by omega) (gf := 96) (lb := #[.pointer (some ⟨w.heap.size + 1 + 1, 0, none⟩), .pointer (some ⟨w.heap.size + 1 + 1 + 1, 0, none⟩), .pointer (some ⟨w.heap.size + 1, 0, none⟩)]) rfl trivial (enters_of Try.func96 (by kernel_rfl) rfl)
  (of_stops _ (by omega) (w.heap.size + 1 + 1) (w.heap.size + 1 + 1 + 1) (w.heap.size + 1) b1 o1 b2 o2 cL cH _ _ lo hi A N hA0 hA1 (by omega) (by omega) (by omega) (by omega) w4 (cell_of_block HC.out.2.1 rfl) (cell_of_block HC.out.2.2 rfl) (two_cells HC.out.1) (H.out.1.below hB4) (H.out.2.below hB4)) KeepB.trans (keepB_b (fun b hb => (HLT.out b hb).1)) (Below.refl _ _) (fun _ => rfl)
  (fun pre W => StK w w.heap.size (foldG (shG lo hi) (opos pre)) W)
  (fun _ _ _ => False)
  (fun _ _ _ _ hs hg hr => hs.grown (by omega) hg hr)
  (fun _ _ _ _ _ hs _ _ => hs)
  HI0.out
  (fun x => { tmps := #[.int .i64 (k : Int), .pointer (some ⟨p, 0, none⟩), .pointer (some ⟨q, 0, none⟩), undef, .int .i64 0, .int .i64 0, .pointer (some ⟨w.heap.size, 0, none⟩), .int .i64 (x.1 : Int), undef,
   .agg #[.slice (some ⟨b1, o1, none⟩) 201 cL, .slice (some ⟨b2, o2, none⟩) 201 cH], .int .i64 (k : Int), .int .i64 (P : Int), .int .i64 ((k : Int) - (P : Int)), .int .i64 (k : Int), .int .i64 (P : Int), .int .i64 ((k : Int) + (P : Int)),
   .func (.func 96) #[] #[.pointer (some ⟨w.heap.size + 1 + 1, 0, none⟩), .pointer (some ⟨w.heap.size + 1 + 1 + 1, 0, none⟩), .pointer (some ⟨w.heap.size + 1, 0, none⟩)],
   .int .i64 (x.1 : Int), undef, undef, undef, undef, undef, undef, undef, undef, undef, undef, undef, undef, undef, undef, undef, undef, undef, undef, undef, undef, undef, undef, undef, undef, undef, undef], defers := [] }) ?assign ?body ?done ?stop
 case assign =>
  intro l x W K hK
  simp only [oVals]
  gi_wp2
  exact hK
 case body =>
  rintro l pre x W hI hlen
  obtain ⟨j, hj⟩ := x
  dsimp only at *
  have hj0 : (0 : Int) ≤ (j : Int) := by omega
  have hj1 : (j : Int) < 201 := by omega
  have hX := keepO hI.2.1 HX.out
  obtain ⟨k0, k1⟩ := two_cells (w := W.drew) hX
  obtain ⟨_, _, e1, x0⟩ := ints_at (H.out.1.below hI.2.1) hj
  obtain ⟨_, _, e2, y0⟩ := ints_at (H.out.2.below hI.2.1) hj
  cases e1; cases e2
  obtain ⟨x1, x2, y1, y2⟩ := ok_bd HV.out hj
  have HS := Lib.hid (show shG lo hi j = (gi lo j + ((j : Int) - 100), gi hi j + ((j : Int) - 100)) from rfl)
  obtain ⟨X, hXX⟩ : ∃ X, gi lo j = X := ⟨_, rfl⟩
  obtain ⟨Y, hYY⟩ : ∃ Y, gi hi j = Y := ⟨_, rfl⟩
  rw [hXX] at x0 x1 x2 HS
  rw [hYY] at y0 y1 y2 HS
  have HQ := Lib.hid (foldG_snoc (shG lo hi) (opos pre) j)
  have z0 : W.drew.cell? ⟨b1, o1 + j, none⟩ = some (.int .i64 X) := x0
  have z1 : W.drew.cell? ⟨b2, o2 + j, none⟩ = some (.int .i64 Y) := y0
  have HI := Lib.hid hI
  have hp : W.drew.heap[w.heap.size]? = some (.cells (encO (foldG (shG lo hi) (opos pre))) 147 (0, 0)) := hI.1
  have HP := Lib.hid hp
  have hbb : b1 < w.heap.size ∧ b2 < w.heap.size := by
   obtain ⟨_, _, e1, u0⟩ := ints_at H.out.1 (k := 0) (by decide)
   obtain ⟨_, _, e2, v0⟩ := ints_at H.out.2 (k := 0) (by decide)
   cases e1; cases e2
   exact ⟨World.block_lt_of_cell? w _ u0, World.block_lt_of_cell? w _ v0⟩
  have HBB := Lib.hid hbb
  clear hX x0 y0 hXX hYY hI hp hbb
  gi_wp2
  refine MyLift.region_held_round (S := (fun w' => (w'.cell? ⟨p, 0, none⟩ = some (.slice (some ⟨b1, o1, none⟩) 201 cL) ∧ w'.cell? ⟨p, 1, none⟩ = some (.slice (some ⟨b2, o2, none⟩) 201 cH)) ∧ w'.cell? ⟨b1, o1 + j, none⟩ = some (.int .i64 X) ∧ w'.cell? ⟨b2, o2 + j, none⟩ = some (.int .i64 Y))) (by kernel_rfl) (by kernel_rfl) (by rintro ⟨_, _, h⟩; exact h) (by (try dsimp only); (exact ⟨⟨k0, k1⟩, z0, z1⟩)) (fun hHeld => ?_)
  refine MyHeld.take 0 (v := ?_) .z (by kernel_rfl) (by kernel_rfl) (by kernel_rfl) (fun _ _ _ h => h) (by rfl) (by assumption) ?_ ?_
  rotate_left
  ·intro w hSw; (try dsimp only at hSw); go_simp; (try with_reducible rfl)
  try simp only [Act.put, List.setIfInBounds_toArray, List.set_cons_zero, List.set_cons_succ]
  refine MyHeld.take 1 (v := ?_) (.s .z) (by kernel_rfl) (by kernel_rfl) (by kernel_rfl) (fun _ _ _ h => h) (by rfl) (by assumption) ?_ ?_
  rotate_left
  ·intro w hSw; (try dsimp only at hSw); go_simp; (try with_reducible rfl)
  try simp only [Act.put, List.setIfInBounds_toArray, List.set_cons_zero, List.set_cons_succ]
  refine MyHeld.take 2 (v := ?_) (.s (.s .z)) (by kernel_rfl) (by kernel_rfl) (by kernel_rfl) (fun _ _ _ h => h) (by rfl) (by assumption) ?_ ?_
  rotate_left
  ·intro w hSw; (try dsimp only at hSw); go_simp; (try with_reducible rfl)
  try simp only [Act.put, List.setIfInBounds_toArray, List.set_cons_zero, List.set_cons_succ]
  refine MyHeld.take 3 (v := ?_) (.s (.s (.s .z))) (by kernel_rfl) (by kernel_rfl) (by kernel_rfl) (fun _ _ _ h => h) (by rfl) (by assumption) ?_ ?_
  rotate_left
  ·intro w hSw; (try dsimp only at hSw); go_simp; (try with_reducible rfl)
  try simp only [Act.put, List.setIfInBounds_toArray, List.set_cons_zero, List.set_cons_succ]
  refine MyHeld.take 4 (v := ?_) (.s (.s (.s (.s .z)))) (by kernel_rfl) (by kernel_rfl) (by kernel_rfl) (fun _ _ _ h => h) (by rfl) (by assumption) ?_ ?_
  rotate_left
  ·intro w hSw; (try dsimp only at hSw); go_simp; (try with_reducible rfl)
  try simp only [Act.put, List.setIfInBounds_toArray, List.set_cons_zero, List.set_cons_succ]
  refine MyHeld.take 5 (v := ?_) (.s (.s (.s (.s (.s .z))))) (by kernel_rfl) (by kernel_rfl) (by kernel_rfl) (fun _ _ _ h => h) (by rfl) (by assumption) ?_ ?_
  rotate_left
  ·intro w hSw; (try dsimp only at hSw); go_simp; (try with_reducible rfl)
  try simp only [Act.put, List.setIfInBounds_toArray, List.set_cons_zero, List.set_cons_succ]
  refine MyHeld.take 6 (v := ?_) (.s (.s (.s (.s (.s (.s .z)))))) (by kernel_rfl) (by kernel_rfl) (by kernel_rfl) (fun _ _ _ h => h) (by rfl) (by assumption) ?_ ?_
  rotate_left
  ·intro w hSw; (try dsimp only at hSw); go_simp; (try with_reducible rfl)
  try simp only [Act.put, List.setIfInBounds_toArray, List.set_cons_zero, List.set_cons_succ]
  refine MyHeld.take 7 (v := ?_) (.s (.s (.s (.s (.s (.s (.s .z))))))) (by kernel_rfl) (by kernel_rfl) (by kernel_rfl) (fun _ _ _ h => h) (by rfl) (by assumption) ?_ ?_
  rotate_left
  ·intro w hSw; (try dsimp only at hSw); go_simp; (try with_reducible rfl)
  try simp only [Act.put, List.setIfInBounds_toArray, List.set_cons_zero, List.set_cons_succ]
  refine MyHeld.take 8 (v := ?_) (.s (.s (.s (.s (.s (.s (.s (.s .z)))))))) (by kernel_rfl) (by kernel_rfl) (by kernel_rfl) (fun _ _ _ h => h) (by rfl) (by assumption) ?_ ?_
  rotate_left
  ·intro w hSw; (try dsimp only at hSw); go_simp; (try with_reducible rfl)
  try simp only [Act.put, List.setIfInBounds_toArray, List.set_cons_zero, List.set_cons_succ]
  refine MyHeld.take 9 (v := ?_) (.s (.s (.s (.s (.s (.s (.s (.s (.s .z))))))))) (by kernel_rfl) (by kernel_rfl) (by kernel_rfl) (fun _ _ _ h => h) (by rfl) (by assumption) ?_ ?_
  rotate_left
  ·intro w hSw; (try dsimp only at hSw); go_simp; (try with_reducible rfl)
  try simp only [Act.put, List.setIfInBounds_toArray, List.set_cons_zero, List.set_cons_succ]
  refine MyHeld.take 10 (v := ?_) (.s (.s (.s (.s (.s (.s (.s (.s (.s (.s .z)))))))))) (by kernel_rfl) (by kernel_rfl) (by kernel_rfl) (fun _ _ _ h => h) (by rfl) (by assumption) ?_ ?_
  rotate_left
  ·intro w hSw; (try dsimp only at hSw); go_simp; (try with_reducible rfl)
  try simp only [Act.put, List.setIfInBounds_toArray, List.set_cons_zero, List.set_cons_succ]
  refine MyHeld.take 11 (v := ?_) (.s (.s (.s (.s (.s (.s (.s (.s (.s (.s (.s .z))))))))))) (by kernel_rfl) (by kernel_rfl) (by kernel_rfl) (fun _ _ _ h => h) (by rfl) (by assumption) ?_ ?_
  rotate_left
  ·intro w hSw; (try dsimp only at hSw); go_simp; (try with_reducible rfl)
  try simp only [Act.put, List.setIfInBounds_toArray, List.set_cons_zero, List.set_cons_succ]
  refine MyHeld.take 12 (v := ?_) (.s (.s (.s (.s (.s (.s (.s (.s (.s (.s (.s (.s .z)))))))))))) (by kernel_rfl) (by kernel_rfl) (by kernel_rfl) (fun _ _ _ h => h) (by rfl) (by assumption) ?_ ?_
  rotate_left
  ·intro w hSw; (try dsimp only at hSw); go_simp; (try with_reducible rfl)
  try simp only [Act.put, List.setIfInBounds_toArray, List.set_cons_zero, List.set_cons_succ]
  refine MyHeld.take 13 (v := ?_) (.s (.s (.s (.s (.s (.s (.s (.s (.s (.s (.s (.s (.s .z))))))))))))) (by kernel_rfl) (by kernel_rfl) (by kernel_rfl) (fun _ _ _ h => h) (by rfl) (by assumption) ?_ ?_
  rotate_left
  ·intro w hSw; (try dsimp only at hSw); go_simp; (try with_reducible rfl)
  try simp only [Act.put, List.setIfInBounds_toArray, List.set_cons_zero, List.set_cons_succ]
  refine wpAnyH_ready (rs := [14]) (by kernel_rfl) (by simp) ?_
  refine (MyHeld.next 14 (.s (.s (.s (.s (.s (.s (.s (.s (.s (.s (.s (.s (.s (.s .z)))))))))))))) (fun Kq hKq => ?_) AllReadyH.nil)
  go_simp
  ((go_at_call 85; refine (add_call w.heap.size (foldG (shG lo hi) (opos pre)) _ _ _ HP.out).mono ?_; rintro e w3 ⟨rfl, h3, ho3⟩; replace k0 := ho3.cell k0 (show p ≠ w.heap.size by omega); replace k1 := ho3.cell k1 (show p ≠ w.heap.size by omega); replace z0 := ho3.cell z0 (show b1 ≠ w.heap.size by have := HBB.out; omega); replace z1 := ho3.cell z1 (show b2 ≠ w.heap.size by have := HBB.out; omega); have H3 := Lib.hid (And.intro h3 ho3); clear h3 ho3))
  go_wp2_with fail
  refine hKq.out _ _ (by (try dsimp only); (exact ⟨⟨k0, k1⟩, z0, z1⟩)) (fun hHeld' => ?_)
  clear hKq Kq hHeld; have hHeld := hHeld'; clear hHeld'
  try simp only [Act.put, List.setIfInBounds_toArray, List.set_cons_zero, List.set_cons_succ]
  refine wpAnyH_done (by kernel_rfl) ?_ _
  all_goals (
   gi_wp2
   have hO := ((Only.refl w.heap.size W).drew).trans H3.out.2
   have hszW := HI.out.2.2
   rw [IntWalk.i64_in (X + ((j : Int) - 100)) (by omega), IntWalk.i64_in (Y + ((j : Int) - 100)) (by omega), ← HS.out, ← HQ.out] at H3
   exact ⟨others_only HI.out.1 hO, keepB_only hO (fun h => (HLT.out _ h).2 rfl) (fun c hc => Nat.lt_of_lt_of_le (HLT.out c hc).1 (by omega)), by rw [opos_snoc]; exact H3.out.1, HI.out.2.1.trans (hO.below (Nat.le_refl _) HI.out.2.1.size), Nat.le_trans hszW hO.size⟩)
 case done =>
  rintro D ys W hD hys hI hK
  rw [hys, ← acc_fold] at hI
  have hq : acc (hasB lo hi) (shG lo hi) A N = stA' lo hi P k (stN P k) := by unfold stA'; rw [HAN.out.1, HAN.out.2]
  rw [hq] at hI
  have HF := Lib.hid (show stF lo hi P k = clip (stA' lo hi P k (stN P k)) from rfl)
  cases hQ : stA' lo hi P k (stN P k) with
  | none =>
   rw [hQ] at hI HF
   have hI1 := hI.1
   simp only [encO] at hI1
   have c0 := cell_of_block (i := 0) hI1 rfl
   have HB := Lib.hid hI.2.1
   have HD := Lib.hid hK
   clear hI1 hI hK hys hq hQ
   gi_wp2
   refine ⟨by simp, .inl ⟨_, _, rfl, run_takeDeferred HD.out, ?_⟩⟩
   refine ⟨.tuple #[.int .i64 1, .int .i64 0], by simp [results, Try.f83, go_sem], by rw [HF.out]; rfl, HB.out.trans (belowK_b (w := w) (Nat.le_refl _) _ D _ _ (by omega) HD.out rfl rfl)⟩
  | some r =>
   obtain ⟨X, Y⟩ := r
   rw [hQ] at hI HF
   have hI1 := hI.1
   simp only [encO] at hI1
   have c0 := cell_of_block (i := 0) hI1 rfl
   have c1 := cell_of_block (i := 1) hI1 rfl
   have c2 := cell_of_block (i := 2) hI1 rfl
   have HB := Lib.hid hI.2.1
   have HD := Lib.hid hK
   clear hI1 hI hK hys hq hQ
   by_cases hm1 : X < -1000
   all_goals
    by_cases hm2 : 50000 < Y
    all_goals
     gi_wp2
     gi_region
     all_goals
      gi_wp2
      refine ⟨by simp, .inl ⟨_, _, rfl, run_takeDeferred HD.out, ?_⟩⟩
      refine ⟨.tuple #[.int .i64 (max X (-1000)), .int .i64 (min Y 50000)], ?_, by rw [HF.out]; rfl, (HB.out.drew).trans (belowK_b (w := w) (Nat.le_refl _) _ D _ _ (by omega) HD.out rfl rfl)⟩
      first
      | (rw [show max X (-1000) = X by omega, show min Y 50000 = Y by omega]; simp [results, Try.f83, go_sem]; done)
      | (rw [show max X (-1000) = X by omega, show min Y 50000 = 50000 by omega]; simp [results, Try.f83, go_sem]; done)
      | (rw [show max X (-1000) = -1000 by omega, show min Y 50000 = Y by omega]; simp [results, Try.f83, go_sem]; done)
      | (rw [show max X (-1000) = -1000 by omega, show min Y 50000 = 50000 by omega]; simp [results, Try.f83, go_sem]; done)
 case stop =>
  rintro D c pre W _ _ h _
  exact h.elim
end Go.Proofs.Ytikjjpjekchcjaa.Alt
