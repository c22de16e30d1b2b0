/-
  Layer 18 (altitude): the reference's Spread.
-/
import Derived.Test.YtojjhkahigdkoaaAltSq
import Derived.Test.YtojjhkahigdkoaaAltY2
import Derived.Test.YtojjhkahigdkoaaHeldBy
namespace Go.Proofs.Ytojjhkahigdkoaa
open Go.RowKit AltMath MyHeap MyCopy MyOwn

/-- Between two rounds: the band's block, the result's, the rows, the rates, the bounds so far. -/
structure SsK (w0 : World) (R m : Nat) (b1 o1 b2 o2 cL cH : Nat) (lo hi : List Int) (b3 o3 n : Nat) (s f : Int) (k : Nat) (W : World) : Prop where
  B : Below w0.heap.size w0 W
  P : W.heap[w0.heap.size]? = some (.cells #[.slice (some ⟨b1, o1, none⟩) 201 cL, .slice (some ⟨b2, o2, none⟩) 201 cH] 24 (0, 0))
  RR : W.heap[R]? = some (.cells #[.int .i64 0, .int .i64 0, .int .i64 0, .int .i64 0] 53 (0, 0))
  M : W.heap[m]? = some (.cells #[.int .i64 (sR lo hi k).1, .int .i64 (sR lo hi k).2, .int .i64 s, .int .i64 f] 53 (0, 0))
  L : Ints W (some ⟨b1, o1, none⟩) 201 lo
  H : Ints W (some ⟨b2, o2, none⟩) 201 hi
  I : Ints W (some ⟨b3, o3, none⟩) n (rL lo hi 201)
  l1 : b1 ≠ m
  l2 : b2 ≠ m
  l3 : b3 ≠ m
  l4 : w0.heap.size + 1 < m
  l5 : R = w0.heap.size + 1
theorem ints_only {W W' : World} {b o n m : Nat} {l : List Int} (h : Ints W (some ⟨b, o, none⟩) n l) (hO : Only m W W') (hne : b ≠ m) : Ints W' (some ⟨b, o, none⟩) n l := by
  refine ⟨h.len, h.bound, ?_⟩
  rcases h.cells with h0 | ⟨b', o', e, hc⟩
  · exact Or.inl h0
  · cases e
    exact Or.inr ⟨b, o, rfl, fun i hi => hO.cell (hc i hi) hne⟩
theorem SsK.step {w0 : World} {R m b1 o1 b2 o2 cL cH : Nat} {lo hi : List Int} {b3 o3 n : Nat} {s f : Int} {k : Nat} {W W' : World} (h : SsK w0 R m b1 o1 b2 o2 cL cH lo hi b3 o3 n s f k W) {x y : Int} (hO : Only m W W') (hM : W'.heap[m]? = some (.cells #[.int .i64 x, .int .i64 y, .int .i64 s, .int .i64 f] 53 (0, 0))) (hx : x = (sR lo hi (k + 1)).1) (hy : y = (sR lo hi (k + 1)).2) : SsK w0 R m b1 o1 b2 o2 cL cH lo hi b3 o3 n s f (k + 1) W' := by
  subst hx hy
  have h4 := h.l4
  have h5 := h.l5
  exact ⟨h.B.trans (hO.below (by omega) h.B.size), hO.keeps h.P (by omega), hO.keeps h.RR (by omega), hM, ints_only h.L hO h.l1, ints_only h.H hO h.l2, ints_only h.I hO h.l3, h.l1, h.l2, h.l3, h4, h5⟩

/-- Half a round: the lower bound is stored. -/
theorem SsK.low {w0 : World} {R m b1 o1 b2 o2 cL cH : Nat} {lo hi : List Int} {b3 o3 n : Nat} {s f : Int} {k : Nat} {W : World} (h : SsK w0 R m b1 o1 b2 o2 cL cH lo hi b3 o3 n s f k W) (v : Int) {W' : World} (hW : W' = (W.setCell ⟨m, 0, none⟩ (.int .i64 v)).drew) :
    (Only m W W' ∧ W'.heap[m]? = some (.cells #[.int .i64 v, .int .i64 (sR lo hi k).2, .int .i64 s, .int .i64 f] 53 (0, 0))) ∧ W'.heap[w0.heap.size]? = some (.cells #[.slice (some ⟨b1, o1, none⟩) 201 cL, .slice (some ⟨b2, o2, none⟩) 201 cH] 24 (0, 0)) ∧ Ints W' (some ⟨b2, o2, none⟩) 201 hi ∧ Ints W' (some ⟨b3, o3, none⟩) n (rL lo hi 201) := by
  have hO : Only m W W' := by rw [hW]; exact ((Only.refl m W).setCell 0 _).drew
  have h4 := h.l4
  refine ⟨⟨hO, ?_⟩, hO.keeps h.P (by omega), ints_only h.H hO h.l2, ints_only h.I hO h.l3⟩
  rw [hW]
  have := block_setCell (w := W) (i := 0) (v := .int .i64 v) h.M
  show (W.setCell ⟨m, 0, none⟩ (.int .i64 v)).heap[m]? = _
  simpa using this
theorem SsK.high {w0 : World} {R m b1 o1 b2 o2 cL cH : Nat} {lo hi : List Int} {b3 o3 n : Nat} {s f : Int} {k : Nat} {W W1 W2 : World} (h : SsK w0 R m b1 o1 b2 o2 cL cH lo hi b3 o3 n s f k W) {v u : Int} (hO : Only m W W1) (hM : W1.heap[m]? = some (.cells #[.int .i64 v, .int .i64 (sR lo hi k).2, .int .i64 s, .int .i64 f] 53 (0, 0))) (hW : W2 = (W1.setCell ⟨m, 1, none⟩ (.int .i64 u)).drew) (hx : v = (sR lo hi (k + 1)).1) (hy : u = (sR lo hi (k + 1)).2) :
    SsK w0 R m b1 o1 b2 o2 cL cH lo hi b3 o3 n s f (k + 1) W2 := by
  refine h.step (hO.trans (show Only m W1 W2 by rw [hW]; exact ((Only.refl m W1).setCell 1 _).drew)) ?_ hx hy
  rw [hW]
  have := block_setCell (w := W1) (i := 1) (v := .int .i64 u) hM
  show (W1.setCell ⟨m, 1, none⟩ (.int .i64 u)).heap[m]? = _
  simpa using this

set_option maxRecDepth 100000 in
set_option maxHeartbeats 16000000 in
theorem rSpread_ok (b1 o1 b2 o2 cL cH : Nat) (lo hi : List Int) (n : Nat) (w : World) (hE : chB lo hi = 0) (hn : (rL lo hi 201).length = n + 1) (hL : Ints w (some ⟨b1, o1, none⟩) 201 lo) (hH : Ints w (some ⟨b2, o2, none⟩) 201 hi) :
    Calls Try.prog 29 #[bdV (some ⟨b1, o1, none⟩) 201 cL (some ⟨b2, o2, none⟩) 201 cH] w (SpPost lo hi w) := by
  have HX := Lib.hid (spX_list hE hn)
  have HE := Lib.hid hE
  have HN := Lib.hid hn
  have hle := rL_le lo hi 201
  have hn1 : (n : Int) + 1 ≤ 201 := by omega
  have hn2 : n + 1 ≤ 201 := by omega
  have H := Lib.hid (And.intro hL hH)
  have B := Lib.hid ((below_alloc w (.cells (bdC (some ⟨b1, o1, none⟩) 201 cL (some ⟨b2, o2, none⟩) 201 cH) 24)).alloc (by simp) (.cells #[.int .i64 0, .int .i64 0, .int .i64 0, .int .i64 0] 53))
  have R := Lib.hid (And.intro (block_new (w.alloc (.cells (bdC (some ⟨b1, o1, none⟩) 201 cL (some ⟨b2, o2, none⟩) 201 cH) 24)) (.cells #[.int .i64 0, .int .i64 0, .int .i64 0, .int .i64 0] 53) (n := w.heap.size + 1) (by simp)) (block_alloc (o' := .cells #[.int .i64 0, .int .i64 0, .int .i64 0, .int .i64 0] 53) (block_new w (.cells (bdC (some ⟨b1, o1, none⟩) 201 cL (some ⟨b2, o2, none⟩) 201 cH) 24) rfl)))
  clear hL hH hE hn hle
  unfold bdV
  unfold bdC at *
  go_enter Try.func29, Try.ntmps29
  go_wp2_with fail
  refine (rCheck_call (some ⟨b1, o1, none⟩) (some ⟨b2, o2, none⟩) 201 201 cL cH lo hi _ (H.out.1.below B.out) (H.out.2.below B.out)).mono ?_; rintro e w1 ⟨rfl, hb⟩
  rw [HE.out]
  replace B := Lib.hid (B.out.trans (hb.mono B.out.size))
  replace R := Lib.hid (And.intro (keepO hb R.out.1) (keepO hb R.out.2))
  obtain ⟨k0, k1, -, -⟩ := two_facts R.out.2
  clear hb
  go_wp2_with fail
  refine (rates_call (some ⟨b1, o1, none⟩) (some ⟨b2, o2, none⟩) cL cH lo hi _ HE.out (H.out.1.below B.out) (H.out.2.below B.out)).mono ?_; rintro e w2 ⟨a, c, rfl, hI, hb⟩
  rw [HN.out] at hI ⊢
  replace B := Lib.hid (B.out.trans (hb.mono B.out.size))
  replace R := Lib.hid (And.intro (keepO hb R.out.1) (keepO hb R.out.2))
  clear hb k0 k1
  obtain ⟨k0, k1, -, -⟩ := two_facts R.out.2
  obtain ⟨b3, o3, rfl, x0⟩ := ints_at hI (k := 0) (by omega)
  have xn := ints_cell hI (k := n) (by omega)
  rw [lg_get] at x0 xn
  have f0 := (lg_on (lo := lo) (hi := hi) (k := 0) (by rw [HN.out]; omega)).1
  have fn := (lg_on (lo := lo) (hi := hi) (k := n) (by rw [HN.out]; omega)).1
  have y0 := ints_cell (H.out.1.below B.out) f0
  have z0 := ints_cell (H.out.2.below B.out) f0
  rw [Nat.add_zero] at x0
  have HI := Lib.hid hI
  have HG := Lib.hid (And.intro (show (sR lo hi 0).1 = gi lo (lg lo hi 0) from rfl) (show (sR lo hi 0).2 = gi hi (lg lo hi 0) from rfl))
  have j0 : (0 : Int) ≤ (lg lo hi 0 : Int) := by omega
  have j1 : (lg lo hi 0 : Int) < 201 := by omega
  have i0 : (0 : Int) ≤ (lg lo hi n : Int) := by omega
  have i1 : (lg lo hi n : Int) < 201 := by omega
  have q0 : (0 : Int) < (n : Int) + 1 := by omega
  have t1 := World.block_lt_of_cell? w2 _ y0
  have t2 := World.block_lt_of_cell? w2 _ z0
  have t3 := World.block_lt_of_cell? w2 _ xn
  have t4 := lt_of_block R.out.2
  have t5 := lt_of_block R.out.1
  clear hI f0 fn
  generalize lg lo hi 0 = J at *
  generalize lg lo hi n = N at *
  generalize gi lo J = X at *
  generalize gi hi J = Y at *
  go_wp2_with fail
  have hw : IntKind.i64.wrap ((n : Nat) : Int) = (n : Int) := by rw [IntKind.wrap_i64] <;> omega
  have hwJ : IntKind.i64.wrap ((J : Int) - 100) = (J : Int) - 100 := by rw [IntKind.wrap_i64] <;> omega
  have hwN : IntKind.i64.wrap ((N : Int) - 100) = (N : Int) - 100 := by rw [IntKind.wrap_i64] <;> omega
  have n0 : (0 : Int) ≤ (n : Int) := by omega
  have n9 : (n : Int) < (n : Int) + 1 := by omega
  have hne : ∀ b, b < w2.heap.size → b ≠ w2.heap.size := fun b h => by omega
  have hne1 := hne _ t1
  have hne2 := hne _ t2
  have hne3 := hne _ t3
  have hne4 := hne _ t4
  refine wp_region_held_drew (S := (fun w' => (w'.cell? ⟨w.heap.size, 0, none⟩ = some (.slice (some ⟨b1, o1, none⟩) 201 cL) ∧ w'.cell? ⟨w.heap.size, 1, none⟩ = some (.slice (some ⟨b2, o2, none⟩) 201 cH)) ∧ (w'.cell? ⟨b3, o3, none⟩ = some (.int .i64 (J : Int)) ∧ w'.cell? ⟨b3, o3 + n, none⟩ = some (.int .i64 (N : Int))) ∧ (w'.cell? ⟨b1, o1 + J, none⟩ = some (.int .i64 X) ∧ w'.cell? ⟨b2, o2 + J, none⟩ = some (.int .i64 Y)))) (by kernel_rfl) (by (try dsimp only); (first | exact ⟨⟨k0, k1⟩, ⟨x0, xn⟩, ⟨y0, z0⟩⟩ | exact ⟨⟨cell_alloc_l _ k0, cell_alloc_l _ k1⟩, ⟨cell_alloc_l _ x0, cell_alloc_l _ xn⟩, ⟨cell_alloc_l _ y0, cell_alloc_l _ z0⟩⟩)) (fun hHeld => ?_)
  refine MyHeld.take 0 (v := ?_) .z (by kernel_rfl) (by kernel_rfl) (by kernel_rfl) (fun _ _ _ h => h) (by rfl) (by assumption) ?_ ?_
  rotate_left
  · intro w hSw; (try dsimp only at hSw); go_simp; (try with_reducible rfl)
  try simp only [Act.put, List.setIfInBounds_toArray, List.set_cons_zero, List.set_cons_succ]
  refine MyHeld.take 1 (v := ?_) (.s .z) (by kernel_rfl) (by kernel_rfl) (by kernel_rfl) (fun _ _ _ h => h) (by rfl) (by assumption) ?_ ?_
  rotate_left
  · intro w hSw; (try dsimp only at hSw); go_simp; (try with_reducible rfl)
  try simp only [Act.put, List.setIfInBounds_toArray, List.set_cons_zero, List.set_cons_succ]
  refine MyHeld.take 2 (v := ?_) (.s (.s .z)) (by kernel_rfl) (by kernel_rfl) (by kernel_rfl) (fun _ _ _ h => h) (by rfl) (by assumption) ?_ ?_
  rotate_left
  · intro w hSw; (try dsimp only at hSw); go_simp; (try with_reducible rfl)
  try simp only [Act.put, List.setIfInBounds_toArray, List.set_cons_zero, List.set_cons_succ]
  refine MyHeld.take 3 (v := ?_) (.s (.s (.s .z))) (by kernel_rfl) (by kernel_rfl) (by kernel_rfl) (fun _ _ _ h => h) (by rfl) (by assumption) ?_ ?_
  rotate_left
  · intro w hSw; (try dsimp only at hSw); go_simp; (try with_reducible rfl)
  try simp only [Act.put, List.setIfInBounds_toArray, List.set_cons_zero, List.set_cons_succ]
  refine MyHeld.take 4 (v := ?_) (.s (.s (.s (.s .z)))) (by kernel_rfl) (by kernel_rfl) (by kernel_rfl) (fun _ _ _ h => h) (by rfl) (by assumption) ?_ ?_
  rotate_left
  · intro w hSw; (try dsimp only at hSw); go_simp; (try with_reducible rfl)
  try simp only [Act.put, List.setIfInBounds_toArray, List.set_cons_zero, List.set_cons_succ]
  refine MyHeld.take 5 (v := ?_) (.s (.s (.s (.s (.s .z))))) (by kernel_rfl) (by kernel_rfl) (by kernel_rfl) (fun _ _ _ h => h) (by rfl) (by assumption) ?_ ?_
  rotate_left
  · intro w hSw; (try dsimp only at hSw); go_simp; (try with_reducible rfl)
  try simp only [Act.put, List.setIfInBounds_toArray, List.set_cons_zero, List.set_cons_succ]
  refine MyHeld.take 6 (v := ?_) (.s (.s (.s (.s (.s (.s .z)))))) (by kernel_rfl) (by kernel_rfl) (by kernel_rfl) (fun _ _ _ h => h) (by rfl) (by assumption) ?_ ?_
  rotate_left
  · intro w hSw; (try dsimp only at hSw); go_simp; (try with_reducible rfl)
  try simp only [Act.put, List.setIfInBounds_toArray, List.set_cons_zero, List.set_cons_succ]
  refine MyHeld.take 7 (v := ?_) (.s (.s (.s (.s (.s (.s (.s .z))))))) (by kernel_rfl) (by kernel_rfl) (by kernel_rfl) (fun _ _ _ h => h) (by rfl) (by assumption) ?_ ?_
  rotate_left
  · intro w hSw; (try dsimp only at hSw); go_simp; (try with_reducible rfl)
  try simp only [Act.put, List.setIfInBounds_toArray, List.set_cons_zero, List.set_cons_succ]
  refine MyHeld.take 8 (v := ?_) (.s (.s (.s (.s (.s (.s (.s (.s .z)))))))) (by kernel_rfl) (by kernel_rfl) (by kernel_rfl) (fun _ _ _ h => h) (by rfl) (by assumption) ?_ ?_
  rotate_left
  · intro w hSw; (try dsimp only at hSw); go_simp; (try with_reducible rfl)
  try simp only [Act.put, List.setIfInBounds_toArray, List.set_cons_zero, List.set_cons_succ]
  refine MyHeld.take 9 (v := ?_) (.s (.s (.s (.s (.s (.s (.s (.s (.s .z))))))))) (by kernel_rfl) (by kernel_rfl) (by kernel_rfl) (fun _ _ _ h => h) (by rfl) (by assumption) ?_ ?_
  rotate_left
  · intro w hSw; (try dsimp only at hSw); go_simp; (try with_reducible rfl)
  try simp only [Act.put, List.setIfInBounds_toArray, List.set_cons_zero, List.set_cons_succ]
  refine MyHeld.take 10 (v := ?_) (.s (.s (.s (.s (.s (.s (.s (.s (.s (.s .z)))))))))) (by kernel_rfl) (by kernel_rfl) (by kernel_rfl) (fun _ _ _ h => h) (by rfl) (by assumption) ?_ ?_
  rotate_left
  · intro w hSw; (try dsimp only at hSw); go_simp; (try with_reducible rfl)
  try simp only [Act.put, List.setIfInBounds_toArray, List.set_cons_zero, List.set_cons_succ]
  refine MyHeld.take 11 (v := ?_) (.s (.s (.s (.s (.s (.s (.s (.s (.s (.s (.s .z))))))))))) (by kernel_rfl) (by kernel_rfl) (by kernel_rfl) (fun _ _ _ h => h) (by rfl) (by assumption) ?_ ?_
  rotate_left
  · intro w hSw; (try dsimp only at hSw); go_simp; (try with_reducible rfl)
  try simp only [Act.put, List.setIfInBounds_toArray, List.set_cons_zero, List.set_cons_succ]
  refine MyHeld.take 12 (v := ?_) (.s (.s (.s (.s (.s (.s (.s (.s (.s (.s (.s (.s .z)))))))))))) (by kernel_rfl) (by kernel_rfl) (by kernel_rfl) (fun _ _ _ h => h) (by rfl) (by assumption) ?_ ?_
  rotate_left
  · intro w hSw; (try dsimp only at hSw); go_simp; (try with_reducible rfl)
  try simp only [Act.put, List.setIfInBounds_toArray, List.set_cons_zero, List.set_cons_succ]
  refine MyHeld.take 13 (v := ?_) (.s (.s (.s (.s (.s (.s (.s (.s (.s (.s (.s (.s (.s .z))))))))))))) (by kernel_rfl) (by kernel_rfl) (by kernel_rfl) (fun _ _ _ h => h) (by rfl) (by assumption) ?_ ?_
  rotate_left
  · intro w hSw; (try dsimp only at hSw); go_simp; (try with_reducible rfl)
  try simp only [Act.put, List.setIfInBounds_toArray, List.set_cons_zero, List.set_cons_succ]
  refine MyHeld.take 14 (v := ?_) (.s (.s (.s (.s (.s (.s (.s (.s (.s (.s (.s (.s (.s (.s .z)))))))))))))) (by kernel_rfl) (by kernel_rfl) (by kernel_rfl) (fun _ _ _ h => h) (by rfl) (by assumption) ?_ ?_
  rotate_left
  · intro w hSw; (try dsimp only at hSw); go_simp; (try with_reducible rfl)
  try simp only [Act.put, List.setIfInBounds_toArray, List.set_cons_zero, List.set_cons_succ]
  refine MyHeld.take 15 (v := ?_) (.s (.s (.s (.s (.s (.s (.s (.s (.s (.s (.s (.s (.s (.s (.s .z))))))))))))))) (by kernel_rfl) (by kernel_rfl) (by kernel_rfl) (fun _ _ _ h => h) (by rfl) (by assumption) ?_ ?_
  rotate_left
  · intro w hSw; (try dsimp only at hSw); go_simp; (try with_reducible rfl)
  try simp only [Act.put, List.setIfInBounds_toArray, List.set_cons_zero, List.set_cons_succ]
  refine MyHeld.take 16 (v := ?_) (.s (.s (.s (.s (.s (.s (.s (.s (.s (.s (.s (.s (.s (.s (.s (.s .z)))))))))))))))) (by kernel_rfl) (by kernel_rfl) (by kernel_rfl) (fun _ _ _ h => h) (by rfl) (by assumption) ?_ ?_
  rotate_left
  · intro w hSw; (try dsimp only at hSw); go_simp; (try with_reducible rfl)
  try simp only [Act.put, List.setIfInBounds_toArray, List.set_cons_zero, List.set_cons_succ]
  refine MyHeld.take 17 (v := ?_) (.s (.s (.s (.s (.s (.s (.s (.s (.s (.s (.s (.s (.s (.s (.s (.s (.s .z))))))))))))))))) (by kernel_rfl) (by kernel_rfl) (by kernel_rfl) (fun _ _ _ h => h) (by rfl) (by assumption) ?_ ?_
  rotate_left
  · intro w hSw; (try dsimp only at hSw); go_simp; (try with_reducible rfl)
  try simp only [Act.put, List.setIfInBounds_toArray, List.set_cons_zero, List.set_cons_succ]
  refine MyHeld.take 18 (v := ?_) (.s (.s (.s (.s (.s (.s (.s (.s (.s (.s (.s (.s (.s (.s (.s (.s (.s (.s .z)))))))))))))))))) (by kernel_rfl) (by kernel_rfl) (by kernel_rfl) (fun _ _ _ h => h) (by rfl) (by assumption) ?_ ?_
  rotate_left
  · intro w hSw; (try dsimp only at hSw); go_simp; (try with_reducible rfl)
  try simp only [Act.put, List.setIfInBounds_toArray, List.set_cons_zero, List.set_cons_succ]
  refine MyHeld.take 19 (v := ?_) (.s (.s (.s (.s (.s (.s (.s (.s (.s (.s (.s (.s (.s (.s (.s (.s (.s (.s (.s .z))))))))))))))))))) (by kernel_rfl) (by kernel_rfl) (by kernel_rfl) (fun _ _ _ h => h) (by rfl) (by assumption) ?_ ?_
  rotate_left
  · intro w hSw; (try dsimp only at hSw); go_simp; (try with_reducible rfl)
  try simp only [Act.put, List.setIfInBounds_toArray, List.set_cons_zero, List.set_cons_succ]
  refine MyHeld.take 20 (v := ?_) (.s (.s (.s (.s (.s (.s (.s (.s (.s (.s (.s (.s (.s (.s (.s (.s (.s (.s (.s (.s .z)))))))))))))))))))) (by kernel_rfl) (by kernel_rfl) (by kernel_rfl) (fun _ _ _ h => h) (by rfl) (by assumption) ?_ ?_
  rotate_left
  · intro w hSw; (try dsimp only at hSw); go_simp; (try with_reducible rfl)
  try simp only [Act.put, List.setIfInBounds_toArray, List.set_cons_zero, List.set_cons_succ]
  refine MyHeld.take 21 (v := ?_) (.s (.s (.s (.s (.s (.s (.s (.s (.s (.s (.s (.s (.s (.s (.s (.s (.s (.s (.s (.s (.s .z))))))))))))))))))))) (by kernel_rfl) (by kernel_rfl) (by kernel_rfl) (fun _ _ _ h => h) (by rfl) (by assumption) ?_ ?_
  rotate_left
  · intro w hSw; (try dsimp only at hSw); go_simp; (try with_reducible rfl)
  try simp only [Act.put, List.setIfInBounds_toArray, List.set_cons_zero, List.set_cons_succ]
  refine MyHeld.take 22 (v := ?_) (.s (.s (.s (.s (.s (.s (.s (.s (.s (.s (.s (.s (.s (.s (.s (.s (.s (.s (.s (.s (.s (.s .z)))))))))))))))))))))) (by kernel_rfl) (by kernel_rfl) (by kernel_rfl) (fun _ _ _ h => h) (by rfl) (by assumption) ?_ ?_
  rotate_left
  · intro w hSw; (try dsimp only at hSw); go_simp; (try with_reducible rfl)
  try simp only [Act.put, List.setIfInBounds_toArray, List.set_cons_zero, List.set_cons_succ]
  refine MyHeld.take 23 (v := ?_) (.s (.s (.s (.s (.s (.s (.s (.s (.s (.s (.s (.s (.s (.s (.s (.s (.s (.s (.s (.s (.s (.s (.s .z))))))))))))))))))))))) (by kernel_rfl) (by kernel_rfl) (by kernel_rfl) (fun _ _ _ h => h) (by rfl) (by assumption) ?_ ?_
  rotate_left
  · intro w hSw; (try dsimp only at hSw); go_simp; (try with_reducible rfl)
  try simp only [Act.put, List.setIfInBounds_toArray, List.set_cons_zero, List.set_cons_succ]
  refine MyHeld.take 24 (v := ?_) (.s (.s (.s (.s (.s (.s (.s (.s (.s (.s (.s (.s (.s (.s (.s (.s (.s (.s (.s (.s (.s (.s (.s (.s .z)))))))))))))))))))))))) (by kernel_rfl) (by kernel_rfl) (by kernel_rfl) (fun _ _ _ h => h) (by rfl) (by assumption) ?_ ?_
  rotate_left
  · intro w hSw; (try dsimp only at hSw); go_simp; (try with_reducible rfl)
  try simp only [Act.put, List.setIfInBounds_toArray, List.set_cons_zero, List.set_cons_succ]
  refine MyHeld.take 25 (v := ?_) (.s (.s (.s (.s (.s (.s (.s (.s (.s (.s (.s (.s (.s (.s (.s (.s (.s (.s (.s (.s (.s (.s (.s (.s (.s .z))))))))))))))))))))))))) (by kernel_rfl) (by kernel_rfl) (by kernel_rfl) (fun _ _ _ h => h) (by rfl) (by assumption) ?_ ?_
  rotate_left
  · intro w hSw; (try dsimp only at hSw); go_simp; (try with_reducible rfl)
  try simp only [Act.put, List.setIfInBounds_toArray, List.set_cons_zero, List.set_cons_succ]
  refine wpAnyH_ready (rs := [26]) (by kernel_rfl) (by simp) ?_
  refine (MyHeld.next 26 (.s (.s (.s (.s (.s (.s (.s (.s (.s (.s (.s (.s (.s (.s (.s (.s (.s (.s (.s (.s (.s (.s (.s (.s (.s (.s .z)))))))))))))))))))))))))) (fun Kq hKq => ?_) AllReadyH.nil)
  go_simp
  refine hKq.out _ _ (by (try dsimp only); (first | exact ⟨⟨k0, k1⟩, ⟨x0, xn⟩, ⟨y0, z0⟩⟩ | exact ⟨⟨cell_alloc_l _ k0, cell_alloc_l _ k1⟩, ⟨cell_alloc_l _ x0, cell_alloc_l _ xn⟩, ⟨cell_alloc_l _ y0, cell_alloc_l _ z0⟩⟩)) (fun hHeld' => ?_)
  clear hKq Kq hHeld; have hHeld := hHeld'; clear hHeld'
  try simp only [Act.put, List.setIfInBounds_toArray, List.set_cons_zero, List.set_cons_succ]
  refine wpAnyH_ready (rs := [27]) (by kernel_rfl) (by simp) ?_
  refine (MyHeld.next 27 (.s (.s (.s (.s (.s (.s (.s (.s (.s (.s (.s (.s (.s (.s (.s (.s (.s (.s (.s (.s (.s (.s (.s (.s (.s (.s (.s .z))))))))))))))))))))))))))) (fun Kq hKq => ?_) AllReadyH.nil)
  go_simp
  refine hKq.out _ _ (by (try dsimp only); (first | exact ⟨⟨k0, k1⟩, ⟨x0, xn⟩, ⟨y0, z0⟩⟩ | exact ⟨⟨cell_alloc_l _ k0, cell_alloc_l _ k1⟩, ⟨cell_alloc_l _ x0, cell_alloc_l _ xn⟩, ⟨cell_alloc_l _ y0, cell_alloc_l _ z0⟩⟩)) (fun hHeld' => ?_)
  clear hKq Kq hHeld; have hHeld := hHeld'; clear hHeld'
  try simp only [Act.put, List.setIfInBounds_toArray, List.set_cons_zero, List.set_cons_succ]
  refine wpAnyH_done (by kernel_rfl) ?_ _
  all_goals
    clear hne hne1 hne2 hne3 hne4 k0 k1 x0 xn y0 z0 hw n0 n9 i0 i1 j0 j1
    have K := Lib.hid (show SsK w (w.heap.size + 1) w2.heap.size b1 o1 b2 o2 cL cH lo hi b3 o3 (n + 1) ((J : Int) - 100) ((N : Int) - 100) 0 (w2.alloc (.cells #[.int .i64 X, .int .i64 Y, .int .i64 ((J : Int) - 100), .int .i64 ((N : Int) - 100)] 53)).drew from
      ⟨(B.out.alloc B.out.size _).drew, block_alloc R.out.2, block_alloc R.out.1, by rw [HG.out.1, HG.out.2]; exact block_new _ _ rfl, ((H.out.1.below B.out).below (below_alloc w2 _).drew), ((H.out.2.below B.out).below (below_alloc w2 _).drew), HI.out.below (below_alloc w2 _).drew, by omega, by omega, by omega, by omega, rfl⟩)
    have HX2 := Lib.hid (show spX lo hi = ⟨(sR lo hi (n + 1)).1, (sR lo hi (n + 1)).2, (J : Int) - 100, (N : Int) - 100⟩ from by
      obtain ⟨_, e1, e2, e3, e4⟩ := HX.out
      cases hx : spX lo hi with
      | mk a b c d =>
        rw [hx] at e1 e2 e3 e4
        simp only [] at e1 e2 e3 e4
        rw [e1, e2, e3, e4])
    have HX1 := Lib.hid HX.out.1
    clear t1 t2 t3 t4 t5 B R H HI HG HX
    generalize w2.heap.size = m at *
    go_wp2_with fail
    generalize (J : Int) - 100 = s at *
    generalize (N : Int) - 100 = f at *
    go_loopw [7] (fun kv wr => ∃ k : Nat, k ≤ n + 1 ∧ kv = .int .i64 k ∧ SsK w (w.heap.size + 1) m b1 o1 b2 o2 cL cH lo hi b3 o3 (n + 1) s f k wr) (fun kv _ => n + 1 - (intOf kv).toNat)
    case atStart => exact ⟨0, Nat.zero_le _, rfl, K.out⟩
    case round =>
      clear K
      obtain ⟨k, hk, rfl, hK⟩ := hrel
      have K := Lib.hid hK
      clear hK
      by_cases hlt : k < n + 1
      · have hk0 : (0 : Int) ≤ (k : Int) := by omega
        have hk1 : (k : Int) < (n : Int) + 1 := by omega
        have hgl := (lg_on (lo := lo) (hi := hi) (k := k) (by rw [HN.out]; exact hlt)).1
        have hJ0 : (0 : Int) ≤ (lg lo hi k : Int) := by omega
        have hJ1 : (lg lo hi k : Int) < 201 := by omega
        have x0 := ints_cell K.out.I hlt
        rw [lg_get] at x0
        have y0 := ints_cell K.out.L hgl
        have HSt := Lib.hid (And.intro (show (sR lo hi (k + 1)).1 = min (sR lo hi k).1 (gi lo (lg lo hi k)) from rfl) (show (sR lo hi (k + 1)).2 = max (sR lo hi k).2 (gi hi (lg lo hi k)) from rfl))
        have HK := Lib.hid (fun (v : Int) (W' : World) (hW : W' = (wr.setCell ⟨m, 0, none⟩ (.int .i64 v)).drew) => K.out.low v hW)
        obtain ⟨k0, k1, -, -⟩ := two_facts K.out.P
        obtain ⟨⟨m0, m1, m2, m3⟩, g0, g1, g2, g3⟩ := four_facts K.out.M
        obtain ⟨J, hJ⟩ : ∃ j, lg lo hi k = j := ⟨_, rfl⟩
        obtain ⟨S1, hS1⟩ : ∃ j, (sR lo hi k).1 = j := ⟨_, rfl⟩
        obtain ⟨S2, hS2⟩ : ∃ j, (sR lo hi k).2 = j := ⟨_, rfl⟩
        obtain ⟨X, hX⟩ : ∃ j, gi lo J = j := ⟨_, rfl⟩
        obtain ⟨Y, hY⟩ : ∃ j, gi hi J = j := ⟨_, rfl⟩
        rw [hJ] at hJ0 hJ1 x0 y0 HSt hgl
        rw [hS1] at m0 HSt
        rw [hS2] at m1 HSt HK
        rw [hX] at y0 HSt
        rw [hY] at HSt
        have HE2 := Lib.hid (And.intro hJ (And.intro hS2 hY))
        clear hJ hS1 hS2 hX hY
        go_wp2_with fail
        have hm1 : min S1 X = if X < S1 then X else S1 := by split <;> omega
        have hm2 : max S2 Y = if S2 < Y then Y else S2 := by split <;> omega
        rw [hm1, hm2] at HSt
        clear hm1 hm2
        have l1 := K.out.l1
        have l2 := K.out.l2
        have l3 := K.out.l3
        have l4 : w.heap.size ≠ m := by have := K.out.l4; omega
        by_cases c1 : X < S1
        · rw [if_pos c1] at HSt
          refine wp_region_held_drew (S := (fun w' => w'.cell? ⟨w.heap.size, 0, none⟩ = some (.slice (some ⟨b1, o1, none⟩) 201 cL) ∧ w'.cell? ⟨b3, o3 + k, none⟩ = some (.int .i64 (J : Int)) ∧ w'.cell? ⟨b1, o1 + J, none⟩ = some (.int .i64 X))) (by kernel_rfl) (by (try dsimp only); (first | exact ⟨k0, x0, y0⟩ | exact ⟨((Only.refl m _).setCell 0 _).cell k0 l4, ((Only.refl m _).setCell 0 _).cell x0 l3, ((Only.refl m _).setCell 0 _).cell y0 l1⟩)) (fun hHeld => ?_)
          refine MyHeld.take 0 (v := ?_) .z (by kernel_rfl) (by kernel_rfl) (by kernel_rfl) (fun _ _ _ h => h) (by rfl) (by assumption) ?_ ?_
          rotate_left
          · intro w hSw; (try dsimp only at hSw); go_simp; (try with_reducible rfl)
          try simp only [Act.put, List.setIfInBounds_toArray, List.set_cons_zero, List.set_cons_succ]
          refine MyHeld.take 2 (v := ?_) (.s (.s .z)) (by kernel_rfl) (by kernel_rfl) (by kernel_rfl) (fun _ _ _ h => h) (by rfl) (by assumption) ?_ ?_
          rotate_left
          · intro w hSw; (try dsimp only at hSw); go_simp; (try with_reducible rfl)
          try simp only [Act.put, List.setIfInBounds_toArray, List.set_cons_zero, List.set_cons_succ]
          refine MyHeld.take 3 (v := ?_) (.s (.s (.s .z))) (by kernel_rfl) (by kernel_rfl) (by kernel_rfl) (fun _ _ _ h => h) (by rfl) (by assumption) ?_ ?_
          rotate_left
          · intro w hSw; (try dsimp only at hSw); go_simp; (try with_reducible rfl)
          try simp only [Act.put, List.setIfInBounds_toArray, List.set_cons_zero, List.set_cons_succ]
          refine MyHeld.take 4 (v := ?_) (.s (.s (.s (.s .z)))) (by kernel_rfl) (by kernel_rfl) (by kernel_rfl) (fun _ _ _ h => h) (by rfl) (by assumption) ?_ ?_
          rotate_left
          · intro w hSw; (try dsimp only at hSw); go_simp; (try with_reducible rfl)
          try simp only [Act.put, List.setIfInBounds_toArray, List.set_cons_zero, List.set_cons_succ]
          refine MyHeld.take 5 (v := ?_) (.s (.s (.s (.s (.s .z))))) (by kernel_rfl) (by kernel_rfl) (by kernel_rfl) (fun _ _ _ h => h) (by rfl) (by assumption) ?_ ?_
          rotate_left
          · intro w hSw; (try dsimp only at hSw); go_simp; (try with_reducible rfl)
          try simp only [Act.put, List.setIfInBounds_toArray, List.set_cons_zero, List.set_cons_succ]
          refine MyHeld.take 6 (v := ?_) (.s (.s (.s (.s (.s (.s .z)))))) (by kernel_rfl) (by kernel_rfl) (by kernel_rfl) (fun _ _ _ h => h) (by rfl) (by assumption) ?_ ?_
          rotate_left
          · intro w hSw; (try dsimp only at hSw); go_simp; (try with_reducible rfl)
          try simp only [Act.put, List.setIfInBounds_toArray, List.set_cons_zero, List.set_cons_succ]
          refine MyHeld.take 7 (v := ?_) (.s (.s (.s (.s (.s (.s (.s .z))))))) (by kernel_rfl) (by kernel_rfl) (by kernel_rfl) (fun _ _ _ h => h) (by rfl) (by assumption) ?_ ?_
          rotate_left
          · intro w hSw; (try dsimp only at hSw); go_simp; (try with_reducible rfl)
          try simp only [Act.put, List.setIfInBounds_toArray, List.set_cons_zero, List.set_cons_succ]
          refine MyHeld.take 8 (v := ?_) (.s (.s (.s (.s (.s (.s (.s (.s .z)))))))) (by kernel_rfl) (by kernel_rfl) (by kernel_rfl) (fun _ _ _ h => h) (by rfl) (by assumption) ?_ ?_
          rotate_left
          · intro w hSw; (try dsimp only at hSw); go_simp; (try with_reducible rfl)
          try simp only [Act.put, List.setIfInBounds_toArray, List.set_cons_zero, List.set_cons_succ]
          refine MyHeld.take 9 (v := ?_) (.s (.s (.s (.s (.s (.s (.s (.s (.s .z))))))))) (by kernel_rfl) (by kernel_rfl) (by kernel_rfl) (fun _ _ _ h => h) (by rfl) (by assumption) ?_ ?_
          rotate_left
          · intro w hSw; (try dsimp only at hSw); go_simp; (try with_reducible rfl)
          try simp only [Act.put, List.setIfInBounds_toArray, List.set_cons_zero, List.set_cons_succ]
          refine wpAnyH_ready (rs := [1]) (by kernel_rfl) (by simp) ?_
          refine (MyHeld.next 1 (.s .z) (fun Kq hKq => ?_) AllReadyH.nil)
          go_simp
          refine hKq.out _ _ (by (try dsimp only); (first | exact ⟨k0, x0, y0⟩ | exact ⟨((Only.refl m _).setCell 0 _).cell k0 l4, ((Only.refl m _).setCell 0 _).cell x0 l3, ((Only.refl m _).setCell 0 _).cell y0 l1⟩)) (fun hHeld' => ?_)
          clear hKq Kq hHeld; have hHeld := hHeld'; clear hHeld'
          try simp only [Act.put, List.setIfInBounds_toArray, List.set_cons_zero, List.set_cons_succ]
          refine wpAnyH_ready (rs := [10]) (by kernel_rfl) (by simp) ?_
          refine (MyHeld.next 10 (.s (.s (.s (.s (.s (.s (.s (.s (.s (.s .z)))))))))) (fun Kq hKq => ?_) AllReadyH.nil)
          go_simp
          refine hKq.out _ _ (by (try dsimp only); (first | exact ⟨k0, x0, y0⟩ | exact ⟨((Only.refl m _).setCell 0 _).cell k0 l4, ((Only.refl m _).setCell 0 _).cell x0 l3, ((Only.refl m _).setCell 0 _).cell y0 l1⟩)) (fun hHeld' => ?_)
          clear hKq Kq hHeld; have hHeld := hHeld'; clear hHeld'
          try simp only [Act.put, List.setIfInBounds_toArray, List.set_cons_zero, List.set_cons_succ]
          refine MyHeld.take 11 (v := ?_) (.s (.s (.s (.s (.s (.s (.s (.s (.s (.s (.s .z))))))))))) (by kernel_rfl) (by kernel_rfl) (by kernel_rfl) (fun _ _ _ h => h) (by rfl) (by assumption) ?_ ?_
          rotate_left
          · intro w hSw; (try dsimp only at hSw); go_simp; (try with_reducible rfl)
          try simp only [Act.put, List.setIfInBounds_toArray, List.set_cons_zero, List.set_cons_succ]
          refine wpAnyH_ready (rs := [12]) (by kernel_rfl) (by simp) ?_
          refine (MyHeld.next 12 (.s (.s (.s (.s (.s (.s (.s (.s (.s (.s (.s (.s .z)))))))))))) (fun Kq hKq => ?_) AllReadyH.nil)
          go_simp
          refine hKq.out _ _ (by (try dsimp only); (first | exact ⟨k0, x0, y0⟩ | exact ⟨((Only.refl m _).setCell 0 _).cell k0 l4, ((Only.refl m _).setCell 0 _).cell x0 l3, ((Only.refl m _).setCell 0 _).cell y0 l1⟩)) (fun hHeld' => ?_)
          clear hKq Kq hHeld; have hHeld := hHeld'; clear hHeld'
          try simp only [Act.put, List.setIfInBounds_toArray, List.set_cons_zero, List.set_cons_succ]
          refine wpAnyH_done (by kernel_rfl) ?_ _
          all_goals
            go_wp2_with fail
            have hW := HK.out X _ rfl
            obtain ⟨⟨hO, hM⟩, hP, hH, hI⟩ := hW
            have HM := Lib.hid (And.intro hO hM)
            clear k0 k1 m0 m1 m2 m3 g0 g1 g2 g3 x0 y0 HK
            obtain ⟨k0, k1, -, -⟩ := two_facts hP
            obtain ⟨⟨m0, m1, m2, m3⟩, g0, g1, g2, g3⟩ := four_facts hM
            have x0 := ints_cell hI hlt
            rw [lg_get, HE2.out.1] at x0
            have z0 := ints_cell hH hgl
            rw [HE2.out.2.2] at z0
            clear hO hM hP hH hI
            generalize (wr.setCell ⟨m, 0, none⟩ (.int .i64 X)).drew = wq at *
            by_cases c2 : S2 < Y
            · rw [if_pos c2] at HSt
              have HM2 := Lib.hid (fun (W' : World) (hW : W' = (wq.setCell ⟨m, 1, none⟩ (.int .i64 Y)).drew) => K.out.high (v := X) (u := Y) HM.out.1 (by have := HM.out.2; rw [← HE2.out.2.1] at this; exact this) hW HSt.out.1.symm HSt.out.2.symm)
              refine wp_region_held_drew (S := (fun w' => w'.cell? ⟨w.heap.size, 1, none⟩ = some (.slice (some ⟨b2, o2, none⟩) 201 cH) ∧ w'.cell? ⟨b3, o3 + k, none⟩ = some (.int .i64 (J : Int)) ∧ w'.cell? ⟨b2, o2 + J, none⟩ = some (.int .i64 Y))) (by kernel_rfl) (by (try dsimp only); (first | exact ⟨k1, x0, z0⟩ | exact ⟨((Only.refl m _).setCell 1 _).cell k1 l4, ((Only.refl m _).setCell 1 _).cell x0 l3, ((Only.refl m _).setCell 1 _).cell z0 l2⟩)) (fun hHeld => ?_)
              refine MyHeld.take 0 (v := ?_) .z (by kernel_rfl) (by kernel_rfl) (by kernel_rfl) (fun _ _ _ h => h) (by rfl) (by assumption) ?_ ?_
              rotate_left
              · intro w hSw; (try dsimp only at hSw); go_simp; (try with_reducible rfl)
              try simp only [Act.put, List.setIfInBounds_toArray, List.set_cons_zero, List.set_cons_succ]
              refine MyHeld.take 2 (v := ?_) (.s (.s .z)) (by kernel_rfl) (by kernel_rfl) (by kernel_rfl) (fun _ _ _ h => h) (by rfl) (by assumption) ?_ ?_
              rotate_left
              · intro w hSw; (try dsimp only at hSw); go_simp; (try with_reducible rfl)
              try simp only [Act.put, List.setIfInBounds_toArray, List.set_cons_zero, List.set_cons_succ]
              refine MyHeld.take 3 (v := ?_) (.s (.s (.s .z))) (by kernel_rfl) (by kernel_rfl) (by kernel_rfl) (fun _ _ _ h => h) (by rfl) (by assumption) ?_ ?_
              rotate_left
              · intro w hSw; (try dsimp only at hSw); go_simp; (try with_reducible rfl)
              try simp only [Act.put, List.setIfInBounds_toArray, List.set_cons_zero, List.set_cons_succ]
              refine MyHeld.take 4 (v := ?_) (.s (.s (.s (.s .z)))) (by kernel_rfl) (by kernel_rfl) (by kernel_rfl) (fun _ _ _ h => h) (by rfl) (by assumption) ?_ ?_
              rotate_left
              · intro w hSw; (try dsimp only at hSw); go_simp; (try with_reducible rfl)
              try simp only [Act.put, List.setIfInBounds_toArray, List.set_cons_zero, List.set_cons_succ]
              refine MyHeld.take 5 (v := ?_) (.s (.s (.s (.s (.s .z))))) (by kernel_rfl) (by kernel_rfl) (by kernel_rfl) (fun _ _ _ h => h) (by rfl) (by assumption) ?_ ?_
              rotate_left
              · intro w hSw; (try dsimp only at hSw); go_simp; (try with_reducible rfl)
              try simp only [Act.put, List.setIfInBounds_toArray, List.set_cons_zero, List.set_cons_succ]
              refine MyHeld.take 6 (v := ?_) (.s (.s (.s (.s (.s (.s .z)))))) (by kernel_rfl) (by kernel_rfl) (by kernel_rfl) (fun _ _ _ h => h) (by rfl) (by assumption) ?_ ?_
              rotate_left
              · intro w hSw; (try dsimp only at hSw); go_simp; (try with_reducible rfl)
              try simp only [Act.put, List.setIfInBounds_toArray, List.set_cons_zero, List.set_cons_succ]
              refine MyHeld.take 7 (v := ?_) (.s (.s (.s (.s (.s (.s (.s .z))))))) (by kernel_rfl) (by kernel_rfl) (by kernel_rfl) (fun _ _ _ h => h) (by rfl) (by assumption) ?_ ?_
              rotate_left
              · intro w hSw; (try dsimp only at hSw); go_simp; (try with_reducible rfl)
              try simp only [Act.put, List.setIfInBounds_toArray, List.set_cons_zero, List.set_cons_succ]
              refine MyHeld.take 8 (v := ?_) (.s (.s (.s (.s (.s (.s (.s (.s .z)))))))) (by kernel_rfl) (by kernel_rfl) (by kernel_rfl) (fun _ _ _ h => h) (by rfl) (by assumption) ?_ ?_
              rotate_left
              · intro w hSw; (try dsimp only at hSw); go_simp; (try with_reducible rfl)
              try simp only [Act.put, List.setIfInBounds_toArray, List.set_cons_zero, List.set_cons_succ]
              refine MyHeld.take 9 (v := ?_) (.s (.s (.s (.s (.s (.s (.s (.s (.s .z))))))))) (by kernel_rfl) (by kernel_rfl) (by kernel_rfl) (fun _ _ _ h => h) (by rfl) (by assumption) ?_ ?_
              rotate_left
              · intro w hSw; (try dsimp only at hSw); go_simp; (try with_reducible rfl)
              try simp only [Act.put, List.setIfInBounds_toArray, List.set_cons_zero, List.set_cons_succ]
              refine wpAnyH_ready (rs := [1]) (by kernel_rfl) (by simp) ?_
              refine (MyHeld.next 1 (.s .z) (fun Kq hKq => ?_) AllReadyH.nil)
              go_simp
              refine hKq.out _ _ (by (try dsimp only); (first | exact ⟨k1, x0, z0⟩ | exact ⟨((Only.refl m _).setCell 1 _).cell k1 l4, ((Only.refl m _).setCell 1 _).cell x0 l3, ((Only.refl m _).setCell 1 _).cell z0 l2⟩)) (fun hHeld' => ?_)
              clear hKq Kq hHeld; have hHeld := hHeld'; clear hHeld'
              try simp only [Act.put, List.setIfInBounds_toArray, List.set_cons_zero, List.set_cons_succ]
              refine wpAnyH_ready (rs := [10]) (by kernel_rfl) (by simp) ?_
              refine (MyHeld.next 10 (.s (.s (.s (.s (.s (.s (.s (.s (.s (.s .z)))))))))) (fun Kq hKq => ?_) AllReadyH.nil)
              go_simp
              refine hKq.out _ _ (by (try dsimp only); (first | exact ⟨k1, x0, z0⟩ | exact ⟨((Only.refl m _).setCell 1 _).cell k1 l4, ((Only.refl m _).setCell 1 _).cell x0 l3, ((Only.refl m _).setCell 1 _).cell z0 l2⟩)) (fun hHeld' => ?_)
              clear hKq Kq hHeld; have hHeld := hHeld'; clear hHeld'
              try simp only [Act.put, List.setIfInBounds_toArray, List.set_cons_zero, List.set_cons_succ]
              refine MyHeld.take 11 (v := ?_) (.s (.s (.s (.s (.s (.s (.s (.s (.s (.s (.s .z))))))))))) (by kernel_rfl) (by kernel_rfl) (by kernel_rfl) (fun _ _ _ h => h) (by rfl) (by assumption) ?_ ?_
              rotate_left
              · intro w hSw; (try dsimp only at hSw); go_simp; (try with_reducible rfl)
              try simp only [Act.put, List.setIfInBounds_toArray, List.set_cons_zero, List.set_cons_succ]
              refine wpAnyH_ready (rs := [12]) (by kernel_rfl) (by simp) ?_
              refine (MyHeld.next 12 (.s (.s (.s (.s (.s (.s (.s (.s (.s (.s (.s (.s .z)))))))))))) (fun Kq hKq => ?_) AllReadyH.nil)
              go_simp
              refine hKq.out _ _ (by (try dsimp only); (first | exact ⟨k1, x0, z0⟩ | exact ⟨((Only.refl m _).setCell 1 _).cell k1 l4, ((Only.refl m _).setCell 1 _).cell x0 l3, ((Only.refl m _).setCell 1 _).cell z0 l2⟩)) (fun hHeld' => ?_)
              clear hKq Kq hHeld; have hHeld := hHeld'; clear hHeld'
              try simp only [Act.put, List.setIfInBounds_toArray, List.set_cons_zero, List.set_cons_succ]
              refine wpAnyH_done (by kernel_rfl) ?_ _
              all_goals
                replace HM2 := Lib.hid (HM2.out _ rfl)
                clear k0 k1 m0 m1 m2 m3 g0 g1 g2 g3 x0 z0 K HM
                go_wp2_with fail
                go_roundw
                case rel => exact ⟨k + 1, by omega, by go_num, HM2.out⟩
                case measure => simp [intOf]; omega
            · rw [if_neg c2] at HSt
              have HM2 := Lib.hid (fun (W' : World) (hW : W' = (wq.setCell ⟨m, 1, none⟩ (.int .i64 S2)).drew) => K.out.high (v := X) (u := S2) HM.out.1 (by have := HM.out.2; rw [← HE2.out.2.1] at this; exact this) hW HSt.out.1.symm HSt.out.2.symm)
              refine wp_region_held_drew (S := (fun w' => w'.cell? ⟨w.heap.size, 1, none⟩ = some (.slice (some ⟨b2, o2, none⟩) 201 cH) ∧ w'.cell? ⟨b3, o3 + k, none⟩ = some (.int .i64 (J : Int)) ∧ w'.cell? ⟨b2, o2 + J, none⟩ = some (.int .i64 Y))) (by kernel_rfl) (by (try dsimp only); (first | exact ⟨k1, x0, z0⟩ | exact ⟨((Only.refl m _).setCell 1 _).cell k1 l4, ((Only.refl m _).setCell 1 _).cell x0 l3, ((Only.refl m _).setCell 1 _).cell z0 l2⟩)) (fun hHeld => ?_)
              refine MyHeld.take 0 (v := ?_) .z (by kernel_rfl) (by kernel_rfl) (by kernel_rfl) (fun _ _ _ h => h) (by rfl) (by assumption) ?_ ?_
              rotate_left
              · intro w hSw; (try dsimp only at hSw); go_simp; (try with_reducible rfl)
              try simp only [Act.put, List.setIfInBounds_toArray, List.set_cons_zero, List.set_cons_succ]
              refine MyHeld.take 2 (v := ?_) (.s (.s .z)) (by kernel_rfl) (by kernel_rfl) (by kernel_rfl) (fun _ _ _ h => h) (by rfl) (by assumption) ?_ ?_
              rotate_left
              · intro w hSw; (try dsimp only at hSw); go_simp; (try with_reducible rfl)
              try simp only [Act.put, List.setIfInBounds_toArray, List.set_cons_zero, List.set_cons_succ]
              refine MyHeld.take 3 (v := ?_) (.s (.s (.s .z))) (by kernel_rfl) (by kernel_rfl) (by kernel_rfl) (fun _ _ _ h => h) (by rfl) (by assumption) ?_ ?_
              rotate_left
              · intro w hSw; (try dsimp only at hSw); go_simp; (try with_reducible rfl)
              try simp only [Act.put, List.setIfInBounds_toArray, List.set_cons_zero, List.set_cons_succ]
              refine MyHeld.take 4 (v := ?_) (.s (.s (.s (.s .z)))) (by kernel_rfl) (by kernel_rfl) (by kernel_rfl) (fun _ _ _ h => h) (by rfl) (by assumption) ?_ ?_
              rotate_left
              · intro w hSw; (try dsimp only at hSw); go_simp; (try with_reducible rfl)
              try simp only [Act.put, List.setIfInBounds_toArray, List.set_cons_zero, List.set_cons_succ]
              refine MyHeld.take 5 (v := ?_) (.s (.s (.s (.s (.s .z))))) (by kernel_rfl) (by kernel_rfl) (by kernel_rfl) (fun _ _ _ h => h) (by rfl) (by assumption) ?_ ?_
              rotate_left
              · intro w hSw; (try dsimp only at hSw); go_simp; (try with_reducible rfl)
              try simp only [Act.put, List.setIfInBounds_toArray, List.set_cons_zero, List.set_cons_succ]
              refine MyHeld.take 6 (v := ?_) (.s (.s (.s (.s (.s (.s .z)))))) (by kernel_rfl) (by kernel_rfl) (by kernel_rfl) (fun _ _ _ h => h) (by rfl) (by assumption) ?_ ?_
              rotate_left
              · intro w hSw; (try dsimp only at hSw); go_simp; (try with_reducible rfl)
              try simp only [Act.put, List.setIfInBounds_toArray, List.set_cons_zero, List.set_cons_succ]
              refine MyHeld.take 7 (v := ?_) (.s (.s (.s (.s (.s (.s (.s .z))))))) (by kernel_rfl) (by kernel_rfl) (by kernel_rfl) (fun _ _ _ h => h) (by rfl) (by assumption) ?_ ?_
              rotate_left
              · intro w hSw; (try dsimp only at hSw); go_simp; (try with_reducible rfl)
              try simp only [Act.put, List.setIfInBounds_toArray, List.set_cons_zero, List.set_cons_succ]
              refine MyHeld.take 8 (v := ?_) (.s (.s (.s (.s (.s (.s (.s (.s .z)))))))) (by kernel_rfl) (by kernel_rfl) (by kernel_rfl) (fun _ _ _ h => h) (by rfl) (by assumption) ?_ ?_
              rotate_left
              · intro w hSw; (try dsimp only at hSw); go_simp; (try with_reducible rfl)
              try simp only [Act.put, List.setIfInBounds_toArray, List.set_cons_zero, List.set_cons_succ]
              refine MyHeld.take 9 (v := ?_) (.s (.s (.s (.s (.s (.s (.s (.s (.s .z))))))))) (by kernel_rfl) (by kernel_rfl) (by kernel_rfl) (fun _ _ _ h => h) (by rfl) (by assumption) ?_ ?_
              rotate_left
              · intro w hSw; (try dsimp only at hSw); go_simp; (try with_reducible rfl)
              try simp only [Act.put, List.setIfInBounds_toArray, List.set_cons_zero, List.set_cons_succ]
              refine wpAnyH_ready (rs := [1]) (by kernel_rfl) (by simp) ?_
              refine (MyHeld.next 1 (.s .z) (fun Kq hKq => ?_) AllReadyH.nil)
              go_simp
              refine hKq.out _ _ (by (try dsimp only); (first | exact ⟨k1, x0, z0⟩ | exact ⟨((Only.refl m _).setCell 1 _).cell k1 l4, ((Only.refl m _).setCell 1 _).cell x0 l3, ((Only.refl m _).setCell 1 _).cell z0 l2⟩)) (fun hHeld' => ?_)
              clear hKq Kq hHeld; have hHeld := hHeld'; clear hHeld'
              try simp only [Act.put, List.setIfInBounds_toArray, List.set_cons_zero, List.set_cons_succ]
              refine wpAnyH_ready (rs := [10]) (by kernel_rfl) (by simp) ?_
              refine (MyHeld.next 10 (.s (.s (.s (.s (.s (.s (.s (.s (.s (.s .z)))))))))) (fun Kq hKq => ?_) AllReadyH.nil)
              go_simp
              refine hKq.out _ _ (by (try dsimp only); (first | exact ⟨k1, x0, z0⟩ | exact ⟨((Only.refl m _).setCell 1 _).cell k1 l4, ((Only.refl m _).setCell 1 _).cell x0 l3, ((Only.refl m _).setCell 1 _).cell z0 l2⟩)) (fun hHeld' => ?_)
              clear hKq Kq hHeld; have hHeld := hHeld'; clear hHeld'
              try simp only [Act.put, List.setIfInBounds_toArray, List.set_cons_zero, List.set_cons_succ]
              refine MyHeld.take 11 (v := ?_) (.s (.s (.s (.s (.s (.s (.s (.s (.s (.s (.s .z))))))))))) (by kernel_rfl) (by kernel_rfl) (by kernel_rfl) (fun _ _ _ h => h) (by rfl) (by assumption) ?_ ?_
              rotate_left
              · intro w hSw; (try dsimp only at hSw); go_simp; (try with_reducible rfl)
              try simp only [Act.put, List.setIfInBounds_toArray, List.set_cons_zero, List.set_cons_succ]
              refine wpAnyH_ready (rs := [12]) (by kernel_rfl) (by simp) ?_
              refine (MyHeld.next 12 (.s (.s (.s (.s (.s (.s (.s (.s (.s (.s (.s (.s .z)))))))))))) (fun Kq hKq => ?_) AllReadyH.nil)
              go_simp
              refine hKq.out _ _ (by (try dsimp only); (first | exact ⟨k1, x0, z0⟩ | exact ⟨((Only.refl m _).setCell 1 _).cell k1 l4, ((Only.refl m _).setCell 1 _).cell x0 l3, ((Only.refl m _).setCell 1 _).cell z0 l2⟩)) (fun hHeld' => ?_)
              clear hKq Kq hHeld; have hHeld := hHeld'; clear hHeld'
              try simp only [Act.put, List.setIfInBounds_toArray, List.set_cons_zero, List.set_cons_succ]
              refine wpAnyH_done (by kernel_rfl) ?_ _
              all_goals
                replace HM2 := Lib.hid (HM2.out _ rfl)
                clear k0 k1 m0 m1 m2 m3 g0 g1 g2 g3 x0 z0 K HM
                go_wp2_with fail
                go_roundw
                case rel => exact ⟨k + 1, by omega, by go_num, HM2.out⟩
                case measure => simp [intOf]; omega
        · rw [if_neg c1] at HSt
          refine wp_region_held_drew (S := (fun w' => w'.cell? ⟨w.heap.size, 0, none⟩ = some (.slice (some ⟨b1, o1, none⟩) 201 cL) ∧ w'.cell? ⟨b3, o3 + k, none⟩ = some (.int .i64 (J : Int)) ∧ w'.cell? ⟨b1, o1 + J, none⟩ = some (.int .i64 X))) (by kernel_rfl) (by (try dsimp only); (first | exact ⟨k0, x0, y0⟩ | exact ⟨((Only.refl m _).setCell 0 _).cell k0 l4, ((Only.refl m _).setCell 0 _).cell x0 l3, ((Only.refl m _).setCell 0 _).cell y0 l1⟩)) (fun hHeld => ?_)
          refine MyHeld.take 0 (v := ?_) .z (by kernel_rfl) (by kernel_rfl) (by kernel_rfl) (fun _ _ _ h => h) (by rfl) (by assumption) ?_ ?_
          rotate_left
          · intro w hSw; (try dsimp only at hSw); go_simp; (try with_reducible rfl)
          try simp only [Act.put, List.setIfInBounds_toArray, List.set_cons_zero, List.set_cons_succ]
          refine MyHeld.take 2 (v := ?_) (.s (.s .z)) (by kernel_rfl) (by kernel_rfl) (by kernel_rfl) (fun _ _ _ h => h) (by rfl) (by assumption) ?_ ?_
          rotate_left
          · intro w hSw; (try dsimp only at hSw); go_simp; (try with_reducible rfl)
          try simp only [Act.put, List.setIfInBounds_toArray, List.set_cons_zero, List.set_cons_succ]
          refine MyHeld.take 3 (v := ?_) (.s (.s (.s .z))) (by kernel_rfl) (by kernel_rfl) (by kernel_rfl) (fun _ _ _ h => h) (by rfl) (by assumption) ?_ ?_
          rotate_left
          · intro w hSw; (try dsimp only at hSw); go_simp; (try with_reducible rfl)
          try simp only [Act.put, List.setIfInBounds_toArray, List.set_cons_zero, List.set_cons_succ]
          refine MyHeld.take 4 (v := ?_) (.s (.s (.s (.s .z)))) (by kernel_rfl) (by kernel_rfl) (by kernel_rfl) (fun _ _ _ h => h) (by rfl) (by assumption) ?_ ?_
          rotate_left
          · intro w hSw; (try dsimp only at hSw); go_simp; (try with_reducible rfl)
          try simp only [Act.put, List.setIfInBounds_toArray, List.set_cons_zero, List.set_cons_succ]
          refine MyHeld.take 5 (v := ?_) (.s (.s (.s (.s (.s .z))))) (by kernel_rfl) (by kernel_rfl) (by kernel_rfl) (fun _ _ _ h => h) (by rfl) (by assumption) ?_ ?_
          rotate_left
          · intro w hSw; (try dsimp only at hSw); go_simp; (try with_reducible rfl)
          try simp only [Act.put, List.setIfInBounds_toArray, List.set_cons_zero, List.set_cons_succ]
          refine MyHeld.take 6 (v := ?_) (.s (.s (.s (.s (.s (.s .z)))))) (by kernel_rfl) (by kernel_rfl) (by kernel_rfl) (fun _ _ _ h => h) (by rfl) (by assumption) ?_ ?_
          rotate_left
          · intro w hSw; (try dsimp only at hSw); go_simp; (try with_reducible rfl)
          try simp only [Act.put, List.setIfInBounds_toArray, List.set_cons_zero, List.set_cons_succ]
          refine MyHeld.take 7 (v := ?_) (.s (.s (.s (.s (.s (.s (.s .z))))))) (by kernel_rfl) (by kernel_rfl) (by kernel_rfl) (fun _ _ _ h => h) (by rfl) (by assumption) ?_ ?_
          rotate_left
          · intro w hSw; (try dsimp only at hSw); go_simp; (try with_reducible rfl)
          try simp only [Act.put, List.setIfInBounds_toArray, List.set_cons_zero, List.set_cons_succ]
          refine MyHeld.take 8 (v := ?_) (.s (.s (.s (.s (.s (.s (.s (.s .z)))))))) (by kernel_rfl) (by kernel_rfl) (by kernel_rfl) (fun _ _ _ h => h) (by rfl) (by assumption) ?_ ?_
          rotate_left
          · intro w hSw; (try dsimp only at hSw); go_simp; (try with_reducible rfl)
          try simp only [Act.put, List.setIfInBounds_toArray, List.set_cons_zero, List.set_cons_succ]
          refine MyHeld.take 9 (v := ?_) (.s (.s (.s (.s (.s (.s (.s (.s (.s .z))))))))) (by kernel_rfl) (by kernel_rfl) (by kernel_rfl) (fun _ _ _ h => h) (by rfl) (by assumption) ?_ ?_
          rotate_left
          · intro w hSw; (try dsimp only at hSw); go_simp; (try with_reducible rfl)
          try simp only [Act.put, List.setIfInBounds_toArray, List.set_cons_zero, List.set_cons_succ]
          refine wpAnyH_ready (rs := [1]) (by kernel_rfl) (by simp) ?_
          refine (MyHeld.next 1 (.s .z) (fun Kq hKq => ?_) AllReadyH.nil)
          go_simp
          refine hKq.out _ _ (by (try dsimp only); (first | exact ⟨k0, x0, y0⟩ | exact ⟨((Only.refl m _).setCell 0 _).cell k0 l4, ((Only.refl m _).setCell 0 _).cell x0 l3, ((Only.refl m _).setCell 0 _).cell y0 l1⟩)) (fun hHeld' => ?_)
          clear hKq Kq hHeld; have hHeld := hHeld'; clear hHeld'
          try simp only [Act.put, List.setIfInBounds_toArray, List.set_cons_zero, List.set_cons_succ]
          refine wpAnyH_ready (rs := [10]) (by kernel_rfl) (by simp) ?_
          refine (MyHeld.next 10 (.s (.s (.s (.s (.s (.s (.s (.s (.s (.s .z)))))))))) (fun Kq hKq => ?_) AllReadyH.nil)
          go_simp
          refine hKq.out _ _ (by (try dsimp only); (first | exact ⟨k0, x0, y0⟩ | exact ⟨((Only.refl m _).setCell 0 _).cell k0 l4, ((Only.refl m _).setCell 0 _).cell x0 l3, ((Only.refl m _).setCell 0 _).cell y0 l1⟩)) (fun hHeld' => ?_)
          clear hKq Kq hHeld; have hHeld := hHeld'; clear hHeld'
          try simp only [Act.put, List.setIfInBounds_toArray, List.set_cons_zero, List.set_cons_succ]
          refine MyHeld.take 11 (v := ?_) (.s (.s (.s (.s (.s (.s (.s (.s (.s (.s (.s .z))))))))))) (by kernel_rfl) (by kernel_rfl) (by kernel_rfl) (fun _ _ _ h => h) (by rfl) (by assumption) ?_ ?_
          rotate_left
          · intro w hSw; (try dsimp only at hSw); go_simp; (try with_reducible rfl)
          try simp only [Act.put, List.setIfInBounds_toArray, List.set_cons_zero, List.set_cons_succ]
          refine wpAnyH_ready (rs := [12]) (by kernel_rfl) (by simp) ?_
          refine (MyHeld.next 12 (.s (.s (.s (.s (.s (.s (.s (.s (.s (.s (.s (.s .z)))))))))))) (fun Kq hKq => ?_) AllReadyH.nil)
          go_simp
          refine hKq.out _ _ (by (try dsimp only); (first | exact ⟨k0, x0, y0⟩ | exact ⟨((Only.refl m _).setCell 0 _).cell k0 l4, ((Only.refl m _).setCell 0 _).cell x0 l3, ((Only.refl m _).setCell 0 _).cell y0 l1⟩)) (fun hHeld' => ?_)
          clear hKq Kq hHeld; have hHeld := hHeld'; clear hHeld'
          try simp only [Act.put, List.setIfInBounds_toArray, List.set_cons_zero, List.set_cons_succ]
          refine wpAnyH_done (by kernel_rfl) ?_ _
          all_goals
            go_wp2_with fail
            have hW := HK.out S1 _ rfl
            obtain ⟨⟨hO, hM⟩, hP, hH, hI⟩ := hW
            have HM := Lib.hid (And.intro hO hM)
            clear k0 k1 m0 m1 m2 m3 g0 g1 g2 g3 x0 y0 HK
            obtain ⟨k0, k1, -, -⟩ := two_facts hP
            obtain ⟨⟨m0, m1, m2, m3⟩, g0, g1, g2, g3⟩ := four_facts hM
            have x0 := ints_cell hI hlt
            rw [lg_get, HE2.out.1] at x0
            have z0 := ints_cell hH hgl
            rw [HE2.out.2.2] at z0
            clear hO hM hP hH hI
            generalize (wr.setCell ⟨m, 0, none⟩ (.int .i64 S1)).drew = wq at *
            by_cases c2 : S2 < Y
            · rw [if_pos c2] at HSt
              have HM2 := Lib.hid (fun (W' : World) (hW : W' = (wq.setCell ⟨m, 1, none⟩ (.int .i64 Y)).drew) => K.out.high (v := S1) (u := Y) HM.out.1 (by have := HM.out.2; rw [← HE2.out.2.1] at this; exact this) hW HSt.out.1.symm HSt.out.2.symm)
              refine wp_region_held_drew (S := (fun w' => w'.cell? ⟨w.heap.size, 1, none⟩ = some (.slice (some ⟨b2, o2, none⟩) 201 cH) ∧ w'.cell? ⟨b3, o3 + k, none⟩ = some (.int .i64 (J : Int)) ∧ w'.cell? ⟨b2, o2 + J, none⟩ = some (.int .i64 Y))) (by kernel_rfl) (by (try dsimp only); (first | exact ⟨k1, x0, z0⟩ | exact ⟨((Only.refl m _).setCell 1 _).cell k1 l4, ((Only.refl m _).setCell 1 _).cell x0 l3, ((Only.refl m _).setCell 1 _).cell z0 l2⟩)) (fun hHeld => ?_)
              refine MyHeld.take 0 (v := ?_) .z (by kernel_rfl) (by kernel_rfl) (by kernel_rfl) (fun _ _ _ h => h) (by rfl) (by assumption) ?_ ?_
              rotate_left
              · intro w hSw; (try dsimp only at hSw); go_simp; (try with_reducible rfl)
              try simp only [Act.put, List.setIfInBounds_toArray, List.set_cons_zero, List.set_cons_succ]
              refine MyHeld.take 2 (v := ?_) (.s (.s .z)) (by kernel_rfl) (by kernel_rfl) (by kernel_rfl) (fun _ _ _ h => h) (by rfl) (by assumption) ?_ ?_
              rotate_left
              · intro w hSw; (try dsimp only at hSw); go_simp; (try with_reducible rfl)
              try simp only [Act.put, List.setIfInBounds_toArray, List.set_cons_zero, List.set_cons_succ]
              refine MyHeld.take 3 (v := ?_) (.s (.s (.s .z))) (by kernel_rfl) (by kernel_rfl) (by kernel_rfl) (fun _ _ _ h => h) (by rfl) (by assumption) ?_ ?_
              rotate_left
              · intro w hSw; (try dsimp only at hSw); go_simp; (try with_reducible rfl)
              try simp only [Act.put, List.setIfInBounds_toArray, List.set_cons_zero, List.set_cons_succ]
              refine MyHeld.take 4 (v := ?_) (.s (.s (.s (.s .z)))) (by kernel_rfl) (by kernel_rfl) (by kernel_rfl) (fun _ _ _ h => h) (by rfl) (by assumption) ?_ ?_
              rotate_left
              · intro w hSw; (try dsimp only at hSw); go_simp; (try with_reducible rfl)
              try simp only [Act.put, List.setIfInBounds_toArray, List.set_cons_zero, List.set_cons_succ]
              refine MyHeld.take 5 (v := ?_) (.s (.s (.s (.s (.s .z))))) (by kernel_rfl) (by kernel_rfl) (by kernel_rfl) (fun _ _ _ h => h) (by rfl) (by assumption) ?_ ?_
              rotate_left
              · intro w hSw; (try dsimp only at hSw); go_simp; (try with_reducible rfl)
              try simp only [Act.put, List.setIfInBounds_toArray, List.set_cons_zero, List.set_cons_succ]
              refine MyHeld.take 6 (v := ?_) (.s (.s (.s (.s (.s (.s .z)))))) (by kernel_rfl) (by kernel_rfl) (by kernel_rfl) (fun _ _ _ h => h) (by rfl) (by assumption) ?_ ?_
              rotate_left
              · intro w hSw; (try dsimp only at hSw); go_simp; (try with_reducible rfl)
              try simp only [Act.put, List.setIfInBounds_toArray, List.set_cons_zero, List.set_cons_succ]
              refine MyHeld.take 7 (v := ?_) (.s (.s (.s (.s (.s (.s (.s .z))))))) (by kernel_rfl) (by kernel_rfl) (by kernel_rfl) (fun _ _ _ h => h) (by rfl) (by assumption) ?_ ?_
              rotate_left
              · intro w hSw; (try dsimp only at hSw); go_simp; (try with_reducible rfl)
              try simp only [Act.put, List.setIfInBounds_toArray, List.set_cons_zero, List.set_cons_succ]
              refine MyHeld.take 8 (v := ?_) (.s (.s (.s (.s (.s (.s (.s (.s .z)))))))) (by kernel_rfl) (by kernel_rfl) (by kernel_rfl) (fun _ _ _ h => h) (by rfl) (by assumption) ?_ ?_
              rotate_left
              · intro w hSw; (try dsimp only at hSw); go_simp; (try with_reducible rfl)
              try simp only [Act.put, List.setIfInBounds_toArray, List.set_cons_zero, List.set_cons_succ]
              refine MyHeld.take 9 (v := ?_) (.s (.s (.s (.s (.s (.s (.s (.s (.s .z))))))))) (by kernel_rfl) (by kernel_rfl) (by kernel_rfl) (fun _ _ _ h => h) (by rfl) (by assumption) ?_ ?_
              rotate_left
              · intro w hSw; (try dsimp only at hSw); go_simp; (try with_reducible rfl)
              try simp only [Act.put, List.setIfInBounds_toArray, List.set_cons_zero, List.set_cons_succ]
              refine wpAnyH_ready (rs := [1]) (by kernel_rfl) (by simp) ?_
              refine (MyHeld.next 1 (.s .z) (fun Kq hKq => ?_) AllReadyH.nil)
              go_simp
              refine hKq.out _ _ (by (try dsimp only); (first | exact ⟨k1, x0, z0⟩ | exact ⟨((Only.refl m _).setCell 1 _).cell k1 l4, ((Only.refl m _).setCell 1 _).cell x0 l3, ((Only.refl m _).setCell 1 _).cell z0 l2⟩)) (fun hHeld' => ?_)
              clear hKq Kq hHeld; have hHeld := hHeld'; clear hHeld'
              try simp only [Act.put, List.setIfInBounds_toArray, List.set_cons_zero, List.set_cons_succ]
              refine wpAnyH_ready (rs := [10]) (by kernel_rfl) (by simp) ?_
              refine (MyHeld.next 10 (.s (.s (.s (.s (.s (.s (.s (.s (.s (.s .z)))))))))) (fun Kq hKq => ?_) AllReadyH.nil)
              go_simp
              refine hKq.out _ _ (by (try dsimp only); (first | exact ⟨k1, x0, z0⟩ | exact ⟨((Only.refl m _).setCell 1 _).cell k1 l4, ((Only.refl m _).setCell 1 _).cell x0 l3, ((Only.refl m _).setCell 1 _).cell z0 l2⟩)) (fun hHeld' => ?_)
              clear hKq Kq hHeld; have hHeld := hHeld'; clear hHeld'
              try simp only [Act.put, List.setIfInBounds_toArray, List.set_cons_zero, List.set_cons_succ]
              refine MyHeld.take 11 (v := ?_) (.s (.s (.s (.s (.s (.s (.s (.s (.s (.s (.s .z))))))))))) (by kernel_rfl) (by kernel_rfl) (by kernel_rfl) (fun _ _ _ h => h) (by rfl) (by assumption) ?_ ?_
              rotate_left
              · intro w hSw; (try dsimp only at hSw); go_simp; (try with_reducible rfl)
              try simp only [Act.put, List.setIfInBounds_toArray, List.set_cons_zero, List.set_cons_succ]
              refine wpAnyH_ready (rs := [12]) (by kernel_rfl) (by simp) ?_
              refine (MyHeld.next 12 (.s (.s (.s (.s (.s (.s (.s (.s (.s (.s (.s (.s .z)))))))))))) (fun Kq hKq => ?_) AllReadyH.nil)
              go_simp
              refine hKq.out _ _ (by (try dsimp only); (first | exact ⟨k1, x0, z0⟩ | exact ⟨((Only.refl m _).setCell 1 _).cell k1 l4, ((Only.refl m _).setCell 1 _).cell x0 l3, ((Only.refl m _).setCell 1 _).cell z0 l2⟩)) (fun hHeld' => ?_)
              clear hKq Kq hHeld; have hHeld := hHeld'; clear hHeld'
              try simp only [Act.put, List.setIfInBounds_toArray, List.set_cons_zero, List.set_cons_succ]
              refine wpAnyH_done (by kernel_rfl) ?_ _
              all_goals
                replace HM2 := Lib.hid (HM2.out _ rfl)
                clear k0 k1 m0 m1 m2 m3 g0 g1 g2 g3 x0 z0 K HM
                go_wp2_with fail
                go_roundw
                case rel => exact ⟨k + 1, by omega, by go_num, HM2.out⟩
                case measure => simp [intOf]; omega
            · rw [if_neg c2] at HSt
              have HM2 := Lib.hid (fun (W' : World) (hW : W' = (wq.setCell ⟨m, 1, none⟩ (.int .i64 S2)).drew) => K.out.high (v := S1) (u := S2) HM.out.1 (by have := HM.out.2; rw [← HE2.out.2.1] at this; exact this) hW HSt.out.1.symm HSt.out.2.symm)
              refine wp_region_held_drew (S := (fun w' => w'.cell? ⟨w.heap.size, 1, none⟩ = some (.slice (some ⟨b2, o2, none⟩) 201 cH) ∧ w'.cell? ⟨b3, o3 + k, none⟩ = some (.int .i64 (J : Int)) ∧ w'.cell? ⟨b2, o2 + J, none⟩ = some (.int .i64 Y))) (by kernel_rfl) (by (try dsimp only); (first | exact ⟨k1, x0, z0⟩ | exact ⟨((Only.refl m _).setCell 1 _).cell k1 l4, ((Only.refl m _).setCell 1 _).cell x0 l3, ((Only.refl m _).setCell 1 _).cell z0 l2⟩)) (fun hHeld => ?_)
              refine MyHeld.take 0 (v := ?_) .z (by kernel_rfl) (by kernel_rfl) (by kernel_rfl) (fun _ _ _ h => h) (by rfl) (by assumption) ?_ ?_
              rotate_left
              · intro w hSw; (try dsimp only at hSw); go_simp; (try with_reducible rfl)
              try simp only [Act.put, List.setIfInBounds_toArray, List.set_cons_zero, List.set_cons_succ]
              refine MyHeld.take 2 (v := ?_) (.s (.s .z)) (by kernel_rfl) (by kernel_rfl) (by kernel_rfl) (fun _ _ _ h => h) (by rfl) (by assumption) ?_ ?_
              rotate_left
              · intro w hSw; (try dsimp only at hSw); go_simp; (try with_reducible rfl)
              try simp only [Act.put, List.setIfInBounds_toArray, List.set_cons_zero, List.set_cons_succ]
              refine MyHeld.take 3 (v := ?_) (.s (.s (.s .z))) (by kernel_rfl) (by kernel_rfl) (by kernel_rfl) (fun _ _ _ h => h) (by rfl) (by assumption) ?_ ?_
              rotate_left
              · intro w hSw; (try dsimp only at hSw); go_simp; (try with_reducible rfl)
              try simp only [Act.put, List.setIfInBounds_toArray, List.set_cons_zero, List.set_cons_succ]
              refine MyHeld.take 4 (v := ?_) (.s (.s (.s (.s .z)))) (by kernel_rfl) (by kernel_rfl) (by kernel_rfl) (fun _ _ _ h => h) (by rfl) (by assumption) ?_ ?_
              rotate_left
              · intro w hSw; (try dsimp only at hSw); go_simp; (try with_reducible rfl)
              try simp only [Act.put, List.setIfInBounds_toArray, List.set_cons_zero, List.set_cons_succ]
              refine MyHeld.take 5 (v := ?_) (.s (.s (.s (.s (.s .z))))) (by kernel_rfl) (by kernel_rfl) (by kernel_rfl) (fun _ _ _ h => h) (by rfl) (by assumption) ?_ ?_
              rotate_left
              · intro w hSw; (try dsimp only at hSw); go_simp; (try with_reducible rfl)
              try simp only [Act.put, List.setIfInBounds_toArray, List.set_cons_zero, List.set_cons_succ]
              refine MyHeld.take 6 (v := ?_) (.s (.s (.s (.s (.s (.s .z)))))) (by kernel_rfl) (by kernel_rfl) (by kernel_rfl) (fun _ _ _ h => h) (by rfl) (by assumption) ?_ ?_
              rotate_left
              · intro w hSw; (try dsimp only at hSw); go_simp; (try with_reducible rfl)
              try simp only [Act.put, List.setIfInBounds_toArray, List.set_cons_zero, List.set_cons_succ]
              refine MyHeld.take 7 (v := ?_) (.s (.s (.s (.s (.s (.s (.s .z))))))) (by kernel_rfl) (by kernel_rfl) (by kernel_rfl) (fun _ _ _ h => h) (by rfl) (by assumption) ?_ ?_
              rotate_left
              · intro w hSw; (try dsimp only at hSw); go_simp; (try with_reducible rfl)
              try simp only [Act.put, List.setIfInBounds_toArray, List.set_cons_zero, List.set_cons_succ]
              refine MyHeld.take 8 (v := ?_) (.s (.s (.s (.s (.s (.s (.s (.s .z)))))))) (by kernel_rfl) (by kernel_rfl) (by kernel_rfl) (fun _ _ _ h => h) (by rfl) (by assumption) ?_ ?_
              rotate_left
              · intro w hSw; (try dsimp only at hSw); go_simp; (try with_reducible rfl)
              try simp only [Act.put, List.setIfInBounds_toArray, List.set_cons_zero, List.set_cons_succ]
              refine MyHeld.take 9 (v := ?_) (.s (.s (.s (.s (.s (.s (.s (.s (.s .z))))))))) (by kernel_rfl) (by kernel_rfl) (by kernel_rfl) (fun _ _ _ h => h) (by rfl) (by assumption) ?_ ?_
              rotate_left
              · intro w hSw; (try dsimp only at hSw); go_simp; (try with_reducible rfl)
              try simp only [Act.put, List.setIfInBounds_toArray, List.set_cons_zero, List.set_cons_succ]
              refine wpAnyH_ready (rs := [1]) (by kernel_rfl) (by simp) ?_
              refine (MyHeld.next 1 (.s .z) (fun Kq hKq => ?_) AllReadyH.nil)
              go_simp
              refine hKq.out _ _ (by (try dsimp only); (first | exact ⟨k1, x0, z0⟩ | exact ⟨((Only.refl m _).setCell 1 _).cell k1 l4, ((Only.refl m _).setCell 1 _).cell x0 l3, ((Only.refl m _).setCell 1 _).cell z0 l2⟩)) (fun hHeld' => ?_)
              clear hKq Kq hHeld; have hHeld := hHeld'; clear hHeld'
              try simp only [Act.put, List.setIfInBounds_toArray, List.set_cons_zero, List.set_cons_succ]
              refine wpAnyH_ready (rs := [10]) (by kernel_rfl) (by simp) ?_
              refine (MyHeld.next 10 (.s (.s (.s (.s (.s (.s (.s (.s (.s (.s .z)))))))))) (fun Kq hKq => ?_) AllReadyH.nil)
              go_simp
              refine hKq.out _ _ (by (try dsimp only); (first | exact ⟨k1, x0, z0⟩ | exact ⟨((Only.refl m _).setCell 1 _).cell k1 l4, ((Only.refl m _).setCell 1 _).cell x0 l3, ((Only.refl m _).setCell 1 _).cell z0 l2⟩)) (fun hHeld' => ?_)
              clear hKq Kq hHeld; have hHeld := hHeld'; clear hHeld'
              try simp only [Act.put, List.setIfInBounds_toArray, List.set_cons_zero, List.set_cons_succ]
              refine MyHeld.take 11 (v := ?_) (.s (.s (.s (.s (.s (.s (.s (.s (.s (.s (.s .z))))))))))) (by kernel_rfl) (by kernel_rfl) (by kernel_rfl) (fun _ _ _ h => h) (by rfl) (by assumption) ?_ ?_
              rotate_left
              · intro w hSw; (try dsimp only at hSw); go_simp; (try with_reducible rfl)
              try simp only [Act.put, List.setIfInBounds_toArray, List.set_cons_zero, List.set_cons_succ]
              refine wpAnyH_ready (rs := [12]) (by kernel_rfl) (by simp) ?_
              refine (MyHeld.next 12 (.s (.s (.s (.s (.s (.s (.s (.s (.s (.s (.s (.s .z)))))))))))) (fun Kq hKq => ?_) AllReadyH.nil)
              go_simp
              refine hKq.out _ _ (by (try dsimp only); (first | exact ⟨k1, x0, z0⟩ | exact ⟨((Only.refl m _).setCell 1 _).cell k1 l4, ((Only.refl m _).setCell 1 _).cell x0 l3, ((Only.refl m _).setCell 1 _).cell z0 l2⟩)) (fun hHeld' => ?_)
              clear hKq Kq hHeld; have hHeld := hHeld'; clear hHeld'
              try simp only [Act.put, List.setIfInBounds_toArray, List.set_cons_zero, List.set_cons_succ]
              refine wpAnyH_done (by kernel_rfl) ?_ _
              all_goals
                replace HM2 := Lib.hid (HM2.out _ rfl)
                clear k0 k1 m0 m1 m2 m3 g0 g1 g2 g3 x0 z0 K HM
                go_wp2_with fail
                go_roundw
                case rel => exact ⟨k + 1, by omega, by go_num, HM2.out⟩
                case measure => simp [intOf]; omega
      · obtain rfl : k = n + 1 := by omega
        obtain ⟨⟨m0, m1, m2, m3⟩, g0, g1, g2, g3⟩ := four_facts K.out.M
        obtain ⟨⟨r0, r1, r2, r3⟩, f0, f1, f2, f3⟩ := four_facts K.out.RR
        go_wp2_with fail
        obtain ⟨hB, s0, s1, s2, s3⟩ := put4 (.int .i64 (sR lo hi (n + 1)).1) (.int .i64 (sR lo hi (n + 1)).2) (.int .i64 s) (.int .i64 f) K.out.B K.out.RR (by omega) _ rfl
        refine bodyPost_ret (v := .tuple #[.agg #[.int .i64 (sR lo hi (n + 1)).1, .int .i64 (sR lo hi (n + 1)).2, .int .i64 s, .int .i64 f], .int .i64 0]) ?_ rfl ⟨by rw [HX1.out, HX2.out]; rfl, hB⟩
        simp [results, Try.f29, go_sem, s0, s1, s2, s3]
theorem rSpread_call (aL aH : Option Addr) (nL nH cL cH : Nat) (lo hi : List Int) (w : World) (hL : Ints w aL nL lo) (hH : Ints w aH nH hi) :
    Calls Try.prog 29 #[bdV aL nL cL aH nH cH] w (SpPost lo hi w) := by
  by_cases hE : chB lo hi = 0
  · obtain ⟨e1, e2, -⟩ := chB_ok hE
    obtain rfl : nL = 201 := by rw [← hL.len]; exact e1
    obtain rfl : nH = 201 := by rw [← hH.len]; exact e2
    cases hn : (rL lo hi 201).length with
    | zero => exact rSpread_none aL aH cL cH lo hi w hE hn hL hH
    | succ n =>
      obtain ⟨b1, o1, rfl, -⟩ := ints_at hL (k := 0) (by decide)
      obtain ⟨b2, o2, rfl, -⟩ := ints_at hH (k := 0) (by decide)
      exact rSpread_ok b1 o1 b2 o2 cL cH lo hi n w hE hn hL hH
  · exact rSpread_ch aL aH nL nH cL cH lo hi w hE hL hH
end Go.Proofs.Ytojjhkahigdkoaa
