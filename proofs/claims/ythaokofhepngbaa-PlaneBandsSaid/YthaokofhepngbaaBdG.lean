/-
  Altitude in seat 36: made (printed by genBand.py)
-/
import Derived.Test.YthaokofhepngbaaBdD
namespace Go.Proofs.Ythaokofhepngbaa.Alt
open Go.RowKit AltMath MyHeap MyCopy MyOwn

theorem madeI (n : Nat) : (madeCells #[.int .i64 0] n).toList = flatI (List.replicate n 0) := by
  rw [toList_madeCells_one]; simp [flatI]
theorem hmkI (n : Nat) (hn : n ≤ 1000000) (W : World) : (Instr.makeSlice 48 (.int .i64 (n : Int)) (.int .i64 (n : Int))).run Try.prog W = .ok (.slice (some ⟨W.heap.size, 0, none⟩) n n) (W.alloc (.cells (madeCells #[.int .i64 0] n) 3)) := by
  obtain ⟨i0, hi, hiz, his, hib⟩ := info_parts' infoI
  have h := run_make W 48 3 i0 _ Try.underlying48 hi hiz .i64 .i64 (n : Int) (n : Int) (by omega) (by omega) (by rw [hib]; omega) (by omega)
  rw [Int.toNat_natCast, his, Nat.mul_one] at h
  exact h
/-- Two numbers as a result; new blocks alone are made. -/
def PairPost (a b : Int) (w : World) (e : Ending) (w' : World) : Prop := e = .returned (.tuple #[.int .i64 a, .int .i64 b]) ∧ Below w.heap.size w w'
theorem pairPost_of {a b a' b' : Int} {w w' : World} (h1 : a = a') (h2 : b = b') (hB : Below w.heap.size w w') : PairPost a' b' w (.returned (.tuple #[.int .i64 a, .int .i64 b])) w' := by subst h1; subst h2; exact ⟨rfl, hB⟩
theorem below_drew (w : World) : Below w.heap.size w w.drew := ⟨rfl, rfl, rfl, Nat.le_refl _, fun _ _ => rfl⟩
theorem new1_call (alt size : Int) (p q : Nat) (i : Int) (W : World) (h1 : W.cell? ⟨p, 0, none⟩ = some (.int .i64 alt)) (h2 : W.cell? ⟨q, 0, none⟩ = some (.int .i64 size)) (a1 : -1000 ≤ alt) (a2 : alt ≤ 50000) (s1 : 25 ≤ size) (s2 : size ≤ 100) :
    Calls Try.prog 35 #[.int .i64 i, .pointer (some ⟨p, 0, none⟩), .pointer (some ⟨q, 0, none⟩)] W (PairPost alt (min (alt + size - 1) 50000) W) := by
  go_enter Try.func35, Try.ntmps35
  go_wp2_with fail
  go_region
  all_goals
    go_wp2_with fail
    all_goals
      go_ret2
      exact pairPost_of rfl (by omega) (below_drew _)

theorem own_row {w : World} {b base n : Nat} {cs : Array Value} {ys : List Int} (h : w.heap[b]? = some (.cells cs 3 (0, 0))) (hb : base ≤ b) (hcs : cs.toList = flatI ys) (hn : ys.length = n) (hm : n ≤ 1000) : w.ownsRow base 3 1 (.slice (some ⟨b, 0, none⟩) n n) n (flatI ys) := by
  have hl : (flatI ys).length = n := by rw [flatI_len, hn]
  refine ⟨by rw [hl, Nat.mul_one], Or.inr ⟨b, n, cs, rfl, hb, h, Nat.le_refl _, by unfold maxLen; omega, ?_, ?_⟩⟩
  · rw [Nat.mul_one, ← Array.length_toList, hcs, hl]
  · rw [hcs, Nat.mul_one]
    exact List.take_of_length_le (by rw [hl]; exact Nat.le_refl _)
/-- The rows after k rounds. -/
def mdL (f : Nat → Int × Int) (k : Nat) : List Int := loK f k ++ List.replicate (201 - k) 0
def mdH (f : Nat → Int × Int) (k : Nat) : List Int := hiK f k ++ List.replicate (201 - k) 0
theorem set_next {xs : List Int} {k : Nat} {x : Int} (hx : xs.length = k) (hk : k < 201) : (xs ++ List.replicate (201 - k) 0).set k x = (xs ++ [x]) ++ List.replicate (201 - (k + 1)) 0 := by
  obtain ⟨m, hm⟩ : ∃ m, 201 - k = m + 1 := ⟨200 - k, by omega⟩
  rw [hm, show 201 - (k + 1) = m by omega, List.replicate_succ, List.set_append, if_neg (by omega), hx, Nat.sub_self, List.set_cons_zero, List.append_assoc]
  rfl
theorem flatI_set (xs : List Int) (k : Nat) (x : Int) : (flatI xs).set k (.int .i64 x) = flatI (xs.set k x) := by unfold flatI; rw [List.map_set]
theorem mdL_next (f : Nat → Int × Int) {k : Nat} (hk : k < 201) : (flatI (mdL f k)).set k (.int .i64 (nm (f k)).1) = flatI (mdL f (k + 1)) := by
  rw [flatI_set]; unfold mdL; rw [set_next (loK_len f k) hk, loK_succ]
theorem mdH_next (f : Nat → Int × Int) {k : Nat} (hk : k < 201) : (flatI (mdH f k)).set k (.int .i64 (nm (f k)).2) = flatI (mdH f (k + 1)) := by
  rw [flatI_set]; unfold mdH; rw [set_next (hiK_len f k) hk, hiK_succ]
/-- Between two rounds. -/
structure MdK (w0 : World) (bL bH bB : Nat) (f : Nat → Int × Int) (k : Nat) (W : World) : Prop where
  B : Below w0.heap.size w0 W
  R : W.heap[w0.heap.size]? = some (.cells #[.slice none 0 0, .slice none 0 0] 50 (0, 0))
  X : W.heap[bB]? = some (.cells #[.slice (some ⟨bL, 0, none⟩) 201 201, .slice (some ⟨bH, 0, none⟩) 201 201] 50 (0, 0))
  L : ∃ cs : Array Value, W.heap[bL]? = some (.cells cs 3 (0, 0)) ∧ cs.toList = flatI (mdL f k)
  H : ∃ cs : Array Value, W.heap[bH]? = some (.cells cs 3 (0, 0)) ∧ cs.toList = flatI (mdH f k)
  n1 : w0.heap.size < bL
  n2 : w0.heap.size < bH
  n3 : w0.heap.size < bB
  d1 : bL ≠ bH
  d2 : bB ≠ bL
  d3 : bB ≠ bH
theorem MdK.keep {w0 W W' : World} {bL bH bB : Nat} {f : Nat → Int × Int} {k : Nat} (h : MdK w0 bL bH bB f k W) (hb : Below W.heap.size W W') : MdK w0 bL bH bB f k W' :=
  ⟨h.B.trans (hb.mono h.B.size), keepO hb h.R, keepO hb h.X, by obtain ⟨cs, h1, h2⟩ := h.L; exact ⟨cs, keepO hb h1, h2⟩, by obtain ⟨cs, h1, h2⟩ := h.H; exact ⟨cs, keepO hb h1, h2⟩, h.n1, h.n2, h.n3, h.d1, h.d2, h.d3⟩

theorem row_at {xs : List Int} {k : Nat} {cs : Array Value} (hx : xs.length = k) (hk : k < 201) (h : cs.toList = flatI (xs ++ List.replicate (201 - k) 0)) : cs[k]? = some (.int .i64 0) := by
  rw [← Array.getElem?_toList, h]
  unfold flatI
  rw [List.getElem?_map, List.getElem?_append_right (by omega), hx, Nat.sub_self, List.getElem?_replicate, if_pos (by omega)]
  rfl
theorem MdK.facts {w0 W : World} {bL bH bB : Nat} {f : Nat → Int × Int} {k : Nat} (h : MdK w0 bL bH bB f k W) (hk : k < 201) :
    W.cell? ⟨bL, k, none⟩ = some (.int .i64 0) ∧ W.cell? ⟨bH, k, none⟩ = some (.int .i64 0) ∧ W.frozen? ⟨bL, k, none⟩ = false ∧ W.frozen? ⟨bH, k, none⟩ = false := by
  obtain ⟨cs, h1, h2⟩ := h.L
  obtain ⟨ds, h3, h4⟩ := h.H
  exact ⟨cell_of_block h1 (row_at (loK_len f k) hk h2), cell_of_block h3 (row_at (hiK_len f k) hk h4), free_of_block h1, free_of_block h3⟩
theorem set_list {cs : Array Value} {k : Nat} {v : Value} : (cs.setIfInBounds k v).toList = cs.toList.set k v := by simp
theorem MdK.storeL {w0 W : World} {bL bH bB : Nat} {f : Nat → Int × Int} {k : Nat} (h : MdK w0 bL bH bB f k W) (hk : k < 201) {x y : Int} (hx : (nm (f k)).1 = x) (hy : (nm (f k)).2 = y) : MdK w0 bL bH bB f (k + 1) ((W.setCell ⟨bL, k, none⟩ (.int .i64 x)).setCell ⟨bH, k, none⟩ (.int .i64 y)) := by
  subst hx; subst hy
  obtain ⟨cs, h1, h2⟩ := h.L
  obtain ⟨ds, h3, h4⟩ := h.H
  have o1 : Only bL W (W.setCell ⟨bL, k, none⟩ (.int .i64 (nm (f k)).1)) := (Only.refl _ _).setCell k _
  have o2 : Only bH (W.setCell ⟨bL, k, none⟩ (.int .i64 (nm (f k)).1)) ((W.setCell ⟨bL, k, none⟩ (.int .i64 (nm (f k)).1)).setCell ⟨bH, k, none⟩ (.int .i64 (nm (f k)).2)) := (Only.refl _ _).setCell k _
  have b1 := h.B.trans (o1.below (Nat.le_of_lt h.n1) h.B.size)
  exact ⟨b1.trans (o2.below (Nat.le_of_lt h.n2) b1.size), o2.keeps (o1.keeps h.R (Nat.ne_of_lt h.n1)) (Nat.ne_of_lt h.n2), o2.keeps (o1.keeps h.X h.d2) h.d3,
    ⟨_, o2.keeps (block_setCell h1) h.d1, by rw [set_list, h2, mdL_next f hk]⟩, ⟨_, block_setCell (o1.keeps h3 h.d1.symm), by rw [set_list, h4, mdH_next f hk]⟩, h.n1, h.n2, h.n3, h.d1, h.d2, h.d3⟩
theorem MdK.storeH {w0 W : World} {bL bH bB : Nat} {f : Nat → Int × Int} {k : Nat} (h : MdK w0 bL bH bB f k W) (hk : k < 201) {x y : Int} (hx : (nm (f k)).1 = x) (hy : (nm (f k)).2 = y) : MdK w0 bL bH bB f (k + 1) ((W.setCell ⟨bH, k, none⟩ (.int .i64 y)).setCell ⟨bL, k, none⟩ (.int .i64 x)) := by
  subst hx; subst hy
  obtain ⟨cs, h1, h2⟩ := h.L
  obtain ⟨ds, h3, h4⟩ := h.H
  have o1 : Only bH W (W.setCell ⟨bH, k, none⟩ (.int .i64 (nm (f k)).2)) := (Only.refl _ _).setCell k _
  have o2 : Only bL (W.setCell ⟨bH, k, none⟩ (.int .i64 (nm (f k)).2)) ((W.setCell ⟨bH, k, none⟩ (.int .i64 (nm (f k)).2)).setCell ⟨bL, k, none⟩ (.int .i64 (nm (f k)).1)) := (Only.refl _ _).setCell k _
  have b1 := h.B.trans (o1.below (Nat.le_of_lt h.n2) h.B.size)
  exact ⟨b1.trans (o2.below (Nat.le_of_lt h.n1) b1.size), o2.keeps (o1.keeps h.R (Nat.ne_of_lt h.n2)) (Nat.ne_of_lt h.n1), o2.keeps (o1.keeps h.X h.d3) h.d2,
    ⟨_, block_setCell (o1.keeps h1 h.d1), by rw [set_list, h2, mdL_next f hk]⟩, ⟨_, o2.keeps (block_setCell h3) h.d1.symm, by rw [set_list, h4, mdH_next f hk]⟩, h.n1, h.n2, h.n3, h.d1, h.d2, h.d3⟩
theorem MdK.two {w0 W : World} {bL bH bB : Nat} {f : Nat → Int × Int} (h : MdK w0 bL bH bB f 201 W) : TwoOwn (w0.heap.size + 1) (.slice (some ⟨bL, 0, none⟩) 201 201) (.slice (some ⟨bH, 0, none⟩) 201 201) (loK f 201) (hiK f 201) W := by
  obtain ⟨cs, h1, h2⟩ := h.L
  obtain ⟨ds, h3, h4⟩ := h.H
  have e1 : mdL f 201 = loK f 201 := by unfold mdL; simp
  have e2 : mdH f 201 = hiK f 201 := by unfold mdH; simp
  rw [e1] at h2
  rw [e2] at h4
  refine ⟨by rw [loK_len]; exact own_row h1 h.n1 h2 (loK_len f 201) (by decide), by rw [hiK_len]; exact own_row h3 h.n2 h4 (hiK_len f 201) (by decide), fun g e1 e2 => ?_⟩
  cases e1
  cases e2
  exact h.d1 rfl
theorem md0 (f : Nat → Int × Int) : (madeCells #[.int .i64 0] 201).toList = flatI (mdL f 0) ∧ (madeCells #[.int .i64 0] 201).toList = flatI (mdH f 0) := ⟨madeI 201, madeI 201⟩


set_option maxRecDepth 100000 in
set_option maxHeartbeats 8000000 in
theorem made_call (f : Nat → Int × Int) (g : Nat) (caps : Array Value) (w : World) (hen : ∀ (args : Array Value) (W : World), (callFunc g args).run Try.prog W = .ok (.enter g args) W) (hat : ∀ W, Below w.heap.size w W → ∀ i : Nat, i < 201 → Calls Try.prog g (#[.int .i64 (i : Int)] ++ caps) W (PairPost (f i).1 (f i).2 W)) :
    Calls Try.prog 34 #[.func (.func g) #[] caps] w (PtPost w.heap.size (loK f 201) (hiK f 201) w) := by
  have mk : ∀ W : World, (Instr.makeSlice 48 (.int .i64 201) (.int .i64 201)).run Try.prog W = .ok (.slice (some ⟨W.heap.size, 0, none⟩) 201 201) (W.alloc (.cells (madeCells #[.int .i64 0] 201) 3)) := hmkI 201 (by decide)
  have HAT := Lib.hid hat
  have HMD := Lib.hid (md0 f)
  clear hat
  go_enter Try.func34, Try.ntmps34
  go_wp2_with fail
  go_region
  all_goals go_wp2_with fail
  have K := Lib.hid (show MdK w (w.heap.size + 1) (w.heap.size + 1 + 1) (w.heap.size + 1 + 1 + 1) f 0 (((((w.alloc (.cells #[.slice none 0 0, .slice none 0 0] 50)).alloc (.cells (madeCells #[.int .i64 0] 201) 3)).alloc (.cells (madeCells #[.int .i64 0] 201) 3)).alloc (.cells #[.slice (some ⟨w.heap.size + 1, 0, none⟩) 201 201, .slice (some ⟨w.heap.size + 1 + 1, 0, none⟩) 201 201] 50)).drew) from ⟨((((below_alloc w _).alloc (by simp) _).alloc (by simp; omega) _).alloc (by simp; omega) _).drew, block_alloc (block_alloc (block_alloc (block_new _ _ rfl))), (block_new _ _ (by simp)), ⟨_, (block_alloc (block_alloc (block_new _ _ (by simp)))), HMD.out.1⟩, ⟨_, (block_alloc (block_new _ _ (by simp))), HMD.out.2⟩, by omega, by omega, by omega, by omega, by omega, by omega⟩)
  generalize ((((w.alloc (.cells #[.slice none 0 0, .slice none 0 0] 50)).alloc (.cells (madeCells #[.int .i64 0] 201) 3)).alloc (.cells (madeCells #[.int .i64 0] 201) 3)).alloc (.cells #[.slice (some ⟨w.heap.size + 1, 0, none⟩) 201 201, .slice (some ⟨w.heap.size + 1 + 1, 0, none⟩) 201 201] 50)).drew = W0 at K ⊢
  generalize w.heap.size + 1 + 1 + 1 = bB at K ⊢
  generalize w.heap.size + 1 + 1 = bH at K ⊢
  generalize w.heap.size + 1 = bL at K ⊢
  rotate_left
  have K := Lib.hid (show MdK w (w.heap.size + 1) (w.heap.size + 1 + 1 + 1) (w.heap.size + 1 + 1) f 0 (((((w.alloc (.cells #[.slice none 0 0, .slice none 0 0] 50)).alloc (.cells (madeCells #[.int .i64 0] 201) 3)).alloc (.cells #[.slice (some ⟨w.heap.size + 1, 0, none⟩) 201 201, .slice (some ⟨w.heap.size + 1 + 1 + 1, 0, none⟩) 201 201] 50)).alloc (.cells (madeCells #[.int .i64 0] 201) 3)).drew) from ⟨((((below_alloc w _).alloc (by simp) _).alloc (by simp; omega) _).alloc (by simp; omega) _).drew, block_alloc (block_alloc (block_alloc (block_new _ _ rfl))), (block_alloc (block_new _ _ (by simp))), ⟨_, (block_alloc (block_alloc (block_new _ _ (by simp)))), HMD.out.1⟩, ⟨_, (block_new _ _ (by simp)), HMD.out.2⟩, by omega, by omega, by omega, by omega, by omega, by omega⟩)
  generalize ((((w.alloc (.cells #[.slice none 0 0, .slice none 0 0] 50)).alloc (.cells (madeCells #[.int .i64 0] 201) 3)).alloc (.cells #[.slice (some ⟨w.heap.size + 1, 0, none⟩) 201 201, .slice (some ⟨w.heap.size + 1 + 1 + 1, 0, none⟩) 201 201] 50)).alloc (.cells (madeCells #[.int .i64 0] 201) 3)).drew = W0 at K ⊢
  generalize w.heap.size + 1 + 1 + 1 = bH at K ⊢
  generalize w.heap.size + 1 + 1 = bB at K ⊢
  generalize w.heap.size + 1 = bL at K ⊢
  rotate_left
  have K := Lib.hid (show MdK w (w.heap.size + 1 + 1) (w.heap.size + 1) (w.heap.size + 1 + 1 + 1) f 0 (((((w.alloc (.cells #[.slice none 0 0, .slice none 0 0] 50)).alloc (.cells (madeCells #[.int .i64 0] 201) 3)).alloc (.cells (madeCells #[.int .i64 0] 201) 3)).alloc (.cells #[.slice (some ⟨w.heap.size + 1 + 1, 0, none⟩) 201 201, .slice (some ⟨w.heap.size + 1, 0, none⟩) 201 201] 50)).drew) from ⟨((((below_alloc w _).alloc (by simp) _).alloc (by simp; omega) _).alloc (by simp; omega) _).drew, block_alloc (block_alloc (block_alloc (block_new _ _ rfl))), (block_new _ _ (by simp)), ⟨_, (block_alloc (block_new _ _ (by simp))), HMD.out.1⟩, ⟨_, (block_alloc (block_alloc (block_new _ _ (by simp)))), HMD.out.2⟩, by omega, by omega, by omega, by omega, by omega, by omega⟩)
  generalize ((((w.alloc (.cells #[.slice none 0 0, .slice none 0 0] 50)).alloc (.cells (madeCells #[.int .i64 0] 201) 3)).alloc (.cells (madeCells #[.int .i64 0] 201) 3)).alloc (.cells #[.slice (some ⟨w.heap.size + 1 + 1, 0, none⟩) 201 201, .slice (some ⟨w.heap.size + 1, 0, none⟩) 201 201] 50)).drew = W0 at K ⊢
  generalize w.heap.size + 1 + 1 + 1 = bB at K ⊢
  generalize w.heap.size + 1 + 1 = bL at K ⊢
  generalize w.heap.size + 1 = bH at K ⊢
  rotate_left
  have K := Lib.hid (show MdK w (w.heap.size + 1 + 1 + 1) (w.heap.size + 1) (w.heap.size + 1 + 1) f 0 (((((w.alloc (.cells #[.slice none 0 0, .slice none 0 0] 50)).alloc (.cells (madeCells #[.int .i64 0] 201) 3)).alloc (.cells #[.slice (some ⟨w.heap.size + 1 + 1 + 1, 0, none⟩) 201 201, .slice (some ⟨w.heap.size + 1, 0, none⟩) 201 201] 50)).alloc (.cells (madeCells #[.int .i64 0] 201) 3)).drew) from ⟨((((below_alloc w _).alloc (by simp) _).alloc (by simp; omega) _).alloc (by simp; omega) _).drew, block_alloc (block_alloc (block_alloc (block_new _ _ rfl))), (block_alloc (block_new _ _ (by simp))), ⟨_, (block_new _ _ (by simp)), HMD.out.1⟩, ⟨_, (block_alloc (block_alloc (block_new _ _ (by simp)))), HMD.out.2⟩, by omega, by omega, by omega, by omega, by omega, by omega⟩)
  generalize ((((w.alloc (.cells #[.slice none 0 0, .slice none 0 0] 50)).alloc (.cells (madeCells #[.int .i64 0] 201) 3)).alloc (.cells #[.slice (some ⟨w.heap.size + 1 + 1 + 1, 0, none⟩) 201 201, .slice (some ⟨w.heap.size + 1, 0, none⟩) 201 201] 50)).alloc (.cells (madeCells #[.int .i64 0] 201) 3)).drew = W0 at K ⊢
  generalize w.heap.size + 1 + 1 + 1 = bL at K ⊢
  generalize w.heap.size + 1 + 1 = bB at K ⊢
  generalize w.heap.size + 1 = bH at K ⊢
  rotate_left
  have K := Lib.hid (show MdK w (w.heap.size + 1 + 1) (w.heap.size + 1 + 1 + 1) (w.heap.size + 1) f 0 (((((w.alloc (.cells #[.slice none 0 0, .slice none 0 0] 50)).alloc (.cells #[.slice (some ⟨w.heap.size + 1 + 1, 0, none⟩) 201 201, .slice (some ⟨w.heap.size + 1 + 1 + 1, 0, none⟩) 201 201] 50)).alloc (.cells (madeCells #[.int .i64 0] 201) 3)).alloc (.cells (madeCells #[.int .i64 0] 201) 3)).drew) from ⟨((((below_alloc w _).alloc (by simp) _).alloc (by simp; omega) _).alloc (by simp; omega) _).drew, block_alloc (block_alloc (block_alloc (block_new _ _ rfl))), (block_alloc (block_alloc (block_new _ _ (by simp)))), ⟨_, (block_alloc (block_new _ _ (by simp))), HMD.out.1⟩, ⟨_, (block_new _ _ (by simp)), HMD.out.2⟩, by omega, by omega, by omega, by omega, by omega, by omega⟩)
  generalize ((((w.alloc (.cells #[.slice none 0 0, .slice none 0 0] 50)).alloc (.cells #[.slice (some ⟨w.heap.size + 1 + 1, 0, none⟩) 201 201, .slice (some ⟨w.heap.size + 1 + 1 + 1, 0, none⟩) 201 201] 50)).alloc (.cells (madeCells #[.int .i64 0] 201) 3)).alloc (.cells (madeCells #[.int .i64 0] 201) 3)).drew = W0 at K ⊢
  generalize w.heap.size + 1 + 1 + 1 = bH at K ⊢
  generalize w.heap.size + 1 + 1 = bL at K ⊢
  generalize w.heap.size + 1 = bB at K ⊢
  rotate_left
  have K := Lib.hid (show MdK w (w.heap.size + 1 + 1 + 1) (w.heap.size + 1 + 1) (w.heap.size + 1) f 0 (((((w.alloc (.cells #[.slice none 0 0, .slice none 0 0] 50)).alloc (.cells #[.slice (some ⟨w.heap.size + 1 + 1 + 1, 0, none⟩) 201 201, .slice (some ⟨w.heap.size + 1 + 1, 0, none⟩) 201 201] 50)).alloc (.cells (madeCells #[.int .i64 0] 201) 3)).alloc (.cells (madeCells #[.int .i64 0] 201) 3)).drew) from ⟨((((below_alloc w _).alloc (by simp) _).alloc (by simp; omega) _).alloc (by simp; omega) _).drew, block_alloc (block_alloc (block_alloc (block_new _ _ rfl))), (block_alloc (block_alloc (block_new _ _ (by simp)))), ⟨_, (block_new _ _ (by simp)), HMD.out.1⟩, ⟨_, (block_alloc (block_new _ _ (by simp))), HMD.out.2⟩, by omega, by omega, by omega, by omega, by omega, by omega⟩)
  generalize ((((w.alloc (.cells #[.slice none 0 0, .slice none 0 0] 50)).alloc (.cells #[.slice (some ⟨w.heap.size + 1 + 1 + 1, 0, none⟩) 201 201, .slice (some ⟨w.heap.size + 1 + 1, 0, none⟩) 201 201] 50)).alloc (.cells (madeCells #[.int .i64 0] 201) 3)).alloc (.cells (madeCells #[.int .i64 0] 201) 3)).drew = W0 at K ⊢
  generalize w.heap.size + 1 + 1 + 1 = bL at K ⊢
  generalize w.heap.size + 1 + 1 = bH at K ⊢
  generalize w.heap.size + 1 = bB at K ⊢
  rotate_left
  all_goals
    go_loopw [10] (fun kv wr => ∃ k : Nat, k ≤ 201 ∧ kv = .int .i64 k ∧ MdK w bL bH bB f k wr) (fun kv _ => 201 - (intOf kv).toNat)
    case atStart => exact ⟨0, Nat.zero_le _, rfl, K.out⟩
    case round =>
      clear K
      obtain ⟨k, hk, rfl, hK⟩ := hrel
      have K := Lib.hid hK
      clear hK
      by_cases hlt : k < 201
      · have hk0 : (0 : Int) ≤ (k : Int) := by omega
        have hk1 : (k : Int) < 201 := by omega
        go_wp2_with fail
        refine (HAT.out _ K.out.B k hlt).mono ?_; rintro e w3 ⟨rfl, hb⟩
        replace K := Lib.hid (K.out.keep hb)
        obtain ⟨c0, c1, -, -⟩ := two_facts K.out.X
        obtain ⟨x0, y0, f0, f1⟩ := K.out.facts hlt
        have e1 := K.out.d1
        have e2 := K.out.d2
        have e3 := K.out.d3
        clear hb
        by_cases hN : (f k).2 < (f k).1
        · have HN := Lib.hid hN
          go_wp2_with fail
          go_region
          all_goals
            go_wp2_with fail
            go_roundw
            case rel => exact ⟨k + 1, by omega, by go_num, by first | exact (K.out.keep (below_drew _)).storeL hlt (by rw [nm_no HN.out]) (by rw [nm_no HN.out]) | exact (K.out.keep (below_drew _)).storeH hlt (by rw [nm_no HN.out]) (by rw [nm_no HN.out])⟩
            case measure => simp [intOf]; omega
        · have HN := Lib.hid (show (f k).1 ≤ (f k).2 by omega)
          go_wp2_with fail
          go_region
          all_goals
            go_wp2_with fail
            go_roundw
            case rel => exact ⟨k + 1, by omega, by go_num, by first | exact (K.out.keep (below_drew _)).storeL hlt (by rw [nm_yes HN.out]) (by rw [nm_yes HN.out]) | exact (K.out.keep (below_drew _)).storeH hlt (by rw [nm_yes HN.out]) (by rw [nm_yes HN.out])⟩
            case measure => simp [intOf]; omega
      · obtain rfl : k = 201 := by omega
        obtain ⟨c0, c1, -, -⟩ := two_facts K.out.X
        obtain ⟨d0, d1, g0, g1⟩ := two_facts K.out.R
        clear hk hlt
        go_wp2_with fail
        have hx := block_setCell (i := 1) (v := .slice (some ⟨bH, 0, none⟩) 201 201) (block_setCell (i := 0) (v := .slice (some ⟨bL, 0, none⟩) 201 201) K.out.R)
        have hO : Only w.heap.size wr ((wr.setCell ⟨w.heap.size, 0, none⟩ (.slice (some ⟨bL, 0, none⟩) 201 201)).setCell ⟨w.heap.size, 1, none⟩ (.slice (some ⟨bH, 0, none⟩) 201 201)) := ((Only.refl _ _).setCell 0 _).setCell 1 _
        have r0 := cell_of_block (i := 0) (v := .slice (some ⟨bL, 0, none⟩) 201 201) hx rfl
        have r1 := cell_of_block (i := 1) (v := .slice (some ⟨bH, 0, none⟩) 201 201) hx rfl
        have hT := K.out.two
        refine bodyPost_ret (v := .agg #[.slice (some ⟨bL, 0, none⟩) 201 201, .slice (some ⟨bH, 0, none⟩) 201 201]) ?_ rfl ⟨_, _, rfl, TwoOwn.base ⟨own_keep hT.L hO (Or.inr fun e => by have := (hT.L.lt _ e).1; omega), own_keep hT.H hO (Or.inr fun e => by have := (hT.H.lt _ e).1; omega), hT.A⟩ (by omega), K.out.B.trans (hO.below (Nat.le_refl _) K.out.B.size)⟩
        simp [results, Try.f34, go_sem, r0, r1]
end Go.Proofs.Ythaokofhepngbaa.Alt
