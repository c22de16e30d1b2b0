/-
  PtAltG, PtAltH, PtAltI
-/
import Derived.Test.YtikjjpjekchcjaaPr4
import Derived.Test.YtikjjpjekchcjaaPr6
import Derived.Shelf.Abstract
import Derived.Test.YtikjjpjekchcjaaPr1
set_option linter.all false
set_option maxRecDepth 100000
set_option maxHeartbeats 64000000
section
namespace Go.Proofs.Ytikjjpjekchcjaa.Alt
open Go.RowKit AltMath MyHeap MyCopy MyOwn
theorem madeI (n : Nat) : (madeCells #[.int .i64 0] n).toList = flatI (List.replicate n 0) := by
 rw [toList_madeCells_one]; simp [flatI]
theorem hmkI (n : Nat) (hn : n ≤ 1000000) (W : World) : (Instr.makeSlice 35 (.int .i64 (n : Int)) (.int .i64 (n : Int))).run Try.prog W = .ok (.slice (some ⟨W.heap.size, 0, none⟩) n n) (W.alloc (.cells (madeCells #[.int .i64 0] n) 3)) := by
 obtain ⟨i0, hi, hiz, his, hib⟩ := info_parts' infoI
 have h := run_make W 35 3 i0 _ Try.underlying35 hi hiz .i64 .i64 (n : Int) (n : Int) (by omega) (by omega) (by rw [hib]; omega) (by omega)
 rw [Int.toNat_natCast, his, Nat.mul_one] at h
 exact h
def PairPost (a b : Int) (w : World) (e : Ending) (w' : World) : Prop := e = .returned (.tuple #[.int .i64 a, .int .i64 b]) ∧ Below w.heap.size w w'
theorem pairPost_of {a b a' b' : Int} {w w' : World} (h1 : a = a') (h2 : b = b') (hB : Below w.heap.size w w') : PairPost a' b' w (.returned (.tuple #[.int .i64 a, .int .i64 b])) w' := by subst h1; subst h2; exact ⟨rfl, hB⟩
theorem below_drew (w : World) : Below w.heap.size w w.drew := ⟨rfl, rfl, rfl, Nat.le_refl _, fun _ _ => rfl⟩
theorem new1_call (alt size : Int) (p q : Nat) (i : Int) (W : World) (h1 : W.cell? ⟨p, 0, none⟩ = some (.int .i64 alt)) (h2 : W.cell? ⟨q, 0, none⟩ = some (.int .i64 size)) (a1 : -1000 ≤ alt) (a2 : alt ≤ 50000) (s1 : 25 ≤ size) (s2 : size ≤ 100) :
    Calls Try.prog 44 #[.int .i64 i, .pointer (some ⟨p, 0, none⟩), .pointer (some ⟨q, 0, none⟩)] W (PairPost alt (min (alt + size - 1) 50000) W) := by
 go_enter Try.func44, Try.ntmps44
 go_wp2_with fail
 go_region
 all_goals
  go_wp2_with fail
  all_goals
   go_ret2
   exact pairPost_of rfl (by omega) (below_drew _)
theorem own_row {w : World} {b base n : Nat} {cs : Array Value} {ys : List Int} (h : w.heap[b]? = some (.cells cs 3 (0, 0))) (hb : base ≤ b) (hcs : cs.toList = flatI ys) (hn : ys.length = n) (hm : n ≤ 1000) : w.ownsRow base 3 1 (.slice (some ⟨b, 0, none⟩) n n) n (flatI ys) := by
 have hl : (flatI ys).length = n := by rw [flatI_len, hn]
 refine ⟨by rw [hl, Nat.mul_one], Or.inr ⟨b, n, cs, rfl, hb, h, Nat.le_refl _, by unfold maxLen; omega, ?_, ?_⟩⟩
 ·rw [Nat.mul_one, ← Array.length_toList, hcs, hl]
 rw [hcs, Nat.mul_one]
 exact List.take_of_length_le (by rw [hl]; exact Nat.le_refl _)
def mdL (f : Nat → Int × Int) (k : Nat) : List Int := loK f k ++ List.replicate (201 - k) 0
def mdH (f : Nat → Int × Int) (k : Nat) : List Int := hiK f k ++ List.replicate (201 - k) 0
theorem set_next {xs : List Int} {k : Nat} {x : Int} (hx : xs.length = k) (hk : k < 201) : (xs ++ List.replicate (201 - k) 0).set k x = (xs ++ [x]) ++ List.replicate (201 - (k + 1)) 0 := by
 obtain ⟨m, hm⟩ : ∃ m, 201 - k = m + 1 := ⟨200 - k, by omega⟩
 rw [hm, show 201 - (k + 1) = m by omega, List.replicate_succ, List.set_append, if_neg (by omega), hx, Nat.sub_self, List.set_cons_zero, List.append_assoc]
 rfl
theorem flatI_set (xs : List Int) (k : Nat) (x : Int) : (flatI xs).set k (.int .i64 x) = flatI (xs.set k x) := by unfold flatI; rw [List.map_set]
theorem mdL_next (f : Nat → Int × Int) {k : Nat} (hk : k < 201) : (flatI (mdL f k)).set k (.int .i64 (nm (f k)).1) = flatI (mdL f (k + 1)) := by
 rw [flatI_set]; unfold mdL; rw [set_next (loK_len f k) hk, loK_succ]
theorem mdH_next (f : Nat → Int × Int) {k : Nat} (hk : k < 201) : (flatI (mdH f k)).set k (.int .i64 (nm (f k)).2) = flatI (mdH f (k + 1)) := by
 rw [flatI_set]; unfold mdH; rw [set_next (hiK_len f k) hk, hiK_succ]
structure MdK (w0 : World) (bL bH bB : Nat) (f : Nat → Int × Int) (k : Nat) (W : World) : Prop where
 B : Below w0.heap.size w0 W
 R : W.heap[w0.heap.size]? = some (.cells #[.slice none 0 0, .slice none 0 0] 44 (0, 0))
 X : W.heap[bB]? = some (.cells #[.slice (some ⟨bL, 0, none⟩) 201 201, .slice (some ⟨bH, 0, none⟩) 201 201] 44 (0, 0))
 L : ∃ cs : Array Value, W.heap[bL]? = some (.cells cs 3 (0, 0)) ∧ cs.toList = flatI (mdL f k)
 H : ∃ cs : Array Value, W.heap[bH]? = some (.cells cs 3 (0, 0)) ∧ cs.toList = flatI (mdH f k)
 n1 : w0.heap.size < bL
 n2 : w0.heap.size < bH
 n3 : w0.heap.size < bB
 d1 : bL ≠ bH
 d2 : bB ≠ bL
 d3 : bB ≠ bH
theorem MdK.keep {w0 W W' : World} {bL bH bB : Nat} {f : Nat → Int × Int} {k : Nat} (h : MdK w0 bL bH bB f k W) (hb : Below W.heap.size W W') : MdK w0 bL bH bB f k W' :=
 ⟨h.B.trans (hb.mono h.B.size), keepO hb h.R, keepO hb h.X, by obtain ⟨cs, h1, h2⟩ := h.L; exact ⟨cs, keepO hb h1, h2⟩, by obtain ⟨cs, h1, h2⟩ := h.H; exact ⟨cs, keepO hb h1, h2⟩, h.n1, h.n2, h.n3, h.d1, h.d2, h.d3⟩
theorem row_at {xs : List Int} {k : Nat} {cs : Array Value} (hx : xs.length = k) (hk : k < 201) (h : cs.toList = flatI (xs ++ List.replicate (201 - k) 0)) : cs[k]? = some (.int .i64 0) := by
 rw [← Array.getElem?_toList, h]
 unfold flatI
 rw [List.getElem?_map, List.getElem?_append_right (by omega), hx, Nat.sub_self, List.getElem?_replicate, if_pos (by omega)]
 rfl
theorem MdK.facts {w0 W : World} {bL bH bB : Nat} {f : Nat → Int × Int} {k : Nat} (h : MdK w0 bL bH bB f k W) (hk : k < 201) :
    W.cell? ⟨bL, k, none⟩ = some (.int .i64 0) ∧ W.cell? ⟨bH, k, none⟩ = some (.int .i64 0) ∧ W.frozen? ⟨bL, k, none⟩ = false ∧ W.frozen? ⟨bH, k, none⟩ = false := by
 obtain ⟨cs, h1, h2⟩ := h.L
 obtain ⟨ds, h3, h4⟩ := h.H
 exact ⟨cell_of_block h1 (row_at (loK_len f k) hk h2), cell_of_block h3 (row_at (hiK_len f k) hk h4), free_of_block h1, free_of_block h3⟩
theorem set_list {cs : Array Value} {k : Nat} {v : Value} : (cs.setIfInBounds k v).toList = cs.toList.set k v := by simp
theorem MdK.storeL {w0 W : World} {bL bH bB : Nat} {f : Nat → Int × Int} {k : Nat} (h : MdK w0 bL bH bB f k W) (hk : k < 201) {x y : Int} (hx : (nm (f k)).1 = x) (hy : (nm (f k)).2 = y) : MdK w0 bL bH bB f (k + 1) ((W.setCell ⟨bL, k, none⟩ (.int .i64 x)).setCell ⟨bH, k, none⟩ (.int .i64 y)) := by
 subst hx; subst hy
 obtain ⟨cs, h1, h2⟩ := h.L
 obtain ⟨ds, h3, h4⟩ := h.H
 have o1 : Only bL W (W.setCell ⟨bL, k, none⟩ (.int .i64 (nm (f k)).1)) := (Only.refl _ _).setCell k _
 have o2 : Only bH (W.setCell ⟨bL, k, none⟩ (.int .i64 (nm (f k)).1)) ((W.setCell ⟨bL, k, none⟩ (.int .i64 (nm (f k)).1)).setCell ⟨bH, k, none⟩ (.int .i64 (nm (f k)).2)) := (Only.refl _ _).setCell k _
 have b1 := h.B.trans (o1.below (Nat.le_of_lt h.n1) h.B.size)
 exact ⟨b1.trans (o2.below (Nat.le_of_lt h.n2) b1.size), o2.keeps (o1.keeps h.R (Nat.ne_of_lt h.n1)) (Nat.ne_of_lt h.n2), o2.keeps (o1.keeps h.X h.d2) h.d3,
  ⟨_, o2.keeps (block_setCell h1) h.d1, by rw [set_list, h2, mdL_next f hk]⟩, ⟨_, block_setCell (o1.keeps h3 h.d1.symm), by rw [set_list, h4, mdH_next f hk]⟩, h.n1, h.n2, h.n3, h.d1, h.d2, h.d3⟩
theorem MdK.storeH {w0 W : World} {bL bH bB : Nat} {f : Nat → Int × Int} {k : Nat} (h : MdK w0 bL bH bB f k W) (hk : k < 201) {x y : Int} (hx : (nm (f k)).1 = x) (hy : (nm (f k)).2 = y) : MdK w0 bL bH bB f (k + 1) ((W.setCell ⟨bH, k, none⟩ (.int .i64 y)).setCell ⟨bL, k, none⟩ (.int .i64 x)) := by
 subst hx; subst hy
 obtain ⟨cs, h1, h2⟩ := h.L
 obtain ⟨ds, h3, h4⟩ := h.H
 have o1 : Only bH W (W.setCell ⟨bH, k, none⟩ (.int .i64 (nm (f k)).2)) := (Only.refl _ _).setCell k _
 have o2 : Only bL (W.setCell ⟨bH, k, none⟩ (.int .i64 (nm (f k)).2)) ((W.setCell ⟨bH, k, none⟩ (.int .i64 (nm (f k)).2)).setCell ⟨bL, k, none⟩ (.int .i64 (nm (f k)).1)) := (Only.refl _ _).setCell k _
 have b1 := h.B.trans (o1.below (Nat.le_of_lt h.n2) h.B.size)
 exact ⟨b1.trans (o2.below (Nat.le_of_lt h.n1) b1.size), o2.keeps (o1.keeps h.R (Nat.ne_of_lt h.n2)) (Nat.ne_of_lt h.n1), o2.keeps (o1.keeps h.X h.d3) h.d2,
  ⟨_, block_setCell (o1.keeps h1 h.d1), by rw [set_list, h2, mdL_next f hk]⟩, ⟨_, o2.keeps (block_setCell h3) h.d1.symm, by rw [set_list, h4, mdH_next f hk]⟩, h.n1, h.n2, h.n3, h.d1, h.d2, h.d3⟩
theorem MdK.two {w0 W : World} {bL bH bB : Nat} {f : Nat → Int × Int} (h : MdK w0 bL bH bB f 201 W) : TwoOwn (w0.heap.size + 1) (.slice (some ⟨bL, 0, none⟩) 201 201) (.slice (some ⟨bH, 0, none⟩) 201 201) (loK f 201) (hiK f 201) W := by
 obtain ⟨cs, h1, h2⟩ := h.L
 obtain ⟨ds, h3, h4⟩ := h.H
 have e1 : mdL f 201 = loK f 201 := by unfold mdL; simp
 have e2 : mdH f 201 = hiK f 201 := by unfold mdH; simp
 rw [e1] at h2
 rw [e2] at h4
 refine ⟨by rw [loK_len]; exact own_row h1 h.n1 h2 (loK_len f 201) (by decide), by rw [hiK_len]; exact own_row h3 h.n2 h4 (hiK_len f 201) (by decide), fun g e1 e2 => ?_⟩
 cases e1
 cases e2
 exact h.d1 rfl
theorem md0 (f : Nat → Int × Int) : (madeCells #[.int .i64 0] 201).toList = flatI (mdL f 0) ∧ (madeCells #[.int .i64 0] 201).toList = flatI (mdH f 0) := ⟨madeI 201, madeI 201⟩
theorem made_call (f : Nat → Int × Int) (g : Nat) (caps : Array Value) (w : World) (hen : ∀ (args : Array Value) (W : World), (callFunc g args).run Try.prog W = .ok (.enter g args) W) (hat : ∀ W, Below w.heap.size w W → ∀ i : Nat, i < 201 → Calls Try.prog g (#[.int .i64 (i : Int)] ++ caps) W (PairPost (f i).1 (f i).2 W)) :
    Calls Try.prog 43 #[.func (.func g) #[] caps] w (PtPost w.heap.size (loK f 201) (hiK f 201) w) := by
 have mk : ∀ W : World, (Instr.makeSlice 35 (.int .i64 201) (.int .i64 201)).run Try.prog W = .ok (.slice (some ⟨W.heap.size, 0, none⟩) 201 201) (W.alloc (.cells (madeCells #[.int .i64 0] 201) 3)) := hmkI 201 (by decide)
 have HAT := qh hat
 have HMD := qh (md0 f)
 clear hat
 go_enter Try.func43, Try.ntmps43
 go_wp2_with fail
 go_region
 all_goals go_wp2_with fail
 have K := qh (show MdK w (w.heap.size + 1) (w.heap.size + 1 + 1) (w.heap.size + 1 + 1 + 1) f 0 (((((w.alloc (.cells #[.slice none 0 0, .slice none 0 0] 44)).alloc (.cells (madeCells #[.int .i64 0] 201) 3)).alloc (.cells (madeCells #[.int .i64 0] 201) 3)).alloc (.cells #[.slice (some ⟨w.heap.size + 1, 0, none⟩) 201 201, .slice (some ⟨w.heap.size + 1 + 1, 0, none⟩) 201 201] 44)).drew) from ⟨((((below_alloc w _).alloc (by simp) _).alloc (by simp; omega) _).alloc (by simp; omega) _).drew, block_alloc (block_alloc (block_alloc (block_new _ _ rfl))), (block_new _ _ (by simp)), ⟨_, (block_alloc (block_alloc (block_new _ _ (by simp)))), HMD.out.1⟩, ⟨_, (block_alloc (block_new _ _ (by simp))), HMD.out.2⟩, by omega, by omega, by omega, by omega, by omega, by omega⟩)
 generalize ((((w.alloc (.cells #[.slice none 0 0, .slice none 0 0] 44)).alloc (.cells (madeCells #[.int .i64 0] 201) 3)).alloc (.cells (madeCells #[.int .i64 0] 201) 3)).alloc (.cells #[.slice (some ⟨w.heap.size + 1, 0, none⟩) 201 201, .slice (some ⟨w.heap.size + 1 + 1, 0, none⟩) 201 201] 44)).drew = W0 at K ⊢
 generalize w.heap.size + 1 + 1 + 1 = bB at K ⊢
 generalize w.heap.size + 1 + 1 = bH at K ⊢
 generalize w.heap.size + 1 = bL at K ⊢
 rotate_left
 have K := qh (show MdK w (w.heap.size + 1) (w.heap.size + 1 + 1 + 1) (w.heap.size + 1 + 1) f 0 (((((w.alloc (.cells #[.slice none 0 0, .slice none 0 0] 44)).alloc (.cells (madeCells #[.int .i64 0] 201) 3)).alloc (.cells #[.slice (some ⟨w.heap.size + 1, 0, none⟩) 201 201, .slice (some ⟨w.heap.size + 1 + 1 + 1, 0, none⟩) 201 201] 44)).alloc (.cells (madeCells #[.int .i64 0] 201) 3)).drew) from ⟨((((below_alloc w _).alloc (by simp) _).alloc (by simp; omega) _).alloc (by simp; omega) _).drew, block_alloc (block_alloc (block_alloc (block_new _ _ rfl))), (block_alloc (block_new _ _ (by simp))), ⟨_, (block_alloc (block_alloc (block_new _ _ (by simp)))), HMD.out.1⟩, ⟨_, (block_new _ _ (by simp)), HMD.out.2⟩, by omega, by omega, by omega, by omega, by omega, by omega⟩)
 generalize ((((w.alloc (.cells #[.slice none 0 0, .slice none 0 0] 44)).alloc (.cells (madeCells #[.int .i64 0] 201) 3)).alloc (.cells #[.slice (some ⟨w.heap.size + 1, 0, none⟩) 201 201, .slice (some ⟨w.heap.size + 1 + 1 + 1, 0, none⟩) 201 201] 44)).alloc (.cells (madeCells #[.int .i64 0] 201) 3)).drew = W0 at K ⊢
 generalize w.heap.size + 1 + 1 + 1 = bH at K ⊢
 generalize w.heap.size + 1 + 1 = bB at K ⊢
 generalize w.heap.size + 1 = bL at K ⊢
 rotate_left
 have K := qh (show MdK w (w.heap.size + 1 + 1) (w.heap.size + 1) (w.heap.size + 1 + 1 + 1) f 0 (((((w.alloc (.cells #[.slice none 0 0, .slice none 0 0] 44)).alloc (.cells (madeCells #[.int .i64 0] 201) 3)).alloc (.cells (madeCells #[.int .i64 0] 201) 3)).alloc (.cells #[.slice (some ⟨w.heap.size + 1 + 1, 0, none⟩) 201 201, .slice (some ⟨w.heap.size + 1, 0, none⟩) 201 201] 44)).drew) from ⟨((((below_alloc w _).alloc (by simp) _).alloc (by simp; omega) _).alloc (by simp; omega) _).drew, block_alloc (block_alloc (block_alloc (block_new _ _ rfl))), (block_new _ _ (by simp)), ⟨_, (block_alloc (block_new _ _ (by simp))), HMD.out.1⟩, ⟨_, (block_alloc (block_alloc (block_new _ _ (by simp)))), HMD.out.2⟩, by omega, by omega, by omega, by omega, by omega, by omega⟩)
 generalize ((((w.alloc (.cells #[.slice none 0 0, .slice none 0 0] 44)).alloc (.cells (madeCells #[.int .i64 0] 201) 3)).alloc (.cells (madeCells #[.int .i64 0] 201) 3)).alloc (.cells #[.slice (some ⟨w.heap.size + 1 + 1, 0, none⟩) 201 201, .slice (some ⟨w.heap.size + 1, 0, none⟩) 201 201] 44)).drew = W0 at K ⊢
 generalize w.heap.size + 1 + 1 + 1 = bB at K ⊢
 generalize w.heap.size + 1 + 1 = bL at K ⊢
 generalize w.heap.size + 1 = bH at K ⊢
 rotate_left
 have K := qh (show MdK w (w.heap.size + 1 + 1 + 1) (w.heap.size + 1) (w.heap.size + 1 + 1) f 0 (((((w.alloc (.cells #[.slice none 0 0, .slice none 0 0] 44)).alloc (.cells (madeCells #[.int .i64 0] 201) 3)).alloc (.cells #[.slice (some ⟨w.heap.size + 1 + 1 + 1, 0, none⟩) 201 201, .slice (some ⟨w.heap.size + 1, 0, none⟩) 201 201] 44)).alloc (.cells (madeCells #[.int .i64 0] 201) 3)).drew) from ⟨((((below_alloc w _).alloc (by simp) _).alloc (by simp; omega) _).alloc (by simp; omega) _).drew, block_alloc (block_alloc (block_alloc (block_new _ _ rfl))), (block_alloc (block_new _ _ (by simp))), ⟨_, (block_new _ _ (by simp)), HMD.out.1⟩, ⟨_, (block_alloc (block_alloc (block_new _ _ (by simp)))), HMD.out.2⟩, by omega, by omega, by omega, by omega, by omega, by omega⟩)
 generalize ((((w.alloc (.cells #[.slice none 0 0, .slice none 0 0] 44)).alloc (.cells (madeCells #[.int .i64 0] 201) 3)).alloc (.cells #[.slice (some ⟨w.heap.size + 1 + 1 + 1, 0, none⟩) 201 201, .slice (some ⟨w.heap.size + 1, 0, none⟩) 201 201] 44)).alloc (.cells (madeCells #[.int .i64 0] 201) 3)).drew = W0 at K ⊢
 generalize w.heap.size + 1 + 1 + 1 = bL at K ⊢
 generalize w.heap.size + 1 + 1 = bB at K ⊢
 generalize w.heap.size + 1 = bH at K ⊢
 rotate_left
 have K := qh (show MdK w (w.heap.size + 1 + 1) (w.heap.size + 1 + 1 + 1) (w.heap.size + 1) f 0 (((((w.alloc (.cells #[.slice none 0 0, .slice none 0 0] 44)).alloc (.cells #[.slice (some ⟨w.heap.size + 1 + 1, 0, none⟩) 201 201, .slice (some ⟨w.heap.size + 1 + 1 + 1, 0, none⟩) 201 201] 44)).alloc (.cells (madeCells #[.int .i64 0] 201) 3)).alloc (.cells (madeCells #[.int .i64 0] 201) 3)).drew) from ⟨((((below_alloc w _).alloc (by simp) _).alloc (by simp; omega) _).alloc (by simp; omega) _).drew, block_alloc (block_alloc (block_alloc (block_new _ _ rfl))), (block_alloc (block_alloc (block_new _ _ (by simp)))), ⟨_, (block_alloc (block_new _ _ (by simp))), HMD.out.1⟩, ⟨_, (block_new _ _ (by simp)), HMD.out.2⟩, by omega, by omega, by omega, by omega, by omega, by omega⟩)
 generalize ((((w.alloc (.cells #[.slice none 0 0, .slice none 0 0] 44)).alloc (.cells #[.slice (some ⟨w.heap.size + 1 + 1, 0, none⟩) 201 201, .slice (some ⟨w.heap.size + 1 + 1 + 1, 0, none⟩) 201 201] 44)).alloc (.cells (madeCells #[.int .i64 0] 201) 3)).alloc (.cells (madeCells #[.int .i64 0] 201) 3)).drew = W0 at K ⊢
 generalize w.heap.size + 1 + 1 + 1 = bH at K ⊢
 generalize w.heap.size + 1 + 1 = bL at K ⊢
 generalize w.heap.size + 1 = bB at K ⊢
 rotate_left
 have K := qh (show MdK w (w.heap.size + 1 + 1 + 1) (w.heap.size + 1 + 1) (w.heap.size + 1) f 0 (((((w.alloc (.cells #[.slice none 0 0, .slice none 0 0] 44)).alloc (.cells #[.slice (some ⟨w.heap.size + 1 + 1 + 1, 0, none⟩) 201 201, .slice (some ⟨w.heap.size + 1 + 1, 0, none⟩) 201 201] 44)).alloc (.cells (madeCells #[.int .i64 0] 201) 3)).alloc (.cells (madeCells #[.int .i64 0] 201) 3)).drew) from ⟨((((below_alloc w _).alloc (by simp) _).alloc (by simp; omega) _).alloc (by simp; omega) _).drew, block_alloc (block_alloc (block_alloc (block_new _ _ rfl))), (block_alloc (block_alloc (block_new _ _ (by simp)))), ⟨_, (block_new _ _ (by simp)), HMD.out.1⟩, ⟨_, (block_alloc (block_new _ _ (by simp))), HMD.out.2⟩, by omega, by omega, by omega, by omega, by omega, by omega⟩)
 generalize ((((w.alloc (.cells #[.slice none 0 0, .slice none 0 0] 44)).alloc (.cells #[.slice (some ⟨w.heap.size + 1 + 1 + 1, 0, none⟩) 201 201, .slice (some ⟨w.heap.size + 1 + 1, 0, none⟩) 201 201] 44)).alloc (.cells (madeCells #[.int .i64 0] 201) 3)).alloc (.cells (madeCells #[.int .i64 0] 201) 3)).drew = W0 at K ⊢
 generalize w.heap.size + 1 + 1 + 1 = bL at K ⊢
 generalize w.heap.size + 1 + 1 = bH at K ⊢
 generalize w.heap.size + 1 = bB at K ⊢
 rotate_left
 all_goals
  go_loopw [10] (fun kv wr => ∃ k : Nat, k ≤ 201 ∧ kv = .int .i64 k ∧ MdK w bL bH bB f k wr) (fun kv _ => 201 - (intOf kv).toNat)
  case atStart => exact ⟨0, Nat.zero_le _, rfl, K.out⟩
  case round =>
   clear K
   obtain ⟨k, hk, rfl, hK⟩ := hrel
   have K := qh hK
   clear hK
   by_cases hlt : k < 201
   ·have hk0 : (0 : Int) ≤ (k : Int) := by omega
    have hk1 : (k : Int) < 201 := by omega
    go_wp2_with fail
    refine (HAT.out _ K.out.B k hlt).mono ?_; rintro e w3 ⟨rfl, hb⟩
    replace K := qh (K.out.keep hb)
    obtain ⟨c0, c1, -, -⟩ := two_facts K.out.X
    obtain ⟨x0, y0, f0, f1⟩ := K.out.facts hlt
    have e1 := K.out.d1
    have e2 := K.out.d2
    have e3 := K.out.d3
    clear hb
    by_cases hN : (f k).2 < (f k).1
    ·have HN := qh hN
     go_wp2_with fail
     go_region
     all_goals
      go_wp2_with fail
      go_roundw
      case rel => exact ⟨k + 1, by omega, by go_num, by first | exact (K.out.keep (below_drew _)).storeL hlt (by rw [nm_no HN.out]) (by rw [nm_no HN.out]) | exact (K.out.keep (below_drew _)).storeH hlt (by rw [nm_no HN.out]) (by rw [nm_no HN.out])⟩
      case measure => simp [intOf]; omega
    have HN := qh (show (f k).1 ≤ (f k).2 by omega)
    go_wp2_with fail
    go_region
    all_goals
     go_wp2_with fail
     go_roundw
     case rel => exact ⟨k + 1, by omega, by go_num, by first | exact (K.out.keep (below_drew _)).storeL hlt (by rw [nm_yes HN.out]) (by rw [nm_yes HN.out]) | exact (K.out.keep (below_drew _)).storeH hlt (by rw [nm_yes HN.out]) (by rw [nm_yes HN.out])⟩
     case measure => simp [intOf]; omega
   obtain rfl : k = 201 := by omega
   obtain ⟨c0, c1, -, -⟩ := two_facts K.out.X
   obtain ⟨d0, d1, g0, g1⟩ := two_facts K.out.R
   clear hk hlt
   go_wp2_with fail
   have hx := block_setCell (i := 1) (v := .slice (some ⟨bH, 0, none⟩) 201 201) (block_setCell (i := 0) (v := .slice (some ⟨bL, 0, none⟩) 201 201) K.out.R)
   have hO : Only w.heap.size wr ((wr.setCell ⟨w.heap.size, 0, none⟩ (.slice (some ⟨bL, 0, none⟩) 201 201)).setCell ⟨w.heap.size, 1, none⟩ (.slice (some ⟨bH, 0, none⟩) 201 201)) := ((Only.refl _ _).setCell 0 _).setCell 1 _
   have r0 := cell_of_block (i := 0) (v := .slice (some ⟨bL, 0, none⟩) 201 201) hx rfl
   have r1 := cell_of_block (i := 1) (v := .slice (some ⟨bH, 0, none⟩) 201 201) hx rfl
   have hT := K.out.two
   refine bodyPost_ret (v := .agg #[.slice (some ⟨bL, 0, none⟩) 201 201, .slice (some ⟨bH, 0, none⟩) 201 201]) ?_ rfl ⟨_, _, rfl, TwoOwn.base ⟨own_keep hT.L hO (Or.inr fun e => by have := (hT.L.lt _ e).1; omega), own_keep hT.H hO (Or.inr fun e => by have := (hT.H.lt _ e).1; omega), hT.A⟩ (by omega), K.out.B.trans (hO.below (Nat.le_refl _) K.out.B.size)⟩
   simp [results, Try.f43, go_sem, r0, r1]
end Go.Proofs.Ytikjjpjekchcjaa.Alt
end
section
namespace Go.Proofs.Ytikjjpjekchcjaa.Alt
open Go.RowKit Go.Shelf AltMath MyHeap MyCopy MyOwn
theorem pt_store {w0 W W' : World} {R : Nat} {aL aH : Option Addr} {nL cL nH cH : Nat} {lo hi : List Int} (hR : w0.heap.size ≤ R) (h1 : W.heap[R]? = some (.cells #[.slice none 0 0, .slice none 0 0] 44 (0, 0))) (hK : Below w0.heap.size w0 W) (hT : TwoOwn W.heap.size (.slice aL nL cL) (.slice aH nH cH) lo hi W') (hB : Below W.heap.size W W') :
    TwoOwn w0.heap.size (.slice aL nL cL) (.slice aH nH cH) lo hi ((W'.setCell ⟨R, 0, none⟩ (.slice aL nL cL)).setCell ⟨R, 1, none⟩ (.slice aH nH cH)) ∧ Below w0.heap.size w0 ((W'.setCell ⟨R, 0, none⟩ (.slice aL nL cL)).setCell ⟨R, 1, none⟩ (.slice aH nH cH)) ∧
     ((W'.setCell ⟨R, 0, none⟩ (.slice aL nL cL)).setCell ⟨R, 1, none⟩ (.slice aH nH cH)).cell? ⟨R, 0, none⟩ = some (.slice aL nL cL) ∧ ((W'.setCell ⟨R, 0, none⟩ (.slice aL nL cL)).setCell ⟨R, 1, none⟩ (.slice aH nH cH)).cell? ⟨R, 1, none⟩ = some (.slice aH nH cH) := by
 have hlt := lt_of_block h1
 have hx := block_setCell (i := 1) (v := .slice aH nH cH) (block_setCell (i := 0) (v := .slice aL nL cL) (keepO hB h1))
 have hO : Only R W' ((W'.setCell ⟨R, 0, none⟩ (.slice aL nL cL)).setCell ⟨R, 1, none⟩ (.slice aH nH cH)) := ((Only.refl _ _).setCell 0 _).setCell 1 _
 have hK' := hK.trans (hB.mono hK.size)
 exact ⟨TwoOwn.base ⟨own_keep hT.L hO (Or.inr fun e => by have := (hT.L.lt _ e).1; omega), own_keep hT.H hO (Or.inr fun e => by have := (hT.H.lt _ e).1; omega), hT.A⟩ hK.size, hK'.trans (hO.below hR hK'.size), cell_of_block (i := 0) (v := .slice aL nL cL) hx rfl, cell_of_block (i := 1) (v := .slice aH nH cH) hx rfl⟩
theorem pNew_call (alt size : Int) (w : World) : Calls Try.prog 17 #[.int .i64 alt, .int .i64 size] w (BOPost (meE alt size) (loK (neF alt size) 201) (hiK (neF alt size) 201) w) := by
 have K := qh (show Below w.heap.size w (((w.alloc (.cells #[.int .i64 alt] 3)).alloc (.cells #[.int .i64 size] 3)).alloc (.cells #[.slice none 0 0, .slice none 0 0] 44)) ∧ (((w.alloc (.cells #[.int .i64 alt] 3)).alloc (.cells #[.int .i64 size] 3)).alloc (.cells #[.slice none 0 0, .slice none 0 0] 44)).heap[w.heap.size + 1 + 1]? = some (.cells #[.slice none 0 0, .slice none 0 0] 44 (0, 0)) ∧
     (((w.alloc (.cells #[.int .i64 alt] 3)).alloc (.cells #[.int .i64 size] 3)).alloc (.cells #[.slice none 0 0, .slice none 0 0] 44)).heap[w.heap.size]? = some (.cells #[.int .i64 alt] 3 (0, 0)) ∧ (((w.alloc (.cells #[.int .i64 alt] 3)).alloc (.cells #[.int .i64 size] 3)).alloc (.cells #[.slice none 0 0, .slice none 0 0] 44)).heap[w.heap.size + 1]? = some (.cells #[.int .i64 size] 3 (0, 0))
  from ⟨((below_alloc w _).alloc (by simp) _).alloc (by simp; omega) _, block_new _ _ (by simp), block_alloc (block_alloc (block_new _ _ rfl)), block_alloc (block_new _ _ (by simp))⟩)
 rcases meE_or alt size with hE | hE
 ·obtain ⟨h1, h2, h3⟩ := meE_ok hE
  have hs : 25 ≤ size ∧ size ≤ 100 := by omega
  have HB := qh (And.intro (And.intro h1 h2) hs)
  have HE := qh hE
  clear hE h3 h1 h2 hs
  go_enter Try.func17, Try.ntmps17
  go_wp2_with fail
  refine (measured_call alt size _).mono ?_; rintro e w1 ⟨rfl, rfl⟩
  rw [HE.out]
  go_wp2_with fail
  have hsz : w.heap.size + 3 = (((w.alloc (.cells #[.int .i64 alt] 3)).alloc (.cells #[.int .i64 size] 3)).alloc (.cells #[.slice none 0 0, .slice none 0 0] 44)).heap.size := by simp
  generalize (((w.alloc (.cells #[.int .i64 alt] 3)).alloc (.cells #[.int .i64 size] 3)).alloc (.cells #[.slice none 0 0, .slice none 0 0] 44)) = W at *
  refine (made_call (neF alt size) 44 #[.pointer (some ⟨w.heap.size, 0, none⟩), .pointer (some ⟨w.heap.size + 1, 0, none⟩)] W (enters_of Try.func44 (by kernel_rfl) rfl) (fun V hV i _ => new1_call alt size w.heap.size (w.heap.size + 1) i V (keep1 hV (cell_of_block K.out.2.2.1 rfl)) (keep1 hV (cell_of_block K.out.2.2.2 rfl)) HB.out.1.1 HB.out.1.2 HB.out.2.1 HB.out.2.2)).mono ?_
  rintro e w2 ⟨vL, vH, rfl, hT, hB⟩
  obtain ⟨aL, nL, cL, rfl⟩ := own_slice3 hT.L
  obtain ⟨aH, nH, cH, rfl⟩ := own_slice3 hT.H
  obtain ⟨d0, d1, g0, g1⟩ := two_facts (keepO hB K.out.2.1)
  have H := qh (And.intro hT hB)
  clear hT hB
  go_wp2_with fail
  obtain ⟨hT9, hB9, r0, r1⟩ := pt_store (R := w.heap.size + 1 + 1) (by omega) K.out.2.1 K.out.1 H.out.1 H.out.2
  refine bodyPost_ret (v := .tuple #[.agg #[.slice aL nL cL, .slice aH nH cH], .int .i64 0]) ?_ rfl ⟨_, _, by rw [HE.out], fun _ => hT9, fun e => absurd HE.out e, hB9⟩
  simp [results, Try.f17, go_sem, r0, r1]
 have HE := qh hE
 clear hE
 go_enter Try.func17, Try.ntmps17
 go_wp2_with fail
 refine (measured_call alt size _).mono ?_; rintro e w1 ⟨rfl, rfl⟩
 rw [HE.out]
 go_wp2_with fail
 have r0 := cell_of_block (i := 0) (v := .slice none 0 0) K.out.2.1 rfl
 have r1 := cell_of_block (i := 1) (v := .slice none 0 0) K.out.2.1 rfl
 refine bodyPost_ret (v := .tuple #[.agg #[.slice none 0 0, .slice none 0 0], .int .i64 1]) ?_ rfl (bo_err HE.out (by decide) K.out.1)
 simp [results, Try.f17, go_sem, r0, r1]
theorem mea1_call (b1 o1 b2 o2 cL cH : Nat) (lo hi : List Int) (alt size : Int) (p q r : Nat) (i : Nat) (W : World) (hi1 : i < 201) (hL : Ints W (some ⟨b1, o1, none⟩) 201 lo) (hH : Ints W (some ⟨b2, o2, none⟩) 201 hi)
    (h0 : W.heap[p]? = some (.cells (bdC (some ⟨b1, o1, none⟩) 201 cL (some ⟨b2, o2, none⟩) 201 cH) 44 (0, 0))) (h1 : W.cell? ⟨q, 0, none⟩ = some (.int .i64 alt)) (h2 : W.cell? ⟨r, 0, none⟩ = some (.int .i64 size)) (a1 : -1000 ≤ alt) (a2 : alt ≤ 50000) (s1 : 25 ≤ size) (s2 : size ≤ 100) :
    Calls Try.prog 46 #[.int .i64 (i : Int), .pointer (some ⟨p, 0, none⟩), .pointer (some ⟨q, 0, none⟩), .pointer (some ⟨r, 0, none⟩)] W (PairPost (maF lo hi alt size i).1 (maF lo hi alt size i).2 W) := by
 have hi0 : (0 : Int) ≤ (i : Int) := by omega
 have hi2 : (i : Int) < 201 := by omega
 obtain ⟨k0, k1⟩ := two_cells h0
 have H := qh (And.intro hL hH)
 obtain ⟨_, _, e1, x0⟩ := ints_at hL hi1
 obtain ⟨_, _, e2, y0⟩ := ints_at hH hi1
 cases e1; cases e2
 have HX := qh (And.intro (And.intro x0 y0) (And.intro h1 h2))
 have HK := qh (And.intro k0 k1)
 clear hL hH h0 x0 y0
 by_cases hn : nonAt lo hi i
 ·have HF := qh (show maF lo hi alt size i = (1, 0) from if_pos hn)
  have hd : nonB lo hi i = true := nonB_t hn
  clear hn
  go_enter Try.func46, Try.ntmps46
  go_wp2_with fail
  refine (none_call (some ⟨b1, o1, none⟩) (some ⟨b2, o2, none⟩) 201 201 cL cH lo hi i _ H.out.1 H.out.2 hi1 hi1).mono ?_; rintro e w2 ⟨rfl, hb⟩
  rw [hd]
  have B := qh hb
  clear hb hd
  go_wp2_with fail
  go_ret2
  exact pairPost_of (by rw [HF.out]) (by rw [HF.out]) B.out
 have HF := qh (show maF lo hi alt size i = (max (gi lo i) alt, min (gi hi i) (alt + size - 1)) from if_neg hn)
 have hd : nonB lo hi i = false := nonB_f hn
 clear hn
 obtain ⟨X, hX⟩ : ∃ X, gi lo i = X := ⟨_, rfl⟩
 obtain ⟨Y, hY⟩ : ∃ Y, gi hi i = Y := ⟨_, rfl⟩
 rw [hX, hY] at HF HX
 clear hX hY
 go_enter Try.func46, Try.ntmps46
 go_wp2_with fail
 refine (none_call (some ⟨b1, o1, none⟩) (some ⟨b2, o2, none⟩) 201 201 cL cH lo hi i _ H.out.1 H.out.2 hi1 hi1).mono ?_; rintro e w2 ⟨rfl, hb⟩
 rw [hd]
 clear k0 k1 h1 h2
 have k0 := keep1 hb HK.out.1
 have k1 := keep1 hb HK.out.2
 have x0 := keep1 hb HX.out.1.1
 have y0 := keep1 hb HX.out.1.2
 have z0 := keep1 hb HX.out.2.1
 have z1 := keep1 hb HX.out.2.2
 have B := qh hb
 clear hb hd
 by_cases hm1 : X < alt
 all_goals
  by_cases hm2 : alt + size - 1 < Y
  all_goals
   go_wp2_with fail
   go_region
   all_goals
    go_wp2_with fail
    all_goals
     go_ret2
     exact pairPost_of (by rw [HF.out]; show _ = max X alt; omega) (by rw [HF.out]; show _ = min Y (alt + size - 1); omega) (B.out.trans ⟨rfl, rfl, rfl, Nat.le_refl _, fun _ _ => rfl⟩)
end Go.Proofs.Ytikjjpjekchcjaa.Alt
end
section
namespace Go.Proofs.Ytikjjpjekchcjaa.Alt
open Go.RowKit Go.Shelf AltMath MyHeap MyCopy MyOwn
def MeW (w : World) (aL : Option Addr) (nL cL : Nat) (aH : Option Addr) (nH cH : Nat) (alt size : Int) : World := (((w.alloc (.cells #[.slice aL nL cL, .slice aH nH cH] 44)).alloc (.cells #[.int .i64 alt] 3)).alloc (.cells #[.int .i64 size] 3)).alloc (.cells #[.slice none 0 0, .slice none 0 0] 44)
structure MeK (w : World) (aL : Option Addr) (nL cL : Nat) (aH : Option Addr) (nH cH : Nat) (alt size : Int) (W : World) : Prop where
 B : Below w.heap.size w W
 X : W.heap[w.heap.size]? = some (.cells (bdC aL nL cL aH nH cH) 44 (0, 0))
 a : W.heap[w.heap.size + 1]? = some (.cells #[.int .i64 alt] 3 (0, 0))
 s : W.heap[w.heap.size + 1 + 1]? = some (.cells #[.int .i64 size] 3 (0, 0))
 R : W.heap[w.heap.size + 1 + 1 + 1]? = some (.cells #[.slice none 0 0, .slice none 0 0] 44 (0, 0))
theorem MeK.new (w : World) (aL : Option Addr) (nL cL : Nat) (aH : Option Addr) (nH cH : Nat) (alt size : Int) : MeK w aL nL cL aH nH cH alt size (MeW w aL nL cL aH nH cH alt size) :=
 ⟨(((below_alloc w _).alloc (by simp) _).alloc (by simp; omega) _).alloc (by simp; omega) _, block_alloc (block_alloc (block_alloc (block_new _ _ rfl))), block_alloc (block_alloc (block_new _ _ (by simp))), block_alloc (block_new _ _ (by simp)), block_new _ _ (by simp)⟩
theorem MeK.keep {w W W' : World} {aL : Option Addr} {nL cL : Nat} {aH : Option Addr} {nH cH : Nat} {alt size : Int} (h : MeK w aL nL cL aH nH cH alt size W) (hb : Below W.heap.size W W') : MeK w aL nL cL aH nH cH alt size W' := ⟨h.B.trans (hb.mono h.B.size), keepO hb h.X, keepO hb h.a, keepO hb h.s, keepO hb h.R⟩
theorem pMea_call (aL aH : Option Addr) (nL nH cL cH : Nat) (lo hi : List Int) (alt size : Int) (w : World) (hL : Ints w aL nL lo) (hH : Ints w aH nH hi) :
    Calls Try.prog 18 #[bdV aL nL cL aH nH cH, .int .i64 alt, .int .i64 size] w (BOPost (maE lo hi alt size) (loK (maF lo hi alt size) 201) (hiK (maF lo hi alt size) 201) w) := by
 have H := qh (And.intro hL hH)
 have K := qh (MeK.new w aL nL cL aH nH cH alt size)
 clear hL hH
 unfold MeW at K
 unfold bdV
 by_cases hE : chB lo hi = 0
 ·rcases meE_or alt size with hM | hM
  ·obtain ⟨h1, h2, h3⟩ := meE_ok hM
   have hs : 25 ≤ size ∧ size ≤ 100 := by omega
   have HB := qh (And.intro (And.intro h1 h2) hs)
   obtain ⟨e1, e2, -⟩ := chB_ok hE
   obtain rfl : nL = 201 := by rw [← H.out.1.len]; exact e1
   obtain rfl : nH = 201 := by rw [← H.out.2.len]; exact e2
   obtain ⟨b1, o1, rfl, -⟩ := ints_at H.out.1 (k := 0) (by decide)
   obtain ⟨b2, o2, rfl, -⟩ := ints_at H.out.2 (k := 0) (by decide)
   have HE := qh (And.intro hE hM)
   clear hE hM h1 h2 h3 hs e1 e2
   go_enter Try.func18, Try.ntmps18
   go_wp2_with fail
   refine (pCheck_call (some ⟨b1, o1, none⟩) (some ⟨b2, o2, none⟩) 201 201 cL cH lo hi _ (H.out.1.below K.out.B) (H.out.2.below K.out.B)).mono ?_; rintro e w1 ⟨rfl, hb⟩
   replace K := qh (K.out.keep hb)
   rw [HE.out.1]
   have p0 := cell_of_block (i := 0) K.out.a rfl
   have p1 := cell_of_block (i := 0) K.out.s rfl
   clear hb
   go_wp2_with fail
   refine (measured_call alt size _).mono ?_; rintro e w2 ⟨rfl, rfl⟩
   rw [HE.out.2]
   go_wp2_with fail
   refine (made_call (maF lo hi alt size) 46 #[.pointer (some ⟨w.heap.size, 0, none⟩), .pointer (some ⟨w.heap.size + 1, 0, none⟩), .pointer (some ⟨w.heap.size + 1 + 1, 0, none⟩)] w1 (enters_of Try.func46 (by kernel_rfl) rfl)
    (fun V hV i hi1 => mea1_call b1 o1 b2 o2 cL cH lo hi alt size w.heap.size (w.heap.size + 1) (w.heap.size + 1 + 1) i V hi1 (H.out.1.below (K.out.keep hV).B) (H.out.2.below (K.out.keep hV).B) (K.out.keep hV).X (cell_of_block (K.out.keep hV).a rfl) (cell_of_block (K.out.keep hV).s rfl) HB.out.1.1 HB.out.1.2 HB.out.2.1 HB.out.2.2)).mono ?_
   rintro e w3 ⟨vL, vH, rfl, hT, hB⟩
   obtain ⟨aP, nP, cP, rfl⟩ := own_slice3 hT.L
   obtain ⟨aQ, nQ, cQ, rfl⟩ := own_slice3 hT.H
   obtain ⟨d0, d1, g0, g1⟩ := two_facts (keepO hB K.out.R)
   have HT := qh (And.intro hT hB)
   clear hT hB p0 p1
   go_wp2_with fail
   obtain ⟨hT9, hB9, r0, r1⟩ := pt_store (R := w.heap.size + 1 + 1 + 1) (by omega) K.out.R K.out.B HT.out.1 HT.out.2
   have hE0 : maE lo hi alt size = 0 := by rw [maE_me HE.out.1, HE.out.2]
   refine bodyPost_ret (v := .tuple #[.agg #[.slice aP nP cP, .slice aQ nQ cQ], .int .i64 0]) ?_ rfl ⟨_, _, by rw [hE0], fun _ => hT9, fun e => absurd hE0 e, hB9⟩
   simp [results, Try.f18, go_sem, r0, r1]
  have HE := qh (And.intro hE hM)
  clear hE hM
  go_enter Try.func18, Try.ntmps18
  go_wp2_with fail
  refine (pCheck_call aL aH nL nH cL cH lo hi _ (H.out.1.below K.out.B) (H.out.2.below K.out.B)).mono ?_; rintro e w1 ⟨rfl, hb⟩
  replace K := qh (K.out.keep hb)
  rw [HE.out.1]
  have p0 := cell_of_block (i := 0) K.out.a rfl
  have p1 := cell_of_block (i := 0) K.out.s rfl
  clear hb
  go_wp2_with fail
  refine (measured_call alt size _).mono ?_; rintro e w2 ⟨rfl, rfl⟩
  rw [HE.out.2]
  obtain ⟨d0, d1, g0, g1⟩ := two_facts K.out.R
  clear p0 p1
  go_wp2_with fail
  have hx := block_setCell (i := 1) (v := .slice none 0 0) (block_setCell (i := 0) (v := .slice none 0 0) K.out.R)
  have hO : Only (w.heap.size + 1 + 1 + 1) w1 ((w1.setCell ⟨w.heap.size + 1 + 1 + 1, 0, none⟩ (.slice none 0 0)).setCell ⟨w.heap.size + 1 + 1 + 1, 1, none⟩ (.slice none 0 0)) := ((Only.refl _ _).setCell 0 _).setCell 1 _
  have r0 := cell_of_block (i := 0) (v := .slice none 0 0) hx rfl
  have r1 := cell_of_block (i := 1) (v := .slice none 0 0) hx rfl
  refine bodyPost_ret (v := .tuple #[.agg #[.slice none 0 0, .slice none 0 0], .int .i64 1]) ?_ rfl (bo_err ((maE_me HE.out.1).trans HE.out.2) (by decide) (K.out.B.trans (hO.below (by omega) K.out.B.size)))
  simp [results, Try.f18, go_sem, r0, r1]
 have d1 : (chB lo hi != 0) = true := bne_iff_ne.2 hE
 have HE := qh hE
 clear hE
 go_enter Try.func18, Try.ntmps18
 go_wp2_with fail
 refine (pCheck_call aL aH nL nH cL cH lo hi _ (H.out.1.below K.out.B) (H.out.2.below K.out.B)).mono ?_; rintro e w1 ⟨rfl, hb⟩
 replace K := qh (K.out.keep hb)
 obtain ⟨c0, c1, g0, g1⟩ := two_facts K.out.R
 clear hb
 go_wp2_with fail
 have hx := block_setCell (i := 1) (v := .slice none 0 0) (block_setCell (i := 0) (v := .slice none 0 0) K.out.R)
 have hO : Only (w.heap.size + 1 + 1 + 1) w1 ((w1.setCell ⟨w.heap.size + 1 + 1 + 1, 0, none⟩ (.slice none 0 0)).setCell ⟨w.heap.size + 1 + 1 + 1, 1, none⟩ (.slice none 0 0)) := ((Only.refl _ _).setCell 0 _).setCell 1 _
 have r0 := cell_of_block (i := 0) (v := .slice none 0 0) hx rfl
 have r1 := cell_of_block (i := 1) (v := .slice none 0 0) hx rfl
 refine bodyPost_ret (v := .tuple #[.agg #[.slice none 0 0, .slice none 0 0], .int .i64 (chB lo hi)]) ?_ rfl (bo_err (maE_ch HE.out) HE.out (K.out.B.trans (hO.below (by omega) K.out.B.size)))
 simp [results, Try.f18, go_sem, r0, r1]
end Go.Proofs.Ytikjjpjekchcjaa.Alt
end
