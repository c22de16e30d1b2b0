/-
  PtAltG, PtAltH, PtAltI, RangeLib
-/
import Derived.Test.YtikjjpjekchcjaaGreatPm6
import Derived.Shelf.Abstract
import Derived.RangeFuncNested
import Derived.RangeFuncBound
import Derived.RangeFuncCalls
import Derived.RangeFuncLeaves
set_option linter.all false
set_option maxRecDepth 100000
set_option maxHeartbeats 64000000
section
namespace Go.Proofs.YtikjjpjekchcjaaGreat.Alt
open Go.RowKit AltMath MyHeap MyCopy MyOwn
theorem madeI (n : Nat) : (madeCells #[.int .i64 0] n).toList = flatI (List.replicate n 0) := by
 rw [toList_madeCells_one]; simp [flatI]
theorem hmkI (n : Nat) (hn : n ≤ 1000000) (W : World) : (Instr.makeSlice 51 (.int .i64 (n : Int)) (.int .i64 (n : Int))).run Tryz.prog W = .ok (.slice (some ⟨W.heap.size, 0, none⟩) n n) (W.alloc (.cells (madeCells #[.int .i64 0] n) 3)) := by
 obtain ⟨i0, hi, hiz, his, hib⟩ := cF k4
 have h := run_make W 51 3 i0 _ Tryz.underlying51 hi hiz .i64 .i64 (n : Int) (n : Int) (by omega) (by omega) (by rw [hib]; omega) (by omega)
 rw [Int.toNat_natCast, his, Nat.mul_one] at h
 exact h
def PairPost (a b : Int) (w : World) (e : Ending) (w' : World) : Prop := e = .returned (.tuple #[.int .i64 a, .int .i64 b]) ∧ Below w.heap.size w w'
theorem iB {a b a' b' : Int} {w w' : World} (h1 : a = a') (h2 : b = b') (hB : Below w.heap.size w w') : PairPost a' b' w (.returned (.tuple #[.int .i64 a, .int .i64 b])) w' := by subst h1; subst h2; exact ⟨rfl, hB⟩
theorem eJ (w : World) : Below w.heap.size w w.drew := ⟨rfl, rfl, rfl, Nat.le_refl _, fun _ _ => rfl⟩
theorem new1_call (alt size : Int) (p q : Nat) (i : Int) (W : World) (h1 : W.cell? ⟨p, 0, none⟩ = some (.int .i64 alt)) (h2 : W.cell? ⟨q, 0, none⟩ = some (.int .i64 size)) (a1 : -1000 ≤ alt) (a2 : alt ≤ 50000) (s1 : 25 ≤ size) (s2 : size ≤ 100) :
    Calls Tryz.prog 95 #[.int .i64 i, .pointer (some ⟨p, 0, none⟩), .pointer (some ⟨q, 0, none⟩)] W (PairPost alt (min (alt + size - 1) 50000) W) := by
 go_enter Tryz.func95, Tryz.ntmps95
 go_wp2_with fail
 go_region
 all_goals
  go_wp2_with fail
  all_goals
   go_ret2
   exact iB rfl (by omega) (eJ _)
theorem own_row {w : World} {b base n : Nat} {cs : Array Value} {ys : List Int} (h : w.heap[b]? = some (.cells cs 3 (0, 0))) (hb : base ≤ b) (hcs : cs.toList = flatI ys) (hn : ys.length = n) (hm : n ≤ 1000) : w.ownsRow base 3 1 (.slice (some ⟨b, 0, none⟩) n n) n (flatI ys) := by
 have hl : (flatI ys).length = n := by rw [gA, hn]
 refine ⟨by rw [hl, Nat.mul_one], Or.inr ⟨b, n, cs, rfl, hb, h, Nat.le_refl _, by unfold maxLen; omega, ?_, ?_⟩⟩
 ·rw [Nat.mul_one, ← Array.length_toList, hcs, hl]
 rw [hcs, Nat.mul_one]
 exact List.take_of_length_le (by rw [hl]; exact Nat.le_refl _)
def mdL (f : Nat → Int × Int) (k : Nat) : List Int := loK f k ++ List.replicate (201 - k) 0
def mdH (f : Nat → Int × Int) (k : Nat) : List Int := hiK f k ++ List.replicate (201 - k) 0
theorem qQ {xs : List Int} {k : Nat} {x : Int} (hx : xs.length = k) (hk : k < 201) : (xs ++ List.replicate (201 - k) 0).set k x = (xs ++ [x]) ++ List.replicate (201 - (k + 1)) 0 := by
 obtain ⟨m, hm⟩ : ∃ m, 201 - k = m + 1 := ⟨200 - k, by omega⟩
 rw [hm, show 201 - (k + 1) = m by omega, List.replicate_succ, List.set_append, if_neg (by omega), hx, Nat.sub_self, List.set_cons_zero, List.append_assoc]
 rfl
theorem n9 (xs : List Int) (k : Nat) (x : Int) : (flatI xs).set k (.int .i64 x) = flatI (xs.set k x) := by unfold flatI; rw [List.map_set]
theorem rH (f : Nat → Int × Int) {k : Nat} (hk : k < 201) : (flatI (mdL f k)).set k (.int .i64 (nm (f k)).1) = flatI (mdL f (k + 1)) := by
 rw [n9]; unfold mdL; rw [qQ (loK_len f k) hk, loK_succ]
theorem rI (f : Nat → Int × Int) {k : Nat} (hk : k < 201) : (flatI (mdH f k)).set k (.int .i64 (nm (f k)).2) = flatI (mdH f (k + 1)) := by
 rw [n9]; unfold mdH; rw [qQ (hiK_len f k) hk, hiK_succ]
structure MdK (w0 : World) (bL bH bB : Nat) (f : Nat → Int × Int) (k : Nat) (W : World) : Prop where
 B : Below w0.heap.size w0 W
 R : W.heap[w0.heap.size]? = some (.cells #[.slice none 0 0, .slice none 0 0] 53 (0, 0))
 X : W.heap[bB]? = some (.cells #[.slice (some ⟨bL, 0, none⟩) 201 201, .slice (some ⟨bH, 0, none⟩) 201 201] 53 (0, 0))
 L : ∃ cs : Array Value, W.heap[bL]? = some (.cells cs 3 (0, 0)) ∧ cs.toList = flatI (mdL f k)
 H : ∃ cs : Array Value, W.heap[bH]? = some (.cells cs 3 (0, 0)) ∧ cs.toList = flatI (mdH f k)
 n1 : w0.heap.size < bL
 n2 : w0.heap.size < bH
 n3 : w0.heap.size < bB
 d1 : bL ≠ bH
 d2 : bB ≠ bL
 d3 : bB ≠ bH
theorem MdK.keep {w0 W W' : World} {bL bH bB : Nat} {f : Nat → Int × Int} {k : Nat} (h : MdK w0 bL bH bB f k W) (hb : Below W.heap.size W W') : MdK w0 bL bH bB f k W' :=
 ⟨h.B.trans (hb.mono h.B.size), aN hb h.R, aN hb h.X, by obtain ⟨cs, h1, h2⟩ := h.L; exact ⟨cs, aN hb h1, h2⟩, by obtain ⟨cs, h1, h2⟩ := h.H; exact ⟨cs, aN hb h1, h2⟩, h.n1, h.n2, h.n3, h.d1, h.d2, h.d3⟩
theorem row_at {xs : List Int} {k : Nat} {cs : Array Value} (hx : xs.length = k) (hk : k < 201) (h : cs.toList = flatI (xs ++ List.replicate (201 - k) 0)) : cs[k]? = some (.int .i64 0) := by
 rw [← Array.getElem?_toList, h]
 unfold flatI
 rw [List.getElem?_map, List.getElem?_append_right (by omega), hx, Nat.sub_self, List.getElem?_replicate, if_pos (by omega)]
 rfl
theorem MdK.facts {w0 W : World} {bL bH bB : Nat} {f : Nat → Int × Int} {k : Nat} (h : MdK w0 bL bH bB f k W) (hk : k < 201) :
    W.cell? ⟨bL, k, none⟩ = some (.int .i64 0) ∧ W.cell? ⟨bH, k, none⟩ = some (.int .i64 0) ∧ W.frozen? ⟨bL, k, none⟩ = false ∧ W.frozen? ⟨bH, k, none⟩ = false := by
 obtain ⟨cs, h1, h2⟩ := h.L
 obtain ⟨ds, h3, h4⟩ := h.H
 exact ⟨aA h1 (row_at (loK_len f k) hk h2), aA h3 (row_at (hiK_len f k) hk h4), aF h1, aF h3⟩
theorem j6 {cs : Array Value} {k : Nat} {v : Value} : (cs.setIfInBounds k v).toList = cs.toList.set k v := by simp
theorem MdK.storeL {w0 W : World} {bL bH bB : Nat} {f : Nat → Int × Int} {k : Nat} (h : MdK w0 bL bH bB f k W) (hk : k < 201) {x y : Int} (hx : (nm (f k)).1 = x) (hy : (nm (f k)).2 = y) : MdK w0 bL bH bB f (k + 1) ((W.setCell ⟨bL, k, none⟩ (.int .i64 x)).setCell ⟨bH, k, none⟩ (.int .i64 y)) := by
 subst hx; subst hy
 obtain ⟨cs, h1, h2⟩ := h.L
 obtain ⟨ds, h3, h4⟩ := h.H
 have o1 : Only bL W (W.setCell ⟨bL, k, none⟩ (.int .i64 (nm (f k)).1)) := (Only.refl _ _).setCell k _
 have o2 : Only bH (W.setCell ⟨bL, k, none⟩ (.int .i64 (nm (f k)).1)) ((W.setCell ⟨bL, k, none⟩ (.int .i64 (nm (f k)).1)).setCell ⟨bH, k, none⟩ (.int .i64 (nm (f k)).2)) := (Only.refl _ _).setCell k _
 have b1 := h.B.trans (o1.below (Nat.le_of_lt h.n1) h.B.size)
 exact ⟨b1.trans (o2.below (Nat.le_of_lt h.n2) b1.size), o2.keeps (o1.keeps h.R (Nat.ne_of_lt h.n1)) (Nat.ne_of_lt h.n2), o2.keeps (o1.keeps h.X h.d2) h.d3,
  ⟨_, o2.keeps (aD h1) h.d1, by rw [j6, h2, rH f hk]⟩, ⟨_, aD (o1.keeps h3 h.d1.symm), by rw [j6, h4, rI f hk]⟩, h.n1, h.n2, h.n3, h.d1, h.d2, h.d3⟩
theorem MdK.storeH {w0 W : World} {bL bH bB : Nat} {f : Nat → Int × Int} {k : Nat} (h : MdK w0 bL bH bB f k W) (hk : k < 201) {x y : Int} (hx : (nm (f k)).1 = x) (hy : (nm (f k)).2 = y) : MdK w0 bL bH bB f (k + 1) ((W.setCell ⟨bH, k, none⟩ (.int .i64 y)).setCell ⟨bL, k, none⟩ (.int .i64 x)) := by
 subst hx; subst hy
 obtain ⟨cs, h1, h2⟩ := h.L
 obtain ⟨ds, h3, h4⟩ := h.H
 have o1 : Only bH W (W.setCell ⟨bH, k, none⟩ (.int .i64 (nm (f k)).2)) := (Only.refl _ _).setCell k _
 have o2 : Only bL (W.setCell ⟨bH, k, none⟩ (.int .i64 (nm (f k)).2)) ((W.setCell ⟨bH, k, none⟩ (.int .i64 (nm (f k)).2)).setCell ⟨bL, k, none⟩ (.int .i64 (nm (f k)).1)) := (Only.refl _ _).setCell k _
 have b1 := h.B.trans (o1.below (Nat.le_of_lt h.n2) h.B.size)
 exact ⟨b1.trans (o2.below (Nat.le_of_lt h.n1) b1.size), o2.keeps (o1.keeps h.R (Nat.ne_of_lt h.n2)) (Nat.ne_of_lt h.n1), o2.keeps (o1.keeps h.X h.d3) h.d2,
  ⟨_, aD (o1.keeps h1 h.d1), by rw [j6, h2, rH f hk]⟩, ⟨_, o2.keeps (aD h3) h.d1.symm, by rw [j6, h4, rI f hk]⟩, h.n1, h.n2, h.n3, h.d1, h.d2, h.d3⟩
theorem MdK.two {w0 W : World} {bL bH bB : Nat} {f : Nat → Int × Int} (h : MdK w0 bL bH bB f 201 W) : TwoOwn (w0.heap.size + 1) (.slice (some ⟨bL, 0, none⟩) 201 201) (.slice (some ⟨bH, 0, none⟩) 201 201) (loK f 201) (hiK f 201) W := by
 obtain ⟨cs, h1, h2⟩ := h.L
 obtain ⟨ds, h3, h4⟩ := h.H
 have e1 : mdL f 201 = loK f 201 := by unfold mdL; simp
 have e2 : mdH f 201 = hiK f 201 := by unfold mdH; simp
 rw [e1] at h2
 rw [e2] at h4
 refine ⟨by rw [loK_len]; exact own_row h1 h.n1 h2 (loK_len f 201) (by decide), by rw [hiK_len]; exact own_row h3 h.n2 h4 (hiK_len f 201) (by decide), fun g e1 e2 => ?_⟩
 cases e1
 cases e2
 exact h.d1 rfl
theorem md0 (f : Nat → Int × Int) : (madeCells #[.int .i64 0] 201).toList = flatI (mdL f 0) ∧ (madeCells #[.int .i64 0] 201).toList = flatI (mdH f 0) := ⟨madeI 201, madeI 201⟩
theorem kM (f : Nat → Int × Int) (g : Nat) (caps : Array Value) (w : World) (hen : ∀ (args : Array Value) (W : World), (callFunc g args).run Tryz.prog W = .ok (.enter g args) W) (hat : ∀ W, Below w.heap.size w W → ∀ i : Nat, i < 201 → Calls Tryz.prog g (#[.int .i64 (i : Int)] ++ caps) W (PairPost (f i).1 (f i).2 W)) :
    Calls Tryz.prog 84 #[.func (.func g) #[] caps] w (PtPost w.heap.size (loK f 201) (hiK f 201) w) := by
 have mk : ∀ W : World, (Instr.makeSlice 51 (.int .i64 201) (.int .i64 201)).run Tryz.prog W = .ok (.slice (some ⟨W.heap.size, 0, none⟩) 201 201) (W.alloc (.cells (madeCells #[.int .i64 0] 201) 3)) := hmkI 201 (by decide)
 have HAT := qh hat
 have HMD := qh (md0 f)
 clear hat
 go_enter Tryz.func84, Tryz.ntmps84
 go_wp2_with fail
 go_region
 all_goals go_wp2_with fail
 have K := qh (show MdK w (w.heap.size + 1) (w.heap.size + 1 + 1) (w.heap.size + 1 + 1 + 1) f 0 (((((w.alloc (.cells #[.slice none 0 0, .slice none 0 0] 53)).alloc (.cells (madeCells #[.int .i64 0] 201) 3)).alloc (.cells (madeCells #[.int .i64 0] 201) 3)).alloc (.cells #[.slice (some ⟨w.heap.size + 1, 0, none⟩) 201 201, .slice (some ⟨w.heap.size + 1 + 1, 0, none⟩) 201 201] 53)).drew) from ⟨((((aC w _).alloc (by simp) _).alloc (by simp; omega) _).alloc (by simp; omega) _).drew, aG (aG (aG (aI _ _ rfl))), (aI _ _ (by simp)), ⟨_, (aG (aG (aI _ _ (by simp)))), HMD.out.1⟩, ⟨_, (aG (aI _ _ (by simp))), HMD.out.2⟩, by omega, by omega, by omega, by omega, by omega, by omega⟩)
 generalize ((((w.alloc (.cells #[.slice none 0 0, .slice none 0 0] 53)).alloc (.cells (madeCells #[.int .i64 0] 201) 3)).alloc (.cells (madeCells #[.int .i64 0] 201) 3)).alloc (.cells #[.slice (some ⟨w.heap.size + 1, 0, none⟩) 201 201, .slice (some ⟨w.heap.size + 1 + 1, 0, none⟩) 201 201] 53)).drew = W0 at K ⊢
 generalize w.heap.size + 1 + 1 + 1 = bB at K ⊢
 generalize w.heap.size + 1 + 1 = bH at K ⊢
 generalize w.heap.size + 1 = bL at K ⊢
 rotate_left
 have K := qh (show MdK w (w.heap.size + 1) (w.heap.size + 1 + 1 + 1) (w.heap.size + 1 + 1) f 0 (((((w.alloc (.cells #[.slice none 0 0, .slice none 0 0] 53)).alloc (.cells (madeCells #[.int .i64 0] 201) 3)).alloc (.cells #[.slice (some ⟨w.heap.size + 1, 0, none⟩) 201 201, .slice (some ⟨w.heap.size + 1 + 1 + 1, 0, none⟩) 201 201] 53)).alloc (.cells (madeCells #[.int .i64 0] 201) 3)).drew) from ⟨((((aC w _).alloc (by simp) _).alloc (by simp; omega) _).alloc (by simp; omega) _).drew, aG (aG (aG (aI _ _ rfl))), (aG (aI _ _ (by simp))), ⟨_, (aG (aG (aI _ _ (by simp)))), HMD.out.1⟩, ⟨_, (aI _ _ (by simp)), HMD.out.2⟩, by omega, by omega, by omega, by omega, by omega, by omega⟩)
 generalize ((((w.alloc (.cells #[.slice none 0 0, .slice none 0 0] 53)).alloc (.cells (madeCells #[.int .i64 0] 201) 3)).alloc (.cells #[.slice (some ⟨w.heap.size + 1, 0, none⟩) 201 201, .slice (some ⟨w.heap.size + 1 + 1 + 1, 0, none⟩) 201 201] 53)).alloc (.cells (madeCells #[.int .i64 0] 201) 3)).drew = W0 at K ⊢
 generalize w.heap.size + 1 + 1 + 1 = bH at K ⊢
 generalize w.heap.size + 1 + 1 = bB at K ⊢
 generalize w.heap.size + 1 = bL at K ⊢
 rotate_left
 have K := qh (show MdK w (w.heap.size + 1 + 1) (w.heap.size + 1) (w.heap.size + 1 + 1 + 1) f 0 (((((w.alloc (.cells #[.slice none 0 0, .slice none 0 0] 53)).alloc (.cells (madeCells #[.int .i64 0] 201) 3)).alloc (.cells (madeCells #[.int .i64 0] 201) 3)).alloc (.cells #[.slice (some ⟨w.heap.size + 1 + 1, 0, none⟩) 201 201, .slice (some ⟨w.heap.size + 1, 0, none⟩) 201 201] 53)).drew) from ⟨((((aC w _).alloc (by simp) _).alloc (by simp; omega) _).alloc (by simp; omega) _).drew, aG (aG (aG (aI _ _ rfl))), (aI _ _ (by simp)), ⟨_, (aG (aI _ _ (by simp))), HMD.out.1⟩, ⟨_, (aG (aG (aI _ _ (by simp)))), HMD.out.2⟩, by omega, by omega, by omega, by omega, by omega, by omega⟩)
 generalize ((((w.alloc (.cells #[.slice none 0 0, .slice none 0 0] 53)).alloc (.cells (madeCells #[.int .i64 0] 201) 3)).alloc (.cells (madeCells #[.int .i64 0] 201) 3)).alloc (.cells #[.slice (some ⟨w.heap.size + 1 + 1, 0, none⟩) 201 201, .slice (some ⟨w.heap.size + 1, 0, none⟩) 201 201] 53)).drew = W0 at K ⊢
 generalize w.heap.size + 1 + 1 + 1 = bB at K ⊢
 generalize w.heap.size + 1 + 1 = bL at K ⊢
 generalize w.heap.size + 1 = bH at K ⊢
 rotate_left
 have K := qh (show MdK w (w.heap.size + 1 + 1 + 1) (w.heap.size + 1) (w.heap.size + 1 + 1) f 0 (((((w.alloc (.cells #[.slice none 0 0, .slice none 0 0] 53)).alloc (.cells (madeCells #[.int .i64 0] 201) 3)).alloc (.cells #[.slice (some ⟨w.heap.size + 1 + 1 + 1, 0, none⟩) 201 201, .slice (some ⟨w.heap.size + 1, 0, none⟩) 201 201] 53)).alloc (.cells (madeCells #[.int .i64 0] 201) 3)).drew) from ⟨((((aC w _).alloc (by simp) _).alloc (by simp; omega) _).alloc (by simp; omega) _).drew, aG (aG (aG (aI _ _ rfl))), (aG (aI _ _ (by simp))), ⟨_, (aI _ _ (by simp)), HMD.out.1⟩, ⟨_, (aG (aG (aI _ _ (by simp)))), HMD.out.2⟩, by omega, by omega, by omega, by omega, by omega, by omega⟩)
 generalize ((((w.alloc (.cells #[.slice none 0 0, .slice none 0 0] 53)).alloc (.cells (madeCells #[.int .i64 0] 201) 3)).alloc (.cells #[.slice (some ⟨w.heap.size + 1 + 1 + 1, 0, none⟩) 201 201, .slice (some ⟨w.heap.size + 1, 0, none⟩) 201 201] 53)).alloc (.cells (madeCells #[.int .i64 0] 201) 3)).drew = W0 at K ⊢
 generalize w.heap.size + 1 + 1 + 1 = bL at K ⊢
 generalize w.heap.size + 1 + 1 = bB at K ⊢
 generalize w.heap.size + 1 = bH at K ⊢
 rotate_left
 have K := qh (show MdK w (w.heap.size + 1 + 1) (w.heap.size + 1 + 1 + 1) (w.heap.size + 1) f 0 (((((w.alloc (.cells #[.slice none 0 0, .slice none 0 0] 53)).alloc (.cells #[.slice (some ⟨w.heap.size + 1 + 1, 0, none⟩) 201 201, .slice (some ⟨w.heap.size + 1 + 1 + 1, 0, none⟩) 201 201] 53)).alloc (.cells (madeCells #[.int .i64 0] 201) 3)).alloc (.cells (madeCells #[.int .i64 0] 201) 3)).drew) from ⟨((((aC w _).alloc (by simp) _).alloc (by simp; omega) _).alloc (by simp; omega) _).drew, aG (aG (aG (aI _ _ rfl))), (aG (aG (aI _ _ (by simp)))), ⟨_, (aG (aI _ _ (by simp))), HMD.out.1⟩, ⟨_, (aI _ _ (by simp)), HMD.out.2⟩, by omega, by omega, by omega, by omega, by omega, by omega⟩)
 generalize ((((w.alloc (.cells #[.slice none 0 0, .slice none 0 0] 53)).alloc (.cells #[.slice (some ⟨w.heap.size + 1 + 1, 0, none⟩) 201 201, .slice (some ⟨w.heap.size + 1 + 1 + 1, 0, none⟩) 201 201] 53)).alloc (.cells (madeCells #[.int .i64 0] 201) 3)).alloc (.cells (madeCells #[.int .i64 0] 201) 3)).drew = W0 at K ⊢
 generalize w.heap.size + 1 + 1 + 1 = bH at K ⊢
 generalize w.heap.size + 1 + 1 = bL at K ⊢
 generalize w.heap.size + 1 = bB at K ⊢
 rotate_left
 have K := qh (show MdK w (w.heap.size + 1 + 1 + 1) (w.heap.size + 1 + 1) (w.heap.size + 1) f 0 (((((w.alloc (.cells #[.slice none 0 0, .slice none 0 0] 53)).alloc (.cells #[.slice (some ⟨w.heap.size + 1 + 1 + 1, 0, none⟩) 201 201, .slice (some ⟨w.heap.size + 1 + 1, 0, none⟩) 201 201] 53)).alloc (.cells (madeCells #[.int .i64 0] 201) 3)).alloc (.cells (madeCells #[.int .i64 0] 201) 3)).drew) from ⟨((((aC w _).alloc (by simp) _).alloc (by simp; omega) _).alloc (by simp; omega) _).drew, aG (aG (aG (aI _ _ rfl))), (aG (aG (aI _ _ (by simp)))), ⟨_, (aI _ _ (by simp)), HMD.out.1⟩, ⟨_, (aG (aI _ _ (by simp))), HMD.out.2⟩, by omega, by omega, by omega, by omega, by omega, by omega⟩)
 generalize ((((w.alloc (.cells #[.slice none 0 0, .slice none 0 0] 53)).alloc (.cells #[.slice (some ⟨w.heap.size + 1 + 1 + 1, 0, none⟩) 201 201, .slice (some ⟨w.heap.size + 1 + 1, 0, none⟩) 201 201] 53)).alloc (.cells (madeCells #[.int .i64 0] 201) 3)).alloc (.cells (madeCells #[.int .i64 0] 201) 3)).drew = W0 at K ⊢
 generalize w.heap.size + 1 + 1 + 1 = bL at K ⊢
 generalize w.heap.size + 1 + 1 = bH at K ⊢
 generalize w.heap.size + 1 = bB at K ⊢
 rotate_left
 all_goals
  go_loopw [10] (fun kv wr => ∃ k : Nat, k ≤ 201 ∧ kv = .int .i64 k ∧ MdK w bL bH bB f k wr) (fun kv _ => 201 - (intOf kv).toNat)
  case atStart => exact ⟨0, Nat.zero_le _, rfl, K.out⟩
  case round =>
   clear K
   obtain ⟨k, hk, rfl, hK⟩ := hrel
   have K := qh hK
   clear hK
   by_cases hlt : k < 201
   ·have hk0 : (0 : Int) ≤ (k : Int) := by omega
    have hk1 : (k : Int) < 201 := by omega
    go_wp2_with fail
    refine (HAT.out _ K.out.B k hlt).mono ?_; rintro e w3 ⟨rfl, hb⟩
    replace K := qh (K.out.keep hb)
    obtain ⟨c0, c1, -, -⟩ := two_facts K.out.X
    obtain ⟨x0, y0, f0, f1⟩ := K.out.facts hlt
    have e1 := K.out.d1
    have e2 := K.out.d2
    have e3 := K.out.d3
    clear hb
    by_cases hN : (f k).2 < (f k).1
    ·have HN := qh hN
     go_wp2_with fail
     go_region
     all_goals
      go_wp2_with fail
      go_roundw
      case rel => exact ⟨k + 1, by omega, by go_num, by first | exact (K.out.keep (eJ _)).storeL hlt (by rw [nm_no HN.out]) (by rw [nm_no HN.out]) | exact (K.out.keep (eJ _)).storeH hlt (by rw [nm_no HN.out]) (by rw [nm_no HN.out])⟩
      case measure => simp [intOf]; omega
    have HN := qh (show (f k).1 ≤ (f k).2 by omega)
    go_wp2_with fail
    go_region
    all_goals
     go_wp2_with fail
     go_roundw
     case rel => exact ⟨k + 1, by omega, by go_num, by first | exact (K.out.keep (eJ _)).storeL hlt (by rw [gU HN.out]) (by rw [gU HN.out]) | exact (K.out.keep (eJ _)).storeH hlt (by rw [gU HN.out]) (by rw [gU HN.out])⟩
     case measure => simp [intOf]; omega
   obtain rfl : k = 201 := by omega
   obtain ⟨c0, c1, -, -⟩ := two_facts K.out.X
   obtain ⟨d0, d1, g0, g1⟩ := two_facts K.out.R
   clear hk hlt
   go_wp2_with fail
   have hx := aD (i := 1) (v := .slice (some ⟨bH, 0, none⟩) 201 201) (aD (i := 0) (v := .slice (some ⟨bL, 0, none⟩) 201 201) K.out.R)
   have hO : Only w.heap.size wr ((wr.setCell ⟨w.heap.size, 0, none⟩ (.slice (some ⟨bL, 0, none⟩) 201 201)).setCell ⟨w.heap.size, 1, none⟩ (.slice (some ⟨bH, 0, none⟩) 201 201)) := ((Only.refl _ _).setCell 0 _).setCell 1 _
   have r0 := aA (i := 0) (v := .slice (some ⟨bL, 0, none⟩) 201 201) hx rfl
   have r1 := aA (i := 1) (v := .slice (some ⟨bH, 0, none⟩) 201 201) hx rfl
   have hT := K.out.two
   refine bodyPost_ret (v := .agg #[.slice (some ⟨bL, 0, none⟩) 201 201, .slice (some ⟨bH, 0, none⟩) 201 201]) ?_ rfl ⟨_, _, rfl, TwoOwn.base ⟨cI hT.L hO (Or.inr fun e => by have := (hT.L.lt _ e).1; omega), cI hT.H hO (Or.inr fun e => by have := (hT.H.lt _ e).1; omega), hT.A⟩ (by omega), K.out.B.trans (hO.below (Nat.le_refl _) K.out.B.size)⟩
   simp [results, Tryz.f84, go_sem, r0, r1]
end Go.Proofs.YtikjjpjekchcjaaGreat.Alt
end
section
namespace Go.Proofs.YtikjjpjekchcjaaGreat.Alt
open Go.RowKit Go.Shelf AltMath MyHeap MyCopy MyOwn
theorem mG {w0 W W' : World} {R : Nat} {aL aH : Option Addr} {nL cL nH cH : Nat} {lo hi : List Int} (hR : w0.heap.size ≤ R) (h1 : W.heap[R]? = some (.cells #[.slice none 0 0, .slice none 0 0] 53 (0, 0))) (hK : Below w0.heap.size w0 W) (hT : TwoOwn W.heap.size (.slice aL nL cL) (.slice aH nH cH) lo hi W') (hB : Below W.heap.size W W') :
    TwoOwn w0.heap.size (.slice aL nL cL) (.slice aH nH cH) lo hi ((W'.setCell ⟨R, 0, none⟩ (.slice aL nL cL)).setCell ⟨R, 1, none⟩ (.slice aH nH cH)) ∧ Below w0.heap.size w0 ((W'.setCell ⟨R, 0, none⟩ (.slice aL nL cL)).setCell ⟨R, 1, none⟩ (.slice aH nH cH)) ∧
     ((W'.setCell ⟨R, 0, none⟩ (.slice aL nL cL)).setCell ⟨R, 1, none⟩ (.slice aH nH cH)).cell? ⟨R, 0, none⟩ = some (.slice aL nL cL) ∧ ((W'.setCell ⟨R, 0, none⟩ (.slice aL nL cL)).setCell ⟨R, 1, none⟩ (.slice aH nH cH)).cell? ⟨R, 1, none⟩ = some (.slice aH nH cH) := by
 have hlt := aB h1
 have hx := aD (i := 1) (v := .slice aH nH cH) (aD (i := 0) (v := .slice aL nL cL) (aN hB h1))
 have hO : Only R W' ((W'.setCell ⟨R, 0, none⟩ (.slice aL nL cL)).setCell ⟨R, 1, none⟩ (.slice aH nH cH)) := ((Only.refl _ _).setCell 0 _).setCell 1 _
 have hK' := hK.trans (hB.mono hK.size)
 exact ⟨TwoOwn.base ⟨cI hT.L hO (Or.inr fun e => by have := (hT.L.lt _ e).1; omega), cI hT.H hO (Or.inr fun e => by have := (hT.H.lt _ e).1; omega), hT.A⟩ hK.size, hK'.trans (hO.below hR hK'.size), aA (i := 0) (v := .slice aL nL cL) hx rfl, aA (i := 1) (v := .slice aH nH cH) hx rfl⟩
theorem pNew_call (alt size : Int) (w : World) : Calls Tryz.prog 60 #[.int .i64 alt, .int .i64 size] w (BOPost (meE alt size) (loK (neF alt size) 201) (hiK (neF alt size) 201) w) := by
 have K := qh (show Below w.heap.size w (((w.alloc (.cells #[.int .i64 alt] 3)).alloc (.cells #[.int .i64 size] 3)).alloc (.cells #[.slice none 0 0, .slice none 0 0] 53)) ∧ (((w.alloc (.cells #[.int .i64 alt] 3)).alloc (.cells #[.int .i64 size] 3)).alloc (.cells #[.slice none 0 0, .slice none 0 0] 53)).heap[w.heap.size + 1 + 1]? = some (.cells #[.slice none 0 0, .slice none 0 0] 53 (0, 0)) ∧
     (((w.alloc (.cells #[.int .i64 alt] 3)).alloc (.cells #[.int .i64 size] 3)).alloc (.cells #[.slice none 0 0, .slice none 0 0] 53)).heap[w.heap.size]? = some (.cells #[.int .i64 alt] 3 (0, 0)) ∧ (((w.alloc (.cells #[.int .i64 alt] 3)).alloc (.cells #[.int .i64 size] 3)).alloc (.cells #[.slice none 0 0, .slice none 0 0] 53)).heap[w.heap.size + 1]? = some (.cells #[.int .i64 size] 3 (0, 0))
  from ⟨((aC w _).alloc (by simp) _).alloc (by simp; omega) _, aI _ _ (by simp), aG (aG (aI _ _ rfl)), aG (aI _ _ (by simp))⟩)
 rcases p9 alt size with hE | hE
 ·obtain ⟨h1, h2, h3⟩ := qA hE
  have hs : 25 ≤ size ∧ size ≤ 100 := by omega
  have HB := qh (And.intro (And.intro h1 h2) hs)
  have HE := qh hE
  clear hE h3 h1 h2 hs
  go_enter Tryz.func60, Tryz.ntmps60
  go_wp2_with fail
  refine (eF alt size _).mono ?_; rintro e w1 ⟨rfl, rfl⟩
  rw [HE.out]
  go_wp2_with fail
  have hsz : w.heap.size + 3 = (((w.alloc (.cells #[.int .i64 alt] 3)).alloc (.cells #[.int .i64 size] 3)).alloc (.cells #[.slice none 0 0, .slice none 0 0] 53)).heap.size := by simp
  generalize (((w.alloc (.cells #[.int .i64 alt] 3)).alloc (.cells #[.int .i64 size] 3)).alloc (.cells #[.slice none 0 0, .slice none 0 0] 53)) = W at *
  refine (kM (neF alt size) 95 #[.pointer (some ⟨w.heap.size, 0, none⟩), .pointer (some ⟨w.heap.size + 1, 0, none⟩)] W (enters_of Tryz.func95 (by kernel_rfl) rfl) (fun V hV i _ => new1_call alt size w.heap.size (w.heap.size + 1) i V (aS hV (aA K.out.2.2.1 rfl)) (aS hV (aA K.out.2.2.2 rfl)) HB.out.1.1 HB.out.1.2 HB.out.2.1 HB.out.2.2)).mono ?_
  rintro e w2 ⟨vL, vH, rfl, hT, hB⟩
  obtain ⟨aL, nL, cL, rfl⟩ := aZ hT.L
  obtain ⟨aH, nH, cH, rfl⟩ := aZ hT.H
  obtain ⟨d0, d1, g0, g1⟩ := two_facts (aN hB K.out.2.1)
  have H := qh (And.intro hT hB)
  clear hT hB
  go_wp2_with fail
  obtain ⟨hT9, hB9, r0, r1⟩ := mG (R := w.heap.size + 1 + 1) (by omega) K.out.2.1 K.out.1 H.out.1 H.out.2
  refine bodyPost_ret (v := .tuple #[.agg #[.slice aL nL cL, .slice aH nH cH], .int .i64 0]) ?_ rfl ⟨_, _, by rw [HE.out], fun _ => hT9, fun e => absurd HE.out e, hB9⟩
  simp [results, Tryz.f60, go_sem, r0, r1]
 have HE := qh hE
 clear hE
 go_enter Tryz.func60, Tryz.ntmps60
 go_wp2_with fail
 refine (eF alt size _).mono ?_; rintro e w1 ⟨rfl, rfl⟩
 rw [HE.out]
 go_wp2_with fail
 have r0 := aA (i := 0) (v := .slice none 0 0) K.out.2.1 rfl
 have r1 := aA (i := 1) (v := .slice none 0 0) K.out.2.1 rfl
 refine bodyPost_ret (v := .tuple #[.agg #[.slice none 0 0, .slice none 0 0], .int .i64 1]) ?_ rfl (iK HE.out (by decide) K.out.1)
 simp [results, Tryz.f60, go_sem, r0, r1]
theorem mea1_call (b1 o1 b2 o2 cL cH : Nat) (lo hi : List Int) (alt size : Int) (p q r : Nat) (i : Nat) (W : World) (hi1 : i < 201) (hL : Ints W (some ⟨b1, o1, none⟩) 201 lo) (hH : Ints W (some ⟨b2, o2, none⟩) 201 hi)
    (h0 : W.heap[p]? = some (.cells (bdC (some ⟨b1, o1, none⟩) 201 cL (some ⟨b2, o2, none⟩) 201 cH) 53 (0, 0))) (h1 : W.cell? ⟨q, 0, none⟩ = some (.int .i64 alt)) (h2 : W.cell? ⟨r, 0, none⟩ = some (.int .i64 size)) (a1 : -1000 ≤ alt) (a2 : alt ≤ 50000) (s1 : 25 ≤ size) (s2 : size ≤ 100) :
    Calls Tryz.prog 103 #[.int .i64 (i : Int), .pointer (some ⟨p, 0, none⟩), .pointer (some ⟨q, 0, none⟩), .pointer (some ⟨r, 0, none⟩)] W (PairPost (maF lo hi alt size i).1 (maF lo hi alt size i).2 W) := by
 have hi0 : (0 : Int) ≤ (i : Int) := by omega
 have hi2 : (i : Int) < 201 := by omega
 obtain ⟨k0, k1⟩ := bW h0
 have H := qh (And.intro hL hH)
 obtain ⟨_, _, e1, x0⟩ := ints_at hL hi1
 obtain ⟨_, _, e2, y0⟩ := ints_at hH hi1
 cases e1; cases e2
 have HX := qh (And.intro (And.intro x0 y0) (And.intro h1 h2))
 have HK := qh (And.intro k0 k1)
 clear hL hH h0 x0 y0
 by_cases hn : nonAt lo hi i
 ·have HF := qh (show maF lo hi alt size i = (1, 0) from if_pos hn)
  have hd : nonB lo hi i = true := pY hn
  clear hn
  go_enter Tryz.func103, Tryz.ntmps103
  go_wp2_with fail
  refine (d8 (some ⟨b1, o1, none⟩) (some ⟨b2, o2, none⟩) 201 201 cL cH lo hi i _ H.out.1 H.out.2 hi1 hi1).mono ?_; rintro e w2 ⟨rfl, hb⟩
  rw [hd]
  have B := qh hb
  clear hb hd
  go_wp2_with fail
  go_ret2
  exact iB (by rw [HF.out]) (by rw [HF.out]) B.out
 have HF := qh (show maF lo hi alt size i = (max (gi lo i) alt, min (gi hi i) (alt + size - 1)) from if_neg hn)
 have hd : nonB lo hi i = false := pZ hn
 clear hn
 obtain ⟨X, hX⟩ : ∃ X, gi lo i = X := ⟨_, rfl⟩
 obtain ⟨Y, hY⟩ : ∃ Y, gi hi i = Y := ⟨_, rfl⟩
 rw [hX, hY] at HF HX
 clear hX hY
 go_enter Tryz.func103, Tryz.ntmps103
 go_wp2_with fail
 refine (d8 (some ⟨b1, o1, none⟩) (some ⟨b2, o2, none⟩) 201 201 cL cH lo hi i _ H.out.1 H.out.2 hi1 hi1).mono ?_; rintro e w2 ⟨rfl, hb⟩
 rw [hd]
 clear k0 k1 h1 h2
 have k0 := aS hb HK.out.1
 have k1 := aS hb HK.out.2
 have x0 := aS hb HX.out.1.1
 have y0 := aS hb HX.out.1.2
 have z0 := aS hb HX.out.2.1
 have z1 := aS hb HX.out.2.2
 have B := qh hb
 clear hb hd
 by_cases hm1 : X < alt
 all_goals
  by_cases hm2 : alt + size - 1 < Y
  all_goals
   go_wp2_with fail
   go_region
   all_goals
    go_wp2_with fail
    all_goals
     go_ret2
     exact iB (by rw [HF.out]; show _ = max X alt; omega) (by rw [HF.out]; show _ = min Y (alt + size - 1); omega) (B.out.trans ⟨rfl, rfl, rfl, Nat.le_refl _, fun _ _ => rfl⟩)
end Go.Proofs.YtikjjpjekchcjaaGreat.Alt
end
section
namespace Go.Proofs.YtikjjpjekchcjaaGreat.Alt
open Go.RowKit Go.Shelf AltMath MyHeap MyCopy MyOwn
def MeW (w : World) (aL : Option Addr) (nL cL : Nat) (aH : Option Addr) (nH cH : Nat) (alt size : Int) : World := (((w.alloc (.cells #[.slice aL nL cL, .slice aH nH cH] 53)).alloc (.cells #[.int .i64 alt] 3)).alloc (.cells #[.int .i64 size] 3)).alloc (.cells #[.slice none 0 0, .slice none 0 0] 53)
structure MeK (w : World) (aL : Option Addr) (nL cL : Nat) (aH : Option Addr) (nH cH : Nat) (alt size : Int) (W : World) : Prop where
 B : Below w.heap.size w W
 X : W.heap[w.heap.size]? = some (.cells (bdC aL nL cL aH nH cH) 53 (0, 0))
 a : W.heap[w.heap.size + 1]? = some (.cells #[.int .i64 alt] 3 (0, 0))
 s : W.heap[w.heap.size + 1 + 1]? = some (.cells #[.int .i64 size] 3 (0, 0))
 R : W.heap[w.heap.size + 1 + 1 + 1]? = some (.cells #[.slice none 0 0, .slice none 0 0] 53 (0, 0))
theorem MeK.new (w : World) (aL : Option Addr) (nL cL : Nat) (aH : Option Addr) (nH cH : Nat) (alt size : Int) : MeK w aL nL cL aH nH cH alt size (MeW w aL nL cL aH nH cH alt size) :=
 ⟨(((aC w _).alloc (by simp) _).alloc (by simp; omega) _).alloc (by simp; omega) _, aG (aG (aG (aI _ _ rfl))), aG (aG (aI _ _ (by simp))), aG (aI _ _ (by simp)), aI _ _ (by simp)⟩
theorem MeK.keep {w W W' : World} {aL : Option Addr} {nL cL : Nat} {aH : Option Addr} {nH cH : Nat} {alt size : Int} (h : MeK w aL nL cL aH nH cH alt size W) (hb : Below W.heap.size W W') : MeK w aL nL cL aH nH cH alt size W' := ⟨h.B.trans (hb.mono h.B.size), aN hb h.X, aN hb h.a, aN hb h.s, aN hb h.R⟩
theorem pMea_call (aL aH : Option Addr) (nL nH cL cH : Nat) (lo hi : List Int) (alt size : Int) (w : World) (hL : Ints w aL nL lo) (hH : Ints w aH nH hi) :
    Calls Tryz.prog 93 #[bdV aL nL cL aH nH cH, .int .i64 alt, .int .i64 size] w (BOPost (maE lo hi alt size) (loK (maF lo hi alt size) 201) (hiK (maF lo hi alt size) 201) w) := by
 have H := qh (And.intro hL hH)
 have K := qh (MeK.new w aL nL cL aH nH cH alt size)
 clear hL hH
 unfold MeW at K
 unfold bdV
 by_cases hE : chB lo hi = 0
 ·rcases p9 alt size with hM | hM
  ·obtain ⟨h1, h2, h3⟩ := qA hM
   have hs : 25 ≤ size ∧ size ≤ 100 := by omega
   have HB := qh (And.intro (And.intro h1 h2) hs)
   obtain ⟨e1, e2, -⟩ := chB_ok hE
   obtain rfl : nL = 201 := by rw [← H.out.1.len]; exact e1
   obtain rfl : nH = 201 := by rw [← H.out.2.len]; exact e2
   obtain ⟨b1, o1, rfl, -⟩ := ints_at H.out.1 (k := 0) (by decide)
   obtain ⟨b2, o2, rfl, -⟩ := ints_at H.out.2 (k := 0) (by decide)
   have HE := qh (And.intro hE hM)
   clear hE hM h1 h2 h3 hs e1 e2
   go_enter Tryz.func93, Tryz.ntmps93
   go_wp2_with fail
   refine (bZ (some ⟨b1, o1, none⟩) (some ⟨b2, o2, none⟩) 201 201 cL cH lo hi _ (H.out.1.below K.out.B) (H.out.2.below K.out.B)).mono ?_; rintro e w1 ⟨rfl, hb⟩
   replace K := qh (K.out.keep hb)
   rw [HE.out.1]
   have p0 := aA (i := 0) K.out.a rfl
   have p1 := aA (i := 0) K.out.s rfl
   clear hb
   go_wp2_with fail
   refine (eF alt size _).mono ?_; rintro e w2 ⟨rfl, rfl⟩
   rw [HE.out.2]
   go_wp2_with fail
   refine (kM (maF lo hi alt size) 103 #[.pointer (some ⟨w.heap.size, 0, none⟩), .pointer (some ⟨w.heap.size + 1, 0, none⟩), .pointer (some ⟨w.heap.size + 1 + 1, 0, none⟩)] w1 (enters_of Tryz.func103 (by kernel_rfl) rfl)
    (fun V hV i hi1 => mea1_call b1 o1 b2 o2 cL cH lo hi alt size w.heap.size (w.heap.size + 1) (w.heap.size + 1 + 1) i V hi1 (H.out.1.below (K.out.keep hV).B) (H.out.2.below (K.out.keep hV).B) (K.out.keep hV).X (aA (K.out.keep hV).a rfl) (aA (K.out.keep hV).s rfl) HB.out.1.1 HB.out.1.2 HB.out.2.1 HB.out.2.2)).mono ?_
   rintro e w3 ⟨vL, vH, rfl, hT, hB⟩
   obtain ⟨aP, nP, cP, rfl⟩ := aZ hT.L
   obtain ⟨aQ, nQ, cQ, rfl⟩ := aZ hT.H
   obtain ⟨d0, d1, g0, g1⟩ := two_facts (aN hB K.out.R)
   have HT := qh (And.intro hT hB)
   clear hT hB p0 p1
   go_wp2_with fail
   obtain ⟨hT9, hB9, r0, r1⟩ := mG (R := w.heap.size + 1 + 1 + 1) (by omega) K.out.R K.out.B HT.out.1 HT.out.2
   have hE0 : maE lo hi alt size = 0 := by rw [nF HE.out.1, HE.out.2]
   refine bodyPost_ret (v := .tuple #[.agg #[.slice aP nP cP, .slice aQ nQ cQ], .int .i64 0]) ?_ rfl ⟨_, _, by rw [hE0], fun _ => hT9, fun e => absurd hE0 e, hB9⟩
   simp [results, Tryz.f93, go_sem, r0, r1]
  have HE := qh (And.intro hE hM)
  clear hE hM
  go_enter Tryz.func93, Tryz.ntmps93
  go_wp2_with fail
  refine (bZ aL aH nL nH cL cH lo hi _ (H.out.1.below K.out.B) (H.out.2.below K.out.B)).mono ?_; rintro e w1 ⟨rfl, hb⟩
  replace K := qh (K.out.keep hb)
  rw [HE.out.1]
  have p0 := aA (i := 0) K.out.a rfl
  have p1 := aA (i := 0) K.out.s rfl
  clear hb
  go_wp2_with fail
  refine (eF alt size _).mono ?_; rintro e w2 ⟨rfl, rfl⟩
  rw [HE.out.2]
  obtain ⟨d0, d1, g0, g1⟩ := two_facts K.out.R
  clear p0 p1
  go_wp2_with fail
  have hx := aD (i := 1) (v := .slice none 0 0) (aD (i := 0) (v := .slice none 0 0) K.out.R)
  have hO : Only (w.heap.size + 1 + 1 + 1) w1 ((w1.setCell ⟨w.heap.size + 1 + 1 + 1, 0, none⟩ (.slice none 0 0)).setCell ⟨w.heap.size + 1 + 1 + 1, 1, none⟩ (.slice none 0 0)) := ((Only.refl _ _).setCell 0 _).setCell 1 _
  have r0 := aA (i := 0) (v := .slice none 0 0) hx rfl
  have r1 := aA (i := 1) (v := .slice none 0 0) hx rfl
  refine bodyPost_ret (v := .tuple #[.agg #[.slice none 0 0, .slice none 0 0], .int .i64 1]) ?_ rfl (iK ((nF HE.out.1).trans HE.out.2) (by decide) (K.out.B.trans (hO.below (by omega) K.out.B.size)))
  simp [results, Tryz.f93, go_sem, r0, r1]
 have d1 : (chB lo hi != 0) = true := bne_iff_ne.2 hE
 have HE := qh hE
 clear hE
 go_enter Tryz.func93, Tryz.ntmps93
 go_wp2_with fail
 refine (bZ aL aH nL nH cL cH lo hi _ (H.out.1.below K.out.B) (H.out.2.below K.out.B)).mono ?_; rintro e w1 ⟨rfl, hb⟩
 replace K := qh (K.out.keep hb)
 obtain ⟨c0, c1, g0, g1⟩ := two_facts K.out.R
 clear hb
 go_wp2_with fail
 have hx := aD (i := 1) (v := .slice none 0 0) (aD (i := 0) (v := .slice none 0 0) K.out.R)
 have hO : Only (w.heap.size + 1 + 1 + 1) w1 ((w1.setCell ⟨w.heap.size + 1 + 1 + 1, 0, none⟩ (.slice none 0 0)).setCell ⟨w.heap.size + 1 + 1 + 1, 1, none⟩ (.slice none 0 0)) := ((Only.refl _ _).setCell 0 _).setCell 1 _
 have r0 := aA (i := 0) (v := .slice none 0 0) hx rfl
 have r1 := aA (i := 1) (v := .slice none 0 0) hx rfl
 refine bodyPost_ret (v := .tuple #[.agg #[.slice none 0 0, .slice none 0 0], .int .i64 (chB lo hi)]) ?_ rfl (iK (maE_ch HE.out) HE.out (K.out.B.trans (hO.below (by omega) K.out.B.size)))
 simp [results, Tryz.f93, go_sem, r0, r1]
end Go.Proofs.YtikjjpjekchcjaaGreat.Alt
end
section
namespace Go.MyRange
open Go.RowKit
def KeepB (Bs : List Nat) (W W' : World) : Prop := ∀ b, b ∈ Bs → ∀ o, W'.cell? ⟨b, o, none⟩ = W.cell? ⟨b, o, none⟩
theorem KeepB.refl (Bs : List Nat) (W : World) : KeepB Bs W W := fun _ _ _ => rfl
theorem KeepB.trans {Bs : List Nat} {A B C : World} (h : KeepB Bs A B) (k : KeepB Bs B C) : KeepB Bs A C := fun b hb o => (k b hb o).trans (h b hb o)
theorem KeepB.put {Bs : List Nat} {n₀ : Nat} (hB : ∀ b, b ∈ Bs → b < n₀) (W : World) (l : Nat) (o' : Obj) (hl : n₀ ≤ l) : KeepB Bs W (W.putObj l o') := fun b hb o => by
 have hne : b ≠ l := by have := hB b hb; omega
 have : (W.putObj l o').heap[b]? = W.heap[b]? := World.putObj_heap_other hne
 exact World.cell?_of_block (w := W) (a := ⟨b, o, none⟩) this
theorem keepB_b {Bs : List Nat} {w : World} (hB : ∀ b, b ∈ Bs → b < w.heap.size) (W : World) (l : Nat) (o o' : Obj) (hl : w.heap.size ≤ l) (_ : W.heap[l]? = some o) (_ : o.isCells = false) (_ : o.isWalk = false) : KeepB Bs W (W.putObj l o') := KeepB.put hB W l o' hl
theorem KeepB.setCell {Bs : List Nat} {W W' : World} (h : KeepB Bs W W') {p : Addr} (hp : p.block ∉ Bs) (v : Value) : KeepB Bs W (W'.setCell p v) := fun b hb o => by
 have hne : b ≠ p.block := fun e => hp (e ▸ hb)
 have : (W'.setCell p v).heap[b]? = W'.heap[b]? := Below.heap_setCell _ _ _ _ hne
 exact (World.cell?_of_block (w := W') (a := ⟨b, o, none⟩) this).trans (h b hb o)
theorem KeepB.drew {Bs : List Nat} {W W' : World} (h : KeepB Bs W W') : KeepB Bs W W'.drew := h
theorem KeepB.alloc {Bs : List Nat} {W W' : World} (h : KeepB Bs W W') (hB : ∀ b, b ∈ Bs → b < W'.heap.size) (o : Obj) : KeepB Bs W (W'.alloc o) := fun b hb i => by
 have : (W'.alloc o).heap[b]? = W'.heap[b]? := Below.heap_alloc _ _ _ (hB b hb)
 exact (World.cell?_of_block (w := W') (a := ⟨b, i, none⟩) this).trans (h b hb i)
theorem KeepB.below {Bs : List Nat} {n : Nat} {W W' W'' : World} (h : KeepB Bs W W') (hB : ∀ b, b ∈ Bs → b < n) (k : Below n W' W'') : KeepB Bs W W'' := fun b hb o => (k.cell (p := ⟨b, o, none⟩) (hB b hb)).trans (h b hb o)
theorem dJ {w : World} {a : Addr} {v : Value} (o : Obj) (h : w.cell? a = some v) : (w.alloc o).cell? a = some v :=
 (World.cell?_of_block (w := w) (Below.heap_alloc w o a.block (World.block_lt_of_cell? w a h))).trans h
end Go.MyRange
end
