/-
  PtAltM, PtAltO
-/
import Derived.Test.YtikjjpjekchcjaaGreatPm9
set_option linter.all false
set_option maxRecDepth 100000
set_option maxHeartbeats 64000000
section
namespace Go.Proofs.YtikjjpjekchcjaaGreat.Alt
open Go.RowKit Go.Shelf Go.MyRange AltMath MyHeap MyCopy MyOwn
attribute [local go_sem] Oper.semAt_some
def exC (x : Ext) : Array Value := #[.int .i64 x.low, .int .i64 x.high, .int .i64 x.slow, .int .i64 x.fast]
def SpPost (lo hi : List Int) (w : World) (e : Ending) (w' : World) : Prop := e = .returned (.tuple #[.agg (exC (spX lo hi)), .int .i64 (spE lo hi)]) ∧ Below w.heap.size w w'
def z4 : Array Value := #[.int .i64 0, .int .i64 0, .int .i64 0, .int .i64 0]
structure SpK (w0 : World) (bc : Array Value) (R m : Nat) (q1 q2 : Option (Int × Int)) (W : World) : Prop where
 Z : W.heap[m]? = some (.cells (encO q1) 144 (0, 0))
 V : W.heap[m + 1]? = some (.cells (encO q2) 144 (0, 0))
 R : W.heap[R]? = some (.cells z4 136 (0, 0))
 B : Below w0.heap.size w0 W
 le : m + 5 ≤ W.heap.size
 X : W.heap[w0.heap.size]? = some (.cells bc 53 (0, 0))
theorem SpK.grown {w0 : World} {bc : Array Value} {R m B : Nat} {q1 q2 : Option (Int × Int)} {W W' : World} {row : Option Nat} (h : SpK w0 bc R m q1 q2 W) (hB : w0.heap.size ≤ B) (hg : W.grownBy W' row) (hr : ∀ r, row = some r → B ≤ r ∧ ∃ o : Obj, W.heap[r]? = some o ∧ o.isCells = false) : SpK w0 bc R m q1 q2 W' :=
 ⟨(grownBy_keeps_cells hg (fun r e => (hr r e).2) h.Z rfl).trans h.Z, (grownBy_keeps_cells hg (fun r e => (hr r e).2) h.V rfl).trans h.V, (grownBy_keeps_cells hg (fun r e => (hr r e).2) h.R rfl).trans h.R, h.B.grown hg h.B.size (fun k e => Nat.le_trans hB (hr k e).1), Nat.le_trans h.le hg.size, (grownBy_keeps_cells hg (fun r e => (hr r e).2) h.X rfl).trans h.X⟩
theorem SpK.addZ {w0 : World} {bc : Array Value} {R m : Nat} {q1 q1' q2 : Option (Int × Int)} {W W' : World} (h : SpK w0 bc R m q1 q2 W) (hR : R < m) (hm : w0.heap.size < m) (h1 : W'.heap[m]? = some (.cells (encO q1') 144 (0, 0))) (hO : Only m W W') : SpK w0 bc R m q1' q2 W' :=
 ⟨h1, hO.keeps h.V (by omega), hO.keeps h.R (by omega), h.B.trans (hO.below (Nat.le_of_lt hm) h.B.size), Nat.le_trans h.le hO.size, hO.keeps h.X (by omega)⟩
theorem SpK.addV {w0 : World} {bc : Array Value} {R m : Nat} {q1 q2 q2' : Option (Int × Int)} {W W' : World} (h : SpK w0 bc R m q1 q2 W) (hR : R < m) (hm : w0.heap.size < m) (h1 : W'.heap[m + 1]? = some (.cells (encO q2') 144 (0, 0))) (hO : Only (m + 1) W W') : SpK w0 bc R m q1 q2' W' :=
 ⟨hO.keeps h.Z (by omega), h1, hO.keeps h.R (by omega), h.B.trans (hO.below (by omega) h.B.size), Nat.le_trans h.le hO.size, hO.keeps h.X (by omega)⟩
def gZ (lo hi : List Int) (i : Nat) : Int × Int := (gi lo i, gi hi i)
def gV (i : Nat) : Int × Int := ((i : Int) - 100, (i : Int) - 100)
theorem spZ_fold (lo hi : List Int) : spZ lo hi 201 = foldG (gZ lo hi) (ofL lo hi 0 201) := mU lo hi (gZ lo hi) 0 201
theorem spV_fold (lo hi : List Int) : spV lo hi 201 = foldG gV (ofL lo hi 0 201) := mU lo hi gV 0 201
theorem spZV (lo hi : List Int) : (spZ lo hi 201).isSome = (spV lo hi 201).isSome := acc_same
theorem sp_none {lo hi : List Int} (h : chB lo hi = 0) (hq : spZ lo hi 201 = none) : spE lo hi = 9 ∧ spX lo hi = ⟨0, 0, 0, 0⟩ := by
 have e : spE lo hi = 9 := by unfold spE; rw [if_neg (fun e => e h), hq]; rfl
 exact ⟨e, by unfold spX; rw [if_neg (by rw [e]; decide)]⟩
theorem sp_some {lo hi : List Int} {a b c d : Int} (h : chB lo hi = 0) (hq : spZ lo hi 201 = some (a, b)) (hv : spV lo hi 201 = some (c, d)) : spE lo hi = 0 ∧ spX lo hi = ⟨a, b, c, d⟩ := by
 have e : spE lo hi = 0 := by unfold spE; rw [if_neg (fun e => e h), hq]; rfl
 exact ⟨e, by unfold spX; rw [if_pos e, hq, hv]; rfl⟩
theorem eI {W : World} {b : Nat} {x y z u : Value} {T : TypeId} (h : W.heap[b]? = some (.cells #[x, y, z, u] T (0, 0))) : (W.cell? ⟨b, 0, none⟩ = some x ∧ W.cell? ⟨b, 1, none⟩ = some y ∧ W.cell? ⟨b, 2, none⟩ = some z ∧ W.cell? ⟨b, 3, none⟩ = some u) ∧ W.frozen? ⟨b, 0, none⟩ = false ∧ W.frozen? ⟨b, 1, none⟩ = false ∧ W.frozen? ⟨b, 2, none⟩ = false ∧ W.frozen? ⟨b, 3, none⟩ = false :=
 ⟨⟨aA h rfl, aA h rfl, aA h rfl, aA h rfl⟩, aF h, aF h, aF h, aF h⟩
theorem sp_fin {w0 W : World} {R D : Nat} {x y z u : Value} {T : TypeId} (a b c d : Value) (hB : Below w0.heap.size w0 W) (hR : W.heap[R]? = some (.cells #[x, y, z, u] T (0, 0))) (hw : w0.heap.size ≤ R) (hD : W.heap[D]? = some (.deferred (some []))) (hwD : w0.heap.size ≤ D) :
    ((((W.setCell ⟨R, 0, none⟩ a).setCell ⟨R, 1, none⟩ b).setCell ⟨R, 2, none⟩ c).setCell ⟨R, 3, none⟩ d).heap[D]? = some (.deferred (some [])) ∧ (((((W.setCell ⟨R, 0, none⟩ a).setCell ⟨R, 1, none⟩ b).setCell ⟨R, 2, none⟩ c).setCell ⟨R, 3, none⟩ d).putObj D (.deferred none)).heap[R]? = some (.cells #[a, b, c, d] T (0, 0)) ∧
     Below w0.heap.size w0 (((((W.setCell ⟨R, 0, none⟩ a).setCell ⟨R, 1, none⟩ b).setCell ⟨R, 2, none⟩ c).setCell ⟨R, 3, none⟩ d).putObj D (.deferred none)) := by
 have hne : D ≠ R := fun e => by subst e; rw [hR] at hD; cases hD
 have hO : Only R W ((((W.setCell ⟨R, 0, none⟩ a).setCell ⟨R, 1, none⟩ b).setCell ⟨R, 2, none⟩ c).setCell ⟨R, 3, none⟩ d) := ((((Only.refl _ _).setCell 0 _).setCell 1 _).setCell 2 _).setCell 3 _
 have hx : ((((W.setCell ⟨R, 0, none⟩ a).setCell ⟨R, 1, none⟩ b).setCell ⟨R, 2, none⟩ c).setCell ⟨R, 3, none⟩ d).heap[R]? = some (.cells #[a, b, c, d] T (0, 0)) := by simpa using aD (i := 3) (v := d) (aD (i := 2) (v := c) (aD (i := 1) (v := b) (aD (i := 0) (v := a) hR)))
 have hP : Only D ((((W.setCell ⟨R, 0, none⟩ a).setCell ⟨R, 1, none⟩ b).setCell ⟨R, 2, none⟩ c).setCell ⟨R, 3, none⟩ d) (((((W.setCell ⟨R, 0, none⟩ a).setCell ⟨R, 1, none⟩ b).setCell ⟨R, 2, none⟩ c).setCell ⟨R, 3, none⟩ d).putObj D (.deferred none)) := grownBy_putObj' _ D (.deferred none)
 have hB1 := hB.trans (hO.below hw hB.size)
 exact ⟨hO.keeps hD hne, hP.keeps hx hne.symm, hB1.trans (hP.below hwD hB1.size)⟩
theorem pSpread_ok (b1 o1 b2 o2 cL cH : Nat) (lo hi : List Int) (w : World) (hE : chB lo hi = 0) (hL : Ints w (some ⟨b1, o1, none⟩) 201 lo) (hH : Ints w (some ⟨b2, o2, none⟩) 201 hi) :
    Calls Tryz.prog 76 #[bdV (some ⟨b1, o1, none⟩) 201 cL (some ⟨b2, o2, none⟩) 201 cH] w (SpPost lo hi w) := by
 unfold bdV
 refine (callsIn_wide (n := 6)).1 ?_
 refine callsIn_of_wp_marks Tryz.func76 rfl trivial ?_ rfl
 simp only [Tryz.ntmps76, List.size_toArray, List.length_cons, List.length_nil, Nat.reduceAdd, Nat.reduceSub, Array.replicate_succ, Array.replicate_zero, List.push_toArray, List.append_toArray, List.nil_append, List.cons_append]
 have HV := qh (And.intro (chB_ok hE).2.2 hE)
 have H := qh (And.intro hL hH)
 have HB0 := qh (show Below w.heap.size w ((w.alloc (.cells (bdC (some ⟨b1, o1, none⟩) 201 cL (some ⟨b2, o2, none⟩) 201 cH) 53)).alloc (.cells #[.int .i64 0, .int .i64 0, .int .i64 0, .int .i64 0] 136)) ∧ ((w.alloc (.cells (bdC (some ⟨b1, o1, none⟩) 201 cL (some ⟨b2, o2, none⟩) 201 cH) 53)).alloc (.cells #[.int .i64 0, .int .i64 0, .int .i64 0, .int .i64 0] 136)).heap[w.heap.size]? = some (.cells (bdC (some ⟨b1, o1, none⟩) 201 cL (some ⟨b2, o2, none⟩) 201 cH) 53 (0, 0)) ∧ ((w.alloc (.cells (bdC (some ⟨b1, o1, none⟩) 201 cL (some ⟨b2, o2, none⟩) 201 cH) 53)).alloc (.cells #[.int .i64 0, .int .i64 0, .int .i64 0, .int .i64 0] 136)).heap[w.heap.size + 1]? = some (.cells #[.int .i64 0, .int .i64 0, .int .i64 0, .int .i64 0] 136 (0, 0))
  from ⟨(aC w _).alloc (by simp) _, aG (aI _ _ rfl), aI _ _ (by simp)⟩)
 clear hL hH hE
 unfold bdC at HB0
 gi_wp2_with fail
 refine ⟨trivial, ?_⟩
 refine (callsIn_wide.2 (bZ (some ⟨b1, o1, none⟩) (some ⟨b2, o2, none⟩) 201 201 cL cH lo hi _ (H.out.1.below HB0.out.1) (H.out.2.below HB0.out.1))).mono ?_
 rintro e w1 ⟨rfl, hb⟩
 rw [HV.out.2]
 have HB1 := qh (And.intro (HB0.out.1.trans (hb.mono HB0.out.1.size)) (And.intro (aN hb HB0.out.2.1) (aN hb HB0.out.2.2)))
 clear hb HB0
 obtain ⟨k0, k1⟩ := bW (show w1.heap[w.heap.size]? = some (.cells (bdC (some ⟨b1, o1, none⟩) 201 cL (some ⟨b2, o2, none⟩) 201 cH) 53 (0, 0)) from HB1.out.2.1)
 have kb0 := World.block_lt_of_cell? w1 _ k0
 gi_wp2_with fail
 refine ⟨trivial, ?_⟩
 refine (callsIn_wide.2 (l7 (some ⟨b1, o1, none⟩) (some ⟨b2, o2, none⟩) 201 cL 201 cH _ _ _)).mono ?_
 rintro e w2 ⟨rfl, rfl⟩
 gi_wp2_with fail
 have hR1 : w.heap.size + 1 < w1.heap.size := aB HB1.out.2.2
 have HI0 := qh (show SpK w #[.slice (some ⟨b1, o1, none⟩) 201 cL, .slice (some ⟨b2, o2, none⟩) 201 cH] (w.heap.size + 1) w1.heap.size (foldG (gZ lo hi) (opos [])) (foldG gV (opos [])) (((((w1.alloc (.cells (encO none) 144)).alloc (.cells (encO none) 144)).alloc (.cells (bdC (some ⟨b1, o1, none⟩) 201 cL (some ⟨b2, o2, none⟩) 201 cH) 53)).alloc (.cells #[.int .i64 0] 3)).alloc (.cells #[.int .i64 201] 3)) from
  ⟨aG (aG (aG (aG (aI _ _ rfl)))), aG (aG (aG (aI _ _ (by simp)))), aG (aG (aG (aG (aG HB1.out.2.2)))), (((((HB1.out.1.alloc HB1.out.1.size _).alloc (by have := HB1.out.1.size; simp; omega) _).alloc (by have := HB1.out.1.size; simp; omega) _).alloc (by have := HB1.out.1.size; simp; omega) _).alloc (by have := HB1.out.1.size; simp; omega) _), by simp, aG (aG (aG (aG (aG HB1.out.2.1))))⟩)
 have HC := qh (And.intro (show (((((w1.alloc (.cells (encO none) 144)).alloc (.cells (encO none) 144)).alloc (.cells (bdC (some ⟨b1, o1, none⟩) 201 cL (some ⟨b2, o2, none⟩) 201 cH) 53)).alloc (.cells #[.int .i64 0] 3)).alloc (.cells #[.int .i64 201] 3)).heap[w1.heap.size + 1 + 1]? = some (.cells (bdC (some ⟨b1, o1, none⟩) 201 cL (some ⟨b2, o2, none⟩) 201 cH) 53 (0, 0)) from aG (aG (aI _ _ (by simp))))
  (And.intro (show (((((w1.alloc (.cells (encO none) 144)).alloc (.cells (encO none) 144)).alloc (.cells (bdC (some ⟨b1, o1, none⟩) 201 cL (some ⟨b2, o2, none⟩) 201 cH) 53)).alloc (.cells #[.int .i64 0] 3)).alloc (.cells #[.int .i64 201] 3)).heap[w1.heap.size + 1 + 1 + 1]? = some (.cells #[.int .i64 0] 3 (0, 0)) from aG (aI _ _ (by simp)))
   (show (((((w1.alloc (.cells (encO none) 144)).alloc (.cells (encO none) 144)).alloc (.cells (bdC (some ⟨b1, o1, none⟩) 201 cL (some ⟨b2, o2, none⟩) 201 cH) 53)).alloc (.cells #[.int .i64 0] 3)).alloc (.cells #[.int .i64 201] 3)).heap[w1.heap.size + 1 + 1 + 1 + 1]? = some (.cells #[.int .i64 201] 3 (0, 0)) from aI _ _ (by simp))))
 have hsz : (((((w1.alloc (.cells (encO none) 144)).alloc (.cells (encO none) 144)).alloc (.cells (bdC (some ⟨b1, o1, none⟩) 201 cL (some ⟨b2, o2, none⟩) 201 cH) 53)).alloc (.cells #[.int .i64 0] 3)).alloc (.cells #[.int .i64 201] 3)).heap.size = w1.heap.size + 5 := by simp
 change Code.wpIn _ _ _ _ _ _ (((((w1.alloc (.cells (encO none) 144)).alloc (.cells (encO none) 144)).alloc (.cells (bdC (some ⟨b1, o1, none⟩) 201 cL (some ⟨b2, o2, none⟩) 201 cH) 53)).alloc (.cells #[.int .i64 0] 3)).alloc (.cells #[.int .i64 201] 3))
 have hBX := aN (w1 := (((((w1.alloc (.cells (encO none) 144)).alloc (.cells (encO none) 144)).alloc (.cells (bdC (some ⟨b1, o1, none⟩) 201 cL (some ⟨b2, o2, none⟩) 201 cH) 53)).alloc (.cells #[.int .i64 0] 3)).alloc (.cells #[.int .i64 201] 3))) (((((aC w1 _).alloc (by simp) _).alloc (by simp; omega) _).alloc (by simp; omega) _).alloc (by simp; omega) _) HB1.out.2.1
 have HX := qh hBX
 clear hBX k0 k1 kb0
 generalize (((((w1.alloc (.cells (encO none) 144)).alloc (.cells (encO none) 144)).alloc (.cells (bdC (some ⟨b1, o1, none⟩) 201 cL (some ⟨b2, o2, none⟩) 201 cH) 53)).alloc (.cells #[.int .i64 0] 3)).alloc (.cells #[.int .i64 201] 3)) = w5 at *
 obtain ⟨m, hm⟩ : ∃ m, w1.heap.size = m := ⟨_, rfl⟩
 rw [hm] at HI0 HC hsz hR1 ⊢
 have HLT : Hid (∀ b ∈ [m + 1 + 1 + 1, m + 1 + 1 + 1 + 1, m + 1 + 1, b1, b2], b < w5.heap.size ∧ b ≠ m ∧ b ≠ m + 1) := qh (by
  obtain ⟨_, _, e1, x0⟩ := ints_at H.out.1 (k := 0) (by decide)
  obtain ⟨_, _, e2, y0⟩ := ints_at H.out.2 (k := 0) (by decide)
  cases e1; cases e2
  have l1 : b1 < w.heap.size := World.block_lt_of_cell? w _ x0
  have l2 : b2 < w.heap.size := World.block_lt_of_cell? w _ y0
  intro b hb
  simp only [List.mem_cons, List.not_mem_nil, or_false] at hb
  rcases hb with rfl | rfl | rfl | rfl | rfl <;> omega)
 have HB5 := qh HI0.out.B
 clear HB1 hm
 refine wpIn_rangeFunc_ownF rfl (by omega) (gf := 100) (lb := #[.pointer (some ⟨m + 1 + 1 + 1, 0, none⟩), .pointer (some ⟨m + 1 + 1 + 1 + 1, 0, none⟩), .pointer (some ⟨m + 1 + 1, 0, none⟩)]) rfl trivial (enters_of Tryz.func100 (by kernel_rfl) rfl)
  (rB _ (by omega) (m + 1 + 1 + 1) (m + 1 + 1 + 1 + 1) (m + 1 + 1) b1 o1 b2 o2 cL cH 0 201 lo hi 0 201 (by decide) (by decide) (by decide) (by decide) (by decide) (by decide) w5 (aA HC.out.2.1 rfl) (aA HC.out.2.2 rfl) (bW HC.out.1) (H.out.1.below HB5.out) (H.out.2.below HB5.out)) KeepB.trans (keepB_b (fun b hb => (HLT.out b hb).1)) (Below.refl _ _) (fun _ => rfl)
  (fun pre W => SpK w #[.slice (some ⟨b1, o1, none⟩) 201 cL, .slice (some ⟨b2, o2, none⟩) 201 cH] (w.heap.size + 1) m (foldG (gZ lo hi) (opos pre)) (foldG gV (opos pre)) W)
  (fun _ _ _ => False)
  (fun _ _ _ _ hs hg hr => hs.grown (by omega) hg hr)
  (fun _ _ _ _ _ hs _ _ => hs)
  HI0.out
  (fun x => { tmps := #[.agg #[.slice (some ⟨b1, o1, none⟩) 201 cL, .slice (some ⟨b2, o2, none⟩) 201 cH], .pointer (some ⟨w.heap.size, 0, none⟩), .pointer (some ⟨w.heap.size + 1, 0, none⟩), .int .i64 0, .int .i64 0, .pointer (some ⟨m, 0, none⟩), .pointer (some ⟨m + 1, 0, none⟩), .int .i64 (x.1 : Int),
   .agg #[.slice (some ⟨b1, o1, none⟩) 201 cL, .slice (some ⟨b2, o2, none⟩) 201 cH], .int .i64 0, .int .i64 0, .bool false, undef, undef, .agg #[.slice (some ⟨b1, o1, none⟩) 201 cL, .slice (some ⟨b2, o2, none⟩) 201 cH],
   .func (.func 100) #[] #[.pointer (some ⟨m + 1 + 1 + 1, 0, none⟩), .pointer (some ⟨m + 1 + 1 + 1 + 1, 0, none⟩), .pointer (some ⟨m + 1 + 1, 0, none⟩)],
   .int .i64 (x.1 : Int), undef, undef, undef, undef, undef, undef, undef, undef, undef, undef, undef, undef, undef, undef, undef, undef, undef, undef, undef, undef, undef, undef, undef, undef, undef, undef, undef, undef, undef], defers := [] }) ?assign ?body ?done ?stop
 case assign =>
  intro l x W K hK
  simp only [oVals]
  gi_wp2
  exact hK
 case body =>
  rintro l pre x W hI hlen
  obtain ⟨j, hj⟩ := x
  dsimp only at *
  have hj0 : (0 : Int) ≤ (j : Int) := by omega
  have hj1 : (j : Int) < 201 := by omega
  have hX : W.heap[w.heap.size]? = some (.cells #[.slice (some ⟨b1, o1, none⟩) 201 cL, .slice (some ⟨b2, o2, none⟩) 201 cH] 53 (0, 0)) := hI.X
  obtain ⟨k0, k1⟩ := bW (w := W.drew) hX
  obtain ⟨_, _, e1, x0⟩ := ints_at (H.out.1.below hI.B) hj
  obtain ⟨_, _, e2, y0⟩ := ints_at (H.out.2.below hI.B) hj
  cases e1; cases e2
  have HS := qh (show gZ lo hi j = (gi lo j, gi hi j) from rfl)
  obtain ⟨X, hXX⟩ : ∃ X, gi lo j = X := ⟨_, rfl⟩
  obtain ⟨Y, hYY⟩ : ∃ Y, gi hi j = Y := ⟨_, rfl⟩
  rw [hXX] at x0 HS
  rw [hYY] at y0 HS
  have HQ := qh (And.intro (gP (gZ lo hi) (opos pre) j) (gP gV (opos pre) j))
  have z0 : W.drew.cell? ⟨b1, o1 + j, none⟩ = some (.int .i64 X) := x0
  have z1 : W.drew.cell? ⟨b2, o2 + j, none⟩ = some (.int .i64 Y) := y0
  have HI := qh hI
  have HP := qh (show W.drew.heap[m]? = some (.cells (encO (foldG (gZ lo hi) (opos pre))) 144 (0, 0)) from hI.Z)
  have hbb : b1 < w.heap.size ∧ b2 < w.heap.size := by
   obtain ⟨_, _, e1, u0⟩ := ints_at H.out.1 (k := 0) (by decide)
   obtain ⟨_, _, e2, v0⟩ := ints_at H.out.2 (k := 0) (by decide)
   cases e1; cases e2
   exact ⟨World.block_lt_of_cell? w _ u0, World.block_lt_of_cell? w _ v0⟩
  have HBB := qh hbb
  clear hX x0 y0 hXX hYY hI hbb
  gi_wp2
  refine MyLift.region_held_round (S := (fun w' => (w'.cell? ⟨w.heap.size, 0, none⟩ = some (.slice (some ⟨b1, o1, none⟩) 201 cL) ∧ w'.cell? ⟨w.heap.size, 1, none⟩ = some (.slice (some ⟨b2, o2, none⟩) 201 cH)) ∧ w'.cell? ⟨b1, o1 + j, none⟩ = some (.int .i64 X) ∧ w'.cell? ⟨b2, o2 + j, none⟩ = some (.int .i64 Y))) (by kernel_rfl) (by kernel_rfl) (by rintro ⟨_, _, h⟩; exact h) (by (try dsimp only); (exact ⟨⟨k0, k1⟩, z0, z1⟩)) (fun hHeld => ?_)
  refine MyHeld.tk 0 ?_
  refine MyHeld.tk 1 ?_
  refine MyHeld.tk 2 ?_
  refine MyHeld.tk 3 ?_
  refine MyHeld.tk 4 ?_
  refine MyHeld.tk 5 ?_
  refine MyHeld.tk 6 ?_
  refine MyHeld.tk 7 ?_
  refine MyHeld.tk 8 ?_
  refine MyHeld.tk 9 ?_
  refine wpAnyH_ready (rs := [10]) (by kernel_rfl) (by simp) ?_
  refine (MyHeld.next 10 (MyHeld.at_rfl rfl) (fun Kq hKq => ?_) AllReadyH.nil)
  go_simp
  ((go_at_call 87; refine (mT m (foldG (gZ lo hi) (opos pre)) _ _ _ HP.out).mono ?_; rintro e w3 ⟨rfl, h3, ho3⟩; replace k0 := ho3.cell k0 (show w.heap.size ≠ m by omega); replace k1 := ho3.cell k1 (show w.heap.size ≠ m by omega); replace z0 := ho3.cell z0 (show b1 ≠ m by have := HBB.out; omega); replace z1 := ho3.cell z1 (show b2 ≠ m by have := HBB.out; omega); have H3 := qh (And.intro h3 ho3); clear h3 ho3))
  go_wp2_with fail
  refine hKq.out _ _ (by (try dsimp only); (exact ⟨⟨k0, k1⟩, z0, z1⟩)) (fun hHeld' => ?_)
  clear hKq Kq hHeld; have hHeld := hHeld'; clear hHeld'
  try simp only [Act.put, List.setIfInBounds_toArray, List.set_cons_zero, List.set_cons_succ]
  refine wpAnyH_done (by kernel_rfl) ?_ _
  all_goals (
   have hO := ((Only.refl m W).drew).trans H3.out.2
   have h3 := H3.out.1
   rw [← HS.out, ← HQ.out.1] at h3
   have hK3 := HI.out.addZ hR1 (by omega) h3 hO
   have HK3 := qh (And.intro hK3 hO)
   clear k0 k1 z0 z1 hO h3 hK3
   gi_wp2
   refine ⟨trivial, ?_⟩
   refine (CallsIn.inRound l (callsIn_wide.2 (mT (m + 1) (foldG gV (opos pre)) _ _ _ HK3.out.1.V))).mono ?_
   rintro e w4 ⟨rfl, h4, hO4⟩
   have H4 := qh (And.intro h4 hO4)
   clear h4 hO4
   gi_wp2
   have h4 := H4.out.1
   rw [show ((j : Int) - 100, (j : Int) - 100) = gV j from rfl, ← HQ.out.2] at h4
   have hK4 := HK3.out.1.addV hR1 (by omega) h4 H4.out.2
   have hle := HI.out.le
   have hle3 := HK3.out.1.le
   have k1 := iD HI.out.Z HK3.out.2
   have k2 := iD HK3.out.1.V H4.out.2
   exact ⟨⟨Nat.le_trans k1.1 k2.1, fun k o h1 h2 => k2.2 k o (k1.2 k o h1 h2) h2⟩, (jL HK3.out.2 (fun h => (HLT.out _ h).2.1 rfl) (fun c hc => Nat.lt_of_lt_of_le (HLT.out c hc).1 (by omega))).trans (jL H4.out.2 (fun h => (HLT.out _ h).2.2 rfl) (fun c hc => Nat.lt_of_lt_of_le (HLT.out c hc).1 (by omega))), by show SpK w _ _ m (foldG (gZ lo hi) (opos (pre ++ [⟨j, hj⟩]))) (foldG gV (opos (pre ++ [⟨j, hj⟩]))) w4; rw [kJ]; exact hK4⟩)
 case done =>
  rintro D ys W hD hys hI hK
  rw [hys, ← spZ_fold, ← spV_fold] at hI
  have hZV := spZV lo hi
  have HD := qh hK
  clear hK
  cases hQ : spZ lo hi 201 with
  | none =>
   have HE := qh (sp_none HV.out.2 hQ)
   have hI1 := hI.Z
   rw [hQ] at hI1
   simp only [encO] at hI1
   have c0 := aA (i := 0) hI1 rfl
   have hR := hI.R
   unfold z4 at hR
   obtain ⟨⟨r0, r1, r2, r3⟩, g0, g1, g2, g3⟩ := eI hR
   have HI := qh hI
   have HR := qh hR
   clear hI1 hI hys hQ hZV hR
   gi_wp2
   obtain ⟨hD9, hR9, hB9⟩ := sp_fin (.int .i64 0) (.int .i64 0) (.int .i64 0) (.int .i64 0) HI.out.B HR.out (by omega) HD.out (by omega)
   refine ⟨by simp, .inl ⟨_, _, rfl, run_takeDeferred hD9, ?_⟩⟩
   obtain ⟨⟨s0, s1, s2, s3⟩, -⟩ := eI hR9
   refine ⟨.tuple #[.agg #[.int .i64 0, .int .i64 0, .int .i64 0, .int .i64 0], .int .i64 9], ?_, by rw [HE.out.1, HE.out.2]; rfl, hB9⟩
   simp [results, Tryz.f76, go_sem, s0, s1, s2, s3]
  | some r =>
   obtain ⟨za, zb⟩ := r
   obtain ⟨⟨va, vb⟩, hV⟩ : ∃ v, spV lo hi 201 = some v := Option.isSome_iff_exists.1 (by rw [← hZV, hQ]; rfl)
   have HE := qh (sp_some HV.out.2 hQ hV)
   have hI1 := hI.Z
   have hI2 := hI.V
   rw [hQ] at hI1
   rw [hV] at hI2
   simp only [encO] at hI1 hI2
   have c0 := aA (i := 0) hI1 rfl
   have c1 := aA (i := 1) hI1 rfl
   have c2 := aA (i := 2) hI1 rfl
   have c3 := aA (i := 1) hI2 rfl
   have c4 := aA (i := 2) hI2 rfl
   have hR := hI.R
   unfold z4 at hR
   obtain ⟨⟨r0, r1, r2, r3⟩, g0, g1, g2, g3⟩ := eI hR
   have HI := qh hI
   have HR := qh hR
   clear hI1 hI2 hI hys hQ hV hZV hR
   gi_wp2
   obtain ⟨hD9, hR9, hB9⟩ := sp_fin (.int .i64 za) (.int .i64 zb) (.int .i64 va) (.int .i64 vb) HI.out.B HR.out (by omega) HD.out (by omega)
   refine ⟨by simp, .inl ⟨_, _, rfl, run_takeDeferred hD9, ?_⟩⟩
   obtain ⟨⟨s0, s1, s2, s3⟩, -⟩ := eI hR9
   refine ⟨.tuple #[.agg #[.int .i64 za, .int .i64 zb, .int .i64 va, .int .i64 vb], .int .i64 0], ?_, by rw [HE.out.1, HE.out.2]; rfl, hB9⟩
   simp [results, Tryz.f76, go_sem, s0, s1, s2, s3]
 case stop =>
  rintro D c pre W _ _ h _
  exact h.elim
theorem sp_ch {lo hi : List Int} (h : chB lo hi ≠ 0) : spE lo hi = chB lo hi ∧ spX lo hi = ⟨0, 0, 0, 0⟩ := by
 have e : spE lo hi = chB lo hi := if_pos h
 exact ⟨e, by unfold spX; rw [if_neg (by rw [e]; exact h)]⟩
theorem pSpread_ch (aL aH : Option Addr) (nL nH cL cH : Nat) (lo hi : List Int) (w : World) (hE : chB lo hi ≠ 0) (hL : Ints w aL nL lo) (hH : Ints w aH nH hi) :
    Calls Tryz.prog 76 #[bdV aL nL cL aH nH cH] w (SpPost lo hi w) := by
 have d1 : (chB lo hi != 0) = true := bne_iff_ne.2 hE
 have HE := qh (And.intro hE (sp_ch hE))
 have H := qh (And.intro hL hH)
 have B := qh ((aC w (.cells (bdC aL nL cL aH nH cH) 53)).alloc (by simp) (.cells #[.int .i64 0, .int .i64 0, .int .i64 0, .int .i64 0] 136))
 have R := qh (aI (w.alloc (.cells (bdC aL nL cL aH nH cH) 53)) (.cells #[.int .i64 0, .int .i64 0, .int .i64 0, .int .i64 0] 136) (n := w.heap.size + 1) (by simp))
 clear hL hH hE
 unfold bdV
 unfold bdC at *
 go_enter Tryz.func76, Tryz.ntmps76
 go_wp2_with fail
 refine (bZ aL aH nL nH cL cH lo hi _ (H.out.1.below B.out) (H.out.2.below B.out)).mono ?_; rintro e w1 ⟨rfl, hb⟩
 obtain ⟨⟨r0, r1, r2, r3⟩, g0, g1, g2, g3⟩ := eI (aN hb R.out)
 replace B := qh (B.out.trans (hb.mono B.out.size))
 replace R := qh (aN hb R.out)
 clear hb
 go_wp2_with fail
 have hx := aD (i := 3) (v := .int .i64 0) (aD (i := 2) (v := .int .i64 0) (aD (i := 1) (v := .int .i64 0) (aD (i := 0) (v := .int .i64 0) R.out)))
 have hO : Only (w.heap.size + 1) w1 ((((w1.setCell ⟨w.heap.size + 1, 0, none⟩ (.int .i64 0)).setCell ⟨w.heap.size + 1, 1, none⟩ (.int .i64 0)).setCell ⟨w.heap.size + 1, 2, none⟩ (.int .i64 0)).setCell ⟨w.heap.size + 1, 3, none⟩ (.int .i64 0)) := ((((Only.refl _ _).setCell 0 _).setCell 1 _).setCell 2 _).setCell 3 _
 obtain ⟨⟨s0, s1, s2, s3⟩, -⟩ := eI (T := 136) (x := .int .i64 0) (y := .int .i64 0) (z := .int .i64 0) (u := .int .i64 0) (by simpa using hx)
 refine bodyPost_ret (v := .tuple #[.agg #[.int .i64 0, .int .i64 0, .int .i64 0, .int .i64 0], .int .i64 (chB lo hi)]) ?_ rfl ⟨by rw [HE.out.2.1, HE.out.2.2]; rfl, B.out.trans (hO.below (by omega) B.out.size)⟩
 simp [results, Tryz.f76, go_sem, s0, s1, s2, s3]
theorem jU (aL aH : Option Addr) (nL nH cL cH : Nat) (lo hi : List Int) (w : World) (hL : Ints w aL nL lo) (hH : Ints w aH nH hi) :
    Calls Tryz.prog 76 #[bdV aL nL cL aH nH cH] w (SpPost lo hi w) := by
 by_cases hE : chB lo hi = 0
 ·obtain ⟨e1, e2, -⟩ := chB_ok hE
  obtain rfl : nL = 201 := by rw [← hL.len]; exact e1
  obtain rfl : nH = 201 := by rw [← hH.len]; exact e2
  obtain ⟨b1, o1, rfl, -⟩ := ints_at hL (k := 0) (by decide)
  obtain ⟨b2, o2, rfl, -⟩ := ints_at hH (k := 0) (by decide)
  exact pSpread_ok b1 o1 b2 o2 cL cH lo hi w hE hL hH
 exact pSpread_ch aL aH nL nH cL cH lo hi w hE hL hH
end Go.Proofs.YtikjjpjekchcjaaGreat.Alt
end
section
namespace Go.Proofs.YtikjjpjekchcjaaGreat.Alt
open Go.RowKit AltMath MyHeap MyCopy MyOwn
def emB (lo hi : List Int) : Bool := spE lo hi == 9
def emE (lo hi : List Int) : Int := if spE lo hi = 9 then 0 else spE lo hi
theorem pEmpty_call (aL aH : Option Addr) (nL nH cL cH : Nat) (lo hi : List Int) (w : World) (hL : Ints w aL nL lo) (hH : Ints w aH nH hi) :
    Calls Tryz.prog 41 #[bdV aL nL cL aH nH cH] w fun e w' => e = .returned (.tuple #[.bool (emB lo hi), .int .i64 (emE lo hi)]) ∧ Below w.heap.size w w' := by
 have H := qh (And.intro hL hH)
 have B := qh (aC w (.cells (bdC aL nL cL aH nH cH) 53))
 clear hL hH
 unfold bdV
 unfold bdC at B
 by_cases h9 : spE lo hi = 9
 ·have HE := qh (show emB lo hi = true ∧ emE lo hi = 0 from ⟨by unfold emB; rw [h9]; rfl, if_pos h9⟩)
  have H9 := qh h9
  clear h9
  go_enter Tryz.func41, Tryz.ntmps41
  go_wp2_with fail
  refine (jU aL aH nL nH cL cH lo hi _ (H.out.1.below B.out) (H.out.2.below B.out)).mono ?_; rintro e w1 ⟨rfl, hb⟩
  rw [H9.out]
  replace B := qh (B.out.trans (hb.mono B.out.size))
  unfold exC
  clear hb
  go_wp2_with fail
  go_ret2
  exact ⟨by rw [HE.out.1, HE.out.2]; rfl, B.out.alloc B.out.size _⟩
 have HE := qh (show emB lo hi = false ∧ emE lo hi = spE lo hi from ⟨by unfold emB; simpa using h9, if_neg h9⟩)
 have d9 : (spE lo hi == 9) = false := by simpa using h9
 clear h9
 go_enter Tryz.func41, Tryz.ntmps41
 go_wp2_with fail
 refine (jU aL aH nL nH cL cH lo hi _ (H.out.1.below B.out) (H.out.2.below B.out)).mono ?_; rintro e w1 ⟨rfl, hb⟩
 replace B := qh (B.out.trans (hb.mono B.out.size))
 unfold exC
 clear hb
 go_wp2_with fail
 go_ret2
 exact ⟨by rw [HE.out.1, HE.out.2]; rfl, B.out.alloc B.out.size _⟩
end Go.Proofs.YtikjjpjekchcjaaGreat.Alt
end
