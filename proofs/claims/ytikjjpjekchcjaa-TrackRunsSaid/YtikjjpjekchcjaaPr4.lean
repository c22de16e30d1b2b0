/-
  PtAltC, PtAltD
-/
import Derived.Test.YtikjjpjekchcjaaPr3
import Derived.Test.YtikjjpjekchcjaaPr1
set_option linter.all false
set_option maxRecDepth 100000
set_option maxHeartbeats 64000000
section
namespace Go.Proofs.Ytikjjpjekchcjaa.Alt
open Go.RowKit AltMath MyHeap MyCopy MyOwn
theorem has_call (aL aH : Option Addr) (nL nH cL cH : Nat) (lo hi : List Int) (i : Nat) (w : World) (hL : Ints w aL nL lo) (hH : Ints w aH nH hi) (h1 : i < nL) (h2 : i < nH) :
    Calls Try.prog 67 #[bdV aL nL cL aH nH cH, .int .i64 (i : Int)] w (BPost (decide (gi lo i ≤ gi hi i)) w) := by
 unfold bdV
 obtain ⟨b1, o1, rfl, x0⟩ := ints_at hL h1
 obtain ⟨b2, o2, rfl, y0⟩ := ints_at hH h2
 have hi0 : (0 : Int) ≤ (i : Int) := by omega
 have hi1 : (i : Int) < (nL : Int) := by omega
 have hi2 : (i : Int) < (nH : Int) := by omega
 have hb1 := World.block_lt_of_cell? w _ x0
 have hb2 := World.block_lt_of_cell? w _ y0
 have x1 := cell_alloc_l (.cells (bdC (some ⟨b1, o1, none⟩) nL cL (some ⟨b2, o2, none⟩) nH cH) 44) x0
 have y1 := cell_alloc_l (.cells (bdC (some ⟨b1, o1, none⟩) nL cL (some ⟨b2, o2, none⟩) nH cH) 44) y0
 have HB := qh (below_alloc w (.cells (bdC (some ⟨b1, o1, none⟩) nL cL (some ⟨b2, o2, none⟩) nH cH) 44))
 clear hL hH
 unfold bdC at *
 generalize gi lo i = X at *
 generalize gi hi i = Y at *
 go_enter Try.func67, Try.ntmps67
 go_wp2_with fail
 go_quiet (fail)
 go_wp2_with fail
 go_ret
 exact bPost_of rfl (HB.out.trans ⟨rfl, rfl, rfl, Nat.le_refl _, fun _ _ => rfl⟩)
def flatI (xs : List Int) : List Value := xs.map fun x => .int .i64 x
theorem flatI_snoc (xs : List Int) (x : Int) : flatI (xs ++ [x]) = flatI xs ++ [.int .i64 x] := by simp [flatI]
theorem flatI_len (xs : List Int) : (flatI xs).length = xs.length := by simp [flatI]
theorem infoI : (Try.prog.info? 3).map (fun i => (i.zero, i.size, i.bytes)) = some (some (.int .i64 0), 1, 8) := by kernel_rfl
theorem info_parts' {o : Option TypeInfo} {z : Value} {s b : Nat} (h : o.map (fun i => (i.zero, i.size, i.bytes)) = some (some z, s, b)) : ∃ i, o = some i ∧ i.zero = some z ∧ i.size = s ∧ i.bytes = b := by
 cases o with
 | none => cases h
 | some i => simp only [Option.map_some, Option.some.injEq, Prod.mk.injEq] at h; exact ⟨i, rfl, h.1, h.2.1, h.2.2⟩
structure TwoOwn (base : Nat) (vL vH : Value) (lo hi : List Int) (W : World) : Prop where
 L : W.ownsRow base 3 1 vL lo.length (flatI lo)
 H : W.ownsRow base 3 1 vH hi.length (flatI hi)
 A : ∀ g, vL.ownBlock = some g → vH.ownBlock ≠ some g
theorem own_keep {W W' : World} {b : Nat} {e : TypeId} {s : Nat} {v : Value} {n : Nat} {xs : List Value} {row : Option Nat} (h : W.ownsRow b e s v n xs) (hg : W.grownBy W' row) (ha : row = none ∨ v.ownBlock ≠ row) : W'.ownsRow b e s v n xs := by
 refine h.kept hg ?_
 rcases ha with rfl | ha
 ·cases hv : v.ownBlock with
  | none => exact Or.inl rfl
  | some g => exact Or.inr (fun e => by cases e)
 exact Or.inr ha
theorem TwoOwn.below {base : Nat} {vL vH : Value} {lo hi : List Int} {W W' : World} (h : TwoOwn base vL vH lo hi W) (hb : Below W.heap.size W W') : TwoOwn base vL vH lo hi W' := ⟨ownsRow_below h.L hb (Nat.le_refl _), ownsRow_below h.H hb (Nat.le_refl _), h.A⟩
theorem TwoOwn.alloc {base : Nat} {vL vH : Value} {lo hi : List Int} {W : World} (h : TwoOwn base vL vH lo hi W) (o : Obj) : TwoOwn base vL vH lo hi (W.alloc o) := h.below (below_alloc _ _)
theorem TwoOwn.growL {base : Nat} {vL vH vL' : Value} {lo hi : List Int} {x : Int} {W W' : World} (h : TwoOwn base vL vH lo hi W) (hown : W'.ownsRow base 3 1 vL' (lo.length + 1) (flatI lo ++ [.int .i64 x])) (hg : W.grownBy W' vL.ownBlock) (hat : vL'.ownBlock = vL.ownBlock ∨ vL'.ownBlock = some W.heap.size) : TwoOwn base vL' vH (lo ++ [x]) hi W' := by
 refine ⟨by rw [flatI_snoc, List.length_append]; exact hown, own_keep h.H hg ?_, fun g hg1 hg2 => ?_⟩
 ·cases hv : vL.ownBlock with
  | none => exact Or.inl rfl
  | some g => exact Or.inr (h.A g hv)
 rcases hat with e | e
 ·exact h.A g (e.symm.trans hg1) hg2
 have := (h.H.lt g hg2).2
 rw [e] at hg1
 cases hg1
 omega
theorem TwoOwn.growH {base : Nat} {vL vH vH' : Value} {lo hi : List Int} {x : Int} {W W' : World} (h : TwoOwn base vL vH lo hi W) (hown : W'.ownsRow base 3 1 vH' (hi.length + 1) (flatI hi ++ [.int .i64 x])) (hg : W.grownBy W' vH.ownBlock) (hat : vH'.ownBlock = vH.ownBlock ∨ vH'.ownBlock = some W.heap.size) : TwoOwn base vL vH' lo (hi ++ [x]) W' := by
 refine ⟨own_keep h.L hg ?_, by rw [flatI_snoc, List.length_append]; exact hown, fun g hg1 hg2 => ?_⟩
 ·cases hv : vH.ownBlock with
  | none => exact Or.inl rfl
  | some g => exact Or.inr (fun e => h.A g e hv)
 rcases hat with e | e
 ·exact h.A g hg1 (e.symm.trans hg2)
 have := (h.L.lt g hg1).2
 rw [e] at hg2
 cases hg2
 omega
theorem grownB {w w' : World} {base B : Nat} {e : TypeId} {size : Nat} {v : Value} {n : Nat} {xs : List Value} (h : w.ownsRow base e size v n xs) (hg : w.grownBy w' v.ownBlock) (hB : B ≤ base) (hs : B ≤ w.heap.size) : Below B w w' :=
 (Below.refl B w).grown hg hs fun k e => Nat.le_trans hB (h.lt k e).1
theorem news_after {V W : World} {v : Value} {b : Nat} {x : Value} (hg : V.grownBy W v.ownBlock) (hc : V.cell? ⟨b, 0, none⟩ = some x) (hne : v.ownBlock ≠ some b) : ∀ j u, [x][j]? = some u → W.cell? ((⟨b, 0, none⟩ : Addr).add j) = some u := by
 intro j u hj
 match j, hj with
 | 0, hj =>
  simp at hj
  subst hj
  have hb := World.block_lt_of_cell? V _ hc
  have hh : W.heap[b]? = V.heap[b]? := hg.block b hb (fun e => hne e.symm)
  show W.cell? ⟨b, 0, none⟩ = some x
  rw [← hc]
  unfold World.cell?
  simp only [hh]
def PtPost (base : Nat) (lo hi : List Int) (w : World) (e : Ending) (w' : World) : Prop := ∃ vL vH, e = .returned (.agg #[vL, vH]) ∧ TwoOwn base vL vH lo hi w' ∧ Below base w w'
theorem cells_one {w : World} {x : Value} {T : TypeId} {n : Nat} (hn : n = w.heap.size) : ∀ (j : Nat) (u : Value), [x][j]? = some u → (w.alloc (.cells #[x] T)).cell? ((⟨n, 0, none⟩ : Addr).add j) = some u := by
 subst hn
 exact cell_one_new w x T
theorem cells_old {w : World} {x : Value} {T : TypeId} {n : Nat} {o : Obj} (hn : n = w.heap.size) : ∀ (j : Nat) (u : Value), [x][j]? = some u → ((w.alloc (.cells #[x] T)).alloc o).cell? ((⟨n, 0, none⟩ : Addr).add j) = some u := fun j u hj => cell_alloc_l o (cells_one hn j u hj)
theorem own_slice {w : World} {base : Nat} {e : TypeId} {size : Nat} {v : Value} {n : Nat} {xs : List Value} (h : w.ownsRow base e size v n xs) : ∃ a c, v = .slice a n c := by
 rcases h.2 with ⟨rfl, rfl⟩ | ⟨g, cap, cur, rfl, _⟩
 ·exact ⟨none, 0, rfl⟩
 exact ⟨_, _, rfl⟩
def PtS (B : Nat) (vL vH : Value) (W : World) : Prop := W.cell? ⟨B, 0, none⟩ = some vL ∧ W.cell? ⟨B, 1, none⟩ = some vH
structure PtK (base : Nat) (w : World) (vL vH : Value) (v1 v2 : Value) (lo hi : List Int) (W : World) : Prop where
 T : TwoOwn base v1 v2 lo hi W
 K : Below base w W
 P1 : W.heap[w.heap.size]? = some (.cells #[vL, vH] 44 (0, 0))
 P2 : W.heap[w.heap.size + 1]? = some (.cells #[.slice none 0 0, .slice none 0 0] 44 (0, 0))
 hb : base ≤ w.heap.size
 O1 : v1.ownBlock ≠ some (w.heap.size + 1)
 O2 : v2.ownBlock ≠ some (w.heap.size + 1)
theorem PtK.le {base : Nat} {w W : World} {vL vH v1 v2 : Value} {lo hi : List Int} (h : PtK base w vL vH v1 v2 lo hi W) : base ≤ W.heap.size := Nat.le_trans h.hb h.K.size
theorem PtK.new {base : Nat} {w : World} {vL vH : Value} {lo hi : List Int} (h : TwoOwn base vL vH lo hi w) (hb : base ≤ w.heap.size) : PtK base w vL vH vL vH lo hi ((w.alloc (.cells #[vL, vH] 44)).alloc (.cells #[.slice none 0 0, .slice none 0 0] 44)).drew :=
 have hB : Below w.heap.size w ((w.alloc (.cells #[vL, vH] 44)).alloc (.cells #[.slice none 0 0, .slice none 0 0] 44)).drew := ((below_alloc w _).alloc (by simp) _).drew
 ⟨h.below hB, hB.mono hb, block_alloc (block_new _ _ rfl), block_new _ _ (by simp), hb, fun e => by have := (h.L.lt _ e).2; omega, fun e => by have := (h.H.lt _ e).2; omega⟩
theorem PtK.alloc {base : Nat} {w W : World} {vL vH v1 v2 : Value} {lo hi : List Int} (h : PtK base w vL vH v1 v2 lo hi W) (o : Obj) : PtK base w vL vH v1 v2 lo hi (W.alloc o) :=
 ⟨h.T.alloc o, h.K.alloc h.le o, block_alloc h.P1, block_alloc h.P2, h.hb, h.O1, h.O2⟩
theorem PtK.S {base : Nat} {w W : World} {vL vH v1 v2 : Value} {lo hi : List Int} (h : PtK base w vL vH v1 v2 lo hi W) : PtS w.heap.size vL vH W := ⟨cell_of_block h.P1 rfl, cell_of_block h.P1 rfl⟩
theorem grown_block {W W' : World} {v : Value} {k m : Nat} {o : Obj} (hg : W.grownBy W' v.ownBlock) (hlt : ∀ g, v.ownBlock = some g → g < m) (hk : m ≤ k) (h : W.heap[k]? = some o) : W'.heap[k]? = some o :=
 (hg.block k (lt_of_block h) (fun e => by have := hlt k e.symm; omega)).trans h
theorem at_ne {v v' : Value} {m s : Nat} (hlt : ∀ g, v.ownBlock = some g → g < m) (hat : v'.ownBlock = v.ownBlock ∨ v'.ownBlock = some s) (hs : m + 1 < s) (e : v'.ownBlock = some (m + 1)) : False := by
 rcases hat with h | h
 ·have := hlt _ (h.symm.trans e); omega
 rw [h] at e; cases e; omega
theorem PtK.growL {base : Nat} {w W W' : World} {vL vH v2 vL' : Value} {lo hi : List Int} {x : Int} (h : PtK base w vL vH vL v2 lo hi W) (hlt : ∀ g, vL.ownBlock = some g → g < w.heap.size) (hown : W'.ownsRow base 3 1 vL' (lo.length + 1) (flatI lo ++ [.int .i64 x])) (hg : W.grownBy W' vL.ownBlock) (hat : vL'.ownBlock = vL.ownBlock ∨ vL'.ownBlock = some W.heap.size) : PtK base w vL vH vL' v2 (lo ++ [x]) hi W' :=
 ⟨h.T.growL hown hg hat, h.K.trans (grownB h.T.L hg (Nat.le_refl _) h.le), grown_block hg hlt (Nat.le_refl _) h.P1, grown_block hg hlt (by omega) h.P2, h.hb, fun e => at_ne hlt hat (lt_of_block h.P2) e, h.O2⟩
theorem PtK.growH {base : Nat} {w W W' : World} {vL vH v1 vH' : Value} {lo hi : List Int} {x : Int} (h : PtK base w vL vH v1 vH lo hi W) (hlt : ∀ g, vH.ownBlock = some g → g < w.heap.size) (hown : W'.ownsRow base 3 1 vH' (hi.length + 1) (flatI hi ++ [.int .i64 x])) (hg : W.grownBy W' vH.ownBlock) (hat : vH'.ownBlock = vH.ownBlock ∨ vH'.ownBlock = some W.heap.size) : PtK base w vL vH v1 vH' lo (hi ++ [x]) W' :=
 ⟨h.T.growH hown hg hat, h.K.trans (grownB h.T.H hg (Nat.le_refl _) h.le), grown_block hg hlt (Nat.le_refl _) h.P1, grown_block hg hlt (by omega) h.P2, h.hb, h.O1, fun e => at_ne hlt hat (lt_of_block h.P2) e⟩
theorem PtK.stored {base : Nat} {w W W' : World} {vL vH v1 v2 : Value} {lo hi : List Int} (h : PtK base w vL vH v1 v2 lo hi W) (hO : Only (w.heap.size + 1) W W') : (W'.cell? ⟨w.heap.size, 0, none⟩ = some vL ∧ W'.cell? ⟨w.heap.size, 1, none⟩ = some vH) ∧ TwoOwn base v1 v2 lo hi W' ∧ Below base w W' :=
 have hk : W'.heap[w.heap.size]? = some (.cells #[vL, vH] 44 (0, 0)) := hO.keeps h.P1 (by omega)
 ⟨⟨cell_of_block hk rfl, cell_of_block hk rfl⟩, ⟨own_keep h.T.L hO (Or.inr h.O1), own_keep h.T.H hO (Or.inr h.O2), h.T.A⟩, h.K.trans (hO.below (by have := h.hb; omega) h.le)⟩
theorem put_ok (base : Nat) (vL vH : Value) (lo hi : List Int) (l h : Int) (w : World) (hO : TwoOwn base vL vH lo hi w) (hb : base ≤ w.heap.size) (n1 : lo.length ≤ 1000) (n2 : hi.length ≤ 1000) (hlh : l ≤ h) :
    Calls Try.prog 68 #[.agg #[vL, vH], .int .i64 l, .int .i64 h] w (PtPost base (lo ++ [l]) (hi ++ [h]) w) := by
 obtain ⟨i0, hi0, hz0, hs0, hb0⟩ := info_parts' infoI
 have HI := qh (And.intro hi0 (And.intro hz0 (And.intro hs0 hb0)))
 have F := qh (PtK.new hO hb)
 have LTL := qh (fun g e => (hO.L.lt g e).2)
 have LTH := qh (fun g e => (hO.H.lt g e).2)
 have GG : Hid ((w.drew.grownBy w.drew vL.ownBlock) ∧ ∀ g, vL.ownBlock = some g → g < w.heap.size) := qh ⟨⟨rfl, rfl, rfl, Nat.le_refl _, fun _ _ _ => rfl⟩, LTL.out⟩
 clear hi0 hz0 hs0 hb0 hO
 go_enter Try.func68, Try.ntmps68
 go_wp2_with fail
 go_region_held3 (fun w' => w'.cell? ⟨w.heap.size, 0, none⟩ = some vL ∧ w'.cell? ⟨w.heap.size, 1, none⟩ = some vH) (first | exact F.out.S | exact (F.out.alloc _).S | exact ((F.out.alloc _).alloc _).S | exact (F.out.stored (((Only.refl _ _).setCell _ _).setCell _ _)).1)
  (first
   | (refine step_append_at (by rfl) (.tmp 11) (.tmp 13) 35 (by rfl) base 3 i0 _ 1 8 Try.underlying35 HI.out.1 HI.out.2.1 HI.out.2.2.1 HI.out.2.2.2 (by rfl) (by decide) _ lo.length _ (by rfl) (F.out.alloc (.cells #[.int .i64 l] 3)).T.L ⟨w.heap.size + 1 + 1, 0, none⟩ 1 1 [.int .i64 l] (by rfl) (by rfl) (cells_one (by simp)) (by intro u hu; simp at hu; subst hu; rfl) (by unfold maxLen; omega) (by omega) ((F.out.alloc (.cells #[.int .i64 l] 3)).le) ?_; intro vL' w8 hown hg hat; obtain ⟨aL, cL, rfl⟩ := own_slice hown; have GG := qh (And.intro hg LTL.out); have F8 := (F.out.alloc (.cells #[.int .i64 l] 3)).growL LTL.out hown hg hat; replace F := qh F8; clear F8 hown hg hat)
   | (refine step_append_at (by rfl) (.tmp 11) (.tmp 13) 35 (by rfl) base 3 i0 _ 1 8 Try.underlying35 HI.out.1 HI.out.2.1 HI.out.2.2.1 HI.out.2.2.2 (by rfl) (by decide) _ lo.length _ (by rfl) ((F.out.alloc (.cells #[.int .i64 l] 3)).alloc (.cells #[.int .i64 h] 3)).T.L ⟨w.heap.size + 1 + 1, 0, none⟩ 1 1 [.int .i64 l] (by rfl) (by rfl) (cells_old (by simp)) (by intro u hu; simp at hu; subst hu; rfl) (by unfold maxLen; omega) (by omega) (((F.out.alloc (.cells #[.int .i64 l] 3)).alloc (.cells #[.int .i64 h] 3)).le) ?_; intro vL' w8 hown hg hat; obtain ⟨aL, cL, rfl⟩ := own_slice hown; have GG := qh (And.intro hg LTL.out); have F8 := ((F.out.alloc (.cells #[.int .i64 l] 3)).alloc (.cells #[.int .i64 h] 3)).growL LTL.out hown hg hat; replace F := qh F8; clear F8 hown hg hat)
   | (refine step_append_at (by rfl) (.tmp 11) (.tmp 13) 35 (by rfl) base 3 i0 _ 1 8 Try.underlying35 HI.out.1 HI.out.2.1 HI.out.2.2.1 HI.out.2.2.2 (by rfl) (by decide) _ lo.length _ (by rfl) ((F.out.alloc (.cells #[.int .i64 h] 3)).alloc (.cells #[.int .i64 l] 3)).T.L ⟨w.heap.size + 1 + 1 + 1, 0, none⟩ 1 1 [.int .i64 l] (by rfl) (by rfl) (cells_one (by simp)) (by intro u hu; simp at hu; subst hu; rfl) (by unfold maxLen; omega) (by omega) (((F.out.alloc (.cells #[.int .i64 h] 3)).alloc (.cells #[.int .i64 l] 3)).le) ?_; intro vL' w8 hown hg hat; obtain ⟨aL, cL, rfl⟩ := own_slice hown; have GG := qh (And.intro hg LTL.out); have F8 := ((F.out.alloc (.cells #[.int .i64 h] 3)).alloc (.cells #[.int .i64 l] 3)).growL LTL.out hown hg hat; replace F := qh F8; clear F8 hown hg hat)
   | (refine step_append_at (by rfl) (.tmp 16) (.tmp 18) 35 (by rfl) base 3 i0 _ 1 8 Try.underlying35 HI.out.1 HI.out.2.1 HI.out.2.2.1 HI.out.2.2.2 (by rfl) (by decide) _ hi.length _ (by rfl) (F.out.alloc (.cells #[.int .i64 h] 3)).T.H ⟨w8.heap.size, 0, none⟩ 1 1 [.int .i64 h] (by rfl) (by rfl) (cells_one (by simp)) (by intro u hu; simp at hu; subst hu; rfl) (by unfold maxLen; omega) (by omega) ((F.out.alloc (.cells #[.int .i64 h] 3)).le) ?_; intro vH' w9 hown hg hat; obtain ⟨aH, cH, rfl⟩ := own_slice hown; have GG := qh (And.intro hg LTH.out); have F8 := (F.out.alloc (.cells #[.int .i64 h] 3)).growH LTH.out hown hg hat; replace F := qh F8; clear F8 hown hg hat; have f0 := free_of_block (i := 0) F.out.P2; have f1 := free_of_block (i := 1) F.out.P2; have c0 := cell_of_block (i := 0) F.out.P2 rfl; have c1 := cell_of_block (i := 1) F.out.P2 rfl)
   | (refine step_append_at (by rfl) (.tmp 16) (.tmp 18) 35 (by rfl) base 3 i0 _ 1 8 Try.underlying35 HI.out.1 HI.out.2.1 HI.out.2.2.1 HI.out.2.2.2 (by rfl) (by decide) _ hi.length _ (by rfl) F.out.T.H ⟨w.heap.size + 1 + 1 + 1, 0, none⟩ 1 1 [.int .i64 h] (by rfl) (by rfl) (news_after GG.out.1 (cells_one (by simp) 0 _ rfl) (fun e => by have := GG.out.2 _ e; omega)) (by intro u hu; simp at hu; subst hu; rfl) (by unfold maxLen; omega) (by omega) (F.out.le) ?_; intro vH' w9 hown hg hat; obtain ⟨aH, cH, rfl⟩ := own_slice hown; have GG := qh (And.intro hg LTH.out); have F8 := F.out.growH LTH.out hown hg hat; replace F := qh F8; clear F8 hown hg hat; have f0 := free_of_block (i := 0) F.out.P2; have f1 := free_of_block (i := 1) F.out.P2; have c0 := cell_of_block (i := 0) F.out.P2 rfl; have c1 := cell_of_block (i := 1) F.out.P2 rfl)
   | (refine step_append_at (by rfl) (.tmp 16) (.tmp 18) 35 (by rfl) base 3 i0 _ 1 8 Try.underlying35 HI.out.1 HI.out.2.1 HI.out.2.2.1 HI.out.2.2.2 (by rfl) (by decide) _ hi.length _ (by rfl) F.out.T.H ⟨w.heap.size + 1 + 1, 0, none⟩ 1 1 [.int .i64 h] (by rfl) (by rfl) (news_after GG.out.1 (cells_old (by simp) 0 _ rfl) (fun e => by have := GG.out.2 _ e; omega)) (by intro u hu; simp at hu; subst hu; rfl) (by unfold maxLen; omega) (by omega) (F.out.le) ?_; intro vH' w9 hown hg hat; obtain ⟨aH, cH, rfl⟩ := own_slice hown; have GG := qh (And.intro hg LTH.out); have F8 := F.out.growH LTH.out hown hg hat; replace F := qh F8; clear F8 hown hg hat; have f0 := free_of_block (i := 0) F.out.P2; have f1 := free_of_block (i := 1) F.out.P2; have c0 := cell_of_block (i := 0) F.out.P2 rfl; have c1 := cell_of_block (i := 1) F.out.P2 rfl))
 all_goals
  clear f0 f1 c0 c1
  go_wp2_with fail
  have H9 := block_setCell (i := 1) (v := .slice aH (hi.length + 1) cH) (block_setCell (i := 0) (v := .slice aL (lo.length + 1) cL) F.out.P2)
  have F9 := F.out.stored (((Only.refl _ _).setCell 0 (.slice aL (lo.length + 1) cL)).setCell 1 (.slice aH (hi.length + 1) cH))
  have r0 := cell_of_block (i := 0) (v := .slice aL (lo.length + 1) cL) H9 rfl
  have r1 := cell_of_block (i := 1) (v := .slice aH (hi.length + 1) cH) H9 rfl
  refine bodyPost_ret (v := .agg #[.slice aL (lo.length + 1) cL, .slice aH (hi.length + 1) cH]) ?_ rfl ⟨_, _, rfl, F9.2.1, F9.2.2⟩
  simp [results, Try.f68, go_sem, r0, r1]
theorem put_no (base : Nat) (vL vH : Value) (lo hi : List Int) (l h : Int) (w : World) (hO : TwoOwn base vL vH lo hi w) (hb : base ≤ w.heap.size) (n1 : lo.length ≤ 1000) (n2 : hi.length ≤ 1000) (hlh : h < l) :
    Calls Try.prog 68 #[.agg #[vL, vH], .int .i64 l, .int .i64 h] w (PtPost base (lo ++ [1]) (hi ++ [0]) w) := by
 obtain ⟨i0, hi0, hz0, hs0, hb0⟩ := info_parts' infoI
 have HI := qh (And.intro hi0 (And.intro hz0 (And.intro hs0 hb0)))
 have F := qh (PtK.new hO hb)
 have LTL := qh (fun g e => (hO.L.lt g e).2)
 have LTH := qh (fun g e => (hO.H.lt g e).2)
 have GG : Hid ((w.drew.grownBy w.drew vL.ownBlock) ∧ ∀ g, vL.ownBlock = some g → g < w.heap.size) := qh ⟨⟨rfl, rfl, rfl, Nat.le_refl _, fun _ _ _ => rfl⟩, LTL.out⟩
 clear hi0 hz0 hs0 hb0 hO
 go_enter Try.func68, Try.ntmps68
 go_wp2_with fail
 go_region_held3 (fun w' => w'.cell? ⟨w.heap.size, 0, none⟩ = some vL ∧ w'.cell? ⟨w.heap.size, 1, none⟩ = some vH) (first | exact F.out.S | exact (F.out.alloc _).S | exact ((F.out.alloc _).alloc _).S | exact (F.out.stored (((Only.refl _ _).setCell _ _).setCell _ _)).1)
  (first
   | (refine step_append_at (by rfl) (.tmp 11) (.tmp 13) 35 (by rfl) base 3 i0 _ 1 8 Try.underlying35 HI.out.1 HI.out.2.1 HI.out.2.2.1 HI.out.2.2.2 (by rfl) (by decide) _ lo.length _ (by rfl) (F.out.alloc (.cells #[.int .i64 1] 3)).T.L ⟨w.heap.size + 1 + 1, 0, none⟩ 1 1 [.int .i64 1] (by rfl) (by rfl) (cells_one (by simp)) (by intro u hu; simp at hu; subst hu; rfl) (by unfold maxLen; omega) (by omega) ((F.out.alloc (.cells #[.int .i64 1] 3)).le) ?_; intro vL' w8 hown hg hat; obtain ⟨aL, cL, rfl⟩ := own_slice hown; have GG := qh (And.intro hg LTL.out); have F8 := (F.out.alloc (.cells #[.int .i64 1] 3)).growL LTL.out hown hg hat; replace F := qh F8; clear F8 hown hg hat)
   | (refine step_append_at (by rfl) (.tmp 11) (.tmp 13) 35 (by rfl) base 3 i0 _ 1 8 Try.underlying35 HI.out.1 HI.out.2.1 HI.out.2.2.1 HI.out.2.2.2 (by rfl) (by decide) _ lo.length _ (by rfl) ((F.out.alloc (.cells #[.int .i64 1] 3)).alloc (.cells #[.int .i64 0] 3)).T.L ⟨w.heap.size + 1 + 1, 0, none⟩ 1 1 [.int .i64 1] (by rfl) (by rfl) (cells_old (by simp)) (by intro u hu; simp at hu; subst hu; rfl) (by unfold maxLen; omega) (by omega) (((F.out.alloc (.cells #[.int .i64 1] 3)).alloc (.cells #[.int .i64 0] 3)).le) ?_; intro vL' w8 hown hg hat; obtain ⟨aL, cL, rfl⟩ := own_slice hown; have GG := qh (And.intro hg LTL.out); have F8 := ((F.out.alloc (.cells #[.int .i64 1] 3)).alloc (.cells #[.int .i64 0] 3)).growL LTL.out hown hg hat; replace F := qh F8; clear F8 hown hg hat)
   | (refine step_append_at (by rfl) (.tmp 11) (.tmp 13) 35 (by rfl) base 3 i0 _ 1 8 Try.underlying35 HI.out.1 HI.out.2.1 HI.out.2.2.1 HI.out.2.2.2 (by rfl) (by decide) _ lo.length _ (by rfl) ((F.out.alloc (.cells #[.int .i64 0] 3)).alloc (.cells #[.int .i64 1] 3)).T.L ⟨w.heap.size + 1 + 1 + 1, 0, none⟩ 1 1 [.int .i64 1] (by rfl) (by rfl) (cells_one (by simp)) (by intro u hu; simp at hu; subst hu; rfl) (by unfold maxLen; omega) (by omega) (((F.out.alloc (.cells #[.int .i64 0] 3)).alloc (.cells #[.int .i64 1] 3)).le) ?_; intro vL' w8 hown hg hat; obtain ⟨aL, cL, rfl⟩ := own_slice hown; have GG := qh (And.intro hg LTL.out); have F8 := ((F.out.alloc (.cells #[.int .i64 0] 3)).alloc (.cells #[.int .i64 1] 3)).growL LTL.out hown hg hat; replace F := qh F8; clear F8 hown hg hat)
   | (refine step_append_at (by rfl) (.tmp 16) (.tmp 18) 35 (by rfl) base 3 i0 _ 1 8 Try.underlying35 HI.out.1 HI.out.2.1 HI.out.2.2.1 HI.out.2.2.2 (by rfl) (by decide) _ hi.length _ (by rfl) (F.out.alloc (.cells #[.int .i64 0] 3)).T.H ⟨w8.heap.size, 0, none⟩ 1 1 [.int .i64 0] (by rfl) (by rfl) (cells_one (by simp)) (by intro u hu; simp at hu; subst hu; rfl) (by unfold maxLen; omega) (by omega) ((F.out.alloc (.cells #[.int .i64 0] 3)).le) ?_; intro vH' w9 hown hg hat; obtain ⟨aH, cH, rfl⟩ := own_slice hown; have GG := qh (And.intro hg LTH.out); have F8 := (F.out.alloc (.cells #[.int .i64 0] 3)).growH LTH.out hown hg hat; replace F := qh F8; clear F8 hown hg hat; have f0 := free_of_block (i := 0) F.out.P2; have f1 := free_of_block (i := 1) F.out.P2; have c0 := cell_of_block (i := 0) F.out.P2 rfl; have c1 := cell_of_block (i := 1) F.out.P2 rfl)
   | (refine step_append_at (by rfl) (.tmp 16) (.tmp 18) 35 (by rfl) base 3 i0 _ 1 8 Try.underlying35 HI.out.1 HI.out.2.1 HI.out.2.2.1 HI.out.2.2.2 (by rfl) (by decide) _ hi.length _ (by rfl) F.out.T.H ⟨w.heap.size + 1 + 1 + 1, 0, none⟩ 1 1 [.int .i64 0] (by rfl) (by rfl) (news_after GG.out.1 (cells_one (by simp) 0 _ rfl) (fun e => by have := GG.out.2 _ e; omega)) (by intro u hu; simp at hu; subst hu; rfl) (by unfold maxLen; omega) (by omega) (F.out.le) ?_; intro vH' w9 hown hg hat; obtain ⟨aH, cH, rfl⟩ := own_slice hown; have GG := qh (And.intro hg LTH.out); have F8 := F.out.growH LTH.out hown hg hat; replace F := qh F8; clear F8 hown hg hat; have f0 := free_of_block (i := 0) F.out.P2; have f1 := free_of_block (i := 1) F.out.P2; have c0 := cell_of_block (i := 0) F.out.P2 rfl; have c1 := cell_of_block (i := 1) F.out.P2 rfl)
   | (refine step_append_at (by rfl) (.tmp 16) (.tmp 18) 35 (by rfl) base 3 i0 _ 1 8 Try.underlying35 HI.out.1 HI.out.2.1 HI.out.2.2.1 HI.out.2.2.2 (by rfl) (by decide) _ hi.length _ (by rfl) F.out.T.H ⟨w.heap.size + 1 + 1, 0, none⟩ 1 1 [.int .i64 0] (by rfl) (by rfl) (news_after GG.out.1 (cells_old (by simp) 0 _ rfl) (fun e => by have := GG.out.2 _ e; omega)) (by intro u hu; simp at hu; subst hu; rfl) (by unfold maxLen; omega) (by omega) (F.out.le) ?_; intro vH' w9 hown hg hat; obtain ⟨aH, cH, rfl⟩ := own_slice hown; have GG := qh (And.intro hg LTH.out); have F8 := F.out.growH LTH.out hown hg hat; replace F := qh F8; clear F8 hown hg hat; have f0 := free_of_block (i := 0) F.out.P2; have f1 := free_of_block (i := 1) F.out.P2; have c0 := cell_of_block (i := 0) F.out.P2 rfl; have c1 := cell_of_block (i := 1) F.out.P2 rfl))
 all_goals
  clear f0 f1 c0 c1
  go_wp2_with fail
  have H9 := block_setCell (i := 1) (v := .slice aH (hi.length + 1) cH) (block_setCell (i := 0) (v := .slice aL (lo.length + 1) cL) F.out.P2)
  have F9 := F.out.stored (((Only.refl _ _).setCell 0 (.slice aL (lo.length + 1) cL)).setCell 1 (.slice aH (hi.length + 1) cH))
  have r0 := cell_of_block (i := 0) (v := .slice aL (lo.length + 1) cL) H9 rfl
  have r1 := cell_of_block (i := 1) (v := .slice aH (hi.length + 1) cH) H9 rfl
  refine bodyPost_ret (v := .agg #[.slice aL (lo.length + 1) cL, .slice aH (hi.length + 1) cH]) ?_ rfl ⟨_, _, rfl, F9.2.1, F9.2.2⟩
  simp [results, Try.f68, go_sem, r0, r1]
theorem put_call (base : Nat) (vL vH : Value) (lo hi : List Int) (l h : Int) (w : World) (hO : TwoOwn base vL vH lo hi w) (hb : base ≤ w.heap.size) (n1 : lo.length ≤ 1000) (n2 : hi.length ≤ 1000) :
    Calls Try.prog 68 #[.agg #[vL, vH], .int .i64 l, .int .i64 h] w (PtPost base (lo ++ [(nm (l, h)).1]) (hi ++ [(nm (l, h)).2]) w) := by
 by_cases hlh : l ≤ h
 ·rw [nm_yes hlh]; exact put_ok base vL vH lo hi l h w hO hb n1 n2 hlh
 rw [nm_no (show h < l by omega)]; exact put_no base vL vH lo hi l h w hO hb n1 n2 (by omega)
end Go.Proofs.Ytikjjpjekchcjaa.Alt
end
section
namespace Go.Proofs.Ytikjjpjekchcjaa.Alt
open Go.RowKit AltMath MyHeap MyCopy MyOwn
def BOPost (E : Int) (lo hi : List Int) (w : World) (e : Ending) (w' : World) : Prop := ∃ vL vH, e = .returned (.tuple #[.agg #[vL, vH], .int .i64 E]) ∧ (E = 0 → TwoOwn w.heap.size vL vH lo hi w') ∧ (E ≠ 0 → vL = .slice none 0 0 ∧ vH = .slice none 0 0) ∧ Below w.heap.size w w'
theorem TwoOwn.base {b b' : Nat} {vL vH : Value} {lo hi : List Int} {W : World} (h : TwoOwn b vL vH lo hi W) (hb : b' ≤ b) : TwoOwn b' vL vH lo hi W := ⟨ownsRow_base h.L hb, ownsRow_base h.H hb, h.A⟩
theorem TwoOwn.nil (b : Nat) (W : World) : TwoOwn b (.slice none 0 0) (.slice none 0 0) [] [] W := ⟨⟨rfl, Or.inl ⟨rfl, rfl⟩⟩, ⟨rfl, Or.inl ⟨rfl, rfl⟩⟩, fun _ e => by cases e⟩
theorem own_slice3 {w : World} {base : Nat} {e : TypeId} {size : Nat} {v : Value} {n : Nat} {xs : List Value} (h : w.ownsRow base e size v n xs) : ∃ a m c, v = .slice a m c := by
 obtain ⟨a, c, e⟩ := own_slice h
 exact ⟨a, n, c, e⟩
def RfK (w0 : World) (R O : Nat) (f : Nat → Int × Int) (k : Nat) (W : World) : Prop := ∃ aL nL cL aH nH cH, W.heap[R]? = some (.cells #[.slice none 0 0, .slice none 0 0] 44 (0, 0)) ∧ W.heap[O]? = some (.cells #[.slice aL nL cL, .slice aH nH cH] 44 (0, 0)) ∧ TwoOwn (O + 1) (.slice aL nL cL) (.slice aH nH cH) (loK f k) (hiK f k) W ∧ Below w0.heap.size w0 W ∧ w0.heap.size ≤ R ∧ R < O
theorem two_facts {W : World} {b : Nat} {x y : Value} {T : TypeId} (h : W.heap[b]? = some (.cells #[x, y] T (0, 0))) : W.cell? ⟨b, 0, none⟩ = some x ∧ W.cell? ⟨b, 1, none⟩ = some y ∧ W.frozen? ⟨b, 0, none⟩ = false ∧ W.frozen? ⟨b, 1, none⟩ = false := ⟨cell_of_block h rfl, cell_of_block h rfl, free_of_block h, free_of_block h⟩
theorem RfK.next {w0 W W' : World} {R O : Nat} {f : Nat → Int × Int} {k : Nat} {aL aH : Option Addr} {nL cL nH cH : Nat} {v1 v2 : Value} (hR : w0.heap.size ≤ R) (hRO : R < O) (h1 : W.heap[R]? = some (.cells #[.slice none 0 0, .slice none 0 0] 44 (0, 0))) (h2 : W.heap[O]? = some (.cells #[v1, v2] 44 (0, 0)))
    (hK : Below w0.heap.size w0 W) (hT : TwoOwn (O + 1) (.slice aL nL cL) (.slice aH nH cH) (loK f k ++ [(nm (f k)).1]) (hiK f k ++ [(nm (f k)).2]) W') (hB : Below (O + 1) W W') :
    RfK w0 R O f (k + 1) ((W'.setCell ⟨O, 0, none⟩ (.slice aL nL cL)).setCell ⟨O, 1, none⟩ (.slice aH nH cH)) := by
 have hO : Only O W' ((W'.setCell ⟨O, 0, none⟩ (.slice aL nL cL)).setCell ⟨O, 1, none⟩ (.slice aH nH cH)) := ((Only.refl _ _).setCell 0 _).setCell 1 _
 have k1 : W'.heap[R]? = some (.cells #[.slice none 0 0, .slice none 0 0] 44 (0, 0)) := (hB.block R (by omega)).trans h1
 have k2 : W'.heap[O]? = some (.cells #[v1, v2] 44 (0, 0)) := (hB.block O (by omega)).trans h2
 have hsz : w0.heap.size ≤ W'.heap.size := Nat.le_trans hK.size hB.size
 refine ⟨aL, nL, cL, aH, nH, cH, hO.keeps k1 (by omega), by simpa using block_setCell (i := 1) (v := .slice aH nH cH) (block_setCell (i := 0) (v := .slice aL nL cL) k2), ?_, (hK.trans (hB.mono (by omega))).trans (hO.below (by omega) hsz), hR, hRO⟩
 rw [loK_succ, hiK_succ]
 exact ⟨own_keep hT.L hO (Or.inr fun e => by have := (hT.L.lt _ e).1; omega), own_keep hT.H hO (Or.inr fun e => by have := (hT.H.lt _ e).1; omega), hT.A⟩
theorem meE_ok {alt size : Int} (h : meE alt size = 0) : -1000 ≤ alt ∧ alt ≤ 50000 ∧ (size = 25 ∨ size = 100) := by
 unfold meE at h
 by_cases hh : alt < -1000 ∨ 50000 < alt ∨ (size ≠ 25 ∧ size ≠ 100)
 ·rw [if_pos hh] at h; cases h
 omega
theorem meE_or (alt size : Int) : meE alt size = 0 ∨ meE alt size = 1 := by unfold meE; split <;> simp
theorem RfK.done {w0 W : World} {R b : Nat} {f : Nat → Int × Int} {k : Nat} {aL aH : Option Addr} {nL cL nH cH : Nat} (hR : w0.heap.size ≤ R) (hb : R < b) (h1 : W.heap[R]? = some (.cells #[.slice none 0 0, .slice none 0 0] 44 (0, 0))) (hK : Below w0.heap.size w0 W) (hT : TwoOwn b (.slice aL nL cL) (.slice aH nH cH) (loK f k) (hiK f k) W) :
    TwoOwn w0.heap.size (.slice aL nL cL) (.slice aH nH cH) (loK f k) (hiK f k) ((W.setCell ⟨R, 0, none⟩ (.slice aL nL cL)).setCell ⟨R, 1, none⟩ (.slice aH nH cH)) ∧ Below w0.heap.size w0 ((W.setCell ⟨R, 0, none⟩ (.slice aL nL cL)).setCell ⟨R, 1, none⟩ (.slice aH nH cH)) ∧
     ((W.setCell ⟨R, 0, none⟩ (.slice aL nL cL)).setCell ⟨R, 1, none⟩ (.slice aH nH cH)).cell? ⟨R, 0, none⟩ = some (.slice aL nL cL) ∧ ((W.setCell ⟨R, 0, none⟩ (.slice aL nL cL)).setCell ⟨R, 1, none⟩ (.slice aH nH cH)).cell? ⟨R, 1, none⟩ = some (.slice aH nH cH) := by
 have hx := block_setCell (i := 1) (v := .slice aH nH cH) (block_setCell (i := 0) (v := .slice aL nL cL) h1)
 have hO : Only R W ((W.setCell ⟨R, 0, none⟩ (.slice aL nL cL)).setCell ⟨R, 1, none⟩ (.slice aH nH cH)) := ((Only.refl _ _).setCell 0 _).setCell 1 _
 exact ⟨TwoOwn.base ⟨own_keep hT.L hO (Or.inr fun e => by have := (hT.L.lt _ e).1; omega), own_keep hT.H hO (Or.inr fun e => by have := (hT.H.lt _ e).1; omega), hT.A⟩ (by omega), hK.trans (hO.below hR hK.size), cell_of_block (i := 0) (v := .slice aL nL cL) hx rfl, cell_of_block (i := 1) (v := .slice aH nH cH) hx rfl⟩
theorem rNew_call (alt size : Int) (w : World) : Calls Try.prog 40 #[.int .i64 alt, .int .i64 size] w (BOPost (meE alt size) (loK (neF alt size) 201) (hiK (neF alt size) 201) w) := by
 rcases meE_or alt size with hE | hE
 ·obtain ⟨h1, h2, h3⟩ := meE_ok hE
  have hs : 25 ≤ size ∧ size ≤ 100 := by omega
  have HE := qh hE
  clear hE h3
  go_enter Try.func40, Try.ntmps40
  go_wp2_with fail
  refine (wrong_call alt size _).mono ?_; rintro e w1 ⟨rfl, rfl⟩
  rw [HE.out]
  go_wp2_with fail
  have K := qh (show RfK w w.heap.size (w.heap.size + 1) (neF alt size) 0 ((w.alloc (.cells #[.slice none 0 0, .slice none 0 0] 44)).alloc (.cells #[.slice none 0 0, .slice none 0 0] 44)) from ⟨none, 0, 0, none, 0, 0, block_alloc (block_new _ _ rfl), block_new _ _ (by simp), TwoOwn.nil _ _, (below_alloc _ _).alloc (by simp) _, Nat.le_refl _, by omega⟩)
  go_loopw [8] (fun kv wr => ∃ k : Nat, k ≤ 201 ∧ kv = .int .i64 k ∧ RfK w w.heap.size (w.heap.size + 1) (neF alt size) k wr) (fun kv _ => 201 - (intOf kv).toNat)
  case atStart => exact ⟨0, Nat.zero_le _, rfl, K.out⟩
  case round =>
   clear K
   obtain ⟨k, hk, rfl, aL, nL, cL, aH, nH, cH, hR, hO, hT, hB, _, _⟩ := hrel
   by_cases hlt : k < 201
   ·have hk1 : (k : Int) < 201 := by omega
    obtain ⟨c0, c1, f0, f1⟩ := two_facts hO
    have H := qh (And.intro hR (And.intro hO (And.intro hT hB)))
    clear hR hO hT hB
    go_wp2_with fail
    all_goals
     refine (put_call (w.heap.size + 2) _ _ (loK (neF alt size) k) (hiK (neF alt size) k) alt _ _ H.out.2.2.1 (lt_of_block H.out.2.1) (by rw [loK_len]; omega) (by rw [hiK_len]; omega)).mono ?_
     rintro e w2 ⟨vL, vH, rfl, hT, hB⟩
     rw [show (alt, _) = neF alt size k from by unfold neF; congr 1; omega] at hT
     obtain ⟨aL', nL', cL', rfl⟩ := own_slice3 hT.L
     obtain ⟨aH', nH', cH', rfl⟩ := own_slice3 hT.H
     have hK2 := RfK.next (f := neF alt size) (k := k) (Nat.le_refl _) (by omega) H.out.1 H.out.2.1 H.out.2.2.2 hT hB
     obtain ⟨d0, d1, g0, g1⟩ := two_facts ((hB.block (w.heap.size + 1) (by omega)).trans H.out.2.1)
     have K := qh hK2
     clear c0 c1 f0 f1 hT hB hK2 H
     go_wp2_with fail
     go_roundw
     case rel => exact ⟨k + 1, by omega, by go_num, K.out⟩
     case measure => simp [intOf]; omega
   obtain rfl : k = 201 := by omega
   obtain ⟨c0, c1, f0, f1⟩ := two_facts hO
   obtain ⟨d0, d1, g0, g1⟩ := two_facts hR
   have H := qh (And.intro hR (And.intro hO (And.intro hT hB)))
   clear hR hO hT hB hk hlt
   go_wp2_with fail
   obtain ⟨hT9, hB9, r0, r1⟩ := RfK.done (Nat.le_refl _) (by omega) H.out.1 H.out.2.2.2 H.out.2.2.1
   refine bodyPost_ret (v := .tuple #[.agg #[.slice aL nL cL, .slice aH nH cH], .int .i64 0]) ?_ rfl ⟨_, _, by rw [HE.out], fun _ => hT9, fun e => absurd HE.out e, hB9⟩
   simp [results, Try.f40, go_sem, r0, r1]
 have HE := qh hE
 clear hE
 go_enter Try.func40, Try.ntmps40
 go_wp2_with fail
 refine (wrong_call alt size _).mono ?_; rintro e w1 ⟨rfl, rfl⟩
 rw [HE.out]
 go_wp2_with fail
 refine bodyPost_ret (v := .tuple #[.agg #[.slice none 0 0, .slice none 0 0], .int .i64 1]) ?_ rfl ⟨_, _, by rw [HE.out], fun e => absurd (HE.out.symm.trans e) (by decide), fun _ => ⟨rfl, rfl⟩, ?_⟩
 ·have hb := block_new w (.cells #[.slice none 0 0, .slice none 0 0] 44) rfl
  have r0 := cell_of_block (i := 0) (v := .slice none 0 0) hb rfl
  have r1 := cell_of_block (i := 1) (v := .slice none 0 0) hb rfl
  simp [results, Try.f40, go_sem, r0, r1]
 exact below_alloc _ _
end Go.Proofs.Ytikjjpjekchcjaa.Alt
end
