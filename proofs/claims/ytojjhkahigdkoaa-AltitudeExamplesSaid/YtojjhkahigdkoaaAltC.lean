/-
  Layer 18 (altitude): the reference's has and put.
-/
import Derived.Test.YtojjhkahigdkoaaAltB
import Derived.Test.YtojjhkahigdkoaaAppAt
import Derived.Test.YtojjhkahigdkoaaStoreLib
namespace Go.Proofs.Ytojjhkahigdkoaa
open Go.RowKit AltMath MyHeap MyCopy MyOwn

set_option maxRecDepth 100000 in
set_option maxHeartbeats 2000000 in
theorem has_call (aL aH : Option Addr) (nL nH cL cH : Nat) (lo hi : List Int) (i : Nat) (w : World) (hL : Ints w aL nL lo) (hH : Ints w aH nH hi) (h1 : i < nL) (h2 : i < nH) :
    Calls Try.prog 39 #[bdV aL nL cL aH nH cH, .int .i64 (i : Int)] w (BPost (decide (gi lo i ≤ gi hi i)) w) := by
  unfold bdV
  obtain ⟨b1, o1, rfl, x0⟩ := ints_at hL h1
  obtain ⟨b2, o2, rfl, y0⟩ := ints_at hH h2
  have hi0 : (0 : Int) ≤ (i : Int) := by omega
  have hi1 : (i : Int) < (nL : Int) := by omega
  have hi2 : (i : Int) < (nH : Int) := by omega
  have hb1 := World.block_lt_of_cell? w _ x0
  have hb2 := World.block_lt_of_cell? w _ y0
  have x1 := cell_alloc_l (.cells (bdC (some ⟨b1, o1, none⟩) nL cL (some ⟨b2, o2, none⟩) nH cH) 24) x0
  have y1 := cell_alloc_l (.cells (bdC (some ⟨b1, o1, none⟩) nL cL (some ⟨b2, o2, none⟩) nH cH) 24) y0
  have HB := Lib.hid (below_alloc w (.cells (bdC (some ⟨b1, o1, none⟩) nL cL (some ⟨b2, o2, none⟩) nH cH) 24))
  clear hL hH
  unfold bdC at *
  generalize gi lo i = X at *
  generalize gi hi i = Y at *
  go_enter Try.func39, Try.ntmps39
  go_wp2_with fail
  go_quiet (fail)
  go_wp2_with fail
  go_ret
  exact bPost_of rfl (HB.out.trans ⟨rfl, rfl, rfl, Nat.le_refl _, fun _ _ => rfl⟩)

def flatI (xs : List Int) : List Value := xs.map fun x => .int .i64 x
theorem flatI_snoc (xs : List Int) (x : Int) : flatI (xs ++ [x]) = flatI xs ++ [.int .i64 x] := by simp [flatI]
theorem flatI_len (xs : List Int) : (flatI xs).length = xs.length := by simp [flatI]
theorem infoI : (Try.prog.info? 3).map (fun i => (i.zero, i.size, i.bytes)) = some (some (.int .i64 0), 1, 8) := by kernel_rfl
theorem info_parts' {o : Option TypeInfo} {z : Value} {s b : Nat} (h : o.map (fun i => (i.zero, i.size, i.bytes)) = some (some z, s, b)) : ∃ i, o = some i ∧ i.zero = some z ∧ i.size = s ∧ i.bytes = b := by
  cases o with
  | none => cases h
  | some i => simp only [Option.map_some, Option.some.injEq, Prod.mk.injEq] at h; exact ⟨i, rfl, h.1, h.2.1, h.2.2⟩
/-- Two rows of the call's own, each in memory of its own. -/
structure TwoOwn (base : Nat) (vL vH : Value) (lo hi : List Int) (W : World) : Prop where
  L : W.ownsRow base 3 1 vL lo.length (flatI lo)
  H : W.ownsRow base 3 1 vH hi.length (flatI hi)
  A : ∀ g, vL.ownBlock = some g → vH.ownBlock ≠ some g
theorem own_keep {W W' : World} {b : Nat} {e : TypeId} {s : Nat} {v : Value} {n : Nat} {xs : List Value} {row : Option Nat} (h : W.ownsRow b e s v n xs) (hg : W.grownBy W' row) (ha : row = none ∨ v.ownBlock ≠ row) : W'.ownsRow b e s v n xs := by
  refine h.kept hg ?_
  rcases ha with rfl | ha
  · cases hv : v.ownBlock with
    | none => exact Or.inl rfl
    | some g => exact Or.inr (fun e => by cases e)
  · exact Or.inr ha
theorem TwoOwn.below {base : Nat} {vL vH : Value} {lo hi : List Int} {W W' : World} (h : TwoOwn base vL vH lo hi W) (hb : Below W.heap.size W W') : TwoOwn base vL vH lo hi W' := ⟨ownsRow_below h.L hb (Nat.le_refl _), ownsRow_below h.H hb (Nat.le_refl _), h.A⟩
theorem TwoOwn.alloc {base : Nat} {vL vH : Value} {lo hi : List Int} {W : World} (h : TwoOwn base vL vH lo hi W) (o : Obj) : TwoOwn base vL vH lo hi (W.alloc o) := h.below (below_alloc _ _)
theorem TwoOwn.growL {base : Nat} {vL vH vL' : Value} {lo hi : List Int} {x : Int} {W W' : World} (h : TwoOwn base vL vH lo hi W) (hown : W'.ownsRow base 3 1 vL' (lo.length + 1) (flatI lo ++ [.int .i64 x])) (hg : W.grownBy W' vL.ownBlock) (hat : vL'.ownBlock = vL.ownBlock ∨ vL'.ownBlock = some W.heap.size) : TwoOwn base vL' vH (lo ++ [x]) hi W' := by
  refine ⟨by rw [flatI_snoc, List.length_append]; exact hown, own_keep h.H hg ?_, fun g hg1 hg2 => ?_⟩
  · cases hv : vL.ownBlock with
    | none => exact Or.inl rfl
    | some g => exact Or.inr (h.A g hv)
  · rcases hat with e | e
    · exact h.A g (e.symm.trans hg1) hg2
    · have := (h.H.lt g hg2).2
      rw [e] at hg1
      cases hg1
      omega
theorem TwoOwn.growH {base : Nat} {vL vH vH' : Value} {lo hi : List Int} {x : Int} {W W' : World} (h : TwoOwn base vL vH lo hi W) (hown : W'.ownsRow base 3 1 vH' (hi.length + 1) (flatI hi ++ [.int .i64 x])) (hg : W.grownBy W' vH.ownBlock) (hat : vH'.ownBlock = vH.ownBlock ∨ vH'.ownBlock = some W.heap.size) : TwoOwn base vL vH' lo (hi ++ [x]) W' := by
  refine ⟨own_keep h.L hg ?_, by rw [flatI_snoc, List.length_append]; exact hown, fun g hg1 hg2 => ?_⟩
  · cases hv : vH.ownBlock with
    | none => exact Or.inl rfl
    | some g => exact Or.inr (fun e => h.A g e hv)
  · rcases hat with e | e
    · exact h.A g hg1 (e.symm.trans hg2)
    · have := (h.L.lt g hg1).2
      rw [e] at hg2
      cases hg2
      omega
theorem grownB {w w' : World} {base B : Nat} {e : TypeId} {size : Nat} {v : Value} {n : Nat} {xs : List Value} (h : w.ownsRow base e size v n xs) (hg : w.grownBy w' v.ownBlock) (hB : B ≤ base) (hs : B ≤ w.heap.size) : Below B w w' :=
  (Below.refl B w).grown hg hs fun k e => Nat.le_trans hB (h.lt k e).1
/-- A cell that is laid stays over an append to a row of which it is no part. -/
theorem news_after {V W : World} {v : Value} {b : Nat} {x : Value} (hg : V.grownBy W v.ownBlock) (hc : V.cell? ⟨b, 0, none⟩ = some x) (hne : v.ownBlock ≠ some b) : ∀ j u, [x][j]? = some u → W.cell? ((⟨b, 0, none⟩ : Addr).add j) = some u := by
  intro j u hj
  match j, hj with
  | 0, hj =>
    simp at hj
    subst hj
    have hb := World.block_lt_of_cell? V _ hc
    have hh : W.heap[b]? = V.heap[b]? := hg.block b hb (fun e => hne e.symm)
    show W.cell? ⟨b, 0, none⟩ = some x
    rw [← hc]
    unfold World.cell?
    simp only [hh]

/-- A band of the call's own as a result. -/
def PtPost (base : Nat) (lo hi : List Int) (w : World) (e : Ending) (w' : World) : Prop := ∃ vL vH, e = .returned (.agg #[vL, vH]) ∧ TwoOwn base vL vH lo hi w' ∧ Below base w w'

theorem cells_one {w : World} {x : Value} {T : TypeId} {n : Nat} (hn : n = w.heap.size) : ∀ (j : Nat) (u : Value), [x][j]? = some u → (w.alloc (.cells #[x] T)).cell? ((⟨n, 0, none⟩ : Addr).add j) = some u := by
  subst hn
  exact cell_one_new w x T
theorem cells_old {w : World} {x : Value} {T : TypeId} {n : Nat} {o : Obj} (hn : n = w.heap.size) : ∀ (j : Nat) (u : Value), [x][j]? = some u → ((w.alloc (.cells #[x] T)).alloc o).cell? ((⟨n, 0, none⟩ : Addr).add j) = some u := fun j u hj => cell_alloc_l o (cells_one hn j u hj)
theorem own_slice {w : World} {base : Nat} {e : TypeId} {size : Nat} {v : Value} {n : Nat} {xs : List Value} (h : w.ownsRow base e size v n xs) : ∃ a c, v = .slice a n c := by
  rcases h.2 with ⟨rfl, rfl⟩ | ⟨g, cap, cur, rfl, _⟩
  · exact ⟨none, 0, rfl⟩
  · exact ⟨_, _, rfl⟩
theorem own_one {w : World} {base : Nat} {e : TypeId} {size : Nat} {v : Value} {n : Nat} {xs : List Value} (h : w.ownsRow base e size v n xs) : v.oneCell' = true := by
  rcases h.2 with ⟨rfl, _⟩ | ⟨g, cap, cur, rfl, _⟩ <;> rfl
/-- What the region of put holds. -/
def PtS (B : Nat) (vL vH : Value) (W : World) : Prop := W.cell? ⟨B, 0, none⟩ = some vL ∧ W.cell? ⟨B, 1, none⟩ = some vH
structure PtK (base : Nat) (w : World) (vL vH : Value) (v1 v2 : Value) (lo hi : List Int) (W : World) : Prop where
  T : TwoOwn base v1 v2 lo hi W
  K : Below base w W
  P1 : W.heap[w.heap.size]? = some (.cells #[vL, vH] 24 (0, 0))
  P2 : W.heap[w.heap.size + 1]? = some (.cells #[.slice none 0 0, .slice none 0 0] 24 (0, 0))
  hb : base ≤ w.heap.size
  O1 : v1.ownBlock ≠ some (w.heap.size + 1)
  O2 : v2.ownBlock ≠ some (w.heap.size + 1)
theorem PtK.le {base : Nat} {w W : World} {vL vH v1 v2 : Value} {lo hi : List Int} (h : PtK base w vL vH v1 v2 lo hi W) : base ≤ W.heap.size := Nat.le_trans h.hb h.K.size
theorem PtK.new {base : Nat} {w : World} {vL vH : Value} {lo hi : List Int} (h : TwoOwn base vL vH lo hi w) (hb : base ≤ w.heap.size) : PtK base w vL vH vL vH lo hi ((w.alloc (.cells #[vL, vH] 24)).alloc (.cells #[.slice none 0 0, .slice none 0 0] 24)).drew :=
  have hB : Below w.heap.size w ((w.alloc (.cells #[vL, vH] 24)).alloc (.cells #[.slice none 0 0, .slice none 0 0] 24)).drew := ((below_alloc w _).alloc (by simp) _).drew
  ⟨h.below hB, hB.mono hb, block_alloc (block_new _ _ rfl), block_new _ _ (by simp), hb, fun e => by have := (h.L.lt _ e).2; omega, fun e => by have := (h.H.lt _ e).2; omega⟩
theorem PtK.alloc {base : Nat} {w W : World} {vL vH v1 v2 : Value} {lo hi : List Int} (h : PtK base w vL vH v1 v2 lo hi W) (o : Obj) : PtK base w vL vH v1 v2 lo hi (W.alloc o) :=
  ⟨h.T.alloc o, h.K.alloc h.le o, block_alloc h.P1, block_alloc h.P2, h.hb, h.O1, h.O2⟩
theorem PtK.S {base : Nat} {w W : World} {vL vH v1 v2 : Value} {lo hi : List Int} (h : PtK base w vL vH v1 v2 lo hi W) : PtS w.heap.size vL vH W := ⟨cell_of_block h.P1 rfl, cell_of_block h.P1 rfl⟩
theorem grown_block {W W' : World} {v : Value} {k m : Nat} {o : Obj} (hg : W.grownBy W' v.ownBlock) (hlt : ∀ g, v.ownBlock = some g → g < m) (hk : m ≤ k) (h : W.heap[k]? = some o) : W'.heap[k]? = some o :=
  (hg.block k (lt_of_block h) (fun e => by have := hlt k e.symm; omega)).trans h
theorem at_ne {v v' : Value} {m s : Nat} (hlt : ∀ g, v.ownBlock = some g → g < m) (hat : v'.ownBlock = v.ownBlock ∨ v'.ownBlock = some s) (hs : m + 1 < s) (e : v'.ownBlock = some (m + 1)) : False := by
  rcases hat with h | h
  · have := hlt _ (h.symm.trans e); omega
  · rw [h] at e; cases e; omega
theorem PtK.growL {base : Nat} {w W W' : World} {vL vH v2 vL' : Value} {lo hi : List Int} {x : Int} (h : PtK base w vL vH vL v2 lo hi W) (hlt : ∀ g, vL.ownBlock = some g → g < w.heap.size) (hown : W'.ownsRow base 3 1 vL' (lo.length + 1) (flatI lo ++ [.int .i64 x])) (hg : W.grownBy W' vL.ownBlock) (hat : vL'.ownBlock = vL.ownBlock ∨ vL'.ownBlock = some W.heap.size) : PtK base w vL vH vL' v2 (lo ++ [x]) hi W' :=
  ⟨h.T.growL hown hg hat, h.K.trans (grownB h.T.L hg (Nat.le_refl _) h.le), grown_block hg hlt (Nat.le_refl _) h.P1, grown_block hg hlt (by omega) h.P2, h.hb, fun e => at_ne hlt hat (lt_of_block h.P2) e, h.O2⟩
theorem PtK.growH {base : Nat} {w W W' : World} {vL vH v1 vH' : Value} {lo hi : List Int} {x : Int} (h : PtK base w vL vH v1 vH lo hi W) (hlt : ∀ g, vH.ownBlock = some g → g < w.heap.size) (hown : W'.ownsRow base 3 1 vH' (hi.length + 1) (flatI hi ++ [.int .i64 x])) (hg : W.grownBy W' vH.ownBlock) (hat : vH'.ownBlock = vH.ownBlock ∨ vH'.ownBlock = some W.heap.size) : PtK base w vL vH v1 vH' lo (hi ++ [x]) W' :=
  ⟨h.T.growH hown hg hat, h.K.trans (grownB h.T.H hg (Nat.le_refl _) h.le), grown_block hg hlt (Nat.le_refl _) h.P1, grown_block hg hlt (by omega) h.P2, h.hb, h.O1, fun e => at_ne hlt hat (lt_of_block h.P2) e⟩
theorem PtK.ones {base : Nat} {w W : World} {vL vH v1 v2 : Value} {lo hi : List Int} (h : PtK base w vL vH v1 v2 lo hi W) : (#[v1, v2] : Array Value).all (·.oneCell') = true := by simp [own_one h.T.L, own_one h.T.H]
theorem PtK.stored {base : Nat} {w W W' : World} {vL vH v1 v2 : Value} {lo hi : List Int} (h : PtK base w vL vH v1 v2 lo hi W) (hO : Only (w.heap.size + 1) W W') : (W'.cell? ⟨w.heap.size, 0, none⟩ = some vL ∧ W'.cell? ⟨w.heap.size, 1, none⟩ = some vH) ∧ TwoOwn base v1 v2 lo hi W' ∧ Below base w W' :=
  have hk : W'.heap[w.heap.size]? = some (.cells #[vL, vH] 24 (0, 0)) := hO.keeps h.P1 (by omega)
  ⟨⟨cell_of_block hk rfl, cell_of_block hk rfl⟩, ⟨own_keep h.T.L hO (Or.inr h.O1), own_keep h.T.H hO (Or.inr h.O2), h.T.A⟩, h.K.trans (hO.below (by have := h.hb; omega) h.le)⟩

set_option maxRecDepth 100000 in
set_option maxHeartbeats 16000000 in
theorem put_ok (base : Nat) (vL vH : Value) (lo hi : List Int) (l h : Int) (w : World) (hO : TwoOwn base vL vH lo hi w) (hb : base ≤ w.heap.size) (n1 : lo.length ≤ 1000) (n2 : hi.length ≤ 1000) (hlh : l ≤ h) :
    Calls Try.prog 40 #[.agg #[vL, vH], .int .i64 l, .int .i64 h] w (PtPost base (lo ++ [l]) (hi ++ [h]) w) := by
  obtain ⟨i0, hi0, hz0, hs0, hb0⟩ := info_parts' infoI
  have HI := Lib.hid (And.intro hi0 (And.intro hz0 (And.intro hs0 hb0)))
  have F := Lib.hid (PtK.new hO hb)
  have LTL := Lib.hid (fun g e => (hO.L.lt g e).2)
  have LTH := Lib.hid (fun g e => (hO.H.lt g e).2)
  have GG : Hid ((w.drew.grownBy w.drew vL.ownBlock) ∧ ∀ g, vL.ownBlock = some g → g < w.heap.size) := Lib.hid ⟨⟨rfl, rfl, rfl, Nat.le_refl _, fun _ _ _ => rfl⟩, LTL.out⟩
  clear hi0 hz0 hs0 hb0 hO
  go_enter Try.func40, Try.ntmps40
  go_wp2_with fail
  go_region_held3 (fun w' => w'.cell? ⟨w.heap.size, 0, none⟩ = some vL ∧ w'.cell? ⟨w.heap.size, 1, none⟩ = some vH) (first | exact F.out.S | exact (F.out.alloc _).S | exact ((F.out.alloc _).alloc _).S | exact (F.out.stored (((Only.refl _ _).setCell _ _).setCell _ _)).1)
    (first
      | (refine step_append_at (by rfl) (.tmp 11) (.tmp 13) 22 (by rfl) base 3 i0 _ 1 8 Try.underlying22 HI.out.1 HI.out.2.1 HI.out.2.2.1 HI.out.2.2.2 (by rfl) (by decide) _ lo.length _ (by rfl) (F.out.alloc (.cells #[.int .i64 l] 3)).T.L ⟨w.heap.size + 1 + 1, 0, none⟩ 1 1 [.int .i64 l] (by rfl) (by rfl) (cells_one (by simp)) (by intro u hu; simp at hu; subst hu; rfl) (by unfold maxLen; omega) (by omega) ((F.out.alloc (.cells #[.int .i64 l] 3)).le) ?_; intro vL' w8 hown hg hat; obtain ⟨aL, cL, rfl⟩ := own_slice hown; have GG := Lib.hid (And.intro hg LTL.out); have F8 := (F.out.alloc (.cells #[.int .i64 l] 3)).growL LTL.out hown hg hat; replace F := Lib.hid F8; clear F8 hown hg hat)
      | (refine step_append_at (by rfl) (.tmp 11) (.tmp 13) 22 (by rfl) base 3 i0 _ 1 8 Try.underlying22 HI.out.1 HI.out.2.1 HI.out.2.2.1 HI.out.2.2.2 (by rfl) (by decide) _ lo.length _ (by rfl) ((F.out.alloc (.cells #[.int .i64 l] 3)).alloc (.cells #[.int .i64 h] 3)).T.L ⟨w.heap.size + 1 + 1, 0, none⟩ 1 1 [.int .i64 l] (by rfl) (by rfl) (cells_old (by simp)) (by intro u hu; simp at hu; subst hu; rfl) (by unfold maxLen; omega) (by omega) (((F.out.alloc (.cells #[.int .i64 l] 3)).alloc (.cells #[.int .i64 h] 3)).le) ?_; intro vL' w8 hown hg hat; obtain ⟨aL, cL, rfl⟩ := own_slice hown; have GG := Lib.hid (And.intro hg LTL.out); have F8 := ((F.out.alloc (.cells #[.int .i64 l] 3)).alloc (.cells #[.int .i64 h] 3)).growL LTL.out hown hg hat; replace F := Lib.hid F8; clear F8 hown hg hat)
      | (refine step_append_at (by rfl) (.tmp 11) (.tmp 13) 22 (by rfl) base 3 i0 _ 1 8 Try.underlying22 HI.out.1 HI.out.2.1 HI.out.2.2.1 HI.out.2.2.2 (by rfl) (by decide) _ lo.length _ (by rfl) ((F.out.alloc (.cells #[.int .i64 h] 3)).alloc (.cells #[.int .i64 l] 3)).T.L ⟨w.heap.size + 1 + 1 + 1, 0, none⟩ 1 1 [.int .i64 l] (by rfl) (by rfl) (cells_one (by simp)) (by intro u hu; simp at hu; subst hu; rfl) (by unfold maxLen; omega) (by omega) (((F.out.alloc (.cells #[.int .i64 h] 3)).alloc (.cells #[.int .i64 l] 3)).le) ?_; intro vL' w8 hown hg hat; obtain ⟨aL, cL, rfl⟩ := own_slice hown; have GG := Lib.hid (And.intro hg LTL.out); have F8 := ((F.out.alloc (.cells #[.int .i64 h] 3)).alloc (.cells #[.int .i64 l] 3)).growL LTL.out hown hg hat; replace F := Lib.hid F8; clear F8 hown hg hat)
      | (refine step_append_at (by rfl) (.tmp 16) (.tmp 18) 22 (by rfl) base 3 i0 _ 1 8 Try.underlying22 HI.out.1 HI.out.2.1 HI.out.2.2.1 HI.out.2.2.2 (by rfl) (by decide) _ hi.length _ (by rfl) (F.out.alloc (.cells #[.int .i64 h] 3)).T.H ⟨w8.heap.size, 0, none⟩ 1 1 [.int .i64 h] (by rfl) (by rfl) (cells_one (by simp)) (by intro u hu; simp at hu; subst hu; rfl) (by unfold maxLen; omega) (by omega) ((F.out.alloc (.cells #[.int .i64 h] 3)).le) ?_; intro vH' w9 hown hg hat; obtain ⟨aH, cH, rfl⟩ := own_slice hown; have GG := Lib.hid (And.intro hg LTH.out); have F8 := (F.out.alloc (.cells #[.int .i64 h] 3)).growH LTH.out hown hg hat; replace F := Lib.hid F8; clear F8 hown hg hat; have f0 := free_of_block (i := 0) F.out.P2; have f1 := free_of_block (i := 1) F.out.P2; have c0 := cell_of_block (i := 0) F.out.P2 rfl; have c1 := cell_of_block (i := 1) F.out.P2 rfl)
      | (refine step_append_at (by rfl) (.tmp 16) (.tmp 18) 22 (by rfl) base 3 i0 _ 1 8 Try.underlying22 HI.out.1 HI.out.2.1 HI.out.2.2.1 HI.out.2.2.2 (by rfl) (by decide) _ hi.length _ (by rfl) F.out.T.H ⟨w.heap.size + 1 + 1 + 1, 0, none⟩ 1 1 [.int .i64 h] (by rfl) (by rfl) (news_after GG.out.1 (cells_one (by simp) 0 _ rfl) (fun e => by have := GG.out.2 _ e; omega)) (by intro u hu; simp at hu; subst hu; rfl) (by unfold maxLen; omega) (by omega) (F.out.le) ?_; intro vH' w9 hown hg hat; obtain ⟨aH, cH, rfl⟩ := own_slice hown; have GG := Lib.hid (And.intro hg LTH.out); have F8 := F.out.growH LTH.out hown hg hat; replace F := Lib.hid F8; clear F8 hown hg hat; have f0 := free_of_block (i := 0) F.out.P2; have f1 := free_of_block (i := 1) F.out.P2; have c0 := cell_of_block (i := 0) F.out.P2 rfl; have c1 := cell_of_block (i := 1) F.out.P2 rfl)
      | (refine step_append_at (by rfl) (.tmp 16) (.tmp 18) 22 (by rfl) base 3 i0 _ 1 8 Try.underlying22 HI.out.1 HI.out.2.1 HI.out.2.2.1 HI.out.2.2.2 (by rfl) (by decide) _ hi.length _ (by rfl) F.out.T.H ⟨w.heap.size + 1 + 1, 0, none⟩ 1 1 [.int .i64 h] (by rfl) (by rfl) (news_after GG.out.1 (cells_old (by simp) 0 _ rfl) (fun e => by have := GG.out.2 _ e; omega)) (by intro u hu; simp at hu; subst hu; rfl) (by unfold maxLen; omega) (by omega) (F.out.le) ?_; intro vH' w9 hown hg hat; obtain ⟨aH, cH, rfl⟩ := own_slice hown; have GG := Lib.hid (And.intro hg LTH.out); have F8 := F.out.growH LTH.out hown hg hat; replace F := Lib.hid F8; clear F8 hown hg hat; have f0 := free_of_block (i := 0) F.out.P2; have f1 := free_of_block (i := 1) F.out.P2; have c0 := cell_of_block (i := 0) F.out.P2 rfl; have c1 := cell_of_block (i := 1) F.out.P2 rfl))
  all_goals
    clear f0 f1 c0 c1
    go_wp2_with fail
    have H9 := block_setCell (i := 1) (v := .slice aH (hi.length + 1) cH) (block_setCell (i := 0) (v := .slice aL (lo.length + 1) cL) F.out.P2)
    have F9 := F.out.stored (((Only.refl _ _).setCell 0 (.slice aL (lo.length + 1) cL)).setCell 1 (.slice aH (hi.length + 1) cH))
    have r0 := cell_of_block (i := 0) (v := .slice aL (lo.length + 1) cL) H9 rfl
    have r1 := cell_of_block (i := 1) (v := .slice aH (hi.length + 1) cH) H9 rfl
    refine bodyPost_ret (v := .agg #[.slice aL (lo.length + 1) cL, .slice aH (hi.length + 1) cH]) ?_ rfl ⟨_, _, rfl, F9.2.1, F9.2.2⟩
    simp [results, Try.f40, go_sem, r0, r1]

set_option maxRecDepth 100000 in
set_option maxHeartbeats 16000000 in
theorem put_no (base : Nat) (vL vH : Value) (lo hi : List Int) (l h : Int) (w : World) (hO : TwoOwn base vL vH lo hi w) (hb : base ≤ w.heap.size) (n1 : lo.length ≤ 1000) (n2 : hi.length ≤ 1000) (hlh : h < l) :
    Calls Try.prog 40 #[.agg #[vL, vH], .int .i64 l, .int .i64 h] w (PtPost base (lo ++ [1]) (hi ++ [0]) w) := by
  obtain ⟨i0, hi0, hz0, hs0, hb0⟩ := info_parts' infoI
  have HI := Lib.hid (And.intro hi0 (And.intro hz0 (And.intro hs0 hb0)))
  have F := Lib.hid (PtK.new hO hb)
  have LTL := Lib.hid (fun g e => (hO.L.lt g e).2)
  have LTH := Lib.hid (fun g e => (hO.H.lt g e).2)
  have GG : Hid ((w.drew.grownBy w.drew vL.ownBlock) ∧ ∀ g, vL.ownBlock = some g → g < w.heap.size) := Lib.hid ⟨⟨rfl, rfl, rfl, Nat.le_refl _, fun _ _ _ => rfl⟩, LTL.out⟩
  clear hi0 hz0 hs0 hb0 hO
  go_enter Try.func40, Try.ntmps40
  go_wp2_with fail
  go_region_held3 (fun w' => w'.cell? ⟨w.heap.size, 0, none⟩ = some vL ∧ w'.cell? ⟨w.heap.size, 1, none⟩ = some vH) (first | exact F.out.S | exact (F.out.alloc _).S | exact ((F.out.alloc _).alloc _).S | exact (F.out.stored (((Only.refl _ _).setCell _ _).setCell _ _)).1)
    (first
      | (refine step_append_at (by rfl) (.tmp 11) (.tmp 13) 22 (by rfl) base 3 i0 _ 1 8 Try.underlying22 HI.out.1 HI.out.2.1 HI.out.2.2.1 HI.out.2.2.2 (by rfl) (by decide) _ lo.length _ (by rfl) (F.out.alloc (.cells #[.int .i64 1] 3)).T.L ⟨w.heap.size + 1 + 1, 0, none⟩ 1 1 [.int .i64 1] (by rfl) (by rfl) (cells_one (by simp)) (by intro u hu; simp at hu; subst hu; rfl) (by unfold maxLen; omega) (by omega) ((F.out.alloc (.cells #[.int .i64 1] 3)).le) ?_; intro vL' w8 hown hg hat; obtain ⟨aL, cL, rfl⟩ := own_slice hown; have GG := Lib.hid (And.intro hg LTL.out); have F8 := (F.out.alloc (.cells #[.int .i64 1] 3)).growL LTL.out hown hg hat; replace F := Lib.hid F8; clear F8 hown hg hat)
      | (refine step_append_at (by rfl) (.tmp 11) (.tmp 13) 22 (by rfl) base 3 i0 _ 1 8 Try.underlying22 HI.out.1 HI.out.2.1 HI.out.2.2.1 HI.out.2.2.2 (by rfl) (by decide) _ lo.length _ (by rfl) ((F.out.alloc (.cells #[.int .i64 1] 3)).alloc (.cells #[.int .i64 0] 3)).T.L ⟨w.heap.size + 1 + 1, 0, none⟩ 1 1 [.int .i64 1] (by rfl) (by rfl) (cells_old (by simp)) (by intro u hu; simp at hu; subst hu; rfl) (by unfold maxLen; omega) (by omega) (((F.out.alloc (.cells #[.int .i64 1] 3)).alloc (.cells #[.int .i64 0] 3)).le) ?_; intro vL' w8 hown hg hat; obtain ⟨aL, cL, rfl⟩ := own_slice hown; have GG := Lib.hid (And.intro hg LTL.out); have F8 := ((F.out.alloc (.cells #[.int .i64 1] 3)).alloc (.cells #[.int .i64 0] 3)).growL LTL.out hown hg hat; replace F := Lib.hid F8; clear F8 hown hg hat)
      | (refine step_append_at (by rfl) (.tmp 11) (.tmp 13) 22 (by rfl) base 3 i0 _ 1 8 Try.underlying22 HI.out.1 HI.out.2.1 HI.out.2.2.1 HI.out.2.2.2 (by rfl) (by decide) _ lo.length _ (by rfl) ((F.out.alloc (.cells #[.int .i64 0] 3)).alloc (.cells #[.int .i64 1] 3)).T.L ⟨w.heap.size + 1 + 1 + 1, 0, none⟩ 1 1 [.int .i64 1] (by rfl) (by rfl) (cells_one (by simp)) (by intro u hu; simp at hu; subst hu; rfl) (by unfold maxLen; omega) (by omega) (((F.out.alloc (.cells #[.int .i64 0] 3)).alloc (.cells #[.int .i64 1] 3)).le) ?_; intro vL' w8 hown hg hat; obtain ⟨aL, cL, rfl⟩ := own_slice hown; have GG := Lib.hid (And.intro hg LTL.out); have F8 := ((F.out.alloc (.cells #[.int .i64 0] 3)).alloc (.cells #[.int .i64 1] 3)).growL LTL.out hown hg hat; replace F := Lib.hid F8; clear F8 hown hg hat)
      | (refine step_append_at (by rfl) (.tmp 16) (.tmp 18) 22 (by rfl) base 3 i0 _ 1 8 Try.underlying22 HI.out.1 HI.out.2.1 HI.out.2.2.1 HI.out.2.2.2 (by rfl) (by decide) _ hi.length _ (by rfl) (F.out.alloc (.cells #[.int .i64 0] 3)).T.H ⟨w8.heap.size, 0, none⟩ 1 1 [.int .i64 0] (by rfl) (by rfl) (cells_one (by simp)) (by intro u hu; simp at hu; subst hu; rfl) (by unfold maxLen; omega) (by omega) ((F.out.alloc (.cells #[.int .i64 0] 3)).le) ?_; intro vH' w9 hown hg hat; obtain ⟨aH, cH, rfl⟩ := own_slice hown; have GG := Lib.hid (And.intro hg LTH.out); have F8 := (F.out.alloc (.cells #[.int .i64 0] 3)).growH LTH.out hown hg hat; replace F := Lib.hid F8; clear F8 hown hg hat; have f0 := free_of_block (i := 0) F.out.P2; have f1 := free_of_block (i := 1) F.out.P2; have c0 := cell_of_block (i := 0) F.out.P2 rfl; have c1 := cell_of_block (i := 1) F.out.P2 rfl)
      | (refine step_append_at (by rfl) (.tmp 16) (.tmp 18) 22 (by rfl) base 3 i0 _ 1 8 Try.underlying22 HI.out.1 HI.out.2.1 HI.out.2.2.1 HI.out.2.2.2 (by rfl) (by decide) _ hi.length _ (by rfl) F.out.T.H ⟨w.heap.size + 1 + 1 + 1, 0, none⟩ 1 1 [.int .i64 0] (by rfl) (by rfl) (news_after GG.out.1 (cells_one (by simp) 0 _ rfl) (fun e => by have := GG.out.2 _ e; omega)) (by intro u hu; simp at hu; subst hu; rfl) (by unfold maxLen; omega) (by omega) (F.out.le) ?_; intro vH' w9 hown hg hat; obtain ⟨aH, cH, rfl⟩ := own_slice hown; have GG := Lib.hid (And.intro hg LTH.out); have F8 := F.out.growH LTH.out hown hg hat; replace F := Lib.hid F8; clear F8 hown hg hat; have f0 := free_of_block (i := 0) F.out.P2; have f1 := free_of_block (i := 1) F.out.P2; have c0 := cell_of_block (i := 0) F.out.P2 rfl; have c1 := cell_of_block (i := 1) F.out.P2 rfl)
      | (refine step_append_at (by rfl) (.tmp 16) (.tmp 18) 22 (by rfl) base 3 i0 _ 1 8 Try.underlying22 HI.out.1 HI.out.2.1 HI.out.2.2.1 HI.out.2.2.2 (by rfl) (by decide) _ hi.length _ (by rfl) F.out.T.H ⟨w.heap.size + 1 + 1, 0, none⟩ 1 1 [.int .i64 0] (by rfl) (by rfl) (news_after GG.out.1 (cells_old (by simp) 0 _ rfl) (fun e => by have := GG.out.2 _ e; omega)) (by intro u hu; simp at hu; subst hu; rfl) (by unfold maxLen; omega) (by omega) (F.out.le) ?_; intro vH' w9 hown hg hat; obtain ⟨aH, cH, rfl⟩ := own_slice hown; have GG := Lib.hid (And.intro hg LTH.out); have F8 := F.out.growH LTH.out hown hg hat; replace F := Lib.hid F8; clear F8 hown hg hat; have f0 := free_of_block (i := 0) F.out.P2; have f1 := free_of_block (i := 1) F.out.P2; have c0 := cell_of_block (i := 0) F.out.P2 rfl; have c1 := cell_of_block (i := 1) F.out.P2 rfl))
  all_goals
    clear f0 f1 c0 c1
    go_wp2_with fail
    have H9 := block_setCell (i := 1) (v := .slice aH (hi.length + 1) cH) (block_setCell (i := 0) (v := .slice aL (lo.length + 1) cL) F.out.P2)
    have F9 := F.out.stored (((Only.refl _ _).setCell 0 (.slice aL (lo.length + 1) cL)).setCell 1 (.slice aH (hi.length + 1) cH))
    have r0 := cell_of_block (i := 0) (v := .slice aL (lo.length + 1) cL) H9 rfl
    have r1 := cell_of_block (i := 1) (v := .slice aH (hi.length + 1) cH) H9 rfl
    refine bodyPost_ret (v := .agg #[.slice aL (lo.length + 1) cL, .slice aH (hi.length + 1) cH]) ?_ rfl ⟨_, _, rfl, F9.2.1, F9.2.2⟩
    simp [results, Try.f40, go_sem, r0, r1]
theorem put_call (base : Nat) (vL vH : Value) (lo hi : List Int) (l h : Int) (w : World) (hO : TwoOwn base vL vH lo hi w) (hb : base ≤ w.heap.size) (n1 : lo.length ≤ 1000) (n2 : hi.length ≤ 1000) :
    Calls Try.prog 40 #[.agg #[vL, vH], .int .i64 l, .int .i64 h] w (PtPost base (lo ++ [(nm (l, h)).1]) (hi ++ [(nm (l, h)).2]) w) := by
  by_cases hlh : l ≤ h
  · rw [nm_yes hlh]; exact put_ok base vL vH lo hi l h w hO hb n1 n2 hlh
  · rw [nm_no (show h < l by omega)]; exact put_no base vL vH lo hi l h w hO hb n1 n2 (by omega)
end Go.Proofs.Ytojjhkahigdkoaa
