/-
  Altitude in seat 36: two rows of the call's own (printed by genBand.py)
-/
import Derived.Test.YthaokofhepngbaaBdB
import Derived.Test.YthaokofhepngbaaAppAt
import Derived.Test.YthaokofhepngbaaStoreLib
namespace Go.Proofs.Ythaokofhepngbaa.Alt
open Go.RowKit AltMath MyHeap MyCopy MyOwn

def flatI (xs : List Int) : List Value := xs.map fun x => .int .i64 x
theorem flatI_snoc (xs : List Int) (x : Int) : flatI (xs ++ [x]) = flatI xs ++ [.int .i64 x] := by simp [flatI]
theorem flatI_len (xs : List Int) : (flatI xs).length = xs.length := by simp [flatI]
theorem infoI : (Try.prog.info? 3).map (fun i => (i.zero, i.size, i.bytes)) = some (some (.int .i64 0), 1, 8) := by kernel_rfl
theorem info_parts' {o : Option TypeInfo} {z : Value} {s b : Nat} (h : o.map (fun i => (i.zero, i.size, i.bytes)) = some (some z, s, b)) : ∃ i, o = some i ∧ i.zero = some z ∧ i.size = s ∧ i.bytes = b := by
  cases o with
  | none => cases h
  | some i => simp only [Option.map_some, Option.some.injEq, Prod.mk.injEq] at h; exact ⟨i, rfl, h.1, h.2.1, h.2.2⟩
/-- Two rows of the call's own, each in memory of its own. -/
structure TwoOwn (base : Nat) (vL vH : Value) (lo hi : List Int) (W : World) : Prop where
  L : W.ownsRow base 3 1 vL lo.length (flatI lo)
  H : W.ownsRow base 3 1 vH hi.length (flatI hi)
  A : ∀ g, vL.ownBlock = some g → vH.ownBlock ≠ some g
theorem own_keep {W W' : World} {b : Nat} {e : TypeId} {s : Nat} {v : Value} {n : Nat} {xs : List Value} {row : Option Nat} (h : W.ownsRow b e s v n xs) (hg : W.grownBy W' row) (ha : row = none ∨ v.ownBlock ≠ row) : W'.ownsRow b e s v n xs := by
  refine h.kept hg ?_
  rcases ha with rfl | ha
  · cases hv : v.ownBlock with
    | none => exact Or.inl rfl
    | some g => exact Or.inr (fun e => by cases e)
  · exact Or.inr ha
theorem TwoOwn.below {base : Nat} {vL vH : Value} {lo hi : List Int} {W W' : World} (h : TwoOwn base vL vH lo hi W) (hb : Below W.heap.size W W') : TwoOwn base vL vH lo hi W' := ⟨ownsRow_below h.L hb (Nat.le_refl _), ownsRow_below h.H hb (Nat.le_refl _), h.A⟩
theorem TwoOwn.alloc {base : Nat} {vL vH : Value} {lo hi : List Int} {W : World} (h : TwoOwn base vL vH lo hi W) (o : Obj) : TwoOwn base vL vH lo hi (W.alloc o) := h.below (below_alloc _ _)
theorem TwoOwn.growL {base : Nat} {vL vH vL' : Value} {lo hi : List Int} {x : Int} {W W' : World} (h : TwoOwn base vL vH lo hi W) (hown : W'.ownsRow base 3 1 vL' (lo.length + 1) (flatI lo ++ [.int .i64 x])) (hg : W.grownBy W' vL.ownBlock) (hat : vL'.ownBlock = vL.ownBlock ∨ vL'.ownBlock = some W.heap.size) : TwoOwn base vL' vH (lo ++ [x]) hi W' := by
  refine ⟨by rw [flatI_snoc, List.length_append]; exact hown, own_keep h.H hg ?_, fun g hg1 hg2 => ?_⟩
  · cases hv : vL.ownBlock with
    | none => exact Or.inl rfl
    | some g => exact Or.inr (h.A g hv)
  · rcases hat with e | e
    · exact h.A g (e.symm.trans hg1) hg2
    · have := (h.H.lt g hg2).2
      rw [e] at hg1
      cases hg1
      omega
theorem TwoOwn.growH {base : Nat} {vL vH vH' : Value} {lo hi : List Int} {x : Int} {W W' : World} (h : TwoOwn base vL vH lo hi W) (hown : W'.ownsRow base 3 1 vH' (hi.length + 1) (flatI hi ++ [.int .i64 x])) (hg : W.grownBy W' vH.ownBlock) (hat : vH'.ownBlock = vH.ownBlock ∨ vH'.ownBlock = some W.heap.size) : TwoOwn base vL vH' lo (hi ++ [x]) W' := by
  refine ⟨own_keep h.L hg ?_, by rw [flatI_snoc, List.length_append]; exact hown, fun g hg1 hg2 => ?_⟩
  · cases hv : vH.ownBlock with
    | none => exact Or.inl rfl
    | some g => exact Or.inr (fun e => h.A g e hv)
  · rcases hat with e | e
    · exact h.A g hg1 (e.symm.trans hg2)
    · have := (h.L.lt g hg1).2
      rw [e] at hg2
      cases hg2
      omega
theorem grownB {w w' : World} {base B : Nat} {e : TypeId} {size : Nat} {v : Value} {n : Nat} {xs : List Value} (h : w.ownsRow base e size v n xs) (hg : w.grownBy w' v.ownBlock) (hB : B ≤ base) (hs : B ≤ w.heap.size) : Below B w w' :=
  (Below.refl B w).grown hg hs fun k e => Nat.le_trans hB (h.lt k e).1
/-- A cell that is laid stays over an append to a row of which it is no part. -/
theorem news_after {V W : World} {v : Value} {b : Nat} {x : Value} (hg : V.grownBy W v.ownBlock) (hc : V.cell? ⟨b, 0, none⟩ = some x) (hne : v.ownBlock ≠ some b) : ∀ j u, [x][j]? = some u → W.cell? ((⟨b, 0, none⟩ : Addr).add j) = some u := by
  intro j u hj
  match j, hj with
  | 0, hj =>
    simp at hj
    subst hj
    have hb := World.block_lt_of_cell? V _ hc
    have hh : W.heap[b]? = V.heap[b]? := hg.block b hb (fun e => hne e.symm)
    show W.cell? ⟨b, 0, none⟩ = some x
    rw [← hc]
    unfold World.cell?
    simp only [hh]

/-- A band of the call's own as a result. -/
def PtPost (base : Nat) (lo hi : List Int) (w : World) (e : Ending) (w' : World) : Prop := ∃ vL vH, e = .returned (.agg #[vL, vH]) ∧ TwoOwn base vL vH lo hi w' ∧ Below base w w'

theorem cells_one {w : World} {x : Value} {T : TypeId} {n : Nat} (hn : n = w.heap.size) : ∀ (j : Nat) (u : Value), [x][j]? = some u → (w.alloc (.cells #[x] T)).cell? ((⟨n, 0, none⟩ : Addr).add j) = some u := by
  subst hn
  exact cell_one_new w x T
theorem cells_old {w : World} {x : Value} {T : TypeId} {n : Nat} {o : Obj} (hn : n = w.heap.size) : ∀ (j : Nat) (u : Value), [x][j]? = some u → ((w.alloc (.cells #[x] T)).alloc o).cell? ((⟨n, 0, none⟩ : Addr).add j) = some u := fun j u hj => cell_alloc_l o (cells_one hn j u hj)
theorem own_slice {w : World} {base : Nat} {e : TypeId} {size : Nat} {v : Value} {n : Nat} {xs : List Value} (h : w.ownsRow base e size v n xs) : ∃ a c, v = .slice a n c := by
  rcases h.2 with ⟨rfl, rfl⟩ | ⟨g, cap, cur, rfl, _⟩
  · exact ⟨none, 0, rfl⟩
  · exact ⟨_, _, rfl⟩
theorem own_one {w : World} {base : Nat} {e : TypeId} {size : Nat} {v : Value} {n : Nat} {xs : List Value} (h : w.ownsRow base e size v n xs) : v.oneCell' = true := by
  rcases h.2 with ⟨rfl, _⟩ | ⟨g, cap, cur, rfl, _⟩ <;> rfl
/-- What the region of put holds. -/
def PtS (B : Nat) (vL vH : Value) (W : World) : Prop := W.cell? ⟨B, 0, none⟩ = some vL ∧ W.cell? ⟨B, 1, none⟩ = some vH
structure PtK (base : Nat) (w : World) (vL vH : Value) (v1 v2 : Value) (lo hi : List Int) (W : World) : Prop where
  T : TwoOwn base v1 v2 lo hi W
  K : Below base w W
  P1 : W.heap[w.heap.size]? = some (.cells #[vL, vH] 50 (0, 0))
  P2 : W.heap[w.heap.size + 1]? = some (.cells #[.slice none 0 0, .slice none 0 0] 50 (0, 0))
  hb : base ≤ w.heap.size
  O1 : v1.ownBlock ≠ some (w.heap.size + 1)
  O2 : v2.ownBlock ≠ some (w.heap.size + 1)
theorem PtK.le {base : Nat} {w W : World} {vL vH v1 v2 : Value} {lo hi : List Int} (h : PtK base w vL vH v1 v2 lo hi W) : base ≤ W.heap.size := Nat.le_trans h.hb h.K.size
theorem PtK.new {base : Nat} {w : World} {vL vH : Value} {lo hi : List Int} (h : TwoOwn base vL vH lo hi w) (hb : base ≤ w.heap.size) : PtK base w vL vH vL vH lo hi ((w.alloc (.cells #[vL, vH] 50)).alloc (.cells #[.slice none 0 0, .slice none 0 0] 50)).drew :=
  have hB : Below w.heap.size w ((w.alloc (.cells #[vL, vH] 50)).alloc (.cells #[.slice none 0 0, .slice none 0 0] 50)).drew := ((below_alloc w _).alloc (by simp) _).drew
  ⟨h.below hB, hB.mono hb, block_alloc (block_new _ _ rfl), block_new _ _ (by simp), hb, fun e => by have := (h.L.lt _ e).2; omega, fun e => by have := (h.H.lt _ e).2; omega⟩
theorem PtK.alloc {base : Nat} {w W : World} {vL vH v1 v2 : Value} {lo hi : List Int} (h : PtK base w vL vH v1 v2 lo hi W) (o : Obj) : PtK base w vL vH v1 v2 lo hi (W.alloc o) :=
  ⟨h.T.alloc o, h.K.alloc h.le o, block_alloc h.P1, block_alloc h.P2, h.hb, h.O1, h.O2⟩
theorem PtK.S {base : Nat} {w W : World} {vL vH v1 v2 : Value} {lo hi : List Int} (h : PtK base w vL vH v1 v2 lo hi W) : PtS w.heap.size vL vH W := ⟨cell_of_block h.P1 rfl, cell_of_block h.P1 rfl⟩
theorem grown_block {W W' : World} {v : Value} {k m : Nat} {o : Obj} (hg : W.grownBy W' v.ownBlock) (hlt : ∀ g, v.ownBlock = some g → g < m) (hk : m ≤ k) (h : W.heap[k]? = some o) : W'.heap[k]? = some o :=
  (hg.block k (lt_of_block h) (fun e => by have := hlt k e.symm; omega)).trans h
theorem at_ne {v v' : Value} {m s : Nat} (hlt : ∀ g, v.ownBlock = some g → g < m) (hat : v'.ownBlock = v.ownBlock ∨ v'.ownBlock = some s) (hs : m + 1 < s) (e : v'.ownBlock = some (m + 1)) : False := by
  rcases hat with h | h
  · have := hlt _ (h.symm.trans e); omega
  · rw [h] at e; cases e; omega
theorem PtK.growL {base : Nat} {w W W' : World} {vL vH v2 vL' : Value} {lo hi : List Int} {x : Int} (h : PtK base w vL vH vL v2 lo hi W) (hlt : ∀ g, vL.ownBlock = some g → g < w.heap.size) (hown : W'.ownsRow base 3 1 vL' (lo.length + 1) (flatI lo ++ [.int .i64 x])) (hg : W.grownBy W' vL.ownBlock) (hat : vL'.ownBlock = vL.ownBlock ∨ vL'.ownBlock = some W.heap.size) : PtK base w vL vH vL' v2 (lo ++ [x]) hi W' :=
  ⟨h.T.growL hown hg hat, h.K.trans (grownB h.T.L hg (Nat.le_refl _) h.le), grown_block hg hlt (Nat.le_refl _) h.P1, grown_block hg hlt (by omega) h.P2, h.hb, fun e => at_ne hlt hat (lt_of_block h.P2) e, h.O2⟩
theorem PtK.growH {base : Nat} {w W W' : World} {vL vH v1 vH' : Value} {lo hi : List Int} {x : Int} (h : PtK base w vL vH v1 vH lo hi W) (hlt : ∀ g, vH.ownBlock = some g → g < w.heap.size) (hown : W'.ownsRow base 3 1 vH' (hi.length + 1) (flatI hi ++ [.int .i64 x])) (hg : W.grownBy W' vH.ownBlock) (hat : vH'.ownBlock = vH.ownBlock ∨ vH'.ownBlock = some W.heap.size) : PtK base w vL vH v1 vH' lo (hi ++ [x]) W' :=
  ⟨h.T.growH hown hg hat, h.K.trans (grownB h.T.H hg (Nat.le_refl _) h.le), grown_block hg hlt (Nat.le_refl _) h.P1, grown_block hg hlt (by omega) h.P2, h.hb, h.O1, fun e => at_ne hlt hat (lt_of_block h.P2) e⟩
theorem PtK.ones {base : Nat} {w W : World} {vL vH v1 v2 : Value} {lo hi : List Int} (h : PtK base w vL vH v1 v2 lo hi W) : (#[v1, v2] : Array Value).all (·.oneCell') = true := by simp [own_one h.T.L, own_one h.T.H]
theorem PtK.stored {base : Nat} {w W W' : World} {vL vH v1 v2 : Value} {lo hi : List Int} (h : PtK base w vL vH v1 v2 lo hi W) (hO : Only (w.heap.size + 1) W W') : (W'.cell? ⟨w.heap.size, 0, none⟩ = some vL ∧ W'.cell? ⟨w.heap.size, 1, none⟩ = some vH) ∧ TwoOwn base v1 v2 lo hi W' ∧ Below base w W' :=
  have hk : W'.heap[w.heap.size]? = some (.cells #[vL, vH] 50 (0, 0)) := hO.keeps h.P1 (by omega)
  ⟨⟨cell_of_block hk rfl, cell_of_block hk rfl⟩, ⟨own_keep h.T.L hO (Or.inr h.O1), own_keep h.T.H hO (Or.inr h.O2), h.T.A⟩, h.K.trans (hO.below (by have := h.hb; omega) h.le)⟩
end Go.Proofs.Ythaokofhepngbaa.Alt
