/-
  TrkL, AsgVa, PtAsgA, PtAsgPr, CopyLib
-/
import Derived.Test.YtikjjpjekchcjaaPr13
import Derived.Test.YtikjjpjekchcjaaPr14
import Derived.Test.YtikjjpjekchcjaaPr18
import Derived.Test.YtikjjpjekchcjaaPr5
import Derived.Test.YtikjjpjekchcjaaPr16
import Derived.Test.YtikjjpjekchcjaaProg
import Derived.Test.YtikjjpjekchcjaaPr1
import Derived.WalkKit
import Derived.WalkSpells
import Derived.WalkLawsBesides
import Derived.Handy
import Derived.Lib.Hide
import Derived.BigQuiet
import Derived.IntWalk
import Derived.Deep.LoopGhost
import Derived.Deep.QuietTactic
import Derived.Deep.RegionHeld3
import Derived.Deep.DeepCutAuto
import Derived.Laws.AppendOwnNone
set_option linter.all false
set_option maxRecDepth 100000
set_option maxHeartbeats 64000000
section
namespace Go.Proofs.Ytikjjpjekchcjaa
open Go.RowKit TrkMath MyHeap MyOwn
structure Lf (base : Nat) (X : List (Option Nat)) (v : Value) (M : List TB) (W : World) : Prop where
 row : W.ownsRow base 46 10 v M.length (flat10 M)
 bd : ∀ k, k < M.length → BdX base (v.ownBlock :: X) W (gt M k)
 ne : ∀ g, v.ownBlock = some g → some g ∉ X
theorem Lf.nil (base : Nat) (X : List (Option Nat)) (W : World) : Lf base X (.slice none 0 0) [] W :=
 ⟨⟨rfl, Or.inl ⟨rfl, rfl⟩⟩, fun _ hk => absurd hk (Nat.not_lt_zero _), fun _ e => by cases e⟩
theorem Lf.lt {base : Nat} {X : List (Option Nat)} {v : Value} {M : List TB} {W : World} (h : Lf base X v M W) {g : Nat} (e : v.ownBlock = some g) : base ≤ g ∧ g < W.heap.size := h.row.lt g e
theorem Lf.next {base : Nat} {X Y : List (Option Nat)} {v : Value} {M : List TB} {W W' : World} (h : Lf base X v M W) (hb : Outs X W W') (hY : ∀ g, some g ∈ Y → some g ∈ X ∨ W.heap.size ≤ g) : Lf base Y v M W' :=
 ⟨hb.row h.row h.ne, fun k hk => (h.bd k hk).next (hb.mono fun x hx => List.mem_cons_of_mem _ hx) (fun g hg => by
     rcases List.mem_cons.1 hg with e | e
     ·exact Or.inl (by rw [e]; exact List.mem_cons_self)
     rcases hY g e with q | q
     ·exact Or.inl (List.mem_cons_of_mem _ q)
     exact Or.inr q),
  fun g e hg => by
   rcases hY g hg with q | q
   ·exact h.ne g e q
   have := (h.lt e).2; omega⟩
theorem Lf.outs {base : Nat} {X : List (Option Nat)} {v : Value} {M : List TB} {W W' : World} (h : Lf base X v M W) (hb : Outs X W W') : Lf base X v M W' := h.next hb fun _ e => Or.inl e
theorem Lf.turn {base : Nat} {X Y : List (Option Nat)} {v : Value} {M : List TB} {W : World} (h : Lf base X v M W) (hY : ∀ g, some g ∈ Y → some g ∈ X ∨ W.heap.size ≤ g) : Lf base Y v M W := h.next (Outs.refl X W) hY
theorem Lf.below {base : Nat} {X : List (Option Nat)} {v : Value} {M : List TB} {W W' : World} (h : Lf base X v M W) (hb : Below W.heap.size W W') : Lf base X v M W' := h.outs (Outs.of_below hb)
theorem gt_snoc_lt {M : List TB} {q : TB} {k : Nat} (h : k < M.length) : gt (M ++ [q]) k = gt M k := by unfold gt; rw [List.getElem?_append_left h]
theorem gt_snoc_eq {M : List TB} {q : TB} : gt (M ++ [q]) M.length = q := by unfold gt; rw [List.getElem?_append_right (Nat.le_refl _), Nat.sub_self]; rfl
theorem Lf.snoc {base : Nat} {X : List (Option Nat)} {v v' : Value} {M : List TB} {q : TB} {W W' : World} (h : Lf base X v M W) (hq : BdX base (v.ownBlock :: X) W q) (hX : ∀ g, some g ∈ X → g < W.heap.size)
    (ho : W'.ownsRow base 46 10 v' (M.length + 1) (flat10 M ++ (tkC q).toList)) (hg : W.grownBy W' v.ownBlock) (ha : v'.ownBlock = v.ownBlock ∨ v'.ownBlock = some W.heap.size) : Lf base X v' (M ++ [q]) W' := by
 have hO : Outs (v.ownBlock :: X) W W' := Outs.of_grown hg (fun _ e => by rw [← e]; exact List.mem_cons_self)
 have hY : ∀ g, some g ∈ v'.ownBlock :: X → some g ∈ v.ownBlock :: X ∨ W.heap.size ≤ g := fun g hg => by
  rcases List.mem_cons.1 hg with e | e
  ·rcases ha with q | q
   ·exact Or.inl (by rw [e, q]; exact List.mem_cons_self)
   rw [q] at e
   exact Or.inr (Nat.le_of_eq (Option.some.inj e).symm)
  exact Or.inl (List.mem_cons_of_mem _ e)
 refine ⟨by rw [List.length_append, flat10_snoc]; exact ho, fun k hk => ?_, fun g e hx => ?_⟩
 ·by_cases hlt : k < M.length
  ·rw [gt_snoc_lt hlt]
   exact (h.bd k hlt).next hO hY
  have : k = M.length := by rw [List.length_append, List.length_singleton] at hk; omega
  subst this
  rw [gt_snoc_eq]
  exact hq.next hO hY
 rcases ha with q | q
 ·exact h.ne g (by rw [← q]; exact e) hx
 have := hX g hx
 rw [q] at e
 have := Option.some.inj e
 omega
def XR (r g : Nat) (eV : Value) : List (Option Nat) := [some r, some g, eV.ownBlock]
structure RnK (base r g : Nat) (p : Par) (now next : Int) (tV pV lV eV : Value) (LV : List Lv) (E : List Ev) (w0 W : World) : Prop where
 B : Below base w0 W
 R : RunAt r p now next tV pV lV eV W
 V : LvAt g LV W
 E : EvAt base eV E W
 rb : base ≤ r
 gb : base ≤ g
 rg : r ≠ g
 er : eV.ownBlock ≠ some r
 eg : eV.ownBlock ≠ some g
 bb : base ≤ w0.heap.size
theorem RnK.outs {base r g : Nat} {p : Par} {now next : Int} {tV pV lV eV : Value} {LV : List Lv} {E : List Ev} {w0 W W' : World} {X : List (Option Nat)} (h : RnK base r g p now next tV pV lV eV LV E w0 W) (hb : Outs X W W') (hX : ∀ k, some k ∈ X → base ≤ k ∧ k ≠ r ∧ k ≠ g ∧ eV.ownBlock ≠ some k) : RnK base r g p now next tV pV lV eV LV E w0 W' :=
 ⟨h.B.trans (hb.below (Nat.le_trans h.bb h.B.size) fun k e => (hX k e).1), h.R.outs hb (fun e => (hX _ e).2.1 rfl), h.V.outs hb (fun e => (hX _ e).2.2.1 rfl), hb.row h.E (fun k e hk => (hX k hk).2.2.2 e), h.rb, h.gb, h.rg, h.er, h.eg, h.bb⟩
theorem RnK.turn {base r g : Nat} {p p' : Par} {now next now' next' : Int} {tV tV' pV lV eV : Value} {LV : List Lv} {E : List Ev} {w0 W W' : World} (h : RnK base r g p now next tV pV lV eV LV E w0 W) (hb : Only r W W') (hR : RunAt r p' now' next' tV' pV lV eV W') : RnK base r g p' now' next' tV' pV lV eV LV E w0 W' :=
 ⟨h.B.trans (hb.below h.rb (Nat.le_trans h.bb h.B.size)), hR, h.V.outs (Outs.of_only (X := [some r]) hb (List.mem_singleton.2 rfl)) (fun e => h.rg (Option.some.inj (List.mem_singleton.1 e)).symm), Outs.row (Outs.of_only (X := [some r]) hb (List.mem_singleton.2 rfl)) h.E (fun k e hk => by
  have := Option.some.inj (List.mem_singleton.1 hk)
  subst this
  exact h.er e), h.rb, h.gb, h.rg, h.er, h.eg, h.bb⟩
theorem RnK.setT {base r g : Nat} {p : Par} {now next : Int} {tV pV lV eV : Value} {LV : List Lv} {E : List Ev} {w0 W : World} (h : RnK base r g p now next tV pV lV eV LV E w0 W) (v : Value) (hb : Only r W (W.setCell ⟨r, 6, none⟩ v)) : RnK base r g p now next v pV lV eV LV E w0 (W.setCell ⟨r, 6, none⟩ v) := h.turn hb (h.R.setT v)
theorem RnK.below {base r g : Nat} {p : Par} {now next : Int} {tV pV lV eV : Value} {LV : List Lv} {E : List Ev} {w0 W W' : World} (h : RnK base r g p now next tV pV lV eV LV E w0 W) (hb : Below W.heap.size W W') : RnK base r g p now next tV pV lV eV LV E w0 W' :=
 h.outs (Outs.of_below (X := []) hb) (fun k e => by cases e)
theorem RnK.xr {base r g : Nat} {p : Par} {now next : Int} {tV pV lV eV : Value} {LV : List Lv} {E : List Ev} {w0 W : World} (h : RnK base r g p now next tV pV lV eV LV E w0 W) : ∀ k, some k ∈ XR r g eV → base ≤ k ∧ k < W.heap.size := fun k hk => by
 rcases List.mem_cons.1 hk with e | hk
 ·cases e; exact ⟨h.rb, h.R.lt⟩
 rcases List.mem_cons.1 hk with e | hk
 ·cases e
  obtain ⟨cs, h1, -⟩ := h.V
  exact ⟨h.gb, lt_of_block h1⟩
 have e := List.mem_singleton.1 hk
 exact h.E.lt k e.symm
structure RoK (base r g T : Nat) (p : Par) (now next : Int) (tV pV lV eV : Value) (LV : List Lv) (E : List Ev) (q : TB) (lv : Value) (M : List TB) (w0 W : World) : Prop where
 K : RnK base r g p now next tV pV lV eV LV E w0 W
 L : Lf base (some T :: XR r g eV) lv M W
 X : W.heap[T]? = some (.cells (tkC q) 46 (0, 0))
 tb : base ≤ T
 tr : T ≠ r
 tg : T ≠ g
 te : eV.ownBlock ≠ some T
theorem RoK.new {base r g : Nat} {p : Par} {now next : Int} {tV pV lV eV : Value} {LV : List Lv} {E : List Ev} {lv : Value} {M : List TB} {w0 W : World} (q : TB) (h : RnK base r g p now next tV pV lV eV LV E w0 W) (hL : Lf base (XR r g eV) lv M W) :
    RoK base r g W.heap.size p now next tV pV lV eV LV E q lv M w0 (W.alloc (.cells (tkC q) 46)) := by
 refine ⟨h.below (below_alloc _ _), (hL.turn fun k hk => ?_).below (below_alloc _ _), block_new _ _ rfl, Nat.le_trans h.bb h.B.size, ?_, ?_, ?_⟩
 ·rcases List.mem_cons.1 hk with e | e
  ·cases e; exact Or.inr (Nat.le_refl _)
  exact Or.inl e
 ·have := h.R.lt; omega
 ·have := (h.xr g (by unfold XR; simp)).2; omega
 intro e
 have := (h.E.lt _ e).2
 omega
theorem RoK.below {base r g T : Nat} {p : Par} {now next : Int} {tV pV lV eV : Value} {LV : List Lv} {E : List Ev} {q : TB} {lv : Value} {M : List TB} {w0 W W' : World} (h : RoK base r g T p now next tV pV lV eV LV E q lv M w0 W) (hb : Below W.heap.size W W') : RoK base r g T p now next tV pV lV eV LV E q lv M w0 W' :=
 ⟨h.K.below hb, h.L.below hb, keepO hb h.X, h.tb, h.tr, h.tg, h.te⟩
theorem RoK.lts {base r g T : Nat} {p : Par} {now next : Int} {tV pV lV eV : Value} {LV : List Lv} {E : List Ev} {q : TB} {lv : Value} {M : List TB} {w0 W : World} (h : RoK base r g T p now next tV pV lV eV LV E q lv M w0 W) : ∀ k, some k ∈ lv.ownBlock :: some T :: XR r g eV → k < W.heap.size := fun k hk => by
 rcases List.mem_cons.1 hk with e | hk
 ·exact (h.L.lt e.symm).2
 rcases List.mem_cons.1 hk with e | hk
 ·cases e; exact lt_of_block h.X
 exact (h.K.xr k hk).2
theorem RoK.store {base r g T : Nat} {p : Par} {now next : Int} {tV pV lV eV : Value} {LV : List Lv} {E : List Ev} {q q' : TB} {lv : Value} {M : List TB} {w0 W W' : World} (h : RoK base r g T p now next tV pV lV eV LV E q lv M w0 W) (hb : Only T W W') (hT : W'.heap[T]? = some (.cells (tkC q') 46 (0, 0))) : RoK base r g T p now next tV pV lV eV LV E q' lv M w0 W' :=
 ⟨h.K.outs (Outs.of_only (X := [some T]) hb (by simp)) (fun k e => by
     have := Option.some.inj (List.mem_singleton.1 e)
     subst this
     exact ⟨h.tb, h.tr, h.tg, h.te⟩), h.L.outs (Outs.of_only hb List.mem_cons_self), hT, h.tb, h.tr, h.tg, h.te⟩
theorem RoK.note {base r g T : Nat} {p : Par} {now next : Int} {tV pV lV eV : Value} {LV : List Lv} {E : List Ev} {q : TB} {lv : Value} {M : List TB} {w0 W W' : World} {x : Ev} {e : Ending} (h : RoK base r g T p now next tV pV lV eV LV E q lv M w0 W) (hn : NotePost r base p now next tV pV lV eV E x W e W') :
    ∃ eV', e = .returned (.tuple #[]) ∧ RoK base r g T p now next tV pV lV eV' LV (E ++ [x]) q lv M w0 W' ∧ (∀ q' : TB, BdX base (lv.ownBlock :: some T :: XR r g eV) W q' → BdX base (lv.ownBlock :: some T :: XR r g eV') W' q') ∧ Outs [some r, eV.ownBlock] W W' ∧
     ∀ (v' : Value) (M' : List TB), Lf base (lv.ownBlock :: some T :: XR r g eV) v' M' W → Lf base (lv.ownBlock :: some T :: XR r g eV') v' M' W' := by
 obtain ⟨eV', rfl, hR, hE, ha, hO⟩ := hn
 have hmem : ∀ x ∈ [some r, eV.ownBlock], x ∈ some T :: XR r g eV := fun x hx => by
  rcases List.mem_cons.1 hx with e | hx
  ·rw [e]; unfold XR; simp
  rw [List.mem_singleton.1 hx]; unfold XR; simp
 have hY : ∀ k, some k ∈ some T :: XR r g eV' → some k ∈ some T :: XR r g eV ∨ W.heap.size ≤ k := fun k hk => by
  rcases List.mem_cons.1 hk with e | hk
  ·exact Or.inl (by rw [e]; exact List.mem_cons_self)
  rcases List.mem_cons.1 hk with e | hk
  ·exact Or.inl (by rw [e]; unfold XR; simp)
  rcases List.mem_cons.1 hk with e | hk
  ·exact Or.inl (by rw [e]; unfold XR; simp)
  have e := List.mem_singleton.1 hk
  rcases ha with c | ⟨g', c, hg'⟩
  ·exact Or.inl (by rw [e, c]; unfold XR; simp)
  rw [c] at e
  have := Option.some.inj e
  exact Or.inr (by omega)
 have hY' : ∀ k, some k ∈ lv.ownBlock :: some T :: XR r g eV' → some k ∈ lv.ownBlock :: some T :: XR r g eV ∨ W.heap.size ≤ k := fun k hk => by
  rcases List.mem_cons.1 hk with e | e
  ·exact Or.inl (by rw [e]; exact List.mem_cons_self)
  rcases hY k e with c | c
  ·exact Or.inl (List.mem_cons_of_mem _ c)
  exact Or.inr c
 have hne : ∀ k, (eV.ownBlock ≠ some k) → k < W.heap.size → eV'.ownBlock ≠ some k := fun k hk hl e => by
  rcases ha with c | ⟨g', c, hg'⟩
  ·exact hk (by rw [← c]; exact e)
  rw [c] at e
  have := Option.some.inj e
  omega
 have gl : g < W.heap.size := (h.K.xr g (by unfold XR; simp)).2
 have hbl : ∀ k, some k ∈ [some r, eV.ownBlock] → base ≤ k := fun k hk => by
  rcases List.mem_cons.1 hk with e | hk
  ·cases e; exact h.K.rb
  exact (h.K.E.lt k (List.mem_singleton.1 hk).symm).1
 refine ⟨eV', rfl, ⟨⟨h.K.B.trans (hO.below (Nat.le_trans h.K.bb h.K.B.size) hbl), hR, h.K.V.outs hO (fun e => ?_), hE, h.K.rb, h.K.gb, h.K.rg, hne r h.K.er h.K.R.lt, hne g h.K.eg gl, h.K.bb⟩, h.L.next (hO.mono hmem) hY, hO.keeps h.X (fun e => ?_), h.tb, h.tr, h.tg, hne T h.te (lt_of_block h.X)⟩, fun q' hq => hq.next (hO.mono fun x hx => List.mem_cons_of_mem _ (hmem x hx)) hY', hO, fun v' M' hL => hL.next (hO.mono fun x hx => List.mem_cons_of_mem _ (hmem x hx)) hY'⟩
 ·rcases List.mem_cons.1 e with e | e
  ·exact h.K.rg (Option.some.inj e).symm
  exact h.K.eg (List.mem_singleton.1 e).symm
 rcases List.mem_cons.1 e with e | e
 ·exact h.tr (Option.some.inj e)
 exact h.te (List.mem_singleton.1 e).symm
theorem RoK.drop {base r g T : Nat} {p : Par} {now next : Int} {tV pV lV eV : Value} {LV : List Lv} {E : List Ev} {q : TB} {lv : Value} {M : List TB} {w0 W : World} (h : RoK base r g T p now next tV pV lV eV LV E q lv M w0 W) : RnK base r g p now next tV pV lV eV LV E w0 W ∧ Lf base (XR r g eV) lv M W :=
 ⟨h.K, h.L.turn fun _ hk => Or.inl (List.mem_cons_of_mem _ hk)⟩
theorem RoK.app {base r g T : Nat} {p : Par} {now next : Int} {tV pV lV eV : Value} {LV : List Lv} {E : List Ev} {q : TB} {lv v' : Value} {M : List TB} {w0 W W' : World} (h : RoK base r g T p now next tV pV lV eV LV E q lv M w0 W) (hq : BdX base (lv.ownBlock :: some T :: XR r g eV) W q)
    (ho : W'.ownsRow base 46 10 v' (M.length + 1) (flat10 M ++ (tkC q).toList)) (hg : W.grownBy W' lv.ownBlock) (ha : v'.ownBlock = lv.ownBlock ∨ v'.ownBlock = some W.heap.size) : RnK base r g p now next tV pV lV eV LV E w0 W' ∧ Lf base (XR r g eV) v' (M ++ [q]) W' := by
 have hX : ∀ k, some k ∈ some T :: XR r g eV → k < W.heap.size := fun k hk => by
  rcases List.mem_cons.1 hk with e | e
  ·cases e; exact lt_of_block h.X
  exact (h.K.xr k e).2
 refine ⟨h.K.outs (Outs.of_grown (X := [lv.ownBlock]) hg (fun _ e => by rw [← e]; exact List.mem_singleton.2 rfl)) (fun k e => ?_), (h.L.snoc hq hX ho hg ha).turn fun k hk => Or.inl (List.mem_cons_of_mem _ hk)⟩
 have e := (List.mem_singleton.1 e).symm
 have h1 := h.L.ne k e
 refine ⟨(h.L.lt e).1, fun c => h1 (by rw [c]; unfold XR; simp), fun c => h1 (by rw [c]; unfold XR; simp), fun c => h1 (by rw [← c]; unfold XR; simp)⟩
theorem Lf.beside {base : Nat} {X : List (Option Nat)} {T : Nat} {lv v' sv : Value} {M : List TB} {W W' : World} (h : Lf base (lv.ownBlock :: some T :: X) sv M W) (hg : W.grownBy W' lv.ownBlock) (ha : v'.ownBlock = lv.ownBlock ∨ v'.ownBlock = some W.heap.size) : Lf base (v'.ownBlock :: X) sv M W' :=
 h.next (Outs.of_grown hg (fun _ e => by rw [← e]; exact List.mem_cons_self)) fun k hk => by
  rcases List.mem_cons.1 hk with e | e
  ·rcases ha with q | q
   ·exact Or.inl (by rw [e, q]; exact List.mem_cons_self)
   rw [q] at e
   exact Or.inr (Nat.le_of_eq (Option.some.inj e).symm)
  exact Or.inl (List.mem_cons_of_mem _ (List.mem_cons_of_mem _ e))
theorem Lf.less {base : Nat} {X : List (Option Nat)} {T : Nat} {lv sv : Value} {M : List TB} {W : World} (h : Lf base (lv.ownBlock :: some T :: X) sv M W) : Lf base (lv.ownBlock :: X) sv M W :=
 h.turn fun k hk => by
  rcases List.mem_cons.1 hk with e | e
  ·exact Or.inl (by rw [e]; exact List.mem_cons_self)
  exact Or.inl (List.mem_cons_of_mem _ (List.mem_cons_of_mem _ e))
end Go.Proofs.Ytikjjpjekchcjaa
end
section
namespace AsgMath
open AsgRows
def bitsT (u : Nat) : Nat → Bool := fun k => decide (u / 2 ^ k % 2 = 1)
theorem bitsT_zero : bitsT 0 = fun _ => false := by
 funext k
 unfold bitsT
 rw [Nat.zero_div]
 rfl
theorem add_split {u k : Nat} (h : u / 2 ^ k % 2 = 0) : (u + 2 ^ k) / 2 ^ (k + 1) = u / 2 ^ (k + 1) ∧ (u + 2 ^ k) / 2 ^ k = u / 2 ^ k + 1 ∧ (u + 2 ^ k) % 2 ^ k = u % 2 ^ k := by
 have hp : 0 < 2 ^ k := Nat.two_pow_pos k
 refine ⟨?_, Nat.add_div_right u hp, Nat.add_mod_right u _⟩
 rw [Nat.pow_succ, ← Nat.div_div_eq_div_mul, ← Nat.div_div_eq_div_mul, Nat.add_div_right u hp]
 show (u / 2 ^ k + 1) / 2 = u / 2 ^ k / 2
 omega
theorem div_pow {u k j : Nat} (h : k ≤ j) : u / 2 ^ j = u / 2 ^ k / 2 ^ (j - k) := by
 rw [Nat.div_div_eq_div_mul, ← Nat.pow_add, Nat.add_sub_cancel' h]
theorem bitsT_set {u k : Nat} (h : u / 2 ^ k % 2 = 0) : bitsT (u + 2 ^ k) = setT (bitsT u) k := by
 obtain ⟨h1, h2, h3⟩ := add_split h
 funext j
 unfold setT
 by_cases e : j = k
 ·subst e
  rw [if_pos rfl]
  unfold bitsT
  rw [h2, decide_eq_true (by omega)]
 rw [if_neg e]
 unfold bitsT
 rcases Nat.lt_or_ge j k with q | q
 ·have hd : ∀ x : Nat, x / 2 ^ j % 2 = x % 2 ^ k / 2 ^ j % 2 := fun x => by
   have e1 : 2 ^ k = 2 ^ j * 2 ^ (k - j) := by rw [← Nat.pow_add, Nat.add_sub_cancel' (Nat.le_of_lt q)]
   obtain ⟨d, hd⟩ : ∃ d, k - j = d + 1 := ⟨k - j - 1, by omega⟩
   have e2 : 2 ^ (k - j) = 2 * 2 ^ d := by rw [hd, Nat.pow_succ, Nat.mul_comm]
   rw [e1, Nat.mod_mul_right_div_self, e2, Nat.mod_mul_right_mod]
  rw [hd, h3, ← hd]
 rw [div_pow (u := u + 2 ^ k) (k := k + 1) (j := j) (by omega), h1, ← div_pow (by omega)]
theorem bits_add_lt {u k m : Nat} (hu : u < 2 ^ m) (hk : k < m) (h : u / 2 ^ k % 2 = 0) : u + 2 ^ k < 2 ^ m := by
 have hp : 0 < 2 ^ (k + 1) := Nat.two_pow_pos _
 have h1 := (add_split h).1
 have e1 : 2 ^ m = 2 ^ (m - (k + 1)) * 2 ^ (k + 1) := by rw [← Nat.pow_add, Nat.sub_add_cancel (by omega)]
 rw [e1] at hu ⊢
 rw [← Nat.div_lt_iff_lt_mul hp] at hu ⊢
 rw [h1]
 exact hu
theorem pow_le9 {m : Nat} (h : m ≤ 9) : 2 ^ m ≤ 512 := Nat.pow_le_pow_right (n := 2) (by decide) h
def Vr (L : List (List Int)) (n m i u : Nat) : Int := V (ent L) n m (n - i) (bitsT u)
theorem Vr_last {L : List (List Int)} {n m u : Nat} : Vr L n m n u = 0 := by unfold Vr; rw [Nat.sub_self]; rfl
theorem Vr_bound {L : List (List Int)} {n m i u : Nat} (hn : n ≤ 16) (hc : ∀ i k, i < n → k < m → ent L i k ≤ 1048576) : 0 ≤ Vr L n m i u ∧ Vr L n m i u ≤ 17179869184 := by
 refine ⟨V_nonneg _ _, ?_⟩
 obtain ⟨P, C, h1, h2, h3, h4, h5⟩ := V_parts (c := ent L) (n := n) (m := m) hn hc (n - i) (bitsT u) (by omega)
 unfold Vr
 omega
def Vk (L : List (List Int)) (n m i u k : Nat) : Int := bestK (fun k => 1073741824 - ent L i k + V (ent L) n m (n - (i + 1)) (setT (bitsT u) k)) (okB (ent L) (bitsT u) i) (V (ent L) n m (n - (i + 1)) (bitsT u)) k
theorem Vk_all {L : List (List Int)} {n m i u : Nat} (hi : i < n) : Vk L n m i u m = Vr L n m i u := by
 unfold Vr Vk
 have e : n - i = (n - (i + 1)) + 1 := by omega
 have e2 : n - ((n - (i + 1)) + 1) = i := by omega
 rw [e]
 simp only [V, e2]
theorem Vk_skip {L : List (List Int)} {n m i u k : Nat} (h : ¬ (0 ≤ ent L i k ∧ u / 2 ^ k % 2 = 0)) : Vk L n m i u (k + 1) = Vk L n m i u k := by
 unfold Vk
 simp only [bestK]
 rw [if_neg]
 intro hh
 obtain ⟨h1, h2⟩ := okB_iff.1 hh
 unfold bitsT at h2
 have := of_decide_eq_false h2
 exact h ⟨h1, by omega⟩
theorem Vk_take {L : List (List Int)} {n m i u k : Nat} (h0 : 0 ≤ ent L i k) (h : u / 2 ^ k % 2 = 0) : Vk L n m i u (k + 1) = max (Vk L n m i u k) (1073741824 - ent L i k + Vr L n m (i + 1) (u + 2 ^ k)) := by
 unfold Vk Vr
 simp only [bestK]
 rw [if_pos (okB_iff.2 ⟨h0, by unfold bitsT; exact decide_eq_false (by omega)⟩), bitsT_set h]
theorem Vk_bound {L : List (List Int)} {n m i u k : Nat} (hn : n ≤ 16) (hc : ∀ i k, i < n → k < m → ent L i k ≤ 1048576) : 0 ≤ Vk L n m i u k ∧ Vk L n m i u k ≤ 19000000000 := by
 refine ⟨Int.le_trans (V_nonneg _ _) (bestK_ge0 : V (ent L) n m (n - (i + 1)) (bitsT u) ≤ _), ?_⟩
 unfold Vk
 have hb : ∀ T, V (ent L) n m (n - (i + 1)) T ≤ 17179869184 := fun T => by
  obtain ⟨P, C, h1, h2, h3, h4, h5⟩ := V_parts (c := ent L) (n := n) (m := m) hn hc (n - (i + 1)) T (by omega)
  omega
 refine bestK_le (by have := hb (bitsT u); omega) (fun j hj hp => ?_)
 have := (okB_iff.1 hp).1
 have := hb (setT (bitsT u) j)
 show 1073741824 - ent L i j + V (ent L) n m (n - (i + 1)) (setT (bitsT u) j) ≤ _
 omega
theorem take_iff {L : List (List Int)} {n m i u k : Nat} (hi : i < n) (h0 : 0 ≤ ent L i k) (h : u / 2 ^ k % 2 = 0) : takeB (ent L) n m (n - (i + 1)) (bitsT u) k = true ↔ 1073741824 - ent L i k + Vr L n m (i + 1) (u + 2 ^ k) = Vr L n m i u := by
 have e : n - (i + 1) + 1 = n - i := by omega
 have e2 : n - (n - i) = i := by omega
 rw [takeB_iff, e, e2]
 unfold Vr
 rw [bitsT_set h]
 constructor
 ·exact fun q => q.2
 exact fun q => ⟨⟨h0, by unfold bitsT; exact decide_eq_false (by omega)⟩, q⟩
theorem take_no {L : List (List Int)} {n m i u k : Nat} (hi : i < n) (h : ¬ (0 ≤ ent L i k ∧ u / 2 ^ k % 2 = 0)) : takeB (ent L) n m (n - (i + 1)) (bitsT u) k = false := by
 have e : n - (i + 1) + 1 = n - i := by omega
 have e2 : n - (n - i) = i := by omega
 cases hb : takeB (ent L) n m (n - (i + 1)) (bitsT u) k with
 | false => rfl
 | true =>
  obtain ⟨⟨h1, h2⟩, -⟩ := takeB_iff.1 hb
  rw [e, e2] at h1
  unfold bitsT at h2
  have := of_decide_eq_false h2
  exact absurd ⟨h1, by omega⟩ h
end AsgMath
end
section
namespace Go.Proofs.Ytikjjpjekchcjaa.Asg
open Go.RowKit AsgRows MyHeap
theorem below_alloc (w : World) (o : Obj) : Below w.heap.size w (w.alloc o) := (Below.refl _ _).alloc (Nat.le_refl _) _
theorem below_drew (w : World) : Below w.heap.size w w.drew := ⟨rfl, rfl, rfl, Nat.le_refl _, fun _ _ => rfl⟩
theorem below_drewN {b : Nat} {w w' : World} (h : Below b w w') (d : Nat) : Below b w (w'.drewN d) := ⟨h.os, h.tape, h.output, h.size, h.block⟩
structure Ints (w : World) (a : Option Addr) (n : Nat) (l : List Int) : Prop where
 len : l.length = n
 bound : n ≤ 9223372036854775807
 cells : n = 0 ∨ ∃ b off, a = some ⟨b, off, none⟩ ∧ ∀ i, i < n → w.cell? ⟨b, off + i, none⟩ = some (.int .i64 (gi l i))
theorem Ints.below {w w' : World} {a : Option Addr} {n : Nat} {l : List Int} (h : Ints w a n l) (hb : Below w.heap.size w w') : Ints w' a n l := by
 refine ⟨h.len, h.bound, ?_⟩
 rcases h.cells with h0 | ⟨b, off, e, hc⟩
 ·exact Or.inl h0
 exact Or.inr ⟨b, off, e, fun i hi => keep1 hb (hc i hi)⟩
theorem ints_at {w : World} {a : Option Addr} {n : Nat} {l : List Int} (h : Ints w a n l) {k : Nat} (hk : k < n) : ∃ b off, a = some ⟨b, off, none⟩ ∧ w.cell? ⟨b, off + k, none⟩ = some (.int .i64 (gi l k)) := by
 rcases h.cells with h0 | ⟨b, off, e, hc⟩
 ·omega
 exact ⟨b, off, e, hc k hk⟩
structure Mtx (w : World) (a : Option Addr) (n : Nat) (L : List (List Int)) : Prop where
 len : L.length = n
 bound : n ≤ 9223372036854775807
 cells : n = 0 ∨ ∃ b off, a = some ⟨b, off, none⟩ ∧ ∀ i, i < n → ∃ ra rc, w.cell? ⟨b, off + i, none⟩ = some (.slice ra (rowL L i).length rc) ∧ Ints w ra (rowL L i).length (rowL L i)
theorem Mtx.below {w w' : World} {a : Option Addr} {n : Nat} {L : List (List Int)} (h : Mtx w a n L) (hb : Below w.heap.size w w') : Mtx w' a n L := by
 refine ⟨h.len, h.bound, ?_⟩
 rcases h.cells with h0 | ⟨b, off, e, hc⟩
 ·exact Or.inl h0
 exact Or.inr ⟨b, off, e, fun i hi => by
  obtain ⟨ra, rc, h1, h2⟩ := hc i hi
  exact ⟨ra, rc, keep1 hb h1, h2.below hb⟩⟩
theorem mtx_at {w : World} {a : Option Addr} {n : Nat} {L : List (List Int)} (h : Mtx w a n L) {i : Nat} (hi : i < n) : ∃ b off, a = some ⟨b, off, none⟩ ∧ ∃ ra rc, w.cell? ⟨b, off + i, none⟩ = some (.slice ra (rowL L i).length rc) ∧ Ints w ra (rowL L i).length (rowL L i) := by
 rcases h.cells with h0 | ⟨b, off, e, hc⟩
 ·omega
 exact ⟨b, off, e, hc i hi⟩
theorem mtx_two {w : World} {a : Option Addr} {n : Nat} {L : List (List Int)} (h : Mtx w a n L) {i : Nat} (hi : i < n) : ∃ b off r0 c0 ra rc, a = some ⟨b, off, none⟩ ∧ w.cell? ⟨b, off, none⟩ = some (.slice r0 (wid L) c0) ∧ w.cell? ⟨b, off + i, none⟩ = some (.slice ra (rowL L i).length rc) ∧ Ints w ra (rowL L i).length (rowL L i) := by
 rcases h.cells with h0 | ⟨b, off, e, hc⟩
 ·omega
 obtain ⟨r0, c0, h1, -⟩ := hc 0 (by omega)
 obtain ⟨ra, rc, h2, h3⟩ := hc i hi
 exact ⟨b, off, r0, c0, ra, rc, e, h1, h2, h3⟩
def BPost (r : Bool) (w : World) (e : Ending) (w' : World) : Prop := e = .returned (.bool r) ∧ Below w.heap.size w w'
theorem bPost_of {r r' : Bool} {w w' : World} (h : r = r') (hB : Below w.heap.size w w') : BPost r' w (.returned (.bool r)) w' := by subst h; exact ⟨rfl, hB⟩
def NPost (r : Int) (w : World) (e : Ending) (w' : World) : Prop := e = .returned (.int .i64 r) ∧ Below w.heap.size w w'
theorem nPost_of {r r' : Int} {w w' : World} (h : r = r') (hB : Below w.heap.size w w') : NPost r' w (.returned (.int .i64 r)) w' := by subst h; exact ⟨rfl, hB⟩
theorem rows_bound {w : World} {a : Option Addr} {n : Nat} {L : List (List Int)} (h : Mtx w a n L) {i : Nat} (hi : i < n) : (rowL L i).length ≤ 9223372036854775807 := by
 obtain ⟨b, off, e, ra, rc, h1, h2⟩ := mtx_at h hi
 exact h2.bound
theorem pCheck_call (a : Option Addr) (n c : Nat) (L : List (List Int)) (w : World) (h : Mtx w a n L) :
    Calls Try.prog 87 #[.slice a n c] w (NPost (chM L) w) := by
 have hl := h.len
 have hbn := h.bound
 have HM := qh h
 by_cases h16 : 16 < n
 ·have HR := qh (show longM L from Or.inl (by omega))
  clear h hl
  have hg : (16 : Int) < (n : Int) := by omega
  go_enter Try.func87, Try.ntmps87
  go_wp2_with fail
  go_ret
  exact nPost_of (chM_long HR.out).symm (Below.refl _ _)
 have hg : ¬ (16 : Int) < (n : Int) := by omega
 by_cases h0 : n = 0
 ·subst h0
  have HR := qh (show chM L = 0 from chM_zero (by unfold longM; omega) (fun i hi => by omega) (fun i hi => by omega))
  clear h hl
  go_enter Try.func87, Try.ntmps87
  go_wp2_with fail
  go_loopw [26] (fun kv wr => kv = .int .i64 0 ∧ w = wr) (fun kv _ => 0)
  case atStart => exact ⟨rfl, rfl⟩
  case round =>
   obtain ⟨rfl, rfl⟩ := hrel
   go_wp2_with fail
   go_loopw [40] (fun kv wr' => kv = .int .i64 0 ∧ w = wr') (fun kv _ => 0)
   case atStart => exact ⟨rfl, rfl⟩
   case round =>
    obtain ⟨rfl, rfl⟩ := hrel
    go_wp2_with fail
    go_ret
    exact nPost_of HR.out.symm (Below.refl _ _)
 obtain ⟨b, off, r0, c0, -, -, rfl, x0, -⟩ := mtx_two h (i := 0) (by omega)
 have q0 := World.block_lt_of_cell? w _ x0
 have hw := rows_bound h (i := 0) (by omega)
 have hw' : wid L ≤ 9223372036854775807 := hw
 have hn0 : (0 : Int) < (n : Int) := by omega
 by_cases hw16 : 16 < wid L
 ·have HR := qh (show longM L from Or.inr ⟨by omega, hw16⟩)
  have hg2 : (16 : Int) < (wid L : Int) := by omega
  generalize wid L = m at *
  clear h hl hw
  go_enter Try.func87, Try.ntmps87
  go_wp2_with fail
  go_ret
  exact nPost_of (chM_long HR.out).symm (Below.refl _ _)
 have hg2 : ¬ (16 : Int) < (wid L : Int) := by omega
 have HR := qh (show ¬ longM L by unfold longM; omega)
 have HL := qh hl
 obtain ⟨m, hm⟩ : ∃ m, wid L = m := ⟨_, rfl⟩
 rw [hm] at x0 hw' hg2
 have HW := qh hm
 clear h hl hw hm hw16
 go_enter Try.func87, Try.ntmps87
 go_wp2_with fail
 go_loopw [26] (fun kv wr => ∃ k : Nat, k ≤ n ∧ kv = .int .i64 k ∧ (∀ i, i < k → (rowL L i).length = wid L) ∧ w = wr) (fun kv _ => n - (intOf kv).toNat)
 case atStart => exact ⟨0, by omega, rfl, fun i hi => by omega, rfl⟩
 case round =>
  obtain ⟨k, hk, rfl, hS, rfl⟩ := hrel
  have HS := qh hS
  clear hS
  by_cases hlt : k < n
  ·obtain ⟨b', off', r0', c0', ra, rc, e, -, y0, hI⟩ := mtx_two HM.out (i := k) hlt
   cases e
   have hrb := hI.bound
   have q1 := World.block_lt_of_cell? w _ y0
   have hk0 : (0 : Int) ≤ (k : Int) := by omega
   have hk1 : (k : Int) < (n : Int) := by omega
   clear hI
   by_cases hx : (rowL L k).length = wid L
   ·have HX := qh hx
    rw [hx, HW.out] at y0
    clear hx hrb
    have ht : ((m : Int) != (m : Int)) = false := by simp
    go_wp2_with fail
    go_roundw
    case rel => exact ⟨k + 1, by omega, by go_num, fun i hi => by
     by_cases e : i = k
     ·subst e; exact HX.out
     exact HS.out i (by omega), trivial⟩
    case measure => simp [intOf]; omega
   have HX := qh hx
   obtain ⟨r, hr⟩ : ∃ r, (rowL L k).length = r := ⟨_, rfl⟩
   rw [hr] at y0 hrb
   have ht : ((r : Int) != (m : Int)) = true := by rw [bne_iff_ne]; have := HW.out; omega
   clear hx hr
   go_wp2_with fail
   go_ret
   exact nPost_of (chM_form HR.out (by rw [HL.out]; exact hlt) HX.out).symm (Below.refl _ _)
  obtain rfl : n = k := by omega
  go_wp2_with fail
  clear hk hlt
  go_loopw [40] (fun kv wr' => ∃ k : Nat, k ≤ n ∧ kv = .int .i64 k ∧ (∀ i, i < k → ∀ j, j < (rowL L i).length → -1 ≤ ent L i j ∧ ent L i j ≤ 1048576) ∧ w = wr') (fun kv _ => n - (intOf kv).toNat)
  case atStart => exact ⟨0, by omega, rfl, fun i hi => by omega, rfl⟩
  case round =>
   obtain ⟨k, hk, rfl, hE, rfl⟩ := hrel
   have HE := qh hE
   clear hE
   by_cases hlt : k < n
   ·obtain ⟨b', off', r0', c0', ra, rc, e, -, y0, hI⟩ := mtx_two HM.out (i := k) hlt
    cases e
    rw [HS.out k hlt, HW.out] at y0 hI
    have HI := qh hI
    have hk0 : (0 : Int) ≤ (k : Int) := by omega
    have hk1 : (k : Int) < (n : Int) := by omega
    clear hI
    go_wp2_with fail
    go_loopw [46] (fun kv wr' => ∃ j : Nat, j ≤ m ∧ kv = .int .i64 j ∧ (∀ i, i < j → -1 ≤ ent L k i ∧ ent L k i ≤ 1048576) ∧ w = wr') (fun kv _ => m - (intOf kv).toNat)
    case atStart => exact ⟨0, by omega, rfl, fun i hi => by omega, rfl⟩
    case round =>
     obtain ⟨j, hj, rfl, hJ, rfl⟩ := hrel
     have HJ := qh hJ
     clear hJ
     by_cases hjm : j < m
     ·obtain ⟨b2, o2, rfl, z0⟩ := ints_at HI.out (k := j) hjm
      obtain ⟨X, hX⟩ : ∃ X, gi (rowL L k) j = X := ⟨_, rfl⟩
      rw [hX] at z0
      have HX := qh (show ent L k j = X from hX)
      have q2 := World.block_lt_of_cell? w _ z0
      have hj0 : (0 : Int) ≤ (j : Int) := by omega
      have hj1 : (j : Int) < (m : Int) := by omega
      clear hX
      by_cases hlo : X < -1
      ·go_wp2_with fail
       go_ret
       exact nPost_of (chM_arg HR.out (fun i hi => HS.out i (by rw [← HL.out]; exact hi)) (by rw [HL.out]; exact hlt) (k := j) (by rw [HS.out k hlt, HW.out]; exact hjm) (by rw [HX.out]; omega)).symm (Below.refl _ _)
      by_cases hhi : 1048576 < X
      ·go_wp2_with fail
       go_ret
       exact nPost_of (chM_arg HR.out (fun i hi => HS.out i (by rw [← HL.out]; exact hi)) (by rw [HL.out]; exact hlt) (k := j) (by rw [HS.out k hlt, HW.out]; exact hjm) (by rw [HX.out]; omega)).symm (Below.refl _ _)
      have HY := qh (show -1 ≤ X ∧ X ≤ 1048576 by omega)
      go_wp2_with fail
      go_roundw
      case rel => exact ⟨j + 1, by omega, by go_num, fun i hi => by
       by_cases e : i = j
       ·subst e; rw [HX.out]; exact HY.out
       exact HJ.out i (by omega), trivial⟩
      case measure => simp [intOf]; omega
     obtain rfl : m = j := by omega
     clear hj hjm
     go_wp2_with fail
     go_roundw
     case rel => exact ⟨k + 1, by omega, by go_num, fun i hi => by
      by_cases e : i = k
      ·subst e; rw [HS.out i hlt, HW.out]; exact HJ.out
      exact HE.out i (by omega), trivial⟩
     case measure => simp [intOf]; omega
   obtain rfl : n = k := by omega
   go_wp2_with fail
   go_ret
   exact nPost_of (chM_zero HR.out (fun i hi => HS.out i (by rw [← HL.out]; exact hi)) (fun i hi => HE.out i (by rw [← HL.out]; exact hi))).symm (Below.refl _ _)
end Go.Proofs.Ytikjjpjekchcjaa.Asg
end
section
namespace Go.Proofs.Ytikjjpjekchcjaa.Asg
open Go.RowKit MyHeap MyOwn
structure Prs (w : World) (a : Option Addr) (n : Nat) (ps : List (Int × Int)) : Prop where
 len : ps.length = n
 bound : n ≤ 1000000
 cells : n = 0 ∨ ∃ b off, a = some ⟨b, off, none⟩ ∧ ∀ i, i < n → w.cell? ⟨b, off + i * 2, none⟩ = some (.int .i64 (ps[i]?.getD (0, 0)).1) ∧ w.cell? ⟨b, off + i * 2 + 1, none⟩ = some (.int .i64 (ps[i]?.getD (0, 0)).2)
theorem Prs.below {w w' : World} {a : Option Addr} {n : Nat} {ps : List (Int × Int)} (h : Prs w a n ps) (hb : Below w.heap.size w w') : Prs w' a n ps := by
 refine ⟨h.len, h.bound, ?_⟩
 rcases h.cells with h0 | ⟨b, off, rfl, hc⟩
 ·exact Or.inl h0
 exact Or.inr ⟨b, off, rfl, fun i hi => ⟨keep1 hb (hc i hi).1, keep1 hb (hc i hi).2⟩⟩
theorem grownBelow {w w' : World} {base B : Nat} {e : TypeId} {size : Nat} {v : Value} {n : Nat} {xs : List Value} (h : w.ownsRow base e size v n xs) (hg : w.grownBy w' v.ownBlock) (hB : B ≤ base) (hs : B ≤ w.heap.size) : Below B w w' :=
 ⟨hg.os, hg.tape, hg.output, hg.size, fun k hk => hg.block k (by omega) (fun e' => by have := (h.lt k e'.symm).1; omega)⟩
theorem cellsTwo {w : World} {x y : Value} {T : TypeId} {n : Nat} (hn : n = w.heap.size) : ∀ (j : Nat) (u : Value), [x, y][j]? = some u → (w.alloc (.cells #[x, y] T)).cell? ((⟨n, 0, none⟩ : Addr).add j) = some u := by
 subst hn
 intro j u hu
 have hadd : (⟨w.heap.size, 0, none⟩ : Addr).add j = ⟨w.heap.size, j, none⟩ := by unfold Addr.add; split <;> simp_all
 rw [hadd, World.cell?_alloc_at _ _ _ _ rfl]
 match j, hu with
 | 0, hu => exact hu
 | 1, hu => exact hu
end Go.Proofs.Ytikjjpjekchcjaa.Asg
end
