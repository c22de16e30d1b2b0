/-
  TrkUk
-/
import Derived.Test.YtikjjpjekchcjaaGreatPm35
set_option linter.all false
set_option maxRecDepth 100000
set_option maxHeartbeats 64000000
namespace Go.Proofs.YtikjjpjekchcjaaGreat
open Go.RowKit TrkMath MyHeap MyOwn MyCopy
structure UpK (base r g mb : Nat) (p : Par) (now next : Int) (sv pV lV eV : Value) (LV : List Lv) (E : List Ev) (L : List TB) (l : List (Nat × Nat)) (lv : Value) (M : List TB) (w0 W : World) : Prop where
 K : RnK base r g p now next sv pV lV eV LV E w0 W
 F : Lf base (XR r g eV) lv M W
 S : Lf base (lv.ownBlock :: XR r g eV) sv L W
 P : MapI mb l W
theorem MapI.obj {b : Nat} {l : List (Nat × Nat)} {w : World} (h : MapI b l w) : ∃ es clock, w.heap[b]? = some (.map es clock) := by
 obtain ⟨D, ⟨es, clock, h0, -⟩, -, -⟩ := h
 exact ⟨es, clock, h0⟩
theorem MapI.off {b : Nat} {l : List (Nat × Nat)} {w : World} (h : MapI b l w) {k : Nat} {cs : Array Value} {T : TypeId} (hk : w.heap[k]? = some (.cells cs T (0, 0))) : b ≠ k := by
 rintro rfl
 obtain ⟨es, clock, h0⟩ := h.obj
 rw [h0] at hk
 cases hk
theorem MapI.row {b : Nat} {l : List (Nat × Nat)} {w : World} (h : MapI b l w) {base : Nat} {e : TypeId} {s : Nat} {u : Value} {n : Nat} {xs : List Value} (hr : w.ownsRow base e s u n xs) : u.ownBlock ≠ some b := fun c => by
 obtain ⟨cs, h1⟩ := eS hr c
 exact h.off h1 rfl
structure UpR (base r g T mb : Nat) (p : Par) (now next : Int) (sv pV lV eV : Value) (LV : List Lv) (E : List Ev) (L : List TB) (l : List (Nat × Nat)) (q : TB) (lv : Value) (M : List TB) (w0 W : World) : Prop where
 K : RoK base r g T p now next sv pV lV eV LV E q lv M w0 W
 S : Lf base (lv.ownBlock :: some T :: XR r g eV) sv L W
 P : MapI mb l W
section
variable {base r g T mb : Nat} {p : Par} {now next : Int} {sv pV lV eV : Value} {LV : List Lv} {E : List Ev} {L : List TB} {l : List (Nat × Nat)} {q q' : TB} {lv v' : Value} {M : List TB} {w0 W W' : World}
theorem UpR.new (q : TB) (h : UpK base r g mb p now next sv pV lV eV LV E L l lv M w0 W) : UpR base r g W.heap.size mb p now next sv pV lV eV LV E L l q lv M w0 (W.alloc (.cells (tkC q) 55)) :=
 ⟨RoK.new q h.K h.F, (h.S.turn fun k hk => by
     rcases List.mem_cons.1 hk with e | e
     ·exact Or.inl (by rw [e]; exact List.mem_cons_self)
     rcases List.mem_cons.1 e with e | e
     ·cases e; exact Or.inr (Nat.le_refl _)
     exact Or.inl (List.mem_cons_of_mem _ e)).below (aC _ _), h.P.below (aC _ _)⟩
theorem UpK.band (h : UpK base r g mb p now next sv pV lV eV LV E L l lv M w0 W) {k : Nat} (hk : k < L.length) : BdX base (lv.ownBlock :: some W.heap.size :: XR r g eV) (W.alloc (.cells (tkC q) 55)) (gt L k) :=
 (h.S.bd k hk).next (Outs.of_below (aC _ _)) fun j hj => by
  rcases List.mem_cons.1 hj with e | e
  ·exact Or.inl (by rw [e]; exact List.mem_cons_of_mem _ List.mem_cons_self)
  rcases List.mem_cons.1 e with e | e
  ·cases e; exact Or.inr (Nat.le_refl _)
  exact Or.inl (List.mem_cons_of_mem _ (List.mem_cons_of_mem _ e))
theorem UpR.below (h : UpR base r g T mb p now next sv pV lV eV LV E L l q lv M w0 W) (hb : Below W.heap.size W W') : UpR base r g T mb p now next sv pV lV eV LV E L l q lv M w0 W' := ⟨h.K.below hb, h.S.below hb, h.P.below hb⟩
theorem UpR.store (h : UpR base r g T mb p now next sv pV lV eV LV E L l q lv M w0 W) (hb : Only T W W') (hT : W'.heap[T]? = some (.cells (tkC q') 55 (0, 0))) : UpR base r g T mb p now next sv pV lV eV LV E L l q' lv M w0 W' :=
 ⟨h.K.store hb hT, h.S.outs (Outs.of_only hb (List.mem_cons_of_mem _ List.mem_cons_self)), h.P.outs (Outs.of_only (X := [some T]) hb (List.mem_singleton.2 rfl)) (fun e => h.P.off h.K.X (Option.some.inj (List.mem_singleton.1 e)))⟩
theorem UpR.bstore (_h : UpR base r g T mb p now next sv pV lV eV LV E L l q lv M w0 W) (hB : BdX base (lv.ownBlock :: some T :: XR r g eV) W q') (hb : Only T W W') : BdX base (lv.ownBlock :: some T :: XR r g eV) W' q' := hB.outs (Outs.of_only hb (List.mem_cons_of_mem _ List.mem_cons_self))
theorem UpR.note {x : Ev} {e : Ending} (h : UpR base r g T mb p now next sv pV lV eV LV E L l q lv M w0 W) (hn : NotePost r base p now next sv pV lV eV E x W e W') :
    ∃ eV', e = .returned (.tuple #[]) ∧ UpR base r g T mb p now next sv pV lV eV' LV (E ++ [x]) L l q lv M w0 W' ∧ ∀ q' : TB, BdX base (lv.ownBlock :: some T :: XR r g eV) W q' → BdX base (lv.ownBlock :: some T :: XR r g eV') W' q' := by
 obtain ⟨eV', e1, hK, hB, hO, hS⟩ := h.K.note hn
 refine ⟨eV', e1, ⟨hK, hS _ _ h.S, h.P.outs hO (fun c => ?_)⟩, hB⟩
 rcases List.mem_cons.1 c with c | c
 ·exact h.P.off h.K.K.R (Option.some.inj c)
 exact h.P.row h.K.K.E (List.mem_singleton.1 c).symm
theorem UpR.drop (h : UpR base r g T mb p now next sv pV lV eV LV E L l q lv M w0 W) : UpK base r g mb p now next sv pV lV eV LV E L l lv M w0 W := ⟨h.K.drop.1, h.K.drop.2, h.S.less, h.P⟩
theorem UpR.app (h : UpR base r g T mb p now next sv pV lV eV LV E L l q lv M w0 W) (hq : BdX base (lv.ownBlock :: some T :: XR r g eV) W q)
    (ho : W'.ownsRow base 55 10 v' (M.length + 1) (flat10 M ++ (tkC q).toList)) (hg : W.grownBy W' lv.ownBlock) (ha : v'.ownBlock = lv.ownBlock ∨ v'.ownBlock = some W.heap.size) : UpK base r g mb p now next sv pV lV eV LV E L l v' (M ++ [q]) w0 W' :=
 ⟨(h.K.app hq ho hg ha).1, (h.K.app hq ho hg ha).2, h.S.beside hg ha, h.P.outs (Outs.of_grown (X := [lv.ownBlock]) hg (fun _ e => by rw [← e]; exact List.mem_singleton.2 rfl)) (fun c => h.P.row h.K.L.row (List.mem_singleton.1 c).symm)⟩
end
theorem k8 {w : World} {T i : Nat} {q q' : TB} {v : Value} (h : w.heap[T]? = some (.cells (tkC q) 55 (0, 0))) (he : (tkC q).setIfInBounds i v = tkC q') : Only T w (w.setCell ⟨T, i, none⟩ v) ∧ (w.setCell ⟨T, i, none⟩ v).heap[T]? = some (.cells (tkC q') 55 (0, 0)) := by
 refine ⟨(Only.refl _ _).setCell _ _, ?_⟩
 have := aD (i := i) (v := v) h
 rw [he] at this
 exact this
theorem j5 {w : World} {T : Nat} {t : Tk} {s : Bs} (h : w.heap[T]? = some (.cells (tkC (t, s)) 55 (0, 0))) (x y z : Int) :
    (((w.setCell ⟨T, 2, none⟩ (.int .i64 x)).setCell ⟨T, 3, none⟩ (.int .i64 y)).setCell ⟨T, 4, none⟩ (.int .i64 z)).heap[T]? = some (.cells (tkC ({ t with rg := ⟨x, y, z⟩ }, s)) 55 (0, 0)) ∧ Only T w (((w.setCell ⟨T, 2, none⟩ (.int .i64 x)).setCell ⟨T, 3, none⟩ (.int .i64 y)).setCell ⟨T, 4, none⟩ (.int .i64 z)) := by
 refine ⟨?_, (((Only.refl _ _).setCell _ _).setCell _ _).setCell _ _⟩
 have := aD (i := 4) (v := .int .i64 z) (aD (i := 3) (v := .int .i64 y) (aD (i := 2) (v := .int .i64 x) h))
 simpa [tkC] using this
theorem bQ {W W' : World} {T b i : Nat} {u : Value} (h : Only T W W') (hc : W.cell? ⟨b, i, none⟩ = some u) (hne : b ≠ T) : W'.cell? ⟨b, i, none⟩ = some u := h.cell hc hne
theorem RoK.off_arg {r g T b i : Nat} {p : Par} {now next : Int} {tV pV lV eV : Value} {LV : List Lv} {E : List Ev} {q : TB} {lv u : Value} {M : List TB} {w0 W : World} (h : RoK w0.heap.size r g T p now next tV pV lV eV LV E q lv M w0 W) (hc : w0.cell? ⟨b, i, none⟩ = some u) : b ≠ T := by
 rintro rfl
 have := World.block_lt_of_cell? _ _ hc
 have := h.tb
 dsimp only at *
 omega
theorem lY {w : World} {T : Nat} {q q' : TB} {x y : Value} (h : w.heap[T]? = some (.cells (tkC q) 55 (0, 0))) (he : ((tkC q).setIfInBounds 7 x).setIfInBounds 8 y = tkC q') : Only T w ((w.setCell ⟨T, 7, none⟩ x).setCell ⟨T, 8, none⟩ y) ∧ ((w.setCell ⟨T, 7, none⟩ x).setCell ⟨T, 8, none⟩ y).heap[T]? = some (.cells (tkC q') 55 (0, 0)) := by
 refine ⟨((Only.refl _ _).setCell _ _).setCell _ _, ?_⟩
 have := aD (i := 8) (v := y) (aD (i := 7) (v := x) h)
 rw [he] at this
 exact this
end Go.Proofs.YtikjjpjekchcjaaGreat
