/-
  TrkKa, TrkKl, PtAltQ, PtAltS, PtAltR, PtAltN, PtAltSp, PtAltSq
-/
import Derived.Test.YtikjjpjekchcjaaGreatPm26
set_option linter.all false
set_option maxRecDepth 100000
set_option maxHeartbeats 64000000
section
namespace Go.Proofs.YtikjjpjekchcjaaGreat
open Go.RowKit TrkMath MyHeap MyOwn MyCopy
theorem infoEr : (Tryz.prog.info? 47).map (fun i => (i.zero, i.size, i.bytes)) = some (some (.agg #[.int .u8 0, .int .i64 0, .int .i64 0]), 3, 24) := by kernel_rfl
theorem infoRow : (Tryz.prog.info? 51).map (fun i => (i.zero, i.size, i.bytes)) = some (some (.slice none 0 0), 1, 24) := by kernel_rfl
theorem lF {W : World} {base base' : Nat} {e e' : TypeId} {s s' : Nat} {u u' : Value} {n n' g : Nat} {xs xs' : List Value} (h : W.ownsRow base e s u n xs) (h' : W.ownsRow base' e' s' u' n' xs') (hne : e ≠ e') (hg : u.ownBlock = some g) : u'.ownBlock ≠ some g := fun c => by
 obtain ⟨cs, hb⟩ := eS h' c
 exact d7 h hg hb hne
def OffB (w0 : World) (g : Nat) (W : World) : Prop := w0.heap.size ≤ g ∧ ∃ cs T, W.heap[g]? = some (.cells cs T (0, 0)) ∧ T ≠ 38 ∧ T ≠ 47
theorem offB_row {w0 W : World} {e : TypeId} {s : Nat} {u : Value} {n g : Nat} {xs : List Value} (h : W.ownsRow w0.heap.size e s u n xs) (hg : u.ownBlock = some g) (h1 : e ≠ 38) (h2 : e ≠ 47) : OffB w0 g W := by
 obtain ⟨cs, hb⟩ := eS h hg
 exact ⟨(h.lt g hg).1, cs, e, hb, h1, h2⟩
structure Rc (w0 : World) (Y : List (Option Nat)) (l : List (Nat × Array Value)) (eV : Value) (E : List Ev) (W : World) : Prop where
 B : Below w0.heap.size w0 W
 H : ∀ y ∈ l, W.heap[y.1]? = some (.cells y.2 38 (0, 0))
 E : W.ownsRow w0.heap.size 47 3 eV E.length (flatE E)
 y : ∀ g, some g ∈ Y → w0.heap.size ≤ g ∧ g < W.heap.size
section
variable {w0 W W' : World} {Y : List (Option Nat)} {l : List (Nat × Array Value)} {eV eV' lV v' : Value} {E : List Ev} {T : Nat} {q q' : TB} {M : List TB} {x : Ev}
theorem Rc.outs {X : List (Option Nat)} (h : Rc w0 Y l eV E W) (hb : Outs X W W') (hX : ∀ g, some g ∈ X → OffB w0 g W) : Rc w0 Y l eV E W' := by
 refine ⟨h.B.trans (hb.below h.B.size fun k e => (hX k e).1), fun y hy => hb.keeps (h.H y hy) fun e => ?_, hb.row h.E (fun g e hg => ?_), fun g hg => ⟨(h.y g hg).1, Nat.lt_of_lt_of_le (h.y g hg).2 hb.size⟩⟩
 ·obtain ⟨-, cs, T, h1, h2, -⟩ := hX _ e
  rw [h.H y hy] at h1
  injection h1 with h1
  injection h1 with _ h1
  exact h2 h1.symm
 obtain ⟨-, cs, T, h1, -, h2⟩ := hX _ hg
 exact d7 h.E e h1 h2.symm
theorem Rc.below (h : Rc w0 Y l eV E W) (hb : Below W.heap.size W W') : Rc w0 Y l eV E W' := h.outs (X := []) (Outs.of_below hb) (fun _ e => by cases e)
theorem Rc.only {b : Nat} (h : Rc w0 Y l eV E W) (hb : Only b W W') (ho : OffB w0 b W) : Rc w0 Y l eV E W' := h.outs (X := [some b]) (Outs.of_only hb (List.mem_singleton.2 rfl)) (fun g e => by cases List.mem_singleton.1 e; exact ho)
theorem Rc.grown {e : TypeId} {s : Nat} {u : Value} {n : Nat} {xs : List Value} (h : Rc w0 Y l eV E W) (hg : W.grownBy W' u.ownBlock) (hr : W.ownsRow w0.heap.size e s u n xs) (h1 : e ≠ 38) (h2 : e ≠ 47) : Rc w0 Y l eV E W' :=
 h.outs (X := [u.ownBlock]) (Outs.of_grown hg (fun _ e => by rw [← e]; exact List.mem_singleton.2 rfl)) (fun _ e => offB_row hr (List.mem_singleton.1 e).symm h1 h2)
theorem Rc.less {l' : List (Nat × Array Value)} (h : Rc w0 Y l eV E W) (hl : ∀ y ∈ l', y ∈ l) : Rc w0 Y l' eV E W := ⟨h.B, fun y hy => h.H y (hl y hy), h.E, h.y⟩
theorem Rc.alloc (h : Rc w0 Y l eV E W) (cs : Array Value) : Rc w0 Y ((W.heap.size, cs) :: l) eV E (W.alloc (.cells cs 38)) := by
 have h1 := h.below (aC W (.cells cs 38))
 refine ⟨h1.B, fun y hy => ?_, h1.E, h1.y⟩
 rcases List.mem_cons.1 hy with e | e
 ·subst e; exact aI _ _ rfl
 exact h1.H y e
theorem Rc.set {ob : Nat} {c : Array Value} (h : Rc w0 Y ((ob, c) :: l) eV E W) (ho : w0.heap.size ≤ ob) (hne : ∀ y ∈ l, y.1 ≠ ob) (i : Nat) (v : Value) : Rc w0 Y ((ob, c.setIfInBounds i v) :: l) eV E (W.setCell ⟨ob, i, none⟩ v) := by
 have hO : Only ob W (W.setCell ⟨ob, i, none⟩ v) := (Only.refl _ _).setCell i v
 have h0 := h.H _ List.mem_cons_self
 refine ⟨h.B.trans (hO.below ho h.B.size), fun y hy => ?_, Outs.row (Outs.of_only (X := [some ob]) hO (List.mem_singleton.2 rfl)) h.E (fun g e hg => ?_), fun g hg => ⟨(h.y g hg).1, Nat.lt_of_lt_of_le (h.y g hg).2 hO.size⟩⟩
 ·rcases List.mem_cons.1 hy with e | e
  ·subst e; exact aD h0
  exact hO.keeps (h.H y (List.mem_cons_of_mem _ e)) (hne y e)
 cases List.mem_singleton.1 hg
 exact d7 h.E e h0 (by decide)
theorem ev_turn {Z : List (Option Nat)} (ha : eV'.ownBlock = eV.ownBlock ∨ eV'.ownBlock = some W.heap.size) : ∀ g, some g ∈ Z ++ eV'.ownBlock :: Y → some g ∈ Z ++ eV.ownBlock :: Y ∨ W.heap.size ≤ g := fun g hg => by
 rcases List.mem_append.1 hg with e | e
 ·exact Or.inl (List.mem_append_left _ e)
 rcases List.mem_cons.1 e with e | e
 ·rcases ha with c | c
  ·exact Or.inl (List.mem_append_right _ (by rw [e, c]; exact List.mem_cons_self))
  rw [c] at e
  exact Or.inr (Nat.le_of_eq (Option.some.inj e).symm)
 exact Or.inl (List.mem_append_right _ (List.mem_cons_of_mem _ e))
theorem Rc.event (h : Rc w0 Y l eV E W) (ho : W'.ownsRow w0.heap.size 47 3 eV' (E.length + 1) (flatE E ++ [.int .u8 x.kind, .int .i64 x.id, .int .i64 x.plot])) (hg : W.grownBy W' eV.ownBlock) (ha : eV'.ownBlock = eV.ownBlock ∨ eV'.ownBlock = some W.heap.size) :
    Rc w0 Y l eV' (E ++ [x]) W' ∧ Outs [eV.ownBlock] W W' ∧ (∀ (Z : List (Option Nat)) (q' : TB), BdX w0.heap.size (Z ++ eV.ownBlock :: Y) W q' → BdX w0.heap.size (Z ++ eV'.ownBlock :: Y) W' q') ∧
     ∀ (Z : List (Option Nat)) (v' : Value) (M' : List TB), Lf w0.heap.size (Z ++ eV.ownBlock :: Y) v' M' W → Lf w0.heap.size (Z ++ eV'.ownBlock :: Y) v' M' W' := by
 have hO : Outs [eV.ownBlock] W W' := Outs.of_grown hg (fun _ e => by rw [← e]; exact List.mem_singleton.2 rfl)
 refine ⟨⟨h.B.trans (hO.below h.B.size fun k e => (h.E.lt k (List.mem_singleton.1 e).symm).1), fun y hy => hO.keeps (h.H y hy) fun e => d7 h.E (List.mem_singleton.1 e).symm (h.H y hy) (by decide), by rw [List.length_append, lP]; exact ho, fun g hg => ⟨(h.y g hg).1, Nat.lt_of_lt_of_le (h.y g hg).2 hO.size⟩⟩, hO, fun Z q' hq => ?_, fun Z v' M' hL => ?_⟩
 ·exact hq.next (hO.mono fun _ e => List.mem_append_right _ (by rw [List.mem_singleton.1 e]; exact List.mem_cons_self)) (ev_turn ha)
 exact hL.next (hO.mono fun _ e => List.mem_append_right _ (by rw [List.mem_singleton.1 e]; exact List.mem_cons_self)) (ev_turn ha)
structure Rr (w0 : World) (Y : List (Option Nat)) (l : List (Nat × Array Value)) (T : Nat) (eV : Value) (E : List Ev) (q : TB) (lV : Value) (M : List TB) (W : World) : Prop where
 K : Rc w0 Y l eV E W
 L : Lf w0.heap.size (some T :: eV.ownBlock :: Y) lV M W
 X : W.heap[T]? = some (.cells (tkC q) 55 (0, 0))
 tb : w0.heap.size ≤ T
theorem Rr.new (q : TB) (h : Rc w0 Y l eV E W) (hL : Lf w0.heap.size (eV.ownBlock :: Y) lV M W) : Rr w0 Y l W.heap.size eV E q lV M (W.alloc (.cells (tkC q) 55)) := by
 refine ⟨h.below (aC _ _), (hL.turn fun k hk => ?_).below (aC _ _), aI _ _ rfl, h.B.size⟩
 rcases List.mem_cons.1 hk with e | e
 ·cases e; exact Or.inr (Nat.le_refl _)
 exact Or.inl e
theorem Rr.below (h : Rr w0 Y l T eV E q lV M W) (hb : Below W.heap.size W W') : Rr w0 Y l T eV E q lV M W' := ⟨h.K.below hb, h.L.below hb, aN hb h.X, h.tb⟩
theorem Rr.lts (h : Rr w0 Y l T eV E q lV M W) : ∀ k, some k ∈ lV.ownBlock :: some T :: eV.ownBlock :: Y → k < W.heap.size := fun k hk => by
 rcases List.mem_cons.1 hk with e | hk
 ·exact (h.L.lt e.symm).2
 rcases List.mem_cons.1 hk with e | hk
 ·cases e; exact aB h.X
 rcases List.mem_cons.1 hk with e | hk
 ·exact (h.K.E.lt k e.symm).2
 exact (h.K.y k hk).2
theorem Rr.off (h : Rr w0 Y l T eV E q lV M W) : OffB w0 T W := ⟨h.tb, _, _, h.X, by decide, by decide⟩
theorem Rr.store (h : Rr w0 Y l T eV E q lV M W) (hb : Only T W W') (hT : W'.heap[T]? = some (.cells (tkC q') 55 (0, 0))) : Rr w0 Y l T eV E q' lV M W' :=
 ⟨h.K.only hb h.off, h.L.outs (Outs.of_only hb List.mem_cons_self), hT, h.tb⟩
theorem Rr.event (h : Rr w0 Y l T eV E q lV M W) (ho : W'.ownsRow w0.heap.size 47 3 eV' (E.length + 1) (flatE E ++ [.int .u8 x.kind, .int .i64 x.id, .int .i64 x.plot])) (hg : W.grownBy W' eV.ownBlock) (ha : eV'.ownBlock = eV.ownBlock ∨ eV'.ownBlock = some W.heap.size) :
    Rr w0 Y l T eV' (E ++ [x]) q lV M W' ∧ (∀ q' : TB, BdX w0.heap.size (lV.ownBlock :: some T :: eV.ownBlock :: Y) W q' → BdX w0.heap.size (lV.ownBlock :: some T :: eV'.ownBlock :: Y) W' q') ∧
     ∀ (v' : Value) (M' : List TB), Lf w0.heap.size (lV.ownBlock :: some T :: eV.ownBlock :: Y) v' M' W → Lf w0.heap.size (lV.ownBlock :: some T :: eV'.ownBlock :: Y) v' M' W' := by
 obtain ⟨h1, h2, h3, h4⟩ := h.K.event ho hg ha
 exact ⟨⟨h1, h4 [some T] _ _ h.L, h2.keeps h.X (fun e => d7 h.K.E (List.mem_singleton.1 e).symm h.X (by decide)), h.tb⟩, h3 [lV.ownBlock, some T], h4 [lV.ownBlock, some T]⟩
theorem Rr.drop (h : Rr w0 Y l T eV E q lV M W) : Rc w0 Y l eV E W ∧ Lf w0.heap.size (eV.ownBlock :: Y) lV M W := ⟨h.K, h.L.turn fun _ hk => Or.inl (List.mem_cons_of_mem _ hk)⟩
theorem Rr.app (h : Rr w0 Y l T eV E q lV M W) (hq : BdX w0.heap.size (lV.ownBlock :: some T :: eV.ownBlock :: Y) W q)
    (ho : W'.ownsRow w0.heap.size 55 10 v' (M.length + 1) (flat10 M ++ (tkC q).toList)) (hg : W.grownBy W' lV.ownBlock) (ha : v'.ownBlock = lV.ownBlock ∨ v'.ownBlock = some W.heap.size) :
    Rc w0 Y l eV E W' ∧ Lf w0.heap.size (eV.ownBlock :: Y) v' (M ++ [q]) W' ∧ W'.heap[T]? = some (.cells (tkC q) 55 (0, 0)) := by
 have hX : ∀ k, some k ∈ some T :: eV.ownBlock :: Y → k < W.heap.size := fun k hk => h.lts k (List.mem_cons_of_mem _ hk)
 exact ⟨h.K.grown hg h.L.row (by decide) (by decide), (h.L.snoc hq hX ho hg ha).turn fun k hk => Or.inl (List.mem_cons_of_mem _ hk), (Outs.of_grown (X := [lV.ownBlock]) hg (fun _ e => by rw [← e]; exact List.mem_singleton.2 rfl)).keeps h.X (fun e => h.L.ne T (List.mem_singleton.1 e).symm List.mem_cons_self)⟩
end
structure Mx (base : Nat) (v : Value) (F : Nat → List Int) (i : Nat) (W : World) : Prop where
 row : ∃ us : List Value, W.ownsRow base 51 1 v i us ∧ us.length = i ∧ ∀ j, j < i → ∃ u, us[j]? = some u ∧ W.ownsRow base 3 1 u (F j).length (Asg.flatI (F j))
theorem Mx.nil (base : Nat) (F : Nat → List Int) (W : World) : Mx base (.slice none 0 0) F 0 W := ⟨[], ⟨rfl, Or.inl ⟨rfl, rfl⟩⟩, rfl, fun _ h => absurd h (Nat.not_lt_zero _)⟩
theorem Mx.below {base : Nat} {v : Value} {F : Nat → List Int} {i : Nat} {W W' : World} (h : Mx base v F i W) (hb : Below W.heap.size W W') : Mx base v F i W' := by
 obtain ⟨us, h1, h2, h3⟩ := h.row
 exact ⟨us, aO h1 hb (Nat.le_refl _), h2, fun j hj => by
  obtain ⟨u, e, r⟩ := h3 j hj
  exact ⟨u, e, aO r hb (Nat.le_refl _)⟩⟩
theorem Mx.le {base base' : Nat} {e : TypeId} {s : Nat} {u : Value} {n : Nat} {xs : List Value} {W : World} (h : W.ownsRow base' e s u n xs) (hb : base ≤ base') : W.ownsRow base e s u n xs := by
 refine ⟨h.1, ?_⟩
 rcases h.2 with h0 | ⟨g, cap, cur, e1, hg, r⟩
 ·exact Or.inl h0
 exact Or.inr ⟨g, cap, cur, e1, Nat.le_trans hb hg, r⟩
theorem Mx.snoc {base : Nat} {v v' u : Value} {F : Nat → List Int} {i : Nat} {W W' : World} {us : List Value} (h1 : W.ownsRow base 51 1 v i us) (h2 : us.length = i) (h3 : ∀ j, j < i → ∃ u, us[j]? = some u ∧ W.ownsRow base 3 1 u (F j).length (Asg.flatI (F j)))
    (hu : W.ownsRow base 3 1 u (F i).length (Asg.flatI (F i))) (ho : W'.ownsRow base 51 1 v' (i + 1) (us ++ [u])) (hg : W.grownBy W' v.ownBlock) : Mx base v' F (i + 1) W' := by
 have hO : Outs [v.ownBlock] W W' := Outs.of_grown hg (fun _ e => by rw [← e]; exact List.mem_singleton.2 rfl)
 refine ⟨us ++ [u], ho, by rw [List.length_append, h2]; rfl, fun j hj => ?_⟩
 by_cases e : j < i
 ·obtain ⟨x, e1, r⟩ := h3 j e
  exact ⟨x, by rw [List.getElem?_append_left (by omega)]; exact e1, hO.row r fun g e hc => lF r h1 (by decide) e (List.mem_singleton.1 hc).symm⟩
 have : j = i := by omega
 subst this
 exact ⟨u, by rw [← h2, List.getElem?_append_right (Nat.le_refl _), Nat.sub_self]; rfl, hO.row hu fun g e hc => lF hu h1 (by decide) e (List.mem_singleton.1 hc).symm⟩
theorem Mx.mtx {base : Nat} {v : Value} {F : Nat → List Int} {i : Nat} {W : World} {L : List (List Int)} (h : Mx base v F i W) (hl : L.length = i) (hi : i ≤ 1000) (hF : ∀ j, j < i → F j = AsgRows.rowL L j) (hr : ∀ j, j < i → (F j).length ≤ 1000) : ∃ a c, v = .slice a i c ∧ Asg.Mtx W a i L := by
 obtain ⟨us, h1, h2, h3⟩ := h.row
 rcases h1.2 with ⟨e, h0⟩ | ⟨g, cap, cur, e, hg, hh, hc, hcm, hcs, htake⟩
 ·subst h0
  exact ⟨none, 0, e, hl, by omega, Or.inl rfl⟩
 refine ⟨_, _, e, hl, by omega, Or.inr ⟨g, 0, rfl, fun j hj => ?_⟩⟩
 obtain ⟨u, e1, r⟩ := h3 j hj
 have := hr j hj
 obtain ⟨a, c, rfl, hI⟩ := Asg.ints_own rfl r (by omega)
 rw [← hF j hj]
 refine ⟨a, c, ?_, hI⟩
 rw [← htake, List.getElem?_take_of_lt (by omega)] at e1
 rw [Nat.zero_add]
 exact aA hh (by simpa using e1)
structure CoS (tb : Nat) (tc : Array Value) (b o : Nat) (q : TB) (d e : Nat) (y : Pl) (W : World) : Prop where
 T : W.heap[tb]? = some (.cells tc 38 (0, 0))
 X : TkAt W b o q
 p0 : W.cell? ⟨d, e, none⟩ = some (.int .i64 y.r)
 p1 : W.cell? ⟨d, e + 1, none⟩ = some (.int .i64 y.code)
 p2 : W.cell? ⟨d, e + 2, none⟩ = some (.int .i64 y.addr)
theorem CoS.below {tb b o d e : Nat} {tc : Array Value} {q : TB} {y : Pl} {W W' : World} (h : CoS tb tc b o q d e y W) (hb : Below W.heap.size W W') : CoS tb tc b o q d e y W' := ⟨aN hb h.T, h.X.below hb, aS hb h.p0, aS hb h.p1, aS hb h.p2⟩
end Go.Proofs.YtikjjpjekchcjaaGreat
end
section
namespace Go.MyHeldE
open Go.MyHeld (At jE)
variable {P : Program} {Q : Exit → Act → World → Prop} {md : Region.Mode} {S : World → Prop} {late : List Nat} {l : List Oper}
theorem k1 (i : Nat) {oi : Oper} {v : Value} {n : Nat} {ls : Array Bool} {a : Act} {w : World} (hi : At l i oi) (hQ : ∀ c a w, Q (.panic c) (a.put oi.dst v) w → Q (.panic c) a w) (hS : S w) (hy : ∀ w, S w → (execOp a.eval oi).run P w = .ok (.value v) w)
    (h : Ends P md l.toArray Q S late n (ls.setIfInBounds i true) (a.put oi.dst v) w) (hc : shutB md l.toArray ls = true := by kernel_rfl) (hw : (late.all fun j => waits md l.toArray l.length j i) = true := by kernel_rfl)
    (hs : Region.noSelect l.toArray = true := by kernel_rfl) (hf : Region.free md l.toArray ls i = true := by kernel_rfl) (hr : (Region.ready md l.toArray ls).contains i = true := by kernel_rfl) (hwt : Region.wanted oi (yielded l.toArray a.tmps) = true := by rfl) : Ends P md l.toArray Q S late (n + 1) ls a w := take i hi hc hw hs hf hr hQ hwt hS hy h
theorem k2 (i : Nat) {oi : Oper} {v : Value} {n : Nat} {ls : Array Bool} {a : Act} {w : World} (hi : At l i oi) (hQ : ∀ c a w, Q (.panic c) (a.put oi.dst v) w → Q (.panic c) a w) (hS : S w) (hy : ∀ w, S w → (execOp a.eval oi).run P w = .ok (.value v) w)
    (h : Ends P md l.toArray Q S late n (ls.setIfInBounds i true) (a.put oi.dst v) w) (hc : shutB md l.toArray ls = true := by kernel_rfl) (hw : (late.all fun j => ls.getD j false || waits md l.toArray l.length j i) = true := by kernel_rfl)
    (hs : Region.noSelect l.toArray = true := by kernel_rfl) (hf : Region.free md l.toArray ls i = true := by kernel_rfl) (hr : (Region.ready md l.toArray ls).contains i = true := by kernel_rfl) (hwt : Region.wanted oi (yielded l.toArray a.tmps) = true := by rfl) : Ends P md l.toArray Q S late (n + 1) ls a w := take2 i hi hc hw hs hf hr hQ hwt hS hy h
theorem k0 (i : Nat) {oi : Oper} {v : Value} {n : Nat} {ls : Array Bool} {a : Act} {w : World} (hi : At l i oi) (hQ : ∀ c a w, Q (.panic c) (a.put oi.dst v) w → Q (.panic c) a w) (hy : ∀ w, (execOp a.eval oi).run P w = .ok (.value v) w)
    (h : Ends P md l.toArray Q S late n (ls.setIfInBounds i true) (a.put oi.dst v) w) (hl : late.contains i = true := by kernel_rfl)
    (hs : Region.noSelect l.toArray = true := by kernel_rfl) (hf : Region.free md l.toArray ls i = true := by kernel_rfl) (hr : (Region.ready md l.toArray ls).contains i = true := by kernel_rfl) (hwt : Region.wanted oi (yielded l.toArray a.tmps) = true := by rfl) : Ends P md l.toArray Q S late (n + 1) ls a w := take0 i hi hl hs hf hr hQ hwt hy h
end Go.MyHeldE
namespace Go.Proofs.YtikjjpjekchcjaaGreat
def cutR (n : Nat) : Code → Option Code
 | .region i ops d => if i = n then some (.region i ops d) else none
 | .seq a b => match cutR n a with
  | some c => some c
  | none => cutR n b
 | .loop c => cutR n c
 | .block _ c => cutR n c
 | .scope c => cutR n c
 | .cond _ a b => match cutR n a with
  | some c => some c
  | none => cutR n b
 | _ => none
def cutL (n : Nat) : Code → Option Code
 | .seq a b => match cutL n a with
  | some c => some c
  | none => cutL n b
 | .loop c => match cutR n c with
  | some _ => some (.loop c)
  | none => none
 | .block _ c => cutL n c
 | .scope c => cutL n c
 | .cond _ a b => match cutL n a with
  | some c => some c
  | none => cutL n b
 | _ => none
end Go.Proofs.YtikjjpjekchcjaaGreat
end
section
namespace Go.Proofs.YtikjjpjekchcjaaGreat.Alt
open Go.RowKit AltMath MyHeap MyCopy MyOwn
def SameI (xs ys : List Int) (k : Nat) : Prop := ∀ i, i < k → gi xs i = gi ys i
theorem kI {xs ys : List Int} (hl : xs.length = ys.length) (h : SameI xs ys xs.length) : xs = ys := by
 apply List.ext_getElem hl
 intro i h1 h2
 have := h i h1
 unfold gi at this
 simpa [List.getElem?_eq_getElem h1, List.getElem?_eq_getElem h2] using this
theorem dW (a a' : Option Addr) (n n' c c' : Nat) (xs ys : List Int) (w : World) (h : Ints w a n xs) (h' : Ints w a' n' ys) :
    Calls Tryz.prog 77 #[.slice a n c, .slice a' n' c'] w (BPost (decide (xs = ys)) w) := by
 have hm := h.bound
 have hm' := h'.bound
 have hl := h.len
 have hl' := h'.len
 by_cases hn : n = n'
 ·subst hn
  have hcs := h.cells
  have hcs' := h'.cells
  clear h h'
  have HL := qh (And.intro hl hl')
  clear hl hl'
  have hnn : ((n : Int) != (n : Int)) = false := by simp
  go_enter Tryz.func77, Tryz.ntmps77
  go_wp2
  go_loopw [5] (fun k wr => ∃ j : Nat, j ≤ n ∧ k = .int .i64 j ∧ SameI xs ys j ∧ ∃ d, wr = w.drewN d) (fun k _ => n - (intOf k).toNat)
  case atStart => exact ⟨0, by omega, rfl, fun i hi => by omega, 0, rfl⟩
  case round =>
   obtain ⟨k, hk, rfl, hS, d, rfl⟩ := hrel
   have HS := qh hS
   clear hS
   by_cases hlt : k < n
   ·rcases hcs with h0 | ⟨b, off, rfl, hc⟩
    ·omega
    rcases hcs' with h0 | ⟨b', off', rfl, hc'⟩
    ·omega
    have x0 := hc k hlt
    have y0 := hc' k hlt
    clear hc hc'
    have hk0 : (0 : Int) ≤ (k : Int) := by omega
    have hk1 : (k : Int) < (n : Int) := by omega
    by_cases hx : gi xs k = gi ys k
    ·have ht : (gi xs k != gi ys k) = false := by rw [bne_eq_false_iff_eq]; exact hx
     have HX := qh hx
     clear hx
     go_wp2
     go_quiet (fail)
     go_wp2
     go_roundw
     case rel => exact ⟨k + 1, by omega, by go_num, fun i hi => by
      by_cases e : i = k
      ·subst e; exact HX.out
      exact HS.out i (by omega), _, rfl⟩
     case measure => simp [intOf]; omega
    have ht : (gi xs k != gi ys k) = true := by rw [bne_iff_ne]; exact hx
    have HX := qh hx
    clear hx
    go_wp2
    go_quiet (fail)
    go_wp2
    go_ret
    exact cO (by rw [decide_eq_false (fun e => HX.out (by rw [e]))]) (aM (aM (Below.refl _ _) _) _)
   obtain rfl : k = n := by omega
   go_wp2
   go_ret
   exact cO (by rw [decide_eq_true (kI (HL.out.1.trans HL.out.2.symm) (by rw [HL.out.1]; exact HS.out))]) (aM (Below.refl _ _) _)
 have hnn : ((n : Int) != (n' : Int)) = true := by rw [bne_iff_ne]; omega
 have HN := qh hn
 clear hn h h'
 have HL := qh (And.intro hl hl')
 clear hl hl'
 go_enter Tryz.func77, Tryz.ntmps77
 go_wp2
 go_ret
 exact cO (by rw [decide_eq_false (fun e => HN.out (by rw [← HL.out.1, ← HL.out.2, e]))]) (Below.refl _ _)
end Go.Proofs.YtikjjpjekchcjaaGreat.Alt
end
section
namespace Go.Proofs.YtikjjpjekchcjaaGreat.Alt
open Go.RowKit AltMath MyHeap MyOwn MyCopy
theorem grownI {w w' : World} {base B : Nat} {e : TypeId} {size : Nat} {v : Value} {n : Nat} {xs : List Value} (h : w.ownsRow base e size v n xs) (hg : w.grownBy w' v.ownBlock) (hB : B ≤ base) (hs : B ≤ w.heap.size) : Below B w w' :=
 ⟨hg.os, hg.tape, hg.output, hg.size, fun k hk => hg.block k (by omega) (fun e' => by have := (h.lt k e'.symm).1; omega)⟩
theorem jM {l : List Int} {k : Nat} (hk : k < l.length) : flatI (l.take (k + 1)) = flatI (l.take k) ++ [.int .i64 (gi l k)] := by
 unfold flatI gi
 rw [List.take_succ_eq_append_getElem hk, List.getElem?_eq_getElem hk]
 simp only [List.map_append, List.map_cons, List.map_nil, Option.getD_some]
theorem ints_own {w : World} {base : Nat} {e : TypeId} {v : Value} {l : List Int} {n : Nat} (hl : l.length = n) (h : w.ownsRow base e 1 v n (flatI l)) (hm : n ≤ 9223372036854775807) : ∃ a c, v = .slice a n c ∧ Ints w a n l := by
 rcases h.2 with ⟨rfl, h0⟩ | ⟨g, cap, cur, rfl, hg, hh, hc, hcm, hcs, htake⟩
 ·exact ⟨none, 0, by rw [h0], ⟨hl, hm, Or.inl h0⟩⟩
 refine ⟨some ⟨g, 0, none⟩, cap, rfl, ⟨hl, hm, Or.inr ⟨g, 0, rfl, fun i hi => ?_⟩⟩⟩
 have hx : (flatI l)[i]? = some (.int .i64 (gi l i)) := by
  unfold flatI gi
  rw [List.getElem?_map, List.getElem?_eq_getElem (by omega)]
  simp
 rw [← htake, List.getElem?_take_of_lt (by omega)] at hx
 rw [Nat.zero_add]
 exact aA hh (by simpa using hx)
def CiPost (l : List Int) (n : Nat) (w : World) (e : Ending) (w' : World) : Prop := ∃ v, e = .returned v ∧ w'.ownsRow w.heap.size 3 1 v n (flatI l) ∧ Below w.heap.size w w'
theorem dP (a : Option Addr) (n c : Nat) (l : List Int) (w : World) (h : Ints w a n l) (hn : n ≤ 1000) :
    Calls Tryz.prog 78 #[.slice a n c] w (CiPost l n w) := by
 have HL := qh h
 obtain ⟨i0, hi, hiz, his, hib⟩ := cF k4
 have HI := qh (And.intro hi (And.intro hiz (And.intro his hib)))
 clear h hi hiz his hib
 go_enter Tryz.func78, Tryz.ntmps78
 go_wp2
 go_loopw [3, 4] (fun v kv wr => ∃ k : Nat, k ≤ n ∧ kv = .int .i64 k ∧ wr.ownsRow w.heap.size 3 1 v k (flatI (l.take k)) ∧ Below w.heap.size w wr) (fun _ kv _ => n - (intOf kv).toNat)
 case atStart => exact ⟨0, by omega, rfl, ⟨rfl, Or.inl ⟨rfl, rfl⟩⟩, Below.refl _ _⟩
 case round =>
  obtain ⟨k, hk, rfl, hO, hB⟩ := hrel
  have H := qh (And.intro hO hB)
  by_cases hlt : k < n
  ·obtain ⟨b, off, rfl, x0⟩ := ints_at (HL.out.below hB) hlt
   have hk0 : (0 : Int) ≤ (k : Int) := by omega
   have hk1 : (k : Int) < (n : Int) := by omega
   have hz := hB.size
   have HZ := qh hz
   have hown : (wr.alloc (.cells #[.int .i64 (gi l k)] 3)).ownsRow w.heap.size 3 1 _ k (flatI (l.take k)) := aO hO (aC wr _) (Nat.le_refl _)
   have HO := qh hown
   clear hO hB hown
   go_wp2_with (refine dV rfl _ _ 51 rfl w.heap.size 3 i0 _ 1 8 Tryz.underlying51 HI.out.1 HI.out.2.1 HI.out.2.2.1 HI.out.2.2.2 rfl (by decide) _ k _ rfl HO.out (some ⟨wr.heap.size, 0, none⟩) 1 1 [.int .i64 (gi l k)] rfl (fun e => by cases e) rfl ?c1 ?c2 ?c3 ?c4 ?c5 ?_; rotate_right; intro v7 w7 hown7 hgrow)
   case c1 => intro ad had; cases had; exact cD rfl
   case c2 => intro u hu; simp at hu; subst hu; rfl
   case c3 => unfold maxLen; omega
   case c4 => omega
   case c5 => have := HZ.out; simp; omega
   have hg' := grownI (B := w.heap.size) HO.out hgrow (Nat.le_refl _) (by have := HZ.out; simp; omega)
   go_roundw
   case rel => exact ⟨k + 1, by omega, by go_num, by rw [jM (by rw [HL.out.len]; exact hlt)]; exact hown7, (H.out.2.alloc HZ.out _).trans hg'⟩
   case measure => simp [intOf]; omega
  obtain rfl : k = n := by omega
  clear hO hB
  go_wp2
  go_ret
  exact ⟨_, rfl, by have := H.out.1; rwa [List.take_of_length_le (by rw [HL.out.len]; exact Nat.le_refl _)] at this, H.out.2⟩
end Go.Proofs.YtikjjpjekchcjaaGreat.Alt
end
section
namespace Go.Proofs.YtikjjpjekchcjaaGreat.Alt
open Go.RowKit AltMath MyHeap MyCopy MyOwn
def rL (lo hi : List Int) (k : Nat) : List Int := (ofL lo hi 0 k).map fun (i : Nat) => (i : Int)
theorem rL_len (lo hi : List Int) (k : Nat) : (rL lo hi k).length = (ofL lo hi 0 k).length := by simp [rL]
theorem rL_le (lo hi : List Int) (k : Nat) : (rL lo hi k).length ≤ k := by rw [rL_len]; exact ofL_len lo hi 0 k
theorem rL_yes {lo hi : List Int} {k : Nat} (h : ¬ nonAt lo hi k) : rL lo hi (k + 1) = rL lo hi k ++ [(k : Int)] := by
 unfold rL
 rw [show ofL lo hi 0 (k + 1) = ofL lo hi 0 k ++ [k] from by rw [ofL, Nat.zero_add, if_neg h], List.map_append]
 rfl
theorem rL_no {lo hi : List Int} {k : Nat} (h : nonAt lo hi k) : rL lo hi (k + 1) = rL lo hi k := by
 unfold rL
 rw [show ofL lo hi 0 (k + 1) = ofL lo hi 0 k from by rw [ofL, Nat.zero_add, if_pos h]]
def RtK (w0 : World) (aL : Option Addr) (cL : Nat) (aH : Option Addr) (cH : Nat) (lo hi : List Int) (k : Nat) (v : Value) (W : World) : Prop :=
 (Below w0.heap.size w0 W ∧ W.heap[w0.heap.size]? = some (.cells #[.slice aL 201 cL, .slice aH 201 cH] 53 (0, 0))) ∧ (Ints W aL 201 lo ∧ Ints W aH 201 hi) ∧ W.ownsRow (w0.heap.size + 1) 3 1 v (rL lo hi k).length (flatI (rL lo hi k))
def RtPost (lo hi : List Int) (w : World) (e : Ending) (w' : World) : Prop := ∃ a c, e = .returned (.slice a (rL lo hi 201).length c) ∧ Ints w' a (rL lo hi 201).length (rL lo hi 201) ∧ Below w.heap.size w w'
theorem RtK.grow {w0 W W' : World} {aL aH : Option Addr} {cL cH : Nat} {lo hi : List Int} {k : Nat} {v v' : Value} (h : RtK w0 aL cL aH cH lo hi k v W) (hn : ¬ nonAt lo hi k) (hg : W.grownBy W' v.ownBlock) (ho : W'.ownsRow (w0.heap.size + 1) 3 1 v' ((rL lo hi k).length + 1) (flatI (rL lo hi k) ++ [.int .i64 (k : Int)])) (hL : Ints W' aL 201 lo) (hH : Ints W' aH 201 hi) : RtK w0 aL cL aH cH lo hi (k + 1) v' W' := by
 have hb : Below (w0.heap.size + 1) W W' := ⟨hg.os, hg.tape, hg.output, hg.size, fun i hi' => hg.block i (Nat.lt_of_lt_of_le hi' (aB h.1.2)) (fun e => by have := (h.2.2.lt i e.symm).1; omega)⟩
 refine ⟨⟨h.1.1.trans (hb.mono (by omega)), (hb.block _ (by omega)).trans h.1.2⟩, ⟨hL, hH⟩, ?_⟩
 rw [rL_yes hn, gQ, List.length_append]
 exact ho
theorem n7 {W0 W W' : World} {a : Option Addr} {n : Nat} {l : List Int} (h : Ints W0 a n l) (hb : Below W0.heap.size W0 W) (hc : Below W0.heap.size W W') : Ints W' a n l := h.below (hb.trans hc)
theorem rates_call (aL aH : Option Addr) (cL cH : Nat) (lo hi : List Int) (w : World) (hE : chB lo hi = 0) (hL : Ints w aL 201 lo) (hH : Ints w aH 201 hi) :
    Calls Tryz.prog 65 #[bdV aL 201 cL aH 201 cH] w (RtPost lo hi w) := by
 obtain ⟨i0, hi0, hz0, hs0, hb0⟩ := cF k4
 have HI := qh (And.intro hi0 (And.intro hz0 (And.intro hs0 hb0)))
 have K := qh (show RtK w aL cL aH cH lo hi 0 (.slice none 0 0) (w.alloc (.cells #[.slice aL 201 cL, .slice aH 201 cH] 53)) from ⟨⟨aC _ _, aI _ _ rfl⟩, ⟨hL.below (aC _ _), hH.below (aC _ _)⟩, ⟨rfl, Or.inl ⟨rfl, rfl⟩⟩⟩)
 have H0 := qh (And.intro hE (And.intro hL hH))
 clear hi0 hz0 hs0 hb0 hE hL hH
 unfold bdV
 go_enter Tryz.func65, Tryz.ntmps65
 go_wp2_with fail
 go_loopw [3, 4] (fun s kv wr => ∃ k : Nat, k ≤ 201 ∧ kv = .int .i64 k ∧ RtK w aL cL aH cH lo hi k s wr) (fun _ kv _ => 201 - (intOf kv).toNat)
 case atStart => exact ⟨0, Nat.zero_le _, rfl, K.out⟩
 case round =>
  clear K
  obtain ⟨k, hk, rfl, hK⟩ := hrel
  have K := qh hK
  clear hK
  obtain ⟨aR, cR, rfl⟩ := bS K.out.2.2
  by_cases hlt : k < 201
  ·have hk1 : (k : Int) < 201 := by omega
   obtain ⟨k0, k1, -, -⟩ := two_facts K.out.1.2
   by_cases hn : nonAt lo hi k
   ·have e1 : decide (gi lo k ≤ gi hi k) = false := decide_eq_false (fun e => (fI (chB_ok H0.out.1).2.2 hlt).1 e hn)
    have HN := qh hn
    clear hn
    go_wp2_with fail
    refine (iS aL aH 201 201 cL cH lo hi k _ K.out.2.1.1 K.out.2.1.2 hlt hlt).mono ?_; rintro e w2 ⟨rfl, hb⟩
    rw [e1]
    replace K := qh (show RtK w aL cL aH cH lo hi (k + 1) (.slice aR (rL lo hi k).length cR) w2 from ⟨⟨K.out.1.1.trans (hb.mono K.out.1.1.size), aN hb K.out.1.2⟩, ⟨K.out.2.1.1.below hb, K.out.2.1.2.below hb⟩, by rw [rL_no HN.out]; exact aO K.out.2.2 hb (Nat.le_refl _)⟩)
    clear hb k0 k1
    go_wp2_with fail
    go_roundw
    case rel => exact ⟨k + 1, by omega, by go_num, K.out⟩
    case measure => simp [intOf]; omega
   have e1 : decide (gi lo k ≤ gi hi k) = true := decide_eq_true ((fI (chB_ok H0.out.1).2.2 hlt).2 hn)
   have HN := qh hn
   clear hn
   go_wp2_with fail
   refine (iS aL aH 201 201 cL cH lo hi k _ K.out.2.1.1 K.out.2.1.2 hlt hlt).mono ?_; rintro e w2 ⟨rfl, hb⟩
   rw [e1]
   replace K := qh (show RtK w aL cL aH cH lo hi k (.slice aR (rL lo hi k).length cR) (w2.alloc (.cells #[.int .i64 (k : Int)] 3)) from ⟨⟨(K.out.1.1.trans (hb.mono K.out.1.1.size)).alloc (Nat.le_trans K.out.1.1.size hb.size) _, aG (aN hb K.out.1.2)⟩, ⟨(K.out.2.1.1.below hb).below (aC _ _), (K.out.2.1.2.below hb).below (aC _ _)⟩, (aO K.out.2.2 hb (Nat.le_refl _)).alloc _⟩)
   have hr := qh (rL_le lo hi k)
   clear hb k0 k1
   go_wp2_with (at_builtin; refine wpList_append_own _ rfl _ _ 51 rfl (w.heap.size + 1) 3 i0 _ 1 8 Tryz.underlying51 HI.out.1 HI.out.2.1 HI.out.2.2.1 HI.out.2.2.2 rfl (by decide) _ (rL lo hi k).length _ rfl K.out.2.2 ⟨w2.heap.size, 0, none⟩ 1 1 [.int .i64 (k : Int)] rfl rfl ?c1 ?c2 ?c3 ?c4 ?c5 ?_; rotate_right; intro v7 w7 hown7 hgrow _)
   case c1 => exact cD rfl
   case c2 => intro u hu; simp at hu; subst hu; rfl
   case c3 => have := hr.out; unfold maxLen; omega
   case c4 => have := hr.out; omega
   case c5 => exact aB K.out.1.2
   have hb : Below w.heap.size (w2.alloc (.cells #[.int .i64 (k : Int)] 3)) w7 := ⟨hgrow.os, hgrow.tape, hgrow.output, hgrow.size, fun i hi' => hgrow.block i (Nat.lt_of_lt_of_le hi' K.out.1.1.size) (fun e => by have := (K.out.2.2.lt i e.symm).1; omega)⟩
   have K2 := qh (K.out.grow HN.out hgrow hown7 (n7 H0.out.2.1 K.out.1.1 hb) (n7 H0.out.2.2 K.out.1.1 hb))
   clear hgrow hown7 hb K
   go_wp2_with fail
   go_roundw
   case rel => exact ⟨k + 1, by omega, by go_num, K2.out⟩
   case measure => simp [intOf]; omega
  obtain rfl : k = 201 := by omega
  go_wp2
  go_ret
  obtain ⟨a, c, e, hI⟩ := ints_own rfl K.out.2.2 (Nat.le_trans (rL_le lo hi 201) (by decide))
  exact ⟨a, c, congrArg _ e, hI, K.out.1.1⟩
end Go.Proofs.YtikjjpjekchcjaaGreat.Alt
end
section
namespace Go.Proofs.YtikjjpjekchcjaaGreat.Alt
open Go.RowKit Go.Shelf Go.MyRange AltMath MyHeap MyCopy MyOwn
attribute [local go_sem] Oper.semAt_some
end Go.Proofs.YtikjjpjekchcjaaGreat.Alt
end
section
namespace Go.Proofs.YtikjjpjekchcjaaGreat.Alt
open Go.RowKit AltMath MyHeap MyCopy MyOwn
theorem mem_ofL {lo hi : List Int} {k i : Nat} : i ∈ ofL lo hi 0 k ↔ i < k ∧ ¬ nonAt lo hi i := by
 induction k with
 | zero => constructor
           ·intro h; cases h
           rintro ⟨h, _⟩; omega
 | succ k ih =>
  by_cases hn : nonAt lo hi k
  ·rw [show ofL lo hi 0 (k + 1) = ofL lo hi 0 k from by rw [ofL, Nat.zero_add, if_pos hn], ih]
   constructor
   ·rintro ⟨h, h2⟩; exact ⟨by omega, h2⟩
   rintro ⟨h, h2⟩
   refine ⟨?_, h2⟩
   rcases Nat.lt_succ_iff_lt_or_eq.1 h with h3 | rfl
   ·exact h3
   exact absurd hn h2
  rw [show ofL lo hi 0 (k + 1) = ofL lo hi 0 k ++ [k] from by rw [ofL, Nat.zero_add, if_neg hn], List.mem_append, List.mem_singleton, ih]
  constructor
  ·rintro (⟨h, h2⟩ | rfl)
   ·exact ⟨by omega, h2⟩
   exact ⟨by omega, hn⟩
  rintro ⟨h, h2⟩
  rcases Nat.lt_succ_iff_lt_or_eq.1 h with h3 | rfl
  ·exact Or.inl ⟨h3, h2⟩
  exact Or.inr rfl
def lg (lo hi : List Int) (k : Nat) : Nat := (ofL lo hi 0 201)[k]?.getD 0
theorem lg_mem {lo hi : List Int} {k : Nat} (h : k < (rL lo hi 201).length) : lg lo hi k ∈ ofL lo hi 0 201 := by
 rw [rL_len] at h
 unfold lg
 rw [List.getElem?_eq_getElem h]
 exact List.getElem_mem h
theorem lg_on {lo hi : List Int} {k : Nat} (h : k < (rL lo hi 201).length) : lg lo hi k < 201 ∧ ¬ nonAt lo hi (lg lo hi k) := mem_ofL.1 (lg_mem h)
theorem lg_of {lo hi : List Int} {i : Nat} (h1 : i < 201) (h2 : ¬ nonAt lo hi i) : ∃ k, k < (rL lo hi 201).length ∧ lg lo hi k = i := by
 obtain ⟨k, hk, e⟩ := List.getElem_of_mem (mem_ofL.2 ⟨h1, h2⟩)
 refine ⟨k, by rw [rL_len]; exact hk, ?_⟩
 unfold lg
 rw [List.getElem?_eq_getElem hk]
 exact e
theorem rL_pos {lo hi : List Int} (h : chB lo hi = 0) : 0 < (rL lo hi 201).length ↔ spE lo hi = 0 := by
 have hs : (spZ lo hi 201).isSome ↔ ∃ i, i < 201 ∧ hasB lo hi (0 + i) := jO
 constructor
 ·intro h0
  obtain ⟨h1, h2⟩ := lg_on h0
  unfold spE
  rw [if_neg (fun e => e h)]
  have : (spZ lo hi 201).isSome := hs.2 ⟨_, h1, by rw [Nat.zero_add]; exact h2⟩
  cases hz : spZ lo hi 201 with
  | none => rw [hz] at this; cases this
  | some q => rfl
 intro h0
 unfold spE at h0
 rw [if_neg (fun e => e h)] at h0
 cases hz : spZ lo hi 201 with
 | none => rw [hz] at h0; cases h0
 | some q =>
  obtain ⟨i, h1, h2⟩ := hs.1 (by rw [hz]; rfl)
  rw [Nat.zero_add] at h2
  obtain ⟨k, hk, _⟩ := lg_of h1 h2
  omega
end Go.Proofs.YtikjjpjekchcjaaGreat.Alt
end
section
namespace Go.Proofs.YtikjjpjekchcjaaGreat.Alt
open Go.RowKit AltMath MyHeap MyCopy MyOwn
theorem ch_le {lo hi : List Int} : chB lo hi ≠ 9 := by
 unfold chB
 split
 ·split <;> decide
 decide
theorem rEmpty_call (aL aH : Option Addr) (nL nH cL cH : Nat) (lo hi : List Int) (w : World) (hL : Ints w aL nL lo) (hH : Ints w aH nH hi) :
    Calls Tryz.prog 32 #[bdV aL nL cL aH nH cH] w fun e w' => e = .returned (.tuple #[.bool (emB lo hi), .int .i64 (emE lo hi)]) ∧ Below w.heap.size w w' := by
 have B := qh (aC w (.cells (bdC aL nL cL aH nH cH) 53))
 by_cases hE : chB lo hi = 0
 ·obtain ⟨l1, l2, -⟩ := chB_ok hE
  obtain rfl : nL = 201 := by rw [← hL.len]; exact l1
  obtain rfl : nH = 201 := by rw [← hH.len]; exact l2
  have H := qh (And.intro hL hH)
  have HE := qh hE
  have hA : emB lo hi = (((rL lo hi 201).length : Int) == 0) ∧ emE lo hi = 0 := by
   have hp := rL_pos hE
   have hs : spE lo hi = 0 ∨ spE lo hi = 9 := by
    unfold spE
    rw [if_neg (fun e => e hE)]
    split
    ·exact Or.inr rfl
    exact Or.inl rfl
   unfold emB emE
   rcases hs with h0 | h0
   ·rw [h0]
    have := hp.2 h0
    refine ⟨?_, rfl⟩
    have h9 : (((rL lo hi 201).length : Int) == 0) = false := by
     rw [beq_eq_false_iff_ne]; omega
    rw [h9]; rfl
   rw [h0]
   have : ¬ 0 < (rL lo hi 201).length := fun e => by have := hp.1 e; omega
   refine ⟨?_, rfl⟩
   have h9 : (((rL lo hi 201).length : Int) == 0) = true := by
    rw [beq_iff_eq]; omega
   rw [h9]; rfl
  have HA := qh hA
  clear hA hE hL hH l1 l2
  unfold bdV
  unfold bdC at B
  go_enter Tryz.func32, Tryz.ntmps32
  go_wp2_with fail
  refine (bY aL aH 201 201 cL cH lo hi _ (H.out.1.below B.out) (H.out.2.below B.out)).mono ?_; rintro e w1 ⟨rfl, hb⟩
  rw [HE.out]
  have h0 := aN hb (aI w (.cells #[.slice aL 201 cL, .slice aH 201 cH] 53) rfl)
  obtain ⟨k0, k1, -, -⟩ := two_facts h0
  replace B := qh (B.out.trans (hb.mono B.out.size))
  clear hb h0
  go_wp2_with fail
  refine (rates_call aL aH cL cH lo hi _ HE.out (H.out.1.below B.out) (H.out.2.below B.out)).mono ?_; rintro e w2 ⟨a, c, rfl, -, hb⟩
  replace B := qh (B.out.trans (hb.mono B.out.size))
  clear hb k0 k1
  go_wp2_with fail
  go_ret2
  exact ⟨by rw [HA.out.1, HA.out.2]; rfl, B.out⟩
 have d1 : (chB lo hi != 0) = true := bne_iff_ne.2 hE
 have HE := qh (show emB lo hi = false ∧ emE lo hi = chB lo hi from by
  have e : spE lo hi = chB lo hi := if_pos hE
  unfold emB emE
  rw [e, if_neg ch_le]
  exact ⟨by simpa using ch_le, rfl⟩)
 have H := qh (And.intro hL hH)
 clear hE hL hH
 unfold bdV
 unfold bdC at B
 go_enter Tryz.func32, Tryz.ntmps32
 go_wp2_with fail
 refine (bY aL aH nL nH cL cH lo hi _ (H.out.1.below B.out) (H.out.2.below B.out)).mono ?_; rintro e w1 ⟨rfl, hb⟩
 replace B := qh (B.out.trans (hb.mono B.out.size))
 clear hb
 go_wp2_with fail
 go_ret2
 exact ⟨by rw [HE.out.1, HE.out.2]; rfl, B.out⟩
end Go.Proofs.YtikjjpjekchcjaaGreat.Alt
end
