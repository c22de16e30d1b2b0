/-
  TrkKs, TrkC
-/
import Derived.Test.YtikjjpjekchcjaaGreatPm31
set_option linter.all false
set_option maxRecDepth 100000
set_option maxHeartbeats 64000000
section
namespace Go.Proofs.YtikjjpjekchcjaaGreat
open Go.RowKit TrkMath MyHeap MyOwn MyCopy
def outC (p : Par) (now nx : Int) (lV : Value) : Array Value := #[.int .i64 p.gate, .int .i64 p.need, .int .i64 p.most, .int .i64 p.pull, .int .i64 now, .int .i64 nx, lV]
def usC (n : Nat) (S : Nat → Bool) : Array Value := ((List.range n).map fun k => Value.bool (S k)).toArray
theorem usC_get {n k : Nat} (S : Nat → Bool) (hk : k < n) : (usC n S)[k]? = some (.bool (S k)) := by simp [usC, hk]
theorem usC_set {n k : Nat} (S : Nat → Bool) : (usC n S).setIfInBounds k (.bool true) = usC n (fun j => S j || j == k) := by
 apply Array.ext'
 apply List.ext_getElem?
 intro j
 by_cases hj : j < n
 ·by_cases e : k = j
  ·subst e; simp [usC, hj]
  have e' : (j == k) = false := beq_eq_false_iff_ne.2 (Ne.symm e)
  simp [usC, hj, e, e']
 simp [usC, hj]
theorem qK (n : Nat) : madeCells #[Value.bool false] n = usC n (fun _ => false) := by
 apply Array.ext'
 apply List.ext_getElem?
 intro j
 by_cases hj : j < n
 ·simp [madeCells, usC, hj, Nat.mod_one]
 simp [madeCells, usC, hj]
def usR (l : List (Nat × Nat)) : Nat → Nat → Bool
 | 0, _ => false
 | i + 1, k => usR l i k || (ofF l i == some k)
theorem usR_none {l : List (Nat × Nat)} {i : Nat} (h : ofF l i = none) : usR l (i + 1) = usR l i := by
 funext k
 show (usR l i k || (ofF l i == some k)) = usR l i k
 rw [h]
 simp
theorem usR_some {l : List (Nat × Nat)} {i y : Nat} (h : ofF l i = some y) : usR l (i + 1) = fun j => usR l i j || j == y := by
 funext k
 show (usR l i k || (ofF l i == some k)) = _
 rw [h]
 by_cases e : k = y
 ·subst e; simp
 have : (some y == some k) = false := by simp; exact fun c => e c.symm
 rw [this, beq_eq_false_iff_ne.2 e]
theorem usR_iff {l : List (Nat × Nat)} {n k : Nat} : usR l n k = true ↔ ∃ i, i < n ∧ ofF l i = some k := by
 induction n with
 | zero => exact ⟨fun e => (by cases e), fun ⟨i, h, _⟩ => absurd h (Nat.not_lt_zero _)⟩
 | succ n ih =>
  show (usR l n k || (ofF l n == some k)) = true ↔ _
  rw [Bool.or_eq_true, ih]
  constructor
  ·rintro (⟨i, h1, h2⟩ | h)
   ·exact ⟨i, by omega, h2⟩
   exact ⟨n, by omega, by simpa using h⟩
  rintro ⟨i, h1, h2⟩
  by_cases e : i = n
  ·subst e; exact Or.inr (by simp [h2])
  exact Or.inl ⟨i, by omega, h2⟩
theorem usR_all {p : Par} {L : List Tk} {P : List Pl} {l : List (Nat × Nat)} (h : PrOk p L P l) {n : Nat} (hn : L.length = n) : usR l n = usB l := by
 funext k
 cases e : usB l k with
 | true =>
  obtain ⟨i, hi⟩ := h.us.1 e
  exact usR_iff.2 ⟨i, by have := h.row _ (iR hi); omega, hi⟩
 | false =>
  cases e2 : usR l n k with
  | false => rfl
  | true =>
   obtain ⟨i, -, hi⟩ := usR_iff.1 e2
   rw [h.us.2 ⟨i, hi⟩] at e
   cases e
theorem dR {W W' : World} {X : List (Option Nat)} {b : Nat} {cs : Array Value} {T : TypeId} (hb : Outs X W W') (h : W.heap[b]? = some (.cells cs T (0, 0))) (hX : ∀ g, some g ∈ X → ∃ cs' T', W.heap[g]? = some (.cells cs' T' (0, 0)) ∧ T' ≠ T) : W'.heap[b]? = some (.cells cs T (0, 0)) :=
 hb.keeps h fun e => by
  obtain ⟨cs', T', h1, h2⟩ := hX _ e
  rw [h] at h1
  injection h1 with h1
  injection h1 with _ h1
  exact h2 h1.symm
theorem lA {W W' : World} {X : List (Option Nat)} {base : Nat} {e : TypeId} {s : Nat} {v : Value} {n : Nat} {xs : List Value} (hb : Outs X W W') (h : W.ownsRow base e s v n xs) (hX : ∀ g, some g ∈ X → ∃ cs' T', W.heap[g]? = some (.cells cs' T' (0, 0)) ∧ T' ≠ e) : W'.ownsRow base e s v n xs :=
 hb.row h fun g e1 hg => by
  obtain ⟨cs', T', h1, h2⟩ := hX _ hg
  exact d7 h e1 h1 h2.symm
theorem cS {W W' : World} {v : Value} (hg : W.grownBy W' v.ownBlock) : Outs [v.ownBlock] W W' := Outs.of_grown hg (fun _ e => by rw [← e]; exact List.mem_singleton.2 rfl)
theorem cK {W W' : World} {b : Nat} (hg : Only b W W') : Outs [some b] W W' := Outs.of_only hg (List.mem_singleton.2 rfl)
theorem iI {W : World} {base : Nat} {e T : TypeId} {s : Nat} {v : Value} {n : Nat} {xs : List Value} (h : W.ownsRow base e s v n xs) (hne : e ≠ T) : ∀ g, some g ∈ [v.ownBlock] → ∃ cs' T', W.heap[g]? = some (.cells cs' T' (0, 0)) ∧ T' ≠ T := fun g hg => by
 obtain ⟨cs, hb⟩ := eS h (List.mem_singleton.1 hg).symm
 exact ⟨cs, e, hb, hne⟩
theorem gT {W : World} {b : Nat} {cs : Array Value} {T T' : TypeId} (h : W.heap[b]? = some (.cells cs T' (0, 0))) (hne : T' ≠ T) : ∀ g, some g ∈ [some b] → ∃ cs' T', W.heap[g]? = some (.cells cs' T' (0, 0)) ∧ T' ≠ T := fun g hg => by
 cases List.mem_singleton.1 hg
 exact ⟨cs, T', h, hne⟩
structure CoU (tb : Nat) (tc : Array Value) (xb : Nat) (cx : Array Value) (d e : Nat) (y : Pl) (W : World) : Prop where
 T : W.heap[tb]? = some (.cells tc 38 (0, 0))
 X : W.heap[xb]? = some (.cells cx 55 (0, 0))
 p0 : W.cell? ⟨d, e, none⟩ = some (.int .i64 y.r)
 p1 : W.cell? ⟨d, e + 1, none⟩ = some (.int .i64 y.code)
 p2 : W.cell? ⟨d, e + 2, none⟩ = some (.int .i64 y.addr)
theorem CoU.below {tb T d e : Nat} {tc cx : Array Value} {y : Pl} {W W' : World} (h : CoU tb tc T cx d e y W) (hb : Below W.heap.size W W') : CoU tb tc T cx d e y W' := ⟨aN hb h.T, aN hb h.X, aS hb h.p0, aS hb h.p1, aS hb h.p2⟩
theorem Lf.trs {base : Nat} {X : List (Option Nat)} {a : Option Addr} {n c : Nat} {L : List TB} {W : World} (h : Lf base X (.slice a n c) L W) (hn : L.length = n) (hb : n ≤ 1000) : Trs W a n L := by
 subst hn
 obtain ⟨a', c', e, hT⟩ := lU h.row (by omega)
 cases e
 exact hT
theorem prs_of {base n c : Nat} {e : TypeId} {a : Option Addr} {ps : List (Int × Int)} {w : World} (h : w.ownsRow base e 2 (.slice a n c) n (flat2 ps)) (hn : ps.length = n) (hb : n ≤ 1000) : Prs w a n ps := by
 subst hn
 obtain ⟨a', c', e, hT⟩ := prs_own h (by omega)
 cases e
 exact hT
theorem PrOk.far {p : Par} {L : List Tk} {P : List Pl} {l : List (Nat × Nat)} (h : PrOk p L P l) : ∀ a b, a < l.length → b < l.length → (l[a]?.getD (0, 0)).1 = (l[b]?.getD (0, 0)).1 → a = b := by
 intro a b ha hb e
 rw [List.getElem?_eq_getElem ha, List.getElem?_eq_getElem hb, Option.getD_some, Option.getD_some] at e
 rcases Nat.lt_trichotomy a b with c | c | c
 ·have := h.inc a b ha hb c; omega
 ·exact c
 have := h.inc b a hb ha c; omega
theorem okF_none {l : List (Nat × Nat)} {i : Nat} (h : ofF l i = none) : okF l i = -1 := by unfold okF; rw [h]
theorem okF_some {l : List (Nat × Nat)} {i y : Nat} (h : ofF l i = some y) : okF l i = (y : Int) := by unfold okF; rw [h]
def Yo (ob ub : Nat) : List (Option Nat) := [some ob, some ub]
structure R4 (w0 : World) (ob ub : Nat) (oC : Array Value) (l : List (Nat × Array Value)) (eV : Value) (E : List Ev) (lV : Value) (M : List TB) (sV : Value) (L : List TB) (us : Array Value) (pV : Value) (np : Nat) (fl : List Value) (pl : List (Nat × Array Value)) (W : World) : Prop where
 K : Rc w0 (Yo ob ub) ((ob, oC) :: l) eV E W
 F : Lf w0.heap.size (eV.ownBlock :: Yo ob ub) lV M W
 S : Lf w0.heap.size (lV.ownBlock :: eV.ownBlock :: Yo ob ub) sV L W
 U : W.heap[ub]? = some (.cells us 4 (0, 0))
 P : W.ownsRow w0.heap.size 96 2 pV np fl
 Q : ∀ y ∈ pl, W.heap[y.1]? = some (.cells y.2 63 (0, 0))
 ue : w0.heap.size ≤ ub
 oe : w0.heap.size ≤ ob
 ne : ∀ y ∈ l, y.1 ≠ ob
structure Rx (w0 : World) (ob ub : Nat) (oC : Array Value) (l : List (Nat × Array Value)) (T : Nat) (eV : Value) (E : List Ev) (q : TB) (lV : Value) (M : List TB) (sV : Value) (L : List TB) (us : Array Value) (pV : Value) (np : Nat) (fl : List Value) (pl : List (Nat × Array Value)) (W : World) : Prop where
 K : Rr w0 (Yo ob ub) ((ob, oC) :: l) T eV E q lV M W
 S : Lf w0.heap.size (lV.ownBlock :: some T :: eV.ownBlock :: Yo ob ub) sV L W
 U : W.heap[ub]? = some (.cells us 4 (0, 0))
 P : W.ownsRow w0.heap.size 96 2 pV np fl
 Q : ∀ y ∈ pl, W.heap[y.1]? = some (.cells y.2 63 (0, 0))
 ue : w0.heap.size ≤ ub
 oe : w0.heap.size ≤ ob
 ne : ∀ y ∈ l, y.1 ≠ ob
section
variable {w0 W W' : World} {ob ub np T k : Nat} {oC us : Array Value} {l pl : List (Nat × Array Value)} {eV eV' lV v' sV pV : Value} {E : List Ev} {M L : List TB} {fl : List Value} {q q' : TB} {x : Ev}
theorem R4.below (h : R4 w0 ob ub oC l eV E lV M sV L us pV np fl pl W) (hb : Below W.heap.size W W') : R4 w0 ob ub oC l eV E lV M sV L us pV np fl pl W' :=
 ⟨h.K.below hb, h.F.below hb, h.S.below hb, aN hb h.U, aO h.P hb (Nat.le_refl _), fun y hy => aN hb (h.Q y hy), h.ue, h.oe, h.ne⟩
theorem Rx.new (q : TB) (h : R4 w0 ob ub oC l eV E lV M sV L us pV np fl pl W) : Rx w0 ob ub oC l W.heap.size eV E q lV M sV L us pV np fl pl (W.alloc (.cells (tkC q) 55)) := by
 have hb := aC W (.cells (tkC q) 55)
 refine ⟨Rr.new q h.K h.F, (h.S.turn fun k hk => ?_).below hb, aN hb h.U, aO h.P hb (Nat.le_refl _), fun y hy => aN hb (h.Q y hy), h.ue, h.oe, h.ne⟩
 rcases List.mem_cons.1 hk with e | e
 ·exact Or.inl (by rw [e]; exact List.mem_cons_self)
 rcases List.mem_cons.1 e with e | e
 ·cases e; exact Or.inr (Nat.le_refl _)
 exact Or.inl (List.mem_cons_of_mem _ e)
theorem R4.band (h : R4 w0 ob ub oC l eV E lV M sV L us pV np fl pl W) (hk : k < L.length) : BdX w0.heap.size (lV.ownBlock :: some W.heap.size :: eV.ownBlock :: Yo ob ub) (W.alloc (.cells (tkC q) 55)) (gt L k) :=
 (h.S.bd k hk).next (Outs.of_below (aC _ _)) fun j hj => by
  rcases List.mem_cons.1 hj with e | e
  ·exact Or.inl (by rw [e]; exact List.mem_cons_of_mem _ List.mem_cons_self)
  rcases List.mem_cons.1 e with e | e
  ·cases e; exact Or.inr (Nat.le_refl _)
  exact Or.inl (List.mem_cons_of_mem _ (List.mem_cons_of_mem _ e))
theorem Rx.below (h : Rx w0 ob ub oC l T eV E q lV M sV L us pV np fl pl W) (hb : Below W.heap.size W W') : Rx w0 ob ub oC l T eV E q lV M sV L us pV np fl pl W' :=
 ⟨h.K.below hb, h.S.below hb, aN hb h.U, aO h.P hb (Nat.le_refl _), fun y hy => aN hb (h.Q y hy), h.ue, h.oe, h.ne⟩
theorem Rx.store (h : Rx w0 ob ub oC l T eV E q lV M sV L us pV np fl pl W) (hb : Only T W W') (hT : W'.heap[T]? = some (.cells (tkC q') 55 (0, 0))) : Rx w0 ob ub oC l T eV E q' lV M sV L us pV np fl pl W' :=
 ⟨h.K.store hb hT, h.S.outs (Outs.of_only hb (List.mem_cons_of_mem _ List.mem_cons_self)), dR (cK hb) h.U (gT h.K.X (by decide)), lA (cK hb) h.P (gT h.K.X (by decide)), fun y hy => dR (cK hb) (h.Q y hy) (gT h.K.X (by decide)), h.ue, h.oe, h.ne⟩
theorem Rx.event (h : Rx w0 ob ub oC l T eV E q lV M sV L us pV np fl pl W) (ho : W'.ownsRow w0.heap.size 47 3 eV' (E.length + 1) (flatE E ++ [.int .u8 x.kind, .int .i64 x.id, .int .i64 x.plot])) (hg : W.grownBy W' eV.ownBlock) (ha : eV'.ownBlock = eV.ownBlock ∨ eV'.ownBlock = some W.heap.size) :
    Rx w0 ob ub oC l T eV' (E ++ [x]) q lV M sV L us pV np fl pl W' ∧ ∀ q' : TB, BdX w0.heap.size (lV.ownBlock :: some T :: eV.ownBlock :: Yo ob ub) W q' → BdX w0.heap.size (lV.ownBlock :: some T :: eV'.ownBlock :: Yo ob ub) W' q' := by
 obtain ⟨h1, h2, h3⟩ := h.K.event ho hg ha
 exact ⟨⟨h1, h3 _ _ h.S, dR (cS hg) h.U (iI h.K.K.E (by decide)), lA (cS hg) h.P (iI h.K.K.E (by decide)), fun y hy => dR (cS hg) (h.Q y hy) (iI h.K.K.E (by decide)), h.ue, h.oe, h.ne⟩, h2⟩
theorem R4.event (h : R4 w0 ob ub oC l eV E lV M sV L us pV np fl pl W) (ho : W'.ownsRow w0.heap.size 47 3 eV' (E.length + 1) (flatE E ++ [.int .u8 x.kind, .int .i64 x.id, .int .i64 x.plot])) (hg : W.grownBy W' eV.ownBlock) (ha : eV'.ownBlock = eV.ownBlock ∨ eV'.ownBlock = some W.heap.size) :
    R4 w0 ob ub oC l eV' (E ++ [x]) lV M sV L us pV np fl pl W' := by
 obtain ⟨h1, h2, h3, h4⟩ := h.K.event ho hg ha
 exact ⟨h1, h4 [] _ _ h.F, h4 [lV.ownBlock] _ _ h.S, dR (cS hg) h.U (iI h.K.E (by decide)), lA (cS hg) h.P (iI h.K.E (by decide)), fun y hy => dR (cS hg) (h.Q y hy) (iI h.K.E (by decide)), h.ue, h.oe, h.ne⟩
theorem Rx.used (h : Rx w0 ob ub oC l T eV E q lV M sV L us pV np fl pl W) (i : Nat) (v : Value) : Rx w0 ob ub oC l T eV E q lV M sV L (us.setIfInBounds i v) pV np fl pl (W.setCell ⟨ub, i, none⟩ v) ∧ ∀ q' : TB, BdX w0.heap.size (lV.ownBlock :: some T :: eV.ownBlock :: Yo ob ub) W q' → BdX w0.heap.size (lV.ownBlock :: some T :: eV.ownBlock :: Yo ob ub) (W.setCell ⟨ub, i, none⟩ v) q' := by
 have hO : Only ub W (W.setCell ⟨ub, i, none⟩ v) := (Only.refl _ _).setCell i v
 have h1 : ∀ Z : List (Option Nat), some ub ∈ Z ++ (Yo ob ub) := fun Z => List.mem_append_right _ (by unfold Yo; simp)
 refine ⟨⟨⟨h.K.K.only hO ⟨h.ue, _, _, h.U, by decide, by decide⟩, h.K.L.outs (Outs.of_only hO (h1 [some T, eV.ownBlock])), dR (cK hO) h.K.X (gT h.U (by decide)), h.K.tb⟩, h.S.outs (Outs.of_only hO (h1 [lV.ownBlock, some T, eV.ownBlock])), aD h.U, lA (cK hO) h.P (gT h.U (by decide)), fun y hy => dR (cK hO) (h.Q y hy) (gT h.U (by decide)), h.ue, h.oe, h.ne⟩, fun q' hq => hq.outs (Outs.of_only hO (h1 [lV.ownBlock, some T, eV.ownBlock]))⟩
theorem Rx.drop (h : Rx w0 ob ub oC l T eV E q lV M sV L us pV np fl pl W) : R4 w0 ob ub oC l eV E lV M sV L us pV np fl pl W := ⟨h.K.drop.1, h.K.drop.2, h.S.less, h.U, h.P, h.Q, h.ue, h.oe, h.ne⟩
theorem R4.set (h : R4 w0 ob ub oC l eV E lV M sV L us pV np fl pl W) (i : Nat) (v : Value) : R4 w0 ob ub (oC.setIfInBounds i v) l eV E lV M sV L us pV np fl pl (W.setCell ⟨ob, i, none⟩ v) := by
 have hO : Only ob W (W.setCell ⟨ob, i, none⟩ v) := (Only.refl _ _).setCell i v
 have h0 := h.K.H _ List.mem_cons_self
 have h1 : ∀ Z : List (Option Nat), some ob ∈ Z ++ (Yo ob ub) := fun Z => List.mem_append_right _ (by unfold Yo; simp)
 exact ⟨h.K.set h.oe h.ne i v, h.F.outs (Outs.of_only hO (h1 [eV.ownBlock])), h.S.outs (Outs.of_only hO (h1 [lV.ownBlock, eV.ownBlock])), dR (cK hO) h.U (gT h0 (by decide)), lA (cK hO) h.P (gT h0 (by decide)), fun y hy => dR (cK hO) (h.Q y hy) (gT h0 (by decide)), h.ue, h.oe, h.ne⟩
theorem Rx.app (h : Rx w0 ob ub oC l T eV E q lV M sV L us pV np fl pl W) (hq : BdX w0.heap.size (lV.ownBlock :: some T :: eV.ownBlock :: Yo ob ub) W q)
    (ho : W'.ownsRow w0.heap.size 55 10 v' (M.length + 1) (flat10 M ++ (tkC q).toList)) (hg : W.grownBy W' lV.ownBlock) (ha : v'.ownBlock = lV.ownBlock ∨ v'.ownBlock = some W.heap.size) :
    R4 w0 ob ub oC l eV E v' (M ++ [q]) sV L us pV np fl pl W' ∧ W'.heap[T]? = some (.cells (tkC q) 55 (0, 0)) := by
 obtain ⟨h1, h2, h3⟩ := h.K.app hq ho hg ha
 exact ⟨⟨h1, h2, h.S.beside hg ha, dR (cS hg) h.U (iI h.K.L.row (by decide)), lA (cS hg) h.P (iI h.K.L.row (by decide)), fun y hy => dR (cS hg) (h.Q y hy) (iI h.K.L.row (by decide)), h.ue, h.oe, h.ne⟩, h3⟩
theorem R4.out (h : R4 w0 ob ub oC l eV E lV M sV L us pV np fl pl W) : W.heap[ob]? = some (.cells oC 38 (0, 0)) := h.K.H _ List.mem_cons_self
theorem Rx.out (h : Rx w0 ob ub oC l T eV E q lV M sV L us pV np fl pl W) : W.heap[ob]? = some (.cells oC 38 (0, 0)) := h.K.K.H _ List.mem_cons_self
theorem R4.rest (h : R4 w0 ob ub oC l eV E lV M sV L us pV np fl pl W) : R4 w0 ob ub oC l eV E lV M (.slice none 0 0) [] us (.slice none 0 0) 0 [] pl W := ⟨h.K, h.F, Lf.nil _ _ _, h.U, ⟨rfl, Or.inl ⟨rfl, rfl⟩⟩, h.Q, h.ue, h.oe, h.ne⟩
theorem R4.start (h : Rc w0 [] l eV E W) (hS : Lf w0.heap.size [eV.ownBlock] sV L W) (hP : W.ownsRow w0.heap.size 96 2 pV np fl) (oC us : Array Value) (hn : ∀ y ∈ l, y.1 < W.heap.size) :
    R4 w0 W.heap.size (W.heap.size + 1) oC l eV E (.slice none 0 0) [] sV L us pV np fl [] ((W.alloc (.cells oC 38)).alloc (.cells us 4)) := by
 have hb1 := aC W (.cells oC 38)
 have hb2 := aC (W.alloc (.cells oC 38)) (.cells us 4)
 have hs : (W.alloc (.cells oC 38)).heap.size = W.heap.size + 1 := by simp
 have hs2 : ((W.alloc (.cells oC 38)).alloc (.cells us 4)).heap.size = W.heap.size + 1 + 1 := by simp
 have K2 := (h.alloc oC).below hb2
 refine ⟨⟨K2.B, K2.H, K2.E, fun g hg => ?_⟩, Lf.nil _ _ _, ((hS.turn fun g hg => ?_).below hb1).below hb2, aI _ _ hs.symm, aO (aO hP hb1 (Nat.le_refl _)) hb2 (Nat.le_refl _), fun _ e => (by cases e), Nat.le_succ_of_le h.B.size, h.B.size, fun y hy => Nat.ne_of_lt (hn y hy)⟩
 ·rw [hs2]
  have := h.B.size
  rcases List.mem_cons.1 hg with e | e
  ·cases e; exact ⟨this, by omega⟩
  cases List.mem_singleton.1 e; exact ⟨by omega, by omega⟩
 rcases List.mem_cons.1 hg with e | e
 ·cases e
 rcases List.mem_cons.1 e with e | e
 ·exact Or.inl (by rw [e]; exact List.mem_cons_self)
 rcases List.mem_cons.1 e with e | e
 ·cases e; exact Or.inr (Nat.le_refl _)
 cases List.mem_singleton.1 e; exact Or.inr (Nat.le_succ _)
theorem R4.plot (h : R4 w0 ob ub oC l eV E lV M sV L us pV np fl pl W) (cs : Array Value) : R4 w0 ob ub oC l eV E lV M sV L us pV np fl ((W.heap.size, cs) :: pl) (W.alloc (.cells cs 63)) := by
 have h1 := h.below (aC W (.cells cs 63))
 refine ⟨h1.K, h1.F, h1.S, h1.U, h1.P, fun y hy => ?_, h1.ue, h1.oe, h1.ne⟩
 rcases List.mem_cons.1 hy with e | e
 ·subst e; exact aI _ _ rfl
 exact h1.Q y e
theorem R4.free (h : R4 w0 ob ub oC l eV E lV M sV L us pV np fl pl W) : R4 w0 ob ub oC l eV E lV M sV L us pV np fl [] W := ⟨h.K, h.F, h.S, h.U, h.P, fun _ e => (by cases e), h.ue, h.oe, h.ne⟩
end
end Go.Proofs.YtikjjpjekchcjaaGreat
end
section
namespace Go.Proofs.YtikjjpjekchcjaaGreat
open Go.RowKit TrkMath MyHeap MyOwn
theorem dK {a d A B : Int} (h1 : 0 ≤ a) (h2 : a ≤ A) (h3 : -B ≤ d) (h4 : d ≤ B) : -(A * B) ≤ a * d ∧ a * d ≤ A * B := by
 have hA : 0 ≤ A := by omega
 have hB : 0 ≤ B := by omega
 have a1 : a * d ≤ A * B := by
  rcases Int.lt_or_le d 0 with h | h
  ·have : a * d ≤ 0 := Int.mul_nonpos_of_nonneg_of_nonpos h1 (by omega)
   have : 0 ≤ A * B := Int.mul_nonneg hA hB
   omega
  exact Int.mul_le_mul h2 h4 h hA
 have a2 : a * -d ≤ A * B := by
  rcases Int.lt_or_le (-d) 0 with h | h
  ·have : a * -d ≤ 0 := Int.mul_nonpos_of_nonneg_of_nonpos h1 (by omega)
   have : 0 ≤ A * B := Int.mul_nonneg hA hB
   omega
  exact Int.mul_le_mul h2 (by omega) h hA
 rw [Int.mul_neg] at a2
 omega
theorem upE_ch {x : Rg} {r c : Int} (h : rgE x ≠ 0) : upE x r c = rgE x ∧ upX x r c = rg0 := by
 have e : upE x r c = rgE x := if_pos h
 exact ⟨e, if_neg (by rw [e]; exact h)⟩
theorem upE_arg {x : Rg} {r c : Int} (h : rgE x = 0) (hc : r < 0 ∨ 8192 < r ∨ c < 1 ∨ 16 < c) : upE x r c = 1 ∧ upX x r c = rg0 := by
 have e : upE x r c = 1 := by unfold upE; rw [if_neg (by rw [h]; decide), if_pos hc]
 exact ⟨e, if_neg (by rw [e]; decide)⟩
theorem up_ok {x : Rg} {r c N P D : Int} (h : rgE x = 0) (hc : ¬ (r < 0 ∨ 8192 < r ∨ c < 1 ∨ 16 < c)) (hN : min (x.n + 1) 8 = N) (hP : x.r + c * x.v = P) (hD : 256 * r - P = D) :
    upE x r c = 0 ∧ upX x r c = ⟨lim (P + rnd (2 * (2 * N - 1) * D) (N * (N + 1))) 0 2097152, lim (x.v + rnd (6 * D) (N * (N + 1) * c)) (-16384) 16384, min (x.n + 1) 1000⟩ := by
 have e : upE x r c = 0 := by unfold upE; rw [if_neg (by rw [h]; decide), if_neg hc]
 refine ⟨e, ?_⟩
 unfold upX upN upD
 rw [if_pos e, hN, hP, hD]
theorem dD {w W : World} {b : Nat} {a0 a1 a2 : Value} (h : Below w.heap.size w W) (hb : W.heap[b]? = some (.cells #[a0, a1, a2] 50 (0, 0))) (hle : w.heap.size ≤ b) (x y z : Int) : Below w.heap.size w (((W.setCell ⟨b, 0, none⟩ (.int .i64 x)).setCell ⟨b, 1, none⟩ (.int .i64 y)).setCell ⟨b, 2, none⟩ (.int .i64 z)) ∧
    (((W.setCell ⟨b, 0, none⟩ (.int .i64 x)).setCell ⟨b, 1, none⟩ (.int .i64 y)).setCell ⟨b, 2, none⟩ (.int .i64 z)).heap[b]? = some (.cells #[.int .i64 x, .int .i64 y, .int .i64 z] 50 (0, 0)) := by
 have o : Only b W (((W.setCell ⟨b, 0, none⟩ (.int .i64 x)).setCell ⟨b, 1, none⟩ (.int .i64 y)).setCell ⟨b, 2, none⟩ (.int .i64 z)) := (((Only.refl _ _).setCell _ _).setCell _ _).setCell _ _
 refine ⟨h.trans (o.below hle h.size), ?_⟩
 have h1 := aD (i := 2) (v := .int .i64 z) (aD (i := 1) (v := .int .i64 y) (aD (i := 0) (v := .int .i64 x) hb))
 simpa using h1
theorem gF {W : World} {b p i : Nat} {u x y z : Value} (h : W.cell? ⟨p, i, none⟩ = some u) (hne : p ≠ b) : (((W.setCell ⟨b, 0, none⟩ x).setCell ⟨b, 1, none⟩ y).setCell ⟨b, 2, none⟩ z).cell? ⟨p, i, none⟩ = some u := by
 have o : Only b W (((W.setCell ⟨b, 0, none⟩ x).setCell ⟨b, 1, none⟩ y).setCell ⟨b, 2, none⟩ z) := (((Only.refl _ _).setCell _ _).setCell _ _).setCell _ _
 exact o.cell h hne
theorem fR {p q B : Int} (hq : 1 ≤ q) (h1 : -B ≤ 2 * p + q ∧ 2 * p + q ≤ B) (h2 : -B ≤ 2 * p - q ∧ 2 * p - q ≤ B) : -B ≤ rnd p q ∧ rnd p q ≤ B := by
 by_cases hp : p < 0
 ·rw [rnd_neg hp]
  exact jF (by omega) (by omega) (by omega)
 unfold rnd
 rw [if_neg hp]
 exact jF (by omega) h1.1 h1.2
theorem kT (x : Rg) (r c : Int) (w : World) (h : rgE x ≠ 0 ∨ (r < 0 ∨ 8192 < r ∨ c < 1 ∨ 16 < c)) : Calls Tryz.prog 70 #[rgV x, .int .i64 r, .int .i64 c] w (RgPost (upX x r c) (upE x r c) w) := by
 have HB := qh (aC w (.cells #[.int .i64 x.r, .int .i64 x.v, .int .i64 x.n] 50))
 have HB2 := qh (HB.out.alloc HB.out.size (.cells #[.int .i64 0, .int .i64 0, .int .i64 0] 50))
 have HX0 := qh (aG (o' := .cells #[.int .i64 0, .int .i64 0, .int .i64 0] 50) (aI w (.cells #[.int .i64 x.r, .int .i64 x.v, .int .i64 x.n] 50 (0, 0)) rfl))
 have HR0 := qh (aI (w.alloc (.cells #[.int .i64 x.r, .int .i64 x.v, .int .i64 x.n] 50)) (.cells #[.int .i64 0, .int .i64 0, .int .i64 0] 50 (0, 0)) (n := w.heap.size + 1) (by simp))
 by_cases hE : rgE x = 0
 ·have hc : r < 0 ∨ 8192 < r ∨ c < 1 ∨ 16 < c := by
   rcases h with q | q
   ·exact absurd hE q
   exact q
  have HE := qh hE
  have HX := qh (upE_arg hE hc)
  have HC := qh hc
  unfold rgV
  clear hE h hc
  go_enter Tryz.func70, Tryz.ntmps70
  go_wp2_with fail
  refine (bE x _).mono ?_; rintro e w1 ⟨rfl, hb⟩
  rw [HE.out]
  have K := qh (And.intro (HB2.out.trans (hb.mono HB2.out.size)) (And.intro (aN hb HR0.out) (aN hb HX0.out)))
  have r0 : w1.cell? ⟨w.heap.size + 1, 0, none⟩ = some (.int .i64 0) := aA K.out.2.1 rfl
  have r1 : w1.cell? ⟨w.heap.size + 1, 1, none⟩ = some (.int .i64 0) := aA K.out.2.1 rfl
  have r2 : w1.cell? ⟨w.heap.size + 1, 2, none⟩ = some (.int .i64 0) := aA K.out.2.1 rfl
  have f0 : w1.frozen? ⟨w.heap.size + 1, 0, none⟩ = false := aF K.out.2.1
  have f1 : w1.frozen? ⟨w.heap.size + 1, 1, none⟩ = false := aF K.out.2.1
  have f2 : w1.frozen? ⟨w.heap.size + 1, 2, none⟩ = false := aF K.out.2.1
  have rl := aB K.out.2.1
  have KS := qh (dD K.out.1 K.out.2.1 (Nat.le_succ _) 0 0 0)
  clear hb
  by_cases h1 : r < 0
  ·go_wp2_with fail
   have s0 := aA (i := 0) KS.out.2 rfl
   have s1 := aA (i := 1) KS.out.2 rfl
   have s2 := aA (i := 2) KS.out.2 rfl
   refine bodyPost_ret (v := .tuple #[.agg #[.int .i64 0, .int .i64 0, .int .i64 0], .int .i64 1]) ?_ rfl (bM (x := ⟨0, 0, 0⟩) HX.out.2 HX.out.1 KS.out.1)
   simp [results, Tryz.f70, go_sem, s0, s1, s2]
  by_cases h2 : 8192 < r
  ·go_wp2_with fail
   have s0 := aA (i := 0) KS.out.2 rfl
   have s1 := aA (i := 1) KS.out.2 rfl
   have s2 := aA (i := 2) KS.out.2 rfl
   refine bodyPost_ret (v := .tuple #[.agg #[.int .i64 0, .int .i64 0, .int .i64 0], .int .i64 1]) ?_ rfl (bM (x := ⟨0, 0, 0⟩) HX.out.2 HX.out.1 KS.out.1)
   simp [results, Tryz.f70, go_sem, s0, s1, s2]
  by_cases h3 : c < 1
  ·go_wp2_with fail
   have s0 := aA (i := 0) KS.out.2 rfl
   have s1 := aA (i := 1) KS.out.2 rfl
   have s2 := aA (i := 2) KS.out.2 rfl
   refine bodyPost_ret (v := .tuple #[.agg #[.int .i64 0, .int .i64 0, .int .i64 0], .int .i64 1]) ?_ rfl (bM (x := ⟨0, 0, 0⟩) HX.out.2 HX.out.1 KS.out.1)
   simp [results, Tryz.f70, go_sem, s0, s1, s2]
  have h4 : 16 < c := by have := HC.out; omega
  go_wp2_with fail
  have s0 := aA (i := 0) KS.out.2 rfl
  have s1 := aA (i := 1) KS.out.2 rfl
  have s2 := aA (i := 2) KS.out.2 rfl
  refine bodyPost_ret (v := .tuple #[.agg #[.int .i64 0, .int .i64 0, .int .i64 0], .int .i64 1]) ?_ rfl (bM (x := ⟨0, 0, 0⟩) HX.out.2 HX.out.1 KS.out.1)
  simp [results, Tryz.f70, go_sem, s0, s1, s2]
 have hne : (rgE x != 0) = true := by rw [bne_iff_ne]; exact hE
 have HX := qh (upE_ch (r := r) (c := c) hE)
 obtain ⟨E, hE2⟩ : ∃ E, rgE x = E := ⟨_, rfl⟩
 have HE := qh hE2
 rw [hE2] at hne
 unfold rgV
 clear hE hE2 h
 go_enter Tryz.func70, Tryz.ntmps70
 go_wp2_with fail
 refine (bE x _).mono ?_; rintro e w1 ⟨rfl, hb⟩
 rw [HE.out]
 have K := qh (And.intro (HB2.out.trans (hb.mono HB2.out.size)) (And.intro (aN hb HR0.out) (aN hb HX0.out)))
 have r0 : w1.cell? ⟨w.heap.size + 1, 0, none⟩ = some (.int .i64 0) := aA K.out.2.1 rfl
 have r1 : w1.cell? ⟨w.heap.size + 1, 1, none⟩ = some (.int .i64 0) := aA K.out.2.1 rfl
 have r2 : w1.cell? ⟨w.heap.size + 1, 2, none⟩ = some (.int .i64 0) := aA K.out.2.1 rfl
 have f0 : w1.frozen? ⟨w.heap.size + 1, 0, none⟩ = false := aF K.out.2.1
 have f1 : w1.frozen? ⟨w.heap.size + 1, 1, none⟩ = false := aF K.out.2.1
 have f2 : w1.frozen? ⟨w.heap.size + 1, 2, none⟩ = false := aF K.out.2.1
 have rl := aB K.out.2.1
 have KS := qh (dD K.out.1 K.out.2.1 (Nat.le_succ _) 0 0 0)
 clear hb
 go_wp2_with fail
 have s0 := aA (i := 0) KS.out.2 rfl
 have s1 := aA (i := 1) KS.out.2 rfl
 have s2 := aA (i := 2) KS.out.2 rfl
 refine bodyPost_ret (v := .tuple #[.agg #[.int .i64 0, .int .i64 0, .int .i64 0], .int .i64 E]) ?_ rfl (bM (x := ⟨0, 0, 0⟩) HX.out.2 (HX.out.1.trans HE.out) KS.out.1)
 simp [results, Tryz.f70, go_sem, s0, s1, s2]
theorem kU (x : Rg) (r c : Int) (w : World) (h : rgE x ≠ 0 ∨ (r < 0 ∨ 8192 < r ∨ c < 1 ∨ 16 < c)) : Calls Tryz.prog 57 #[rgV x, .int .i64 r, .int .i64 c] w (RgPost (upX x r c) (upE x r c) w) := by
 have HB := qh (aC w (.cells #[.int .i64 x.r, .int .i64 x.v, .int .i64 x.n] 50))
 have HB2 := qh (HB.out.alloc HB.out.size (.cells #[.int .i64 0, .int .i64 0, .int .i64 0] 50))
 have HX0 := qh (aG (o' := .cells #[.int .i64 0, .int .i64 0, .int .i64 0] 50) (aI w (.cells #[.int .i64 x.r, .int .i64 x.v, .int .i64 x.n] 50 (0, 0)) rfl))
 have HR0 := qh (aI (w.alloc (.cells #[.int .i64 x.r, .int .i64 x.v, .int .i64 x.n] 50)) (.cells #[.int .i64 0, .int .i64 0, .int .i64 0] 50 (0, 0)) (n := w.heap.size + 1) (by simp))
 by_cases hE : rgE x = 0
 ·have hc : r < 0 ∨ 8192 < r ∨ c < 1 ∨ 16 < c := by
   rcases h with q | q
   ·exact absurd hE q
   exact q
  have HE := qh hE
  have HX := qh (upE_arg hE hc)
  have HC := qh hc
  unfold rgV
  clear hE h hc
  go_enter Tryz.func57, Tryz.ntmps57
  go_wp2_with fail
  refine (bG x _).mono ?_; rintro e w1 ⟨rfl, hb⟩
  rw [HE.out]
  have K := qh (And.intro (HB2.out.trans (hb.mono HB2.out.size)) (And.intro (aN hb HR0.out) (aN hb HX0.out)))
  have r0 : w1.cell? ⟨w.heap.size + 1, 0, none⟩ = some (.int .i64 0) := aA K.out.2.1 rfl
  have r1 : w1.cell? ⟨w.heap.size + 1, 1, none⟩ = some (.int .i64 0) := aA K.out.2.1 rfl
  have r2 : w1.cell? ⟨w.heap.size + 1, 2, none⟩ = some (.int .i64 0) := aA K.out.2.1 rfl
  have f0 : w1.frozen? ⟨w.heap.size + 1, 0, none⟩ = false := aF K.out.2.1
  have f1 : w1.frozen? ⟨w.heap.size + 1, 1, none⟩ = false := aF K.out.2.1
  have f2 : w1.frozen? ⟨w.heap.size + 1, 2, none⟩ = false := aF K.out.2.1
  have rl := aB K.out.2.1
  have KS := qh (dD K.out.1 K.out.2.1 (Nat.le_succ _) 0 0 0)
  clear hb
  by_cases h1 : r < 0
  ·go_wp2_with fail
   have s0 := aA (i := 0) KS.out.2 rfl
   have s1 := aA (i := 1) KS.out.2 rfl
   have s2 := aA (i := 2) KS.out.2 rfl
   refine bodyPost_ret (v := .tuple #[.agg #[.int .i64 0, .int .i64 0, .int .i64 0], .int .i64 1]) ?_ rfl (bM (x := ⟨0, 0, 0⟩) HX.out.2 HX.out.1 KS.out.1)
   simp [results, Tryz.f57, go_sem, s0, s1, s2]
  by_cases h2 : 8192 < r
  ·go_wp2_with fail
   have s0 := aA (i := 0) KS.out.2 rfl
   have s1 := aA (i := 1) KS.out.2 rfl
   have s2 := aA (i := 2) KS.out.2 rfl
   refine bodyPost_ret (v := .tuple #[.agg #[.int .i64 0, .int .i64 0, .int .i64 0], .int .i64 1]) ?_ rfl (bM (x := ⟨0, 0, 0⟩) HX.out.2 HX.out.1 KS.out.1)
   simp [results, Tryz.f57, go_sem, s0, s1, s2]
  by_cases h3 : c < 1
  ·go_wp2_with fail
   have s0 := aA (i := 0) KS.out.2 rfl
   have s1 := aA (i := 1) KS.out.2 rfl
   have s2 := aA (i := 2) KS.out.2 rfl
   refine bodyPost_ret (v := .tuple #[.agg #[.int .i64 0, .int .i64 0, .int .i64 0], .int .i64 1]) ?_ rfl (bM (x := ⟨0, 0, 0⟩) HX.out.2 HX.out.1 KS.out.1)
   simp [results, Tryz.f57, go_sem, s0, s1, s2]
  have h4 : 16 < c := by have := HC.out; omega
  go_wp2_with fail
  have s0 := aA (i := 0) KS.out.2 rfl
  have s1 := aA (i := 1) KS.out.2 rfl
  have s2 := aA (i := 2) KS.out.2 rfl
  refine bodyPost_ret (v := .tuple #[.agg #[.int .i64 0, .int .i64 0, .int .i64 0], .int .i64 1]) ?_ rfl (bM (x := ⟨0, 0, 0⟩) HX.out.2 HX.out.1 KS.out.1)
  simp [results, Tryz.f57, go_sem, s0, s1, s2]
 have hne : (rgE x != 0) = true := by rw [bne_iff_ne]; exact hE
 have HX := qh (upE_ch (r := r) (c := c) hE)
 obtain ⟨E, hE2⟩ : ∃ E, rgE x = E := ⟨_, rfl⟩
 have HE := qh hE2
 rw [hE2] at hne
 unfold rgV
 clear hE hE2 h
 go_enter Tryz.func57, Tryz.ntmps57
 go_wp2_with fail
 refine (bG x _).mono ?_; rintro e w1 ⟨rfl, hb⟩
 rw [HE.out]
 have K := qh (And.intro (HB2.out.trans (hb.mono HB2.out.size)) (And.intro (aN hb HR0.out) (aN hb HX0.out)))
 have r0 : w1.cell? ⟨w.heap.size + 1, 0, none⟩ = some (.int .i64 0) := aA K.out.2.1 rfl
 have r1 : w1.cell? ⟨w.heap.size + 1, 1, none⟩ = some (.int .i64 0) := aA K.out.2.1 rfl
 have r2 : w1.cell? ⟨w.heap.size + 1, 2, none⟩ = some (.int .i64 0) := aA K.out.2.1 rfl
 have f0 : w1.frozen? ⟨w.heap.size + 1, 0, none⟩ = false := aF K.out.2.1
 have f1 : w1.frozen? ⟨w.heap.size + 1, 1, none⟩ = false := aF K.out.2.1
 have f2 : w1.frozen? ⟨w.heap.size + 1, 2, none⟩ = false := aF K.out.2.1
 have rl := aB K.out.2.1
 have KS := qh (dD K.out.1 K.out.2.1 (Nat.le_succ _) 0 0 0)
 clear hb
 go_wp2_with fail
 have s0 := aA (i := 0) KS.out.2 rfl
 have s1 := aA (i := 1) KS.out.2 rfl
 have s2 := aA (i := 2) KS.out.2 rfl
 refine bodyPost_ret (v := .tuple #[.agg #[.int .i64 0, .int .i64 0, .int .i64 0], .int .i64 E]) ?_ rfl (bM (x := ⟨0, 0, 0⟩) HX.out.2 (HX.out.1.trans HE.out) KS.out.1)
 simp [results, Tryz.f57, go_sem, s0, s1, s2]
end Go.Proofs.YtikjjpjekchcjaaGreat
end
