/-
  HeldFr, TrkL, TrkRk
-/
import Derived.Test.YtikjjpjekchcjaaPb15
import Derived.Test.YtikjjpjekchcjaaPb10
import Derived.Test.YtikjjpjekchcjaaPb11
section
namespace Go.MyHeldE
open Go.MyHeld (At at_of)
variable {P : Program} {ops : Array Oper} {Q : Exit → Act → World → Prop} {md : Region.Mode} {S : World → Prop} {late : List Nat}
theorem ends_first2 {i : Nat} {oi : Oper} {v : Value} (hi : ops[i]? = some oi) (hsel : ∀ (j : Nat) (o : Oper) cs b, ops[j]? = some o → o.op ≠ .select cs b)
    (hQ : ∀ c a w, Q (.panic c) (a.put oi.dst v) w → Q (.panic c) a w) {m : Nat} :
    ∀ (n : Nat) (ls : Array Bool) (a : Act) (w : World), (∀ j, late.contains j = true → ls.getD j false = true ∨ waits md ops m j i = true) → Shut md ops ls →
     (∀ j oj, ops[j]? = some oj → j ≠ i → ls.getD j true = false → (∀ e ∈ oj.after, Region.binds md e = true → e.on ≠ i) → oi.apart ops oj = true) →
     i ∈ Region.ready md ops ls → YieldsIf P ops S oi v a → S w →
     Ends P md ops Q S late n (ls.setIfInBounds i true) (a.put oi.dst v) w → Ends P md ops Q S late (n + 1) ls a w := by
 intro n
 induction n with
 | zero =>
  intro ls a w _ _ _ hr hy hS H
  refine ⟨fun h => (by rw [h] at hr; cases hr), fun j hj => ?_⟩
  by_cases hji : j = i
  ·subst hji; exact hy.wpOp hi hS ⟨fun _ => hS, H⟩
  ·have := ready_mono hj hji
   rw [H.1] at this
   cases this
 | succ n ih =>
  intro ls a w hw hsh hfree hr hy hS H
  refine ⟨fun h => (by rw [h] at hr; cases hr), fun j hj => ?_⟩
  by_cases hji : j = i
  ·subst hji; exact hy.wpOp hi hS ⟨fun _ => hS, H⟩
  ·have h1 := H.2 j (ready_mono hj hji)
   obtain ⟨hjun, oj, hoj, hall⟩ := mem_ready.1 hj
   have hun : ls.getD i false = false := by
    have h0 := (mem_ready.1 hr).1
    rcases Nat.lt_or_ge i ls.size with h' | h'
    ·simp [h'] at h0 ⊢; exact h0
    ·simp [Array.getElem?_eq_none h'] at h0
   have hjf : ls.getD j false = false := by
    have h0 := hjun
    rcases Nat.lt_or_ge j ls.size with h' | h'
    ·simp [h'] at h0 ⊢; exact h0
    ·simp [Array.getElem?_eq_none h'] at h0
   have hnot : ∀ e ∈ oj.after, Region.binds md e = true → e.on ≠ i := fun e he hb heq => by
    have h2 := hall e he hb
    rw [heq, hun] at h2
    cases h2
   have hj0 : late.contains j = false := by
    cases hc : late.contains j with
    | false => rfl
    | true =>
     rcases hw j hc with hl | hl
     ·rw [hjf] at hl
      cases hl
     ·have := waits_listed hsh m j i hl fun o ho e he hb => by
       rw [hoj] at ho
       cases ho
       exact hall e he hb
      rw [hun] at this
      cases this
   have h2 := wpOp_putIf hoj (hfree j oj hoj hji hjun hnot) (fun cs b => hsel i oi cs b hi) (fun cs b => hsel j oj cs b hoj) hQ hy h1
   have hfree' : ∀ k ok, ops[k]? = some ok → k ≠ i → (ls.setIfInBounds j true).getD k true = false →
       (∀ e ∈ ok.after, Region.binds md e = true → e.on ≠ i) → oi.apart ops ok = true := fun k ok hk hki hk2 hno => by
    refine hfree k ok hk hki ?_ hno
    by_cases hjk : j = k
    ·subst hjk; exact hjun
    ·rw [getD_set_ne true hjk] at hk2; exact hk2
   refine wpOp_mono (fun b x h3 => ⟨h3.2.1, ih (ls.setIfInBounds j true) b x (fun k hk => ?_) (hsh.next hj) hfree' (ready_mono hr (Ne.symm hji)) h3.1 (h3.2.1 hj0) ?_⟩) h2
   ·rcases hw k hk with hl | hl
    ·by_cases hjk : j = k
     ·subst hjk; rw [hjf] at hl; cases hl
     ·exact Or.inl (by rw [getD_set_ne false hjk]; exact hl)
    ·exact Or.inr hl
   ·rw [Array.setIfInBounds_comm _ _ hji]
    exact h3.2.2
theorem ends_any {i : Nat} {oi : Oper} {v : Value} (hi : ops[i]? = some oi) (hl : late.contains i = true) (hsel : ∀ (j : Nat) (o : Oper) cs b, ops[j]? = some o → o.op ≠ .select cs b)
    (hQ : ∀ c a w, Q (.panic c) (a.put oi.dst v) w → Q (.panic c) a w) :
    ∀ (n : Nat) (ls : Array Bool) (a : Act) (w : World),
     (∀ j oj, ops[j]? = some oj → j ≠ i → ls.getD j true = false → (∀ e ∈ oj.after, Region.binds md e = true → e.on ≠ i) → oi.apart ops oj = true) →
     i ∈ Region.ready md ops ls → YieldsIf P ops (fun _ => True) oi v a →
     Ends P md ops Q S late n (ls.setIfInBounds i true) (a.put oi.dst v) w → Ends P md ops Q S late (n + 1) ls a w := by
 intro n
 induction n with
 | zero =>
  intro ls a w _ hr hy H
  refine ⟨fun h => (by rw [h] at hr; cases hr), fun j hj => ?_⟩
  by_cases hji : j = i
  ·subst hji; exact hy.wpOp hi trivial ⟨fun e => (by rw [hl] at e; cases e), H⟩
  ·have := ready_mono hj hji
   rw [H.1] at this
   cases this
 | succ n ih =>
  intro ls a w hfree hr hy H
  refine ⟨fun h => (by rw [h] at hr; cases hr), fun j hj => ?_⟩
  by_cases hji : j = i
  ·subst hji; exact hy.wpOp hi trivial ⟨fun e => (by rw [hl] at e; cases e), H⟩
  ·have h1 := H.2 j (ready_mono hj hji)
   obtain ⟨hjun, oj, hoj, hall⟩ := mem_ready.1 hj
   have hun : ls.getD i false = false := by
    have h0 := (mem_ready.1 hr).1
    rcases Nat.lt_or_ge i ls.size with h' | h'
    ·simp [h'] at h0 ⊢; exact h0
    ·simp [Array.getElem?_eq_none h'] at h0
   have hnot : ∀ e ∈ oj.after, Region.binds md e = true → e.on ≠ i := fun e he hb heq => by
    have h2 := hall e he hb
    rw [heq, hun] at h2
    cases h2
   have h2 := wpOp_putIf hoj (hfree j oj hoj hji hjun hnot) (fun cs b => hsel i oi cs b hi) (fun cs b => hsel j oj cs b hoj) hQ hy h1
   have hfree' : ∀ k ok, ops[k]? = some ok → k ≠ i → (ls.setIfInBounds j true).getD k true = false →
       (∀ e ∈ ok.after, Region.binds md e = true → e.on ≠ i) → oi.apart ops ok = true := fun k ok hk hki hk2 hno => by
    refine hfree k ok hk hki ?_ hno
    by_cases hjk : j = k
    ·subst hjk; exact hjun
    ·rw [getD_set_ne true hjk] at hk2; exact hk2
   refine wpOp_mono (fun b x h3 => ⟨h3.2.1, ih (ls.setIfInBounds j true) b x hfree' (ready_mono hr (Ne.symm hji)) h3.1 ?_⟩) h2
   rw [Array.setIfInBounds_comm _ _ hji]
   exact h3.2.2
section
variable {l : List Oper}
theorem take2 (i : Nat) {oi : Oper} {v : Value} {n : Nat} {ls : Array Bool} {a : Act} {w : World} (hi : At l i oi) (hc : shutB md l.toArray ls = true) (hw : (late.all fun j => ls.getD j false || waits md l.toArray l.length j i) = true)
    (hs : Region.noSelect l.toArray = true) (hf : Region.free md l.toArray ls i = true) (hr : (Region.ready md l.toArray ls).contains i = true)
    (hQ : ∀ c a w, Q (.panic c) (a.put oi.dst v) w → Q (.panic c) a w) (hwt : Region.wanted oi (yielded l.toArray a.tmps) = true) (hS : S w)
    (hy : ∀ w, S w → (execOp a.eval oi).run P w = .ok (.value v) w)
    (h : Ends P md l.toArray Q S late n (ls.setIfInBounds i true) (a.put oi.dst v) w) : Ends P md l.toArray Q S late (n + 1) ls a w :=
 ends_first2 (at_of hi) (Region.noSelect_spec hs) hQ (m := l.length) n ls a w (fun j hj => by
  have := List.all_eq_true.1 hw j (List.contains_iff_mem.1 hj)
  rwa [Bool.or_eq_true] at this) (shut_of hc) (Region.free_spec (at_of hi) hf) (by simpa using hr) (Or.inl ⟨hwt, hy⟩) hS h
theorem take0 (i : Nat) {oi : Oper} {v : Value} {n : Nat} {ls : Array Bool} {a : Act} {w : World} (hi : At l i oi) (hl : late.contains i = true)
    (hs : Region.noSelect l.toArray = true) (hf : Region.free md l.toArray ls i = true) (hr : (Region.ready md l.toArray ls).contains i = true)
    (hQ : ∀ c a w, Q (.panic c) (a.put oi.dst v) w → Q (.panic c) a w) (hwt : Region.wanted oi (yielded l.toArray a.tmps) = true)
    (hy : ∀ w, (execOp a.eval oi).run P w = .ok (.value v) w)
    (h : Ends P md l.toArray Q S late n (ls.setIfInBounds i true) (a.put oi.dst v) w) : Ends P md l.toArray Q S late (n + 1) ls a w :=
 ends_any (at_of hi) hl (Region.noSelect_spec hs) hQ n ls a w (Region.free_spec (at_of hi) hf) (by simpa using hr) (Or.inl ⟨hwt, fun w _ => hy w⟩) h
end
end Go.MyHeldE
end
section
namespace Go.Proofs.Ytikjjpjekchcjaa
open Go.RowKit TrkMath MyHeap MyOwn
structure Lf (base : Nat) (X : List (Option Nat)) (v : Value) (M : List TB) (W : World) : Prop where
 row : W.ownsRow base 46 10 v M.length (flat10 M)
 bd : ∀ k, k < M.length → BdX base (v.ownBlock :: X) W (gt M k)
 ne : ∀ g, v.ownBlock = some g → some g ∉ X
theorem Lf.nil (base : Nat) (X : List (Option Nat)) (W : World) : Lf base X (.slice none 0 0) [] W :=
 ⟨⟨rfl, Or.inl ⟨rfl, rfl⟩⟩, fun _ hk => absurd hk (Nat.not_lt_zero _), fun _ e => by cases e⟩
theorem Lf.lt {base : Nat} {X : List (Option Nat)} {v : Value} {M : List TB} {W : World} (h : Lf base X v M W) {g : Nat} (e : v.ownBlock = some g) : base ≤ g ∧ g < W.heap.size := h.row.lt g e
theorem Lf.next {base : Nat} {X Y : List (Option Nat)} {v : Value} {M : List TB} {W W' : World} (h : Lf base X v M W) (hb : Outs X W W') (hY : ∀ g, some g ∈ Y → some g ∈ X ∨ W.heap.size ≤ g) : Lf base Y v M W' :=
 ⟨hb.row h.row h.ne, fun k hk => (h.bd k hk).next (hb.mono fun x hx => List.mem_cons_of_mem _ hx) (fun g hg => by
     rcases List.mem_cons.1 hg with e | e
     ·exact Or.inl (by rw [e]; exact List.mem_cons_self)
     ·rcases hY g e with q | q
      ·exact Or.inl (List.mem_cons_of_mem _ q)
      ·exact Or.inr q),
  fun g e hg => by
   rcases hY g hg with q | q
   ·exact h.ne g e q
   ·have := (h.lt e).2; omega⟩
theorem Lf.outs {base : Nat} {X : List (Option Nat)} {v : Value} {M : List TB} {W W' : World} (h : Lf base X v M W) (hb : Outs X W W') : Lf base X v M W' := h.next hb fun _ e => Or.inl e
theorem Lf.turn {base : Nat} {X Y : List (Option Nat)} {v : Value} {M : List TB} {W : World} (h : Lf base X v M W) (hY : ∀ g, some g ∈ Y → some g ∈ X ∨ W.heap.size ≤ g) : Lf base Y v M W := h.next (Outs.refl X W) hY
theorem Lf.below {base : Nat} {X : List (Option Nat)} {v : Value} {M : List TB} {W W' : World} (h : Lf base X v M W) (hb : Below W.heap.size W W') : Lf base X v M W' := h.outs (Outs.of_below hb)
theorem gt_snoc_lt {M : List TB} {q : TB} {k : Nat} (h : k < M.length) : gt (M ++ [q]) k = gt M k := by unfold gt; rw [List.getElem?_append_left h]
theorem gt_snoc_eq {M : List TB} {q : TB} : gt (M ++ [q]) M.length = q := by unfold gt; rw [List.getElem?_append_right (Nat.le_refl _), Nat.sub_self]; rfl
theorem Lf.snoc {base : Nat} {X : List (Option Nat)} {v v' : Value} {M : List TB} {q : TB} {W W' : World} (h : Lf base X v M W) (hq : BdX base (v.ownBlock :: X) W q) (hX : ∀ g, some g ∈ X → g < W.heap.size)
    (ho : W'.ownsRow base 46 10 v' (M.length + 1) (flat10 M ++ (tkC q).toList)) (hg : W.grownBy W' v.ownBlock) (ha : v'.ownBlock = v.ownBlock ∨ v'.ownBlock = some W.heap.size) : Lf base X v' (M ++ [q]) W' := by
 have hO : Outs (v.ownBlock :: X) W W' := Outs.of_grown hg (fun _ e => by rw [← e]; exact List.mem_cons_self)
 have hY : ∀ g, some g ∈ v'.ownBlock :: X → some g ∈ v.ownBlock :: X ∨ W.heap.size ≤ g := fun g hg => by
  rcases List.mem_cons.1 hg with e | e
  ·rcases ha with q | q
   ·exact Or.inl (by rw [e, q]; exact List.mem_cons_self)
   ·rw [q] at e
    exact Or.inr (Nat.le_of_eq (Option.some.inj e).symm)
  ·exact Or.inl (List.mem_cons_of_mem _ e)
 refine ⟨by rw [List.length_append, flat10_snoc]; exact ho, fun k hk => ?_, fun g e hx => ?_⟩
 ·by_cases hlt : k < M.length
  ·rw [gt_snoc_lt hlt]
   exact (h.bd k hlt).next hO hY
  ·have : k = M.length := by rw [List.length_append, List.length_singleton] at hk; omega
   subst this
   rw [gt_snoc_eq]
   exact hq.next hO hY
 ·rcases ha with q | q
  ·exact h.ne g (by rw [← q]; exact e) hx
  ·have := hX g hx
   rw [q] at e
   have := Option.some.inj e
   omega
def XR (r g : Nat) (eV : Value) : List (Option Nat) := [some r, some g, eV.ownBlock]
structure RnK (base r g : Nat) (p : Par) (now next : Int) (tV pV lV eV : Value) (LV : List Lv) (E : List Ev) (w0 W : World) : Prop where
 B : Below base w0 W
 R : RunAt r p now next tV pV lV eV W
 V : LvAt g LV W
 E : EvAt base eV E W
 rb : base ≤ r
 gb : base ≤ g
 rg : r ≠ g
 er : eV.ownBlock ≠ some r
 eg : eV.ownBlock ≠ some g
 bb : base ≤ w0.heap.size
theorem RnK.outs {base r g : Nat} {p : Par} {now next : Int} {tV pV lV eV : Value} {LV : List Lv} {E : List Ev} {w0 W W' : World} {X : List (Option Nat)} (h : RnK base r g p now next tV pV lV eV LV E w0 W) (hb : Outs X W W') (hX : ∀ k, some k ∈ X → base ≤ k ∧ k ≠ r ∧ k ≠ g ∧ eV.ownBlock ≠ some k) : RnK base r g p now next tV pV lV eV LV E w0 W' :=
 ⟨h.B.trans (hb.below (Nat.le_trans h.bb h.B.size) fun k e => (hX k e).1), h.R.outs hb (fun e => (hX _ e).2.1 rfl), h.V.outs hb (fun e => (hX _ e).2.2.1 rfl), hb.row h.E (fun k e hk => (hX k hk).2.2.2 e), h.rb, h.gb, h.rg, h.er, h.eg, h.bb⟩
theorem RnK.turn {base r g : Nat} {p p' : Par} {now next now' next' : Int} {tV tV' pV lV eV : Value} {LV : List Lv} {E : List Ev} {w0 W W' : World} (h : RnK base r g p now next tV pV lV eV LV E w0 W) (hb : Only r W W') (hR : RunAt r p' now' next' tV' pV lV eV W') : RnK base r g p' now' next' tV' pV lV eV LV E w0 W' :=
 ⟨h.B.trans (hb.below h.rb (Nat.le_trans h.bb h.B.size)), hR, h.V.outs (Outs.of_only (X := [some r]) hb (List.mem_singleton.2 rfl)) (fun e => h.rg (Option.some.inj (List.mem_singleton.1 e)).symm), Outs.row (Outs.of_only (X := [some r]) hb (List.mem_singleton.2 rfl)) h.E (fun k e hk => by
  have := Option.some.inj (List.mem_singleton.1 hk)
  subst this
  exact h.er e), h.rb, h.gb, h.rg, h.er, h.eg, h.bb⟩
theorem RnK.setT {base r g : Nat} {p : Par} {now next : Int} {tV pV lV eV : Value} {LV : List Lv} {E : List Ev} {w0 W : World} (h : RnK base r g p now next tV pV lV eV LV E w0 W) (v : Value) (hb : Only r W (W.setCell ⟨r, 6, none⟩ v)) : RnK base r g p now next v pV lV eV LV E w0 (W.setCell ⟨r, 6, none⟩ v) := h.turn hb (h.R.setT v)
theorem RnK.below {base r g : Nat} {p : Par} {now next : Int} {tV pV lV eV : Value} {LV : List Lv} {E : List Ev} {w0 W W' : World} (h : RnK base r g p now next tV pV lV eV LV E w0 W) (hb : Below W.heap.size W W') : RnK base r g p now next tV pV lV eV LV E w0 W' :=
 h.outs (Outs.of_below (X := []) hb) (fun k e => by cases e)
theorem RnK.xr {base r g : Nat} {p : Par} {now next : Int} {tV pV lV eV : Value} {LV : List Lv} {E : List Ev} {w0 W : World} (h : RnK base r g p now next tV pV lV eV LV E w0 W) : ∀ k, some k ∈ XR r g eV → base ≤ k ∧ k < W.heap.size := fun k hk => by
 rcases List.mem_cons.1 hk with e | hk
 ·cases e; exact ⟨h.rb, h.R.lt⟩
 ·rcases List.mem_cons.1 hk with e | hk
  ·cases e
   obtain ⟨cs, h1, -⟩ := h.V
   exact ⟨h.gb, lt_of_block h1⟩
  ·have e := List.mem_singleton.1 hk
   exact h.E.lt k e.symm
structure RoK (base r g T : Nat) (p : Par) (now next : Int) (tV pV lV eV : Value) (LV : List Lv) (E : List Ev) (q : TB) (lv : Value) (M : List TB) (w0 W : World) : Prop where
 K : RnK base r g p now next tV pV lV eV LV E w0 W
 L : Lf base (some T :: XR r g eV) lv M W
 X : W.heap[T]? = some (.cells (tkC q) 46 (0, 0))
 tb : base ≤ T
 tr : T ≠ r
 tg : T ≠ g
 te : eV.ownBlock ≠ some T
theorem RoK.new {base r g : Nat} {p : Par} {now next : Int} {tV pV lV eV : Value} {LV : List Lv} {E : List Ev} {lv : Value} {M : List TB} {w0 W : World} (q : TB) (h : RnK base r g p now next tV pV lV eV LV E w0 W) (hL : Lf base (XR r g eV) lv M W) :
    RoK base r g W.heap.size p now next tV pV lV eV LV E q lv M w0 (W.alloc (.cells (tkC q) 46)) := by
 refine ⟨h.below (below_alloc _ _), (hL.turn fun k hk => ?_).below (below_alloc _ _), block_new _ _ rfl, Nat.le_trans h.bb h.B.size, ?_, ?_, ?_⟩
 ·rcases List.mem_cons.1 hk with e | e
  ·cases e; exact Or.inr (Nat.le_refl _)
  ·exact Or.inl e
 ·have := h.R.lt; omega
 ·have := (h.xr g (by unfold XR; simp)).2; omega
 ·intro e
  have := (h.E.lt _ e).2
  omega
theorem RoK.below {base r g T : Nat} {p : Par} {now next : Int} {tV pV lV eV : Value} {LV : List Lv} {E : List Ev} {q : TB} {lv : Value} {M : List TB} {w0 W W' : World} (h : RoK base r g T p now next tV pV lV eV LV E q lv M w0 W) (hb : Below W.heap.size W W') : RoK base r g T p now next tV pV lV eV LV E q lv M w0 W' :=
 ⟨h.K.below hb, h.L.below hb, keepO hb h.X, h.tb, h.tr, h.tg, h.te⟩
theorem RoK.lts {base r g T : Nat} {p : Par} {now next : Int} {tV pV lV eV : Value} {LV : List Lv} {E : List Ev} {q : TB} {lv : Value} {M : List TB} {w0 W : World} (h : RoK base r g T p now next tV pV lV eV LV E q lv M w0 W) : ∀ k, some k ∈ lv.ownBlock :: some T :: XR r g eV → k < W.heap.size := fun k hk => by
 rcases List.mem_cons.1 hk with e | hk
 ·exact (h.L.lt e.symm).2
 ·rcases List.mem_cons.1 hk with e | hk
  ·cases e; exact lt_of_block h.X
  ·exact (h.K.xr k hk).2
theorem RoK.store {base r g T : Nat} {p : Par} {now next : Int} {tV pV lV eV : Value} {LV : List Lv} {E : List Ev} {q q' : TB} {lv : Value} {M : List TB} {w0 W W' : World} (h : RoK base r g T p now next tV pV lV eV LV E q lv M w0 W) (hb : Only T W W') (hT : W'.heap[T]? = some (.cells (tkC q') 46 (0, 0))) : RoK base r g T p now next tV pV lV eV LV E q' lv M w0 W' :=
 ⟨h.K.outs (Outs.of_only (X := [some T]) hb (by simp)) (fun k e => by
     have := Option.some.inj (List.mem_singleton.1 e)
     subst this
     exact ⟨h.tb, h.tr, h.tg, h.te⟩), h.L.outs (Outs.of_only hb List.mem_cons_self), hT, h.tb, h.tr, h.tg, h.te⟩
theorem RoK.note {base r g T : Nat} {p : Par} {now next : Int} {tV pV lV eV : Value} {LV : List Lv} {E : List Ev} {q : TB} {lv : Value} {M : List TB} {w0 W W' : World} {x : Ev} {e : Ending} (h : RoK base r g T p now next tV pV lV eV LV E q lv M w0 W) (hn : NotePost r base p now next tV pV lV eV E x W e W') :
    ∃ eV', e = .returned (.tuple #[]) ∧ RoK base r g T p now next tV pV lV eV' LV (E ++ [x]) q lv M w0 W' ∧ (∀ q' : TB, BdX base (lv.ownBlock :: some T :: XR r g eV) W q' → BdX base (lv.ownBlock :: some T :: XR r g eV') W' q') ∧ Outs [some r, eV.ownBlock] W W' ∧
     ∀ (v' : Value) (M' : List TB), Lf base (lv.ownBlock :: some T :: XR r g eV) v' M' W → Lf base (lv.ownBlock :: some T :: XR r g eV') v' M' W' := by
 obtain ⟨eV', rfl, hR, hE, ha, hO⟩ := hn
 have hmem : ∀ x ∈ [some r, eV.ownBlock], x ∈ some T :: XR r g eV := fun x hx => by
  rcases List.mem_cons.1 hx with e | hx
  ·rw [e]; unfold XR; simp
  ·rw [List.mem_singleton.1 hx]; unfold XR; simp
 have hY : ∀ k, some k ∈ some T :: XR r g eV' → some k ∈ some T :: XR r g eV ∨ W.heap.size ≤ k := fun k hk => by
  rcases List.mem_cons.1 hk with e | hk
  ·exact Or.inl (by rw [e]; exact List.mem_cons_self)
  ·rcases List.mem_cons.1 hk with e | hk
   ·exact Or.inl (by rw [e]; unfold XR; simp)
   ·rcases List.mem_cons.1 hk with e | hk
    ·exact Or.inl (by rw [e]; unfold XR; simp)
    ·have e := List.mem_singleton.1 hk
     rcases ha with c | ⟨g', c, hg'⟩
     ·exact Or.inl (by rw [e, c]; unfold XR; simp)
     ·rw [c] at e
      have := Option.some.inj e
      exact Or.inr (by omega)
 have hY' : ∀ k, some k ∈ lv.ownBlock :: some T :: XR r g eV' → some k ∈ lv.ownBlock :: some T :: XR r g eV ∨ W.heap.size ≤ k := fun k hk => by
  rcases List.mem_cons.1 hk with e | e
  ·exact Or.inl (by rw [e]; exact List.mem_cons_self)
  ·rcases hY k e with c | c
   ·exact Or.inl (List.mem_cons_of_mem _ c)
   ·exact Or.inr c
 have hne : ∀ k, (eV.ownBlock ≠ some k) → k < W.heap.size → eV'.ownBlock ≠ some k := fun k hk hl e => by
  rcases ha with c | ⟨g', c, hg'⟩
  ·exact hk (by rw [← c]; exact e)
  ·rw [c] at e
   have := Option.some.inj e
   omega
 have gl : g < W.heap.size := (h.K.xr g (by unfold XR; simp)).2
 have hbl : ∀ k, some k ∈ [some r, eV.ownBlock] → base ≤ k := fun k hk => by
  rcases List.mem_cons.1 hk with e | hk
  ·cases e; exact h.K.rb
  ·exact (h.K.E.lt k (List.mem_singleton.1 hk).symm).1
 refine ⟨eV', rfl, ⟨⟨h.K.B.trans (hO.below (Nat.le_trans h.K.bb h.K.B.size) hbl), hR, h.K.V.outs hO (fun e => ?_), hE, h.K.rb, h.K.gb, h.K.rg, hne r h.K.er h.K.R.lt, hne g h.K.eg gl, h.K.bb⟩, h.L.next (hO.mono hmem) hY, hO.keeps h.X (fun e => ?_), h.tb, h.tr, h.tg, hne T h.te (lt_of_block h.X)⟩, fun q' hq => hq.next (hO.mono fun x hx => List.mem_cons_of_mem _ (hmem x hx)) hY', hO, fun v' M' hL => hL.next (hO.mono fun x hx => List.mem_cons_of_mem _ (hmem x hx)) hY'⟩
 ·rcases List.mem_cons.1 e with e | e
  ·exact h.K.rg (Option.some.inj e).symm
  ·exact h.K.eg (List.mem_singleton.1 e).symm
 ·rcases List.mem_cons.1 e with e | e
  ·exact h.tr (Option.some.inj e)
  ·exact h.te (List.mem_singleton.1 e).symm
theorem RoK.drop {base r g T : Nat} {p : Par} {now next : Int} {tV pV lV eV : Value} {LV : List Lv} {E : List Ev} {q : TB} {lv : Value} {M : List TB} {w0 W : World} (h : RoK base r g T p now next tV pV lV eV LV E q lv M w0 W) : RnK base r g p now next tV pV lV eV LV E w0 W ∧ Lf base (XR r g eV) lv M W :=
 ⟨h.K, h.L.turn fun _ hk => Or.inl (List.mem_cons_of_mem _ hk)⟩
theorem RoK.app {base r g T : Nat} {p : Par} {now next : Int} {tV pV lV eV : Value} {LV : List Lv} {E : List Ev} {q : TB} {lv v' : Value} {M : List TB} {w0 W W' : World} (h : RoK base r g T p now next tV pV lV eV LV E q lv M w0 W) (hq : BdX base (lv.ownBlock :: some T :: XR r g eV) W q)
    (ho : W'.ownsRow base 46 10 v' (M.length + 1) (flat10 M ++ (tkC q).toList)) (hg : W.grownBy W' lv.ownBlock) (ha : v'.ownBlock = lv.ownBlock ∨ v'.ownBlock = some W.heap.size) : RnK base r g p now next tV pV lV eV LV E w0 W' ∧ Lf base (XR r g eV) v' (M ++ [q]) W' := by
 have hX : ∀ k, some k ∈ some T :: XR r g eV → k < W.heap.size := fun k hk => by
  rcases List.mem_cons.1 hk with e | e
  ·cases e; exact lt_of_block h.X
  ·exact (h.K.xr k e).2
 refine ⟨h.K.outs (Outs.of_grown (X := [lv.ownBlock]) hg (fun _ e => by rw [← e]; exact List.mem_singleton.2 rfl)) (fun k e => ?_), (h.L.snoc hq hX ho hg ha).turn fun k hk => Or.inl (List.mem_cons_of_mem _ hk)⟩
 have e := (List.mem_singleton.1 e).symm
 have h1 := h.L.ne k e
 refine ⟨(h.L.lt e).1, fun c => h1 (by rw [c]; unfold XR; simp), fun c => h1 (by rw [c]; unfold XR; simp), fun c => h1 (by rw [← c]; unfold XR; simp)⟩
theorem Lf.beside {base : Nat} {X : List (Option Nat)} {T : Nat} {lv v' sv : Value} {M : List TB} {W W' : World} (h : Lf base (lv.ownBlock :: some T :: X) sv M W) (hg : W.grownBy W' lv.ownBlock) (ha : v'.ownBlock = lv.ownBlock ∨ v'.ownBlock = some W.heap.size) : Lf base (v'.ownBlock :: X) sv M W' :=
 h.next (Outs.of_grown hg (fun _ e => by rw [← e]; exact List.mem_cons_self)) fun k hk => by
  rcases List.mem_cons.1 hk with e | e
  ·rcases ha with q | q
   ·exact Or.inl (by rw [e, q]; exact List.mem_cons_self)
   ·rw [q] at e
    exact Or.inr (Nat.le_of_eq (Option.some.inj e).symm)
  ·exact Or.inl (List.mem_cons_of_mem _ (List.mem_cons_of_mem _ e))
theorem Lf.less {base : Nat} {X : List (Option Nat)} {T : Nat} {lv sv : Value} {M : List TB} {W : World} (h : Lf base (lv.ownBlock :: some T :: X) sv M W) : Lf base (lv.ownBlock :: X) sv M W :=
 h.turn fun k hk => by
  rcases List.mem_cons.1 hk with e | e
  ·exact Or.inl (by rw [e]; exact List.mem_cons_self)
  ·exact Or.inl (List.mem_cons_of_mem _ (List.mem_cons_of_mem _ e))
end Go.Proofs.Ytikjjpjekchcjaa
end
section
namespace Go.Proofs.Ytikjjpjekchcjaa
open Go.RowKit TrkMath MyHeap MyOwn
structure TbR where
 par : Par
 now : Int
 next : Int
 tk : List Tk
def tbR0 : TbR := ⟨par0, 0, 0, []⟩
def cyR (p : Par) (now next : Int) (L : List Tk) (P : List Pl) : TbR := if cyE p now next L P = 0 then ⟨p, now + 1, cyX p next L P, cyT p next L P⟩ else tbR0
def cyW (p : Par) (now next : Int) (L : List Tk) (P : List Pl) : List Ev := if cyE p now next L P = 0 then cyV p next L P else []
theorem cyR_ok {p : Par} {now next : Int} {L : List Tk} {P : List Pl} (h : cyE p now next L P = 0) : cyR p now next L P = ⟨p, now + 1, cyX p next L P, cyT p next L P⟩ ∧ cyW p now next L P = cyV p next L P := ⟨if_pos h, if_pos h⟩
theorem cyR_bad {p : Par} {now next : Int} {L : List Tk} {P : List Pl} (h : cyE p now next L P ≠ 0) : cyR p now next L P = tbR0 ∧ cyW p now next L P = [] := ⟨if_neg h, if_neg h⟩
def CyPost (ty : TypeId) (R : TbR) (V : List Ev) (E : Int) (w : World) (e : Ending) (w' : World) : Prop :=
 ∃ tV eV M, e = .returned (.tuple #[tbV R.par R.now R.next tV, eV, .int .i64 E]) ∧ Lf w.heap.size [eV.ownBlock] tV M w' ∧ fsts M = R.tk ∧ w'.ownsRow w.heap.size ty 3 eV V.length (flatE V) ∧ Below w.heap.size w w'
theorem cyPost_bad {ty : TypeId} {R : TbR} {V : List Ev} {E : Int} {w w' : World} (hR : R = tbR0) (hV : V = []) (hB : Below w.heap.size w w') : CyPost ty R V E w (.returned (.tuple #[tbV par0 0 0 (.slice none 0 0), .slice none 0 0, .int .i64 E])) w' := by
 subst hR; subst hV
 exact ⟨_, _, [], rfl, Lf.nil _ _ _, rfl, ⟨rfl, Or.inl ⟨rfl, rfl⟩⟩, hB⟩
def LVk (P : List Pl) (k : Nat) : List Lv := (List.range P.length).map fun i => if i < k then lvOf (gp P i) else (0, 0)
theorem LVk_len (P : List Pl) (k : Nat) : (LVk P k).length = P.length := by unfold LVk; simp
theorem LVk_get (P : List Pl) (k i : Nat) (hi : i < P.length) : (LVk P k)[i]? = some (if i < k then lvOf (gp P i) else (0, 0)) := by
 unfold LVk
 rw [List.getElem?_map, List.getElem?_range hi]
 rfl
theorem LVk_none (P : List Pl) (k : Nat) (h : lvOf (gp P k) = (0, 0)) : LVk P (k + 1) = LVk P k := by
 unfold LVk
 refine List.map_congr_left fun i _ => ?_
 by_cases h1 : i < k
 ·rw [if_pos h1, if_pos (by omega)]
 ·rw [if_neg h1]
  by_cases h2 : i = k
  ·subst h2; rw [if_pos (by omega), h]
  ·rw [if_neg (by omega)]
theorem LVk_set (P : List Pl) (k : Nat) : LVk P (k + 1) = (LVk P k).set k (lvOf (gp P k)) := by
 apply List.ext_getElem?
 intro i
 rw [List.getElem?_set, LVk_len]
 by_cases hi : i < P.length
 ·rw [LVk_get _ _ _ hi, LVk_get _ _ _ hi]
  by_cases e : k = i
  ·subst e
   rw [if_pos rfl, if_pos hi, if_pos (by omega)]
  ·rw [if_neg e]
   by_cases h1 : i < k
   ·rw [if_pos h1, if_pos (by omega)]
   ·rw [if_neg h1, if_neg (by omega)]
 ·rw [List.getElem?_eq_none (by rw [LVk_len]; omega), List.getElem?_eq_none (by rw [LVk_len]; omega)]
  by_cases e : k = i
  ·subst e; rw [if_pos rfl, if_neg hi]
  ·rw [if_neg e]
theorem LVk_all (P : List Pl) : LVk P P.length = P.map lvOf := by
 apply List.ext_getElem?
 intro i
 by_cases hi : i < P.length
 ·rw [LVk_get _ _ _ hi, if_pos hi, List.getElem?_map]
  unfold gp
  rw [List.getElem?_eq_getElem hi]
  rfl
 ·rw [List.getElem?_eq_none (by rw [LVk_len]; omega), List.getElem?_eq_none (by rw [List.length_map]; omega)]
theorem flat2_set : ∀ (l : List Lv) (k : Nat) (a b : Int), k < l.length → flat2 (l.set k (a, b)) = ((flat2 l).set (k * 2) (.int .i64 a)).set (k * 2 + 1) (.int .i64 b) := by
 intro l
 induction l with
 | nil => intro k a b h; exact absurd h (Nat.not_lt_zero _)
 | cons x l ih =>
  intro k a b h
  cases k with
  | zero => rfl
  | succ k =>
   have e : (k + 1) * 2 = k * 2 + 2 := by omega
   rw [e]
   show _ :: _ :: flat2 (l.set k (a, b)) = _
   rw [ih k a b (by simpa using h)]
   rfl
theorem LvAt.set {g : Nat} {LV : List Lv} {w : World} (h : LvAt g LV w) {k : Nat} (hk : k < LV.length) (a b : Int) : LvAt g (LV.set k (a, b)) ((w.setCell ⟨g, k * 2, none⟩ (.int .i64 a)).setCell ⟨g, k * 2 + 1, none⟩ (.int .i64 b)) := by
 obtain ⟨cs, h1, h2⟩ := h
 refine ⟨_, block_setCell (block_setCell h1), ?_⟩
 rw [flat2_set _ _ _ _ hk, ← h2, Array.toList_setIfInBounds, Array.toList_setIfInBounds]
theorem LvAt.free {g k : Nat} {LV : List Lv} {w : World} (h : LvAt g LV w) : w.frozen? ⟨g, k, none⟩ = false ∧ g < w.heap.size := by
 obtain ⟨cs, h1, -⟩ := h
 exact ⟨free_of_block h1, lt_of_block h1⟩
theorem infoLv : (Try.prog.info? 84).map (fun i => (i.zero, i.size, i.bytes)) = some (some (.agg #[.int .i64 0, .int .i64 0]), 2, 16) := by kernel_rfl
theorem hmkL (n : Nat) (hn : n ≤ 1000000) (W : World) : (Instr.makeSlice 77 (.int .i64 (n : Int)) (.int .i64 (n : Int))).run Try.prog W = .ok (.slice (some ⟨W.heap.size, 0, none⟩) n n) (W.alloc (.cells (madeCells #[.int .i64 0, .int .i64 0] (n * 2)) 84)) := by
 obtain ⟨i0, hi, hiz, his, hib⟩ := info_pts infoLv
 have h := run_make W 77 84 i0 _ Try.underlying77 hi hiz .i64 .i64 (n : Int) (n : Int) (by omega) (by omega) (by rw [hib]; omega) (by omega)
 rw [Int.toNat_natCast, his] at h
 exact h
theorem lv_made (P : List Pl) (n : Nat) (hn : P.length = n) (w : World) : LvAt w.heap.size (LVk P 0) (w.alloc (.cells (madeCells #[.int .i64 0, .int .i64 0] (n * 2)) 84)) := by
 refine ⟨_, block_new _ _ rfl, ?_⟩
 have h1 : ∀ l : List Lv, (∀ x ∈ l, x = (0, 0)) → flat2 l = List.replicate (l.length * 2) (.int .i64 0) := by
  intro l
  induction l with
  | nil => intro _; rfl
  | cons x l ih =>
   intro h
   have hx := h x List.mem_cons_self
   subst hx
   show _ :: _ :: flat2 l = _
   rw [ih (fun y hy => h y (List.mem_cons_of_mem _ hy)), show (((0 : Int), (0 : Int)) :: l).length * 2 = l.length * 2 + 1 + 1 from by simp; omega, List.replicate_succ, List.replicate_succ]
 rw [h1 _ (fun x hx => by
  unfold LVk at hx
  obtain ⟨i, -, rfl⟩ := List.mem_map.1 hx
  rw [if_neg (Nat.not_lt_zero _)]), LVk_len, hn]
 apply List.ext_getElem?
 intro i
 by_cases hi : i < n * 2
 ·rw [List.getElem?_replicate, if_pos hi]
  simp [madeCells, hi]
  rcases Nat.mod_two_eq_zero_or_one i with e | e <;> simp [e]
 ·rw [List.getElem?_eq_none (by simp [madeCells]; omega), List.getElem?_eq_none (by simp; omega)]
end Go.Proofs.Ytikjjpjekchcjaa
end
