/-
  A region that draws its order, with calls that make memory and guarded operations whose guard is decided, walked by plain steps (printed by wip/unheld.py): what is not wanted is passed over, what yields in every world that meets S is taken first. No program in sight.
-/
import Derived.Deep.RegionHeld3
namespace Go.MyHeld
variable {P : Program} {l : List Oper} {Q : Exit → Act → World → Prop} {md : Region.Mode} {S : World → Prop}

/-- o stands at place i of a list that is written out. -/
inductive At : List Oper → Nat → Oper → Prop
  | z {o : Oper} {l : List Oper} : At (o :: l) 0 o
  | s {o q : Oper} {l : List Oper} {i : Nat} : At l i o → At (q :: l) (i + 1) o
theorem at_of {l : List Oper} {i : Nat} {o : Oper} (h : At l i o) : l.toArray[i]? = some o := by
  induction h with
  | z => simp
  | s _ ih => simpa using ih
/-- Number i is not wanted: it is passed over. -/
theorem skip (i : Nat) {oi : Oper} {fuel : Nat} {listed : Array Bool} {a : Act} {w : World} (hi : At l i oi)
    (hs : Region.noSelect l.toArray = true) (hf : Region.free md l.toArray listed i = true) (hr : (Region.ready md l.toArray listed).contains i = true)
    (hQ : ∀ c a w, Q (.panic c) (a.put oi.dst undef) w → Q (.panic c) a w) (hw : Region.wanted oi (yielded l.toArray a.tmps) = false) (hS : S w)
    (h : wpAnyH P md l.toArray Q S fuel (listed.setIfInBounds i true) (a.put oi.dst undef) w) : wpAnyH P md l.toArray Q S (fuel + 1) listed a w :=
  wpAnyH_take (at_of hi) hs hf hr hQ (Or.inr ⟨hw, rfl⟩) hS h
/-- Number i is wanted and yields v in every world that meets S: it is taken first. -/
theorem take (i : Nat) {oi : Oper} {v : Value} {fuel : Nat} {listed : Array Bool} {a : Act} {w : World} (hi : At l i oi)
    (hs : Region.noSelect l.toArray = true) (hf : Region.free md l.toArray listed i = true) (hr : (Region.ready md l.toArray listed).contains i = true)
    (hQ : ∀ c a w, Q (.panic c) (a.put oi.dst v) w → Q (.panic c) a w) (hw : Region.wanted oi (yielded l.toArray a.tmps) = true) (hS : S w)
    (hy : ∀ w, S w → (execOp a.eval oi).run P w = .ok (.value v) w)
    (h : wpAnyH P md l.toArray Q S fuel (listed.setIfInBounds i true) (a.put oi.dst v) w) : wpAnyH P md l.toArray Q S (fuel + 1) listed a w :=
  wpAnyH_take (at_of hi) hs hf hr hQ (Or.inl ⟨hw, hy⟩) hS h
/-- Number i comes up; then the others of rs. -/
theorem next (i : Nat) {fuel : Nat} {listed : Array Bool} {a : Act} {w : World} {o : Oper} {rs : List Nat} (ho : At l i o)
    (h : ∀ K' : Act → World → Prop, Shut (∀ a w, S w → (S w → wpAnyH P md l.toArray Q S fuel (listed.setIfInBounds i true) a w) → K' a w) → if Region.wanted o (yielded l.toArray a.tmps) = true then Oper.wp P o a w K' Q else K' (a.put o.dst undef) w)
    (hs : AllReadyH P md l.toArray Q S fuel listed a w rs) : AllReadyH P md l.toArray Q S fuel listed a w (i :: rs) := AllReadyH.cons (at_of ho) h hs
end Go.MyHeld
