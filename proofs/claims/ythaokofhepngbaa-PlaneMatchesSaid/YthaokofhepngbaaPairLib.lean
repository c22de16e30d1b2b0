/-
  A struct of two ints by value, a slice of such (or of arrays of two ints), as they come in. No program in sight.
-/
import Derived.Lib.SmallJoins
import Derived.Deep.SlicePairs
import Derived.ProofKit
import Derived.OpenShut
import Derived.WalkKit
namespace Go.MyPair
open Go.ChangeShapes Go.WideShapes Go.ChangeAt Go.RowKit Go.Deep

section
variable {H : Type} {enc : TypeId × Value → H} {P : Program}
theorem open_pair {r : Reach} {b0 : Nat} {t : TypeId} {f0 f1 : Field} {w : World} {v : Value} {d : DataW H} {p : List MemPlace} {base : Nat} {spare : Nat → Bool} {held : Bool} (hs : P.underlying t = some (.struct #[f0, f1])) (hone : oneCellFields P #[f0, f1] = true) (hC : P.cellsOf t = 2)
    (h0 : P.underlying f0.type = some (.int .i64)) (h1 : P.underlying f1.type = some (.int .i64))
    (hv : Value.okWide P w r b0 t v) (h : DataW.Trod enc P w base spare held t v d p) :
    ∃ z u : Int, v = .agg #[.int .i64 z, .int .i64 u] ∧ (Lit.int .i64 z).wf = true ∧ (Lit.int .i64 u).wf = true := by
  obtain ⟨v0, v1, y0, y1, n, rfl, _, _, g0, g1⟩ := Go.Joins.open_agg2 hs hone hC hv h
  obtain ⟨z, e0, _, w0⟩ := DataW.trod_int h0 g0
  obtain ⟨u, e1, _, w1⟩ := DataW.trod_int h1 g1
  simp only [List.cons.injEq, and_true] at e0 e1
  subst e0 e1
  exact ⟨z, u, rfl, w0, w1⟩
end
end Go.MyPair
