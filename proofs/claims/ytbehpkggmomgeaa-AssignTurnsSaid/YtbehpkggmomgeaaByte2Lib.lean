/-
  An array of two bytes by value, as it comes in. No program in sight.
-/
import Derived.Lib.SmallJoins
import Derived.ProofKit
import Derived.OpenShut
import Derived.WalkKit
namespace Go.MyByte2
open Go.ChangeShapes Go.WideShapes Go.ChangeAt Go.RowKit
section
variable {H : Type} {enc : TypeId × Value → H} {P : Program}
theorem open_bytes2 {r : Reach} {b0 : Nat} {t f : TypeId} {w : World} {v : Value} {d : DataW H} {p : List MemPlace} {base : Nat} {spare : Nat → Bool} {held : Bool} (hs : P.underlying t = some (.array 2 f)) (hC : P.cellsOf t = 2) (cf : P.cellsOf f = 1)
    (hf : P.underlying f = some (.int .u8)) (hv : Value.okWide P w r b0 t v) (h : DataW.Trod enc P w base spare held t v d p) :
    ∃ z u : Int, v = .agg #[.int .u8 z, .int .u8 u] ∧ (Lit.int .u8 z).wf = true ∧ (Lit.int .u8 u).wf = true := by
  have hv' : ∃ cs, v = .agg cs ∧ cs.size = P.cellsOf t := by
    simp only [Value.okWide, hs] at hv
    obtain ⟨cs, h1, h2, _⟩ := hv
    exact ⟨cs, h1, h2⟩
  obtain ⟨cs, rfl, hsz⟩ := hv'
  obtain ⟨c0, c1, rfl⟩ := Go.Joins.array2 (hsz.trans hC)
  obtain ⟨fuel, hfu⟩ := h
  obtain ⟨xs, m, _, _, _, hxl, hg⟩ := DataW.trod_array hs hfu
  have g0 := hg 0 (by omega)
  have g1 := hg 1 (by omega)
  match xs, hxl with
  | [y0, y1], _ =>
    simp [Value.cells, cf] at g0 g1
    obtain ⟨z, e0, _, w0⟩ := DataW.trod_int hf g0
    obtain ⟨u, e1, _, w1⟩ := DataW.trod_int hf g1
    simp only [List.cons.injEq, and_true] at e0 e1
    subst e0 e1
    exact ⟨z, u, rfl, w0, w1⟩
end
end Go.MyByte2
