/-
  A state of the rules, as it comes in.
-/
import Derived.Test.YtfgalaalopkclaaRulesNl
import Derived.Test.YtfgalaalopkclaaCaseRow
namespace Go.Proofs.Ytfgalaalopkclaa
open Go.ChangeShapes Go.WideShapes Go.ChangeAt Go.RowKit Go.Deep PlaneMath PilotMath RulesMath MyHeap

section
variable {H : Type} {enc : TypeId × Value → H}
theorem five_of {α : Type} {cs : Array α} (h : cs.size = 5) : ∃ c0 c1 c2 c3 c4, cs = #[c0, c1, c2, c3, c4] := by
  obtain ⟨l⟩ := cs
  match l, h with
  | [c0, c1, c2, c3, c4], _ => exact ⟨c0, c1, c2, c3, c4, rfl⟩
theorem adv_cells3 {W : World} {n : Nat} {c0 c1 c2 : Value} {y : DataW H × List MemPlace} (g : DataW.trod enc Try.prog W 0 (fun _ => true) true n 30 [c0, c1, c2] = some y) : ∃ x : Adv, c0 = .int .u8 x.s ∧ c1 = .int .i64 x.r ∧ c2 = .bool x.k ∧ 0 ≤ x.s := by
  obtain ⟨xs, m, _, _, hl, hlen, hg⟩ := DataW.trod_struct Try.underlying30 g
  have k3 : Try.prog.cellsOf 3 = 1 := by kernel_rfl
  have k4 : Try.prog.cellsOf 4 = 1 := by kernel_rfl
  have k5 : Try.prog.cellsOf 5 = 1 := by kernel_rfl
  match xs, hlen with
  | [r0, r1, r2], _ =>
  have g0 : DataW.trod enc Try.prog W 0 (fun _ => true) true m 5 [c0] = some r0 := by have := hg 0 _ rfl; simpa [k5] using this
  have g1 : DataW.trod enc Try.prog W 0 (fun _ => true) true m 3 [c1] = some r1 := by have := hg 1 _ rfl; simpa [k3] using this
  have g2 : DataW.trod enc Try.prog W 0 (fun _ => true) true m 4 [c2] = some r2 := by have := hg 2 _ rfl; simpa [k4] using this
  obtain ⟨x, e0, _, wx⟩ := DataW.trod_int Try.underlying5 g0
  obtain ⟨r, e1, _, _⟩ := DataW.trod_int Try.underlying3 g1
  obtain ⟨k, e2, _⟩ := DataW.trod_bool Try.underlying4 g2
  simp only [List.cons.injEq, and_true] at e0 e1 e2
  refine ⟨⟨x, r, k⟩, e0, e1, e2, ?_⟩
  simp [Lit.wf, IntKind.min, IntKind.max, IntKind.signed, IntKind.bits] at wx
  show 0 ≤ x
  omega
set_option maxRecDepth 100000 in
theorem open_nst {base : Nat} {W : World} {u : Value} {d : DataW H} {ps : List MemPlace} (hv : Value.okWide Try.prog W .any base 57 u) (h : DataW.Trod enc Try.prog W 0 (fun _ => true) true 57 u d ps) :
    ∃ st : NSt, u = nstV st ∧ 0 ≤ st.a.s := by
  obtain ⟨cs, rfl, hsz⟩ := okWide_struct Try.underlying57 hv
  have hC : Try.prog.cellsOf 57 = 5 := by kernel_rfl
  obtain ⟨c0, c1, c2, c3, c4, rfl⟩ := five_of (hsz.trans hC)
  obtain ⟨fuel, hf⟩ := h
  obtain ⟨xs, n, _, _, hl, hlen, hg⟩ := DataW.trod_struct Try.underlying57 hf
  have k3 : Try.prog.cellsOf 3 = 1 := by kernel_rfl
  have k4 : Try.prog.cellsOf 4 = 1 := by kernel_rfl
  have kA : Try.prog.cellsOf 30 = 3 := by kernel_rfl
  match xs, hlen with
  | [r0, r1, r2], _ =>
  have g0 : DataW.trod enc Try.prog W 0 (fun _ => true) true n 30 [c0, c1, c2] = some r0 := by have := hg 0 _ rfl; simpa [kA, Value.cells] using this
  have g1 : DataW.trod enc Try.prog W 0 (fun _ => true) true n 3 [c3] = some r1 := by have := hg 1 _ rfl; simpa [k3, Value.cells] using this
  have g2 : DataW.trod enc Try.prog W 0 (fun _ => true) true n 4 [c4] = some r2 := by have := hg 2 _ rfl; simpa [k4, Value.cells] using this
  obtain ⟨x, e0, e1, e2, hx⟩ := adv_cells3 g0
  obtain ⟨r, e3, _, _⟩ := DataW.trod_int Try.underlying3 g1
  obtain ⟨k, e4, _⟩ := DataW.trod_bool Try.underlying4 g2
  simp only [List.cons.injEq, and_true] at e3 e4
  subst e0 e1 e2 e3 e4
  exact ⟨⟨x, r, k⟩, rfl, hx⟩
end
end Go.Proofs.Ytfgalaalopkclaa
