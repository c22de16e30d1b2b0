/-
  A case (a setting, two aircraft, three numbers), as it comes in.
-/
import Derived.Test.YtfgalaalopkclaaRulesO
import Derived.Lib.SmallJoins
import Derived.Deep.SlicePairs
import Derived.ProofKit
import Derived.OpenShut
namespace Go.Proofs.Ytfgalaalopkclaa
open Go.ChangeShapes Go.WideShapes Go.ChangeAt Go.RowKit Go.Deep PlaneMath PilotMath RulesMath MyHeap

section
variable {H : Type} {enc : TypeId × Value → H}
theorem eleven_of {α : Type} {cs : Array α} (h : cs.size = 11) : ∃ c0 c1 c2 c3 c4 c5 c6 c7 c8 c9 c10, cs = #[c0, c1, c2, c3, c4, c5, c6, c7, c8, c9, c10] := by
  obtain ⟨l⟩ := cs
  match l, h with
  | [c0, c1, c2, c3, c4, c5, c6, c7, c8, c9, c10], _ => exact ⟨c0, c1, c2, c3, c4, c5, c6, c7, c8, c9, c10, rfl⟩
theorem plane_cells {W : World} {n : Nat} {c0 c1 : Value} {y : DataW H × List MemPlace} (g : DataW.trod enc Try.prog W 0 (fun _ => true) true n 26 [c0, c1] = some y) : ∃ z v : Int, c0 = .int .i64 z ∧ c1 = .int .i64 v := by
  obtain ⟨xs, m, _, _, hl, hlen, hg⟩ := DataW.trod_struct Try.underlying26 g
  have k3 : Try.prog.cellsOf 3 = 1 := by kernel_rfl
  match xs, hlen with
  | [r0, r1], _ =>
  have g0 : DataW.trod enc Try.prog W 0 (fun _ => true) true m 3 [c0] = some r0 := by have := hg 0 _ rfl; simpa [k3] using this
  have g1 : DataW.trod enc Try.prog W 0 (fun _ => true) true m 3 [c1] = some r1 := by have := hg 1 _ rfl; simpa [k3] using this
  obtain ⟨z, e0, _, _⟩ := DataW.trod_int Try.underlying3 g0
  obtain ⟨v, e1, _, _⟩ := DataW.trod_int Try.underlying3 g1
  simp only [List.cons.injEq, and_true] at e0 e1
  exact ⟨z, v, e0, e1⟩
theorem ints_cells {W : World} {n : Nat} {c0 : Value} {y : DataW H × List MemPlace} (g : DataW.trod enc Try.prog W 0 (fun _ => true) true n 22 [c0] = some y) : ∃ a m c l, c0 = .slice a m c ∧ Ints W a m l := by
  rcases open_ints Try.underlying22 Try.underlying3 (by kernel_rfl) g with ⟨hcs, hx⟩ | ⟨a, len, cap, zs, hcs, _, hl, hm, hz, hx, hcell, hwz⟩
  · simp at hcs
    exact ⟨none, 0, 0, [], hcs, rfl, by decide, Or.inl rfl⟩
  · simp at hcs
    simp only [if_true] at hz
    unfold maxLen at hm
    refine ⟨some a, len, cap, zs.take len, hcs, ⟨by rw [List.length_take]; omega, by omega, ?_⟩⟩
    by_cases h0 : len = 0
    · exact Or.inl h0
    · obtain ⟨b, off, rfl, hc'⟩ := Go.ints_at hcell (by omega)
      refine Or.inr ⟨b, off, rfl, fun i hi => ?_⟩
      unfold gr
      rw [hc' i (by omega), List.getElem?_take, if_pos hi, List.getD_eq_getElem?_getD]
theorem set_cells {W : World} {n : Nat} {c0 c1 c2 c3 : Value} {y : DataW H × List MemPlace} (g : DataW.trod enc Try.prog W 0 (fun _ => true) true n 24 [c0, c1, c2, c3] = some y) : ∃ a m c s, c0 = .slice a m c ∧ c1 = .int .i64 s.alim ∧ c2 = .int .i64 s.d ∧ c3 = .int .i64 s.pl ∧ Ints W a m (RulesMath.Set.rs s) := by
  obtain ⟨xs, m, _, _, hl, hlen, hg⟩ := DataW.trod_struct Try.underlying24 g
  have k3 : Try.prog.cellsOf 3 = 1 := by kernel_rfl
  have k22 : Try.prog.cellsOf 22 = 1 := by kernel_rfl
  match xs, hlen with
  | [r0, r1, r2, r3], _ =>
  have g0 : DataW.trod enc Try.prog W 0 (fun _ => true) true m 22 [c0] = some r0 := by have := hg 0 _ rfl; simpa [k22] using this
  have g1 : DataW.trod enc Try.prog W 0 (fun _ => true) true m 3 [c1] = some r1 := by have := hg 1 _ rfl; simpa [k3] using this
  have g2 : DataW.trod enc Try.prog W 0 (fun _ => true) true m 3 [c2] = some r2 := by have := hg 2 _ rfl; simpa [k3] using this
  have g3 : DataW.trod enc Try.prog W 0 (fun _ => true) true m 3 [c3] = some r3 := by have := hg 3 _ rfl; simpa [k3] using this
  obtain ⟨a, q, c, l, e0, hI⟩ := ints_cells g0
  obtain ⟨x1, e1, _, _⟩ := DataW.trod_int Try.underlying3 g1
  obtain ⟨x2, e2, _, _⟩ := DataW.trod_int Try.underlying3 g2
  obtain ⟨x3, e3, _, _⟩ := DataW.trod_int Try.underlying3 g3
  simp only [List.cons.injEq, and_true] at e1 e2 e3
  exact ⟨a, q, c, ⟨l, x1, x2, x3⟩, e0, e1, e2, e3, hI⟩
set_option maxRecDepth 100000 in
set_option maxHeartbeats 1000000 in
theorem open_case {base : Nat} {W : World} {u : Value} {d : DataW H} {ps : List MemPlace} (hv : Value.okWide Try.prog W .any base 28 u) (h : DataW.Trod enc Try.prog W 0 (fun _ => true) true 28 u d ps) :
    ∃ a n c s z v z' v' t fl k, u = scnV a n c s z v z' v' t fl k ∧ Ints W a n s.rs := by
  obtain ⟨cs, rfl, hsz⟩ := okWide_struct Try.underlying28 hv
  have hC : Try.prog.cellsOf 28 = 11 := by kernel_rfl
  obtain ⟨c0, c1, c2, c3, c4, c5, c6, c7, c8, c9, c10, rfl⟩ := eleven_of (hsz.trans hC)
  obtain ⟨fuel, hf⟩ := h
  obtain ⟨xs, n, _, _, hl, hlen, hg⟩ := DataW.trod_struct Try.underlying28 hf
  have k24 : Try.prog.cellsOf 24 = 4 := by kernel_rfl
  have k26 : Try.prog.cellsOf 26 = 2 := by kernel_rfl
  have k3 : Try.prog.cellsOf 3 = 1 := by kernel_rfl
  have k5 : Try.prog.cellsOf 5 = 1 := by kernel_rfl
  have k22 : Try.prog.cellsOf 22 = 1 := by kernel_rfl
  match xs, hlen with
  | [r0, r1, r2, r3, r4, r5], _ =>
  have g0 : DataW.trod enc Try.prog W 0 (fun _ => true) true n 24 [c0, c1, c2, c3] = some r0 := by have := hg 0 _ rfl; simpa [k24, Value.cells] using this
  have g1 : DataW.trod enc Try.prog W 0 (fun _ => true) true n 26 [c4, c5] = some r1 := by have := hg 1 _ rfl; simpa [k26, Value.cells] using this
  have g2 : DataW.trod enc Try.prog W 0 (fun _ => true) true n 26 [c6, c7] = some r2 := by have := hg 2 _ rfl; simpa [k26, Value.cells] using this
  have g3 : DataW.trod enc Try.prog W 0 (fun _ => true) true n 3 [c8] = some r3 := by have := hg 3 _ rfl; simpa [k3, Value.cells] using this
  have g4 : DataW.trod enc Try.prog W 0 (fun _ => true) true n 3 [c9] = some r4 := by have := hg 4 _ rfl; simpa [k3, Value.cells] using this
  have g5 : DataW.trod enc Try.prog W 0 (fun _ => true) true n 5 [c10] = some r5 := by have := hg 5 _ rfl; simpa [k5, Value.cells] using this
  obtain ⟨t, e8, _, _⟩ := DataW.trod_int Try.underlying3 g3
  obtain ⟨fl, e9, _, _⟩ := DataW.trod_int Try.underlying3 g4
  obtain ⟨k, e10, _, _⟩ := DataW.trod_int Try.underlying5 g5
  simp only [List.cons.injEq, and_true] at e8 e9 e10
  obtain ⟨a, m, c, s, e0, e1, e2, e3, hI⟩ := set_cells g0
  obtain ⟨z, v, e4, e5⟩ := plane_cells g1
  obtain ⟨z', v', e6, e7⟩ := plane_cells g2
  subst e0 e1 e2 e3 e4 e5 e6 e7 e8 e9 e10
  exact ⟨a, m, c, s, z, v, z', v', t, fl, k, rfl, hI⟩
set_option maxRecDepth 100000 in
theorem open_advr {base : Nat} {W : World} {u : Value} {d : DataW H} {ps : List MemPlace} (hv : Value.okWide Try.prog W .any base 30 u) (h : DataW.Trod enc Try.prog W 0 (fun _ => true) true 30 u d ps) :
    ∃ x : Adv, u = .agg #[.int .u8 x.s, .int .i64 x.r, .bool x.k] ∧ 0 ≤ x.s := by
  obtain ⟨cs, rfl, hsz⟩ := okWide_struct Try.underlying30 hv
  have hC : Try.prog.cellsOf 30 = 3 := by kernel_rfl
  obtain ⟨c0, c1, c2, rfl⟩ := Go.Joins.array3 (hsz.trans hC)
  obtain ⟨fuel, hf⟩ := h
  obtain ⟨xs, n, _, _, hl, hlen, hg⟩ := DataW.trod_struct Try.underlying30 hf
  have k3 : Try.prog.cellsOf 3 = 1 := by kernel_rfl
  have k4 : Try.prog.cellsOf 4 = 1 := by kernel_rfl
  have k5 : Try.prog.cellsOf 5 = 1 := by kernel_rfl
  match xs, hlen with
  | [r0, r1, r2], _ =>
  have g0 : DataW.trod enc Try.prog W 0 (fun _ => true) true n 5 [c0] = some r0 := by have := hg 0 _ rfl; simpa [k5, Value.cells] using this
  have g1 : DataW.trod enc Try.prog W 0 (fun _ => true) true n 3 [c1] = some r1 := by have := hg 1 _ rfl; simpa [k3, Value.cells] using this
  have g2 : DataW.trod enc Try.prog W 0 (fun _ => true) true n 4 [c2] = some r2 := by have := hg 2 _ rfl; simpa [k4, Value.cells] using this
  obtain ⟨x, e0, _, wx⟩ := DataW.trod_int Try.underlying5 g0
  obtain ⟨r, e1, _, _⟩ := DataW.trod_int Try.underlying3 g1
  obtain ⟨k, e2, _⟩ := DataW.trod_bool Try.underlying4 g2
  simp only [List.cons.injEq, and_true] at e0 e1 e2
  subst e0 e1 e2
  refine ⟨⟨x, r, k⟩, rfl, ?_⟩
  simp [Lit.wf, IntKind.min, IntKind.max, IntKind.signed, IntKind.bits] at wx
  show 0 ≤ x
  omega
end
end Go.Proofs.Ytfgalaalopkclaa
