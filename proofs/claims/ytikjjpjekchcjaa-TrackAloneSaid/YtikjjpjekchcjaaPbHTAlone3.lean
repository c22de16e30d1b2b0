/-
  TrkRowA, HTAlone
-/
import Derived.Test.YtikjjpjekchcjaaPbHTAlone2
import Derived.Test.YtikjjpjekchcjaaPb36
import Derived.Lib.SmallJoins
import Derived.Deep.Grids
import Derived.Test.YtikjjpjekchcjaaRows
import Derived.WalkKit
import Derived.ProofKit
import Derived.OpenShut
import Derived.ShutString
section
namespace Go.Proofs.Ytikjjpjekchcjaa
open Go.ChangeShapes Go.WideShapes Go.ChangeAt Go.RowKit Go.Deep TrkMath MyHeap
section
variable {H : Type} {enc : TypeId × Value → H} {P : Program}
theorem open_params {W : World} {r : Reach} {b0 base : Nat} {spare : Nat → Bool} {held : Bool} {t : TypeId} {f0 f1 f2 f3 : Field} {v : Value} {d : DataW H} {p : List MemPlace} (hs : P.underlying t = some (.struct #[f0, f1, f2, f3])) (hone : oneCellFields P #[f0, f1, f2, f3] = true) (hC : P.cellsOf t = 4)
    (h0 : P.underlying f0.type = some (.int .i64)) (h1 : P.underlying f1.type = some (.int .i64)) (h2 : P.underlying f2.type = some (.int .i64)) (h3 : P.underlying f3.type = some (.int .i64))
    (hv : Value.okWide P W r b0 t v) (h : DataW.Trod enc P W base spare held t v d p) : ∃ q : Par, v = parV q := by
 obtain ⟨v0, v1, v2, v3, y0, y1, y2, y3, n, rfl, _, _, g0, g1, g2, g3⟩ := Go.Joins.open_agg4 hs hone hC hv h
 obtain ⟨x, e0, _, _⟩ := DataW.trod_int h0 g0
 obtain ⟨y, e1, _, _⟩ := DataW.trod_int h1 g1
 obtain ⟨z, e2, _, _⟩ := DataW.trod_int h2 g2
 obtain ⟨u, e3, _, _⟩ := DataW.trod_int h3 g3
 simp only [List.cons.injEq, and_true] at e0 e1 e2 e3
 subst e0 e1 e2 e3
 exact ⟨⟨x, y, z, u⟩, rfl⟩
theorem open_bls {t e : TypeId} {base : Nat} {W : World} {v : Value} {d : DataW H} {ps : List MemPlace} (ht : P.underlying t = some (.slice e)) (he : P.underlying e = some .bool) (hc : P.cellsOf e = 1)
    (hv : Value.okWide P W .any base t v) (h : DataW.Trod enc P W 0 (fun _ => true) true t v d ps) : ∃ a n c l, v = .slice a n c ∧ Bls W a n l := by
 obtain ⟨a0, len, cap, rfl⟩ := okWide_slice ht hv
 obtain ⟨fuel, hf⟩ := h
 rcases open_bools ht he hc hf with ⟨hcs, _⟩ | ⟨a, len', cap', B, hcs, _, hl, hm, _, hcell⟩
 ·simp [Value.cells] at hcs
  obtain ⟨rfl, rfl, rfl⟩ := hcs
  exact ⟨none, 0, 0, [], rfl, ⟨rfl, by decide, Or.inl rfl⟩⟩
 ·simp [Value.cells] at hcs
  obtain ⟨rfl, rfl, rfl⟩ := hcs
  unfold maxLen at hm
  refine ⟨some a, len, cap, (List.range len).map B, rfl, ⟨by simp, by omega, ?_⟩⟩
  by_cases h0 : len = 0
  ·exact Or.inl h0
  ·obtain ⟨b, off, spot⟩ := a
   have hspot : spot = none := by simpa [Addr.add] using World.cell?_spot (hcell 0 (by omega))
   subst hspot
   refine Or.inr ⟨b, off, rfl, fun i hi => ?_⟩
   have ek : ((List.range len).map B)[i]?.getD false = B i := by simp [hi]
   rw [ek]
   have := hcell i (by omega)
   simp only [Go.WideShapes.add_plain] at this
   exact this
end
theorem i8s_of {W : World} {a : Option Addr} {n : Nat} {l : List Int} (h : Go.MySlice.IntsAt .i8 W a n l) (hw : ∀ z ∈ l, (Lit.int .i8 z).wf = true) : I8s W a n l :=
 ⟨h.len, h.bound, h.cells, fun i hi => by
  have hlt : i < l.length := by rw [h.len]; exact hi
  rw [List.getElem?_eq_getElem hlt]
  exact Go.bounds_i8 (hw _ (List.getElem_mem hlt))⟩
end Go.Proofs.Ytikjjpjekchcjaa
end
section
namespace Go.Proofs.Ytikjjpjekchcjaa
open Go.ChangeShapes Go.WideShapes Go.ChangeAt Go.RowKit
open Go.ChangeMaps (open_string shut_string)
theorem ownKnobNone : ownKnob Try.prog.godebug = none := by kernel_rfl
theorem laidOutAll : laidOutB Try.prog = true := by kernel_rfl
set_option maxRecDepth 100000 in
theorem trackAlone_lifted (os : Os) (started : os.Started) (H : Type) (enc : TypeId × Value → H) :
    ReturnsInHanded {} Try.checked os 6 .any (Rows.trackAloneSpec.pre6 enc Try.prog Try.f6 Rows.trackAloneRow.domain false) (Rows.trackAloneSpec.post enc Try.prog Try.f6 false true false false) := by
 refine returnsInHanded_of_change (C := Try.checked) ownKnobNone started (by kernel_rfl) Try.func6
  (ChangeSpec.witness6 (enc := enc) (C := Try.checked) false ⟨#[], #[.agg #[.int .i64 0, .int .i64 0, .int .i64 0, .int .i64 0], .agg #[.int .i64 0, .int .i64 0], .int .u16 0, .int .i8 0, .slice none 0 0, .slice none 0 0], []⟩ 8 (by kernel_rfl) (by kernel_rfl) (by kernel_rfl) (by kernel_rfl)) ?_
 intro W base args ds gs before hval0 hW _ hsz0
 have hval : ∀ (j : Nat) t v, Try.f6.params[j]? = some t → args[j]? = some v → Value.okWide Try.prog W .any base t v := hval0
 have hW' := hW
 obtain ⟨p, q, hA0, hV, rfl, hfz, _⟩ := hW
 have hA : DataW.TrodAll enc Try.prog W 0 (fun _ => true) true Try.f6.params.toList args.toList ds p := hA0
 rw [Try.params6] at hA hval
 obtain ⟨v0, vs0, d0, ds0, p0, q0, hargs, rfl, rfl, h0, r0⟩ := trodAll_cons hA
 obtain ⟨v1, vs1, d1, ds1, p1, q1, rfl, rfl, rfl, h1, r1⟩ := trodAll_cons r0
 obtain ⟨v2, vs2, d2, ds2, p2, q2, rfl, rfl, rfl, h2, r2⟩ := trodAll_cons r1
 obtain ⟨v3, vs3, d3, ds3, p3, q3, rfl, rfl, rfl, h3, r3⟩ := trodAll_cons r2
 obtain ⟨v4, vs4, d4, ds4, p4, q4, rfl, rfl, rfl, h4, r4⟩ := trodAll_cons r3
 obtain ⟨v5, vs5, d5, ds5, p5, q5, rfl, rfl, rfl, h5, r5⟩ := trodAll_cons r4
 obtain ⟨rfl, rfl, rfl⟩ := trodAll_nil r5
 obtain rfl : args = #[v0, v1, v2, v3, v4, v5] := by cases args; simp_all
 have hV' : gs = [] := by
  cases gs with
  | nil => rfl
  | cons g gs => exact hV.elim
 subst hV'
 obtain ⟨q0, rfl⟩ := open_params Try.underlying23 (by kernel_rfl) (by kernel_rfl) Try.underlying3 Try.underlying3 Try.underlying3 Try.underlying3 (hval 0 23 v0 rfl rfl) h0
 obtain ⟨z1, u1, rfl, wz1, wu1⟩ := Go.MyPair.open_pair Try.underlying66 (by kernel_rfl) (by kernel_rfl) Try.underlying3 Try.underlying3 (hval 1 66 v1 rfl rfl) h1
 obtain ⟨x2, rfl, rfl, rfl, w2⟩ := open_int Try.underlying67 (hval 2 67 v2 rfl rfl) h2
 have b2 := bounds_u16 w2
 obtain ⟨x3, rfl, rfl, rfl, w3⟩ := open_int Try.underlying68 (hval 3 68 v3 rfl rfl) h3
 have b3 := bounds_i8 w3
 obtain ⟨a4, n4, c4, xs4, rfl, hi4, hc4, hw4⟩ := Go.MySlice.open_intsAt Try.underlying69 Try.underlying68 (by kernel_rfl) (hval 4 69 v4 rfl rfl) h4
 obtain ⟨a5, n5, c5, xs5, rfl, hi5⟩ := open_bls Try.underlying70 Try.underlying4 (by kernel_rfl) (hval 5 70 v5 rfl rfl) h5
 clear hA0 hval0
 refine Calls.mono (Alone_call q0 z1 u1 x2 x3 a4 n4 c4 xs4 a5 n5 c5 xs5 W b2 b3 (i8s_of hi4 hw4) hi5) fun e W' ⟨he, hg⟩ => ?_
 subst he
 exact ⟨_, rfl, Go.MyRow.law_post laidOutAll (by kernel_rfl) (by kernel_rfl) Try.underlying4 rfl rfl rfl rfl hW' hg⟩
theorem trackAlone_holds : Rows.TrackAloneSaid :=
 OpenClaim.holds_of_wide 6 Try.f6 rfl rfl rfl rfl rfl rfl rfl ⟨rfl, rfl, rfl, rfl, rfl⟩ rfl rfl rfl rfl rfl (by kernel_rfl) Try.func6 (by kernel_rfl)
  (of_decide_eq_true (by kernel_rfl)) (by unfold Func.isWrapper; first | (rw [if_pos (by decide +kernel)]; kernel_rfl) | (rw [if_neg (by decide +kernel)]; exact ⟨rfl, rfl⟩))
  (fun os started H enc _ => trackAlone_lifted os started H enc)
end Go.Proofs.Ytikjjpjekchcjaa
end
