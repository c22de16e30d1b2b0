/-
  PlanePaths: for every state, list of bounds, pull and lists of states the law returns true. No conditions.
-/
import Derived.Test.YthaokofhepngbaaPlaneX
import Derived.Test.YthaokofhepngbaaPairLibB
import Derived.Test.YthaokofhepngbaaRows
import Derived.Test.YthaokofhepngbaaRowLib
import Derived.WalkKit
import Derived.ProofKit
import Derived.OpenShut
import Derived.ShutString
namespace Go.Proofs.Ythaokofhepngbaa
open Go.ChangeShapes Go.WideShapes Go.ChangeAt Go.RowKit
open Go.ChangeMaps (open_string shut_string)

theorem ownKnobNone : ownKnob Try.prog.godebug = none := by kernel_rfl
theorem laidOutAll : laidOutB Try.prog = true := by kernel_rfl

set_option maxRecDepth 100000 in
theorem planePaths_lifted (os : Os) (started : os.Started) (H : Type) (enc : TypeId × Value → H) :
    ReturnsInHanded {} Try.checked os 4 .any (Rows.planePathsSpec.pre6 enc Try.prog Try.f4 Rows.planePathsRow.domain false) (Rows.planePathsSpec.post enc Try.prog Try.f4 false true false false) := by
  refine returnsInHanded_of_change (C := Try.checked) ownKnobNone started (by kernel_rfl) Try.func4
    (ChangeSpec.witness6 (enc := enc) (C := Try.checked) false ⟨#[], #[.agg #[.int .i64 0, .int .i64 0], .slice none 0 0, .int .i64 0, .slice none 0 0, .slice none 0 0], []⟩ 8 (by kernel_rfl) (by kernel_rfl) (by kernel_rfl) (by kernel_rfl)) ?_
  intro W base args ds gs before hval0 hW _ hsz0
  have hval : ∀ (j : Nat) t v, Try.f4.params[j]? = some t → args[j]? = some v → Value.okWide Try.prog W .any base t v := hval0
  have hW' := hW
  obtain ⟨p, q, hA0, hV, rfl, hfz, _⟩ := hW
  have hA : DataW.TrodAll enc Try.prog W 0 (fun _ => true) true Try.f4.params.toList args.toList ds p := hA0
  rw [Try.params4] at hA hval
  obtain ⟨v0, vs0, d0, ds0, p0, q0, hargs, rfl, rfl, h0, r0⟩ := trodAll_cons hA
  obtain ⟨v1, vs1, d1, ds1, p1, q1, rfl, rfl, rfl, h1, r1⟩ := trodAll_cons r0
  obtain ⟨v2, vs2, d2, ds2, p2, q2, rfl, rfl, rfl, h2, r2⟩ := trodAll_cons r1
  obtain ⟨v3, vs3, d3, ds3, p3, q3, rfl, rfl, rfl, h3, r3⟩ := trodAll_cons r2
  obtain ⟨v4, vs4, d4, ds4, p4, q4, rfl, rfl, rfl, h4, r4⟩ := trodAll_cons r3
  obtain ⟨rfl, rfl, rfl⟩ := trodAll_nil r4
  obtain rfl : args = #[v0, v1, v2, v3, v4] := by cases args; simp_all
  have hV' : gs = [] := by
    cases gs with
    | nil => rfl
    | cons g gs => exact hV.elim
  subst hV'
  obtain ⟨z0, u0, rfl, wz0, wu0⟩ := Go.MyPair.open_pair Try.underlying23 (by kernel_rfl) (by kernel_rfl) Try.underlying3 Try.underlying3 (hval 0 23 v0 rfl rfl) h0
  obtain ⟨a1, n1, c1, l1, rfl, hr1, hc1, hn1⟩ := Go.MyPair.open_pairs2 Try.underlying32 (by kernel_rfl) (Go.MyPair.twoInts_array (enc := enc) Try.underlying38 (by kernel_rfl) Try.underlying3) (hval 1 32 v1 rfl rfl) h1
  obtain ⟨a2, rfl, rfl, rfl, w2⟩ := open_int Try.underlying3 (hval 2 3 v2 rfl rfl) h2
  obtain ⟨a3, n3, c3, l3, rfl, hr3, hc3, hn3⟩ := Go.MyPair.open_pairs2 Try.underlying33 (by kernel_rfl) (Go.MyPair.twoInts_struct (enc := enc) Try.underlying23 rfl rfl (by kernel_rfl) (by kernel_rfl) Try.underlying3 Try.underlying3) (hval 3 33 v3 rfl rfl) h3
  obtain ⟨a4, n4, c4, l4, rfl, hr4, hc4, hn4⟩ := Go.MyPair.open_pairs2 Try.underlying33 (by kernel_rfl) (Go.MyPair.twoInts_struct (enc := enc) Try.underlying23 rfl rfl (by kernel_rfl) (by kernel_rfl) Try.underlying3 Try.underlying3) (hval 4 33 v4 rfl rfl) h4
  clear hA0 hval0
  refine Calls.mono (PathsLaw_call a1 a3 a4 n1 c1 n3 c3 n4 c4 l1 l3 l4 z0 u0 a2 W hr1 hr3 hr4 hn1 hn3 hn4) fun e W' ⟨he, hg⟩ => ?_
  subst he
  exact ⟨_, rfl, Go.MyRow.law_post laidOutAll (by kernel_rfl) (by kernel_rfl) Try.underlying4 rfl rfl rfl rfl hW' hg⟩

theorem planePaths_holds : Rows.PlanePathsSaid :=
  OpenClaim.holds_of_wide 4 Try.f4 rfl rfl rfl rfl rfl rfl rfl ⟨rfl, rfl, rfl, rfl, rfl⟩ rfl rfl rfl rfl rfl (by kernel_rfl) Try.func4 (by kernel_rfl)
    (of_decide_eq_true (by kernel_rfl)) (by unfold Func.isWrapper; first | (rw [if_pos (by decide +kernel)]; kernel_rfl) | (rw [if_neg (by decide +kernel)]; exact ⟨rfl, rfl⟩))
    (fun os started H enc _ => planePaths_lifted os started H enc)
end Go.Proofs.Ythaokofhepngbaa
