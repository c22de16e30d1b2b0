/-
  AssignCosts: for every matrix and pair of lists the law returns true. No conditions.
-/
import Derived.Test.YtbehpkggmomgeaaAsgR
import Derived.Test.YtbehpkggmomgeaaAsgRow
import Derived.Test.YtbehpkggmomgeaaPairLibB
import Derived.Test.YtbehpkggmomgeaaRows
import Derived.Test.YtbehpkggmomgeaaRowLib
import Derived.WalkKit
import Derived.ProofKit
import Derived.OpenShut
import Derived.ShutString
namespace Go.Proofs.Ytbehpkggmomgeaa
open Go.ChangeShapes Go.WideShapes Go.ChangeAt Go.RowKit
open Go.ChangeMaps (open_string shut_string)

theorem ownKnobNone : ownKnob Try.prog.godebug = none := by kernel_rfl
theorem laidOutAll : laidOutB Try.prog = true := by kernel_rfl

set_option maxRecDepth 100000 in
theorem assignCosts_lifted (os : Os) (started : os.Started) (H : Type) (enc : TypeId × Value → H) :
    ReturnsInHanded {} Try.checked os 6 .any (Rows.assignCostsSpec.pre6 enc Try.prog Try.f6 Rows.assignCostsRow.domain false) (Rows.assignCostsSpec.post enc Try.prog Try.f6 false true false false) := by
  refine returnsInHanded_of_change (C := Try.checked) ownKnobNone started (by kernel_rfl) Try.func6
    (ChangeSpec.witness6 (enc := enc) (C := Try.checked) false ⟨#[], #[.slice none 0 0, .slice none 0 0, .slice none 0 0], []⟩ 8 (by kernel_rfl) (by kernel_rfl) (by kernel_rfl) (by kernel_rfl)) ?_
  intro W base args ds gs before hval0 hW _ hsz0
  have hval : ∀ (j : Nat) t v, Try.f6.params[j]? = some t → args[j]? = some v → Value.okWide Try.prog W .any base t v := hval0
  have hW' := hW
  obtain ⟨p, q, hA0, hV, rfl, hfz, _⟩ := hW
  have hA : DataW.TrodAll enc Try.prog W 0 (fun _ => true) true Try.f6.params.toList args.toList ds p := hA0
  rw [Try.params6] at hA hval
  obtain ⟨v0, vs0, d0, ds0, p0, q0, hargs, rfl, rfl, h0, r0⟩ := trodAll_cons hA
  obtain ⟨v1, vs1, d1, ds1, p1, q1, rfl, rfl, rfl, h1, r1⟩ := trodAll_cons r0
  obtain ⟨v2, vs2, d2, ds2, p2, q2, rfl, rfl, rfl, h2, r2⟩ := trodAll_cons r1
  obtain ⟨rfl, rfl, rfl⟩ := trodAll_nil r2
  obtain rfl : args = #[v0, v1, v2] := by cases args; simp_all
  have hV' : gs = [] := by
    cases gs with
    | nil => rfl
    | cons g gs => exact hV.elim
  subst hV'
  obtain ⟨a0, n0, c0, l0, rfl, hr0, hc0⟩ := open_rows Try.underlying22 (by kernel_rfl) Try.underlying24 Try.underlying3 (by kernel_rfl) (hval 0 22 v0 rfl rfl) h0
  obtain ⟨a1, n1, c1, l1, rfl, hr1, hc1, hn1⟩ := Go.MyPair.open_pairs2 Try.underlying27 (by kernel_rfl) (Go.MyPair.twoInts_struct (enc := enc) Try.underlying42 rfl rfl (by kernel_rfl) (by kernel_rfl) Try.underlying3 Try.underlying3) (hval 1 27 v1 rfl rfl) h1
  obtain ⟨a2, n2, c2, l2, rfl, hr2, hc2, hn2⟩ := Go.MyPair.open_pairs2 Try.underlying27 (by kernel_rfl) (Go.MyPair.twoInts_struct (enc := enc) Try.underlying42 rfl rfl (by kernel_rfl) (by kernel_rfl) Try.underlying3 Try.underlying3) (hval 2 27 v2 rfl rfl) h2
  clear hA0 hval0
  refine Calls.mono (costs_call a0 a1 a2 n0 c0 n1 c1 n2 c2 l0 l1 l2 W hr0 hr1 hr2 hn1 hn2) fun e W' ⟨he, hg⟩ => ?_
  subst he
  exact ⟨_, rfl, Go.MyRow.law_post laidOutAll (by kernel_rfl) (by kernel_rfl) Try.underlying4 rfl rfl rfl rfl hW' hg⟩

theorem assignCosts_holds : Rows.AssignCostsSaid :=
  OpenClaim.holds_of_wide 6 Try.f6 rfl rfl rfl rfl rfl rfl rfl ⟨rfl, rfl, rfl, rfl, rfl⟩ rfl rfl rfl rfl rfl (by kernel_rfl) Try.func6 (by kernel_rfl)
    (of_decide_eq_true (by kernel_rfl)) (by unfold Func.isWrapper; first | (rw [if_pos (by decide +kernel)]; kernel_rfl) | (rw [if_neg (by decide +kernel)]; exact ⟨rfl, rfl⟩))
    (fun os started H enc _ => assignCosts_lifted os started H enc)
end Go.Proofs.Ytbehpkggmomgeaa
