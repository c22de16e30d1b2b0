/-
  HTValid
-/
import Derived.Test.YtikjjpjekchcjaaPb37
import Derived.Test.YtikjjpjekchcjaaPbHTValid1
import Derived.Test.YtikjjpjekchcjaaRows
import Derived.Test.YtikjjpjekchcjaaPb36
import Derived.WalkKit
import Derived.ProofKit
import Derived.OpenShut
import Derived.ShutString
namespace Go.Proofs.Ytikjjpjekchcjaa
open Go.ChangeShapes Go.WideShapes Go.ChangeAt Go.RowKit
open Go.ChangeMaps (open_string shut_string)
theorem ownKnobNone : ownKnob Try.prog.godebug = none := by kernel_rfl
theorem laidOutAll : laidOutB Try.prog = true := by kernel_rfl
set_option maxRecDepth 100000 in
theorem trackValid_lifted (os : Os) (started : os.Started) (H : Type) (enc : TypeId × Value → H) :
    ReturnsInHanded {} Try.checked os 3 .any (Rows.trackValidSpec.pre6 enc Try.prog Try.f3 Rows.trackValidRow.domain false) (Rows.trackValidSpec.post enc Try.prog Try.f3 false true false false) := by
 refine returnsInHanded_of_change (C := Try.checked) ownKnobNone started (by kernel_rfl) Try.func3
  (ChangeSpec.witness6 (enc := enc) (C := Try.checked) false ⟨#[], #[.agg #[.int .i64 0, .int .i64 0, .int .i64 0, .int .i64 0, .int .i64 0, .int .i64 0, .slice none 0 0], .slice none 0 0], []⟩ 8 (by kernel_rfl) (by kernel_rfl) (by kernel_rfl) (by kernel_rfl)) ?_
 intro W base args ds gs before hval0 hW _ hsz0
 have hval : ∀ (j : Nat) t v, Try.f3.params[j]? = some t → args[j]? = some v → Value.okWide Try.prog W .any base t v := hval0
 have hW' := hW
 obtain ⟨p, q, hA0, hV, rfl, hfz, _⟩ := hW
 have hA : DataW.TrodAll enc Try.prog W 0 (fun _ => true) true Try.f3.params.toList args.toList ds p := hA0
 rw [Try.params3] at hA hval
 obtain ⟨v0, vs0, d0, ds0, p0, q0, hargs, rfl, rfl, h0, r0⟩ := trodAll_cons hA
 obtain ⟨v1, vs1, d1, ds1, p1, q1, rfl, rfl, rfl, h1, r1⟩ := trodAll_cons r0
 obtain ⟨rfl, rfl, rfl⟩ := trodAll_nil r1
 obtain rfl : args = #[v0, v1] := by cases args; simp_all
 have hV' : gs = [] := by
  cases gs with
  | nil => rfl
  | cons g gs => exact hV.elim
 subst hV'
 obtain ⟨p0, now0, nx0, a0, n0, c0, M0, rfl, hT0⟩ := open_table Try.underlying26 (by kernel_rfl) ⟨rfl, rfl, rfl, rfl⟩ ⟨rfl, rfl, rfl, rfl⟩ Try.underlying3 (by kernel_rfl) Try.underlying23 (by kernel_rfl) ⟨rfl, rfl, rfl, rfl⟩ ⟨rfl, rfl, rfl, rfl⟩ Try.underlying24 (by kernel_rfl) (by kernel_rfl) (tk_of_trod Try.underlying46 ⟨rfl, rfl, rfl, rfl, rfl, rfl, rfl⟩ ⟨rfl, rfl, rfl, rfl, rfl, rfl, rfl⟩ Try.underlying3 (by kernel_rfl) Try.underlying4 (by kernel_rfl) Try.underlying42 (by kernel_rfl) ⟨rfl, rfl, rfl⟩ ⟨rfl, rfl, rfl⟩ Try.underlying44 (by kernel_rfl) ⟨rfl, rfl⟩ ⟨rfl, rfl⟩ Try.underlying35 (by kernel_rfl)) (hval 0 26 v0 rfl rfl) h0
 obtain ⟨a1, n1, c1, l1, rfl, hi1⟩ := open_pls Try.underlying27 (by kernel_rfl) Try.underlying40 rfl rfl rfl rfl rfl rfl Try.underlying3 (by kernel_rfl) (hval 1 27 v1 rfl rfl) h1
 clear hA0 hval0
 refine Calls.mono (Valid_call p0 now0 nx0 a0 a1 n0 c0 n1 c1 M0 l1 W hT0 hi1) fun e W' ⟨he, hg⟩ => ?_
 subst he
 exact ⟨_, rfl, Go.MyRow.law_post laidOutAll (by kernel_rfl) (by kernel_rfl) Try.underlying4 rfl rfl rfl rfl hW' hg⟩
theorem trackValid_holds : Rows.TrackValidSaid :=
 OpenClaim.holds_of_wide 3 Try.f3 rfl rfl rfl rfl rfl rfl rfl ⟨rfl, rfl, rfl, rfl, rfl⟩ rfl rfl rfl rfl rfl (by kernel_rfl) Try.func3 (by kernel_rfl)
  (of_decide_eq_true (by kernel_rfl)) (by unfold Func.isWrapper; first | (rw [if_pos (by decide +kernel)]; kernel_rfl) | (rw [if_neg (by decide +kernel)]; exact ⟨rfl, rfl⟩))
  (fun os started H enc _ => trackValid_lifted os started H enc)
end Go.Proofs.Ytikjjpjekchcjaa
