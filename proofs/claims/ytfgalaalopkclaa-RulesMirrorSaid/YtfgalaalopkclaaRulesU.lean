/-
  Layer 38 (rules): the law's mirror; plain facts on wrapped numbers.
-/
import Derived.Test.YtfgalaalopkclaaRulesT
import Derived.Test.YtfgalaalopkclaaRulesLaw
namespace Go.Proofs.Ytfgalaalopkclaa
open Go.RowKit PlaneMath PilotMath RulesMath MyHeap MyOwn MyCopy

def mZ (z : Int) : Int := IntKind.i64.wrap (49000 - z)
def mV (v : Int) : Int := IntKind.i64.wrap (-v)
def In64 (z : Int) : Prop := -9223372036854775808 ≤ z ∧ z ≤ 9223372036854775807
theorem mZ_in {z : Int} (h : -1000 ≤ z ∧ z ≤ 50000) : mZ z = 49000 - z := IntWalk.i64_in _ (by omega)
theorem mV_in {v : Int} (h : -100 ≤ v ∧ v ≤ 100) : mV v = -v := IntWalk.i64_in _ (by omega)
theorem wrap_cases {x : Int} (h : -9223372036854775808 - 50000 ≤ x ∧ x ≤ 9223372036854775807 + 50000) : (IntKind.i64.wrap x = x ∨ IntKind.i64.wrap x = x - 18446744073709551616 ∨ IntKind.i64.wrap x = x + 18446744073709551616) ∧ -9223372036854775808 ≤ IntKind.i64.wrap x ∧ IntKind.i64.wrap x ≤ 9223372036854775807 := by
  unfold IntKind.wrap
  simp [IntKind.bits, IntKind.signed]
  omega
theorem w64 (x : Int) : wrap64 x = IntKind.i64.wrap x := by
  unfold wrap64 IntKind.wrap
  simp [IntKind.bits, IntKind.signed]
  split <;> omega
theorem stE_m {z v : Int} (hz : In64 z) (hv : In64 v) : stE (mZ z) (mV v) = stE z v := by
  have h1 := wrap_cases (x := 49000 - z) (by unfold In64 at hz; omega)
  have h2 := wrap_cases (x := -v) (by unfold In64 at hv; omega)
  unfold In64 at hz hv
  unfold stE stB
  have : decide (-1000 ≤ mZ z ∧ mZ z ≤ 50000 ∧ -100 ≤ mV v ∧ mV v ≤ 100) = decide (-1000 ≤ z ∧ z ≤ 50000 ∧ -100 ≤ v ∧ v ≤ 100) := by
    rw [decide_eq_decide]
    unfold mZ mV
    omega
  rw [this]
theorem whlE_m {s : RulesMath.Set} {z v z' v' t k : Int} (hz : In64 z) (hv : In64 v) (hz' : In64 z') (hv' : In64 v') : whlE s (mZ z) (mV v) (mZ z') (mV v') t (mirK k) = whlE s z v z' v' t k := by
  unfold whlE plnE
  rw [stE_m hz hv, stE_m hz' hv']
  have : (2 < mirK k) = (2 < k) := by unfold mirK; split <;> (apply propext; omega)
  simp only [this]

/-- A pair of numbers came back. -/
def PPost (x y : Int) (w : World) (e : Ending) (w' : World) : Prop := e = .returned (.agg #[.int .i64 x, .int .i64 y]) ∧ Below w.heap.size w w'
set_option maxRecDepth 100000 in
set_option maxHeartbeats 4000000 in
theorem mirror_call (z v : Int) (w : World) : Calls Try.prog 23 #[.agg #[.int .i64 z, .int .i64 v]] w (PPost (mZ z) (mV v) w) := by
  go_enter Try.func23, Try.ntmps23
  go_wp2
  refine bodyPost_ret (v := .agg #[.int .i64 (mZ z), .int .i64 (mV v)]) ?_ rfl ⟨rfl, ?_⟩
  · simp [results, Try.f23, go_sem, mZ, mV]
    exact ⟨w64 _, w64 _⟩
  · exact (below_alloc _ _).alloc (by simp) _

/-- The two answers of Mirror: the same error; if none, upside down, or both up where both senses are as good. -/
structure Mir (s : RulesMath.Set) (z v z' v' t k : Int) : Prop where
  err : chE s z v z' v' t (-1000) k = chE s (mZ z) (mV v) (mZ z') (mV v') t (-1000) (mirK k)
  ok : chE s z v z' v' t (-1000) k = 0 → whlE s z v z' v' t k = 0 ∧
    ((k = 0 ∧ bestV s z v z' v' 1 t = bestV s z v z' v' 2 t ∧ (chR s z v z' v' t (-1000) k).s = 1 ∧ (chR s (mZ z) (mV v) (mZ z') (mV v') t (-1000) (mirK k)).s = 1) ∨
     (¬ (k = 0 ∧ bestV s z v z' v' 1 t = bestV s z v z' v' 2 t) ∧ chR s (mZ z) (mV v) (mZ z') (mV v') t (-1000) (mirK k) = flp (chR s z v z' v' t (-1000) k)))
theorem mir_of {s : RulesMath.Set} {z v z' v' t k : Int} (hz : In64 z) (hv : In64 v) (hz' : In64 z') (hv' : In64 v') (hk : 0 ≤ k) : Mir s z v z' v' t k := by
  by_cases hW : whlE s z v z' v' t k = 0
  · have hs := plnE_ok (RulesMath.whlE_ok hW).1
    have b := stB_iff.1 (stE_st hs.2.1)
    have b' := stB_iff.1 (stE_st hs.2.2)
    have h := mir_ok hk hW
    refine ⟨?_, fun _ => ⟨hW, ?_⟩⟩
    · rw [mZ_in ⟨b.1, b.2.1⟩, mV_in b.2.2, mZ_in ⟨b'.1, b'.2.1⟩, mV_in b'.2.2, h.1, h.2.1]
    · rw [mZ_in ⟨b.1, b.2.1⟩, mV_in b.2.2, mZ_in ⟨b'.1, b'.2.1⟩, mV_in b'.2.2]
      exact h.2.2
  · have h1 : chE s z v z' v' t (-1000) k = whlE s z v z' v' t k := if_pos hW
    refine ⟨?_, fun h => absurd (h1.symm.trans h) hW⟩
    rw [h1]
    unfold chE
    rw [whlE_m hz hv hz' hv', if_pos hW]
end Go.Proofs.Ytfgalaalopkclaa
