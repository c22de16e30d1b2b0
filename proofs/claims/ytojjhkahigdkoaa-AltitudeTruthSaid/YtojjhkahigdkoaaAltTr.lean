/-
  Layer 18 (altitude): the law's least.
-/
import Derived.Test.YtojjhkahigdkoaaAltZ
import Derived.Test.YtojjhkahigdkoaaAltLaw
import Derived.Test.YtojjhkahigdkoaaAltP
namespace Go.Proofs.Ytojjhkahigdkoaa
open Go.RowKit AltMath MyHeap MyCopy MyOwn

theorem tmod_le {z size : Int} (hs : 0 < size) (hz : z.tmod size < 0) : z - (z.tmod size + size) = leS z size := by
  unfold leS
  have h1 := Int.emod_nonneg z (show size ≠ 0 by omega)
  have h2 := Int.emod_lt_of_pos z hs
  rw [Int.tmod_eq_emod] at hz ⊢
  split at hz
  · omega
  · have : size.natAbs = size := by omega
    rename_i hh
    rw [if_neg hh]
    omega
theorem tmod_ge {z size : Int} (hs : 0 < size) (hz : ¬ z.tmod size < 0) : z - z.tmod size = leS z size := by
  unfold leS
  have h1 := Int.emod_nonneg z (show size ≠ 0 by omega)
  have h2 := Int.emod_lt_of_pos z hs
  rw [Int.tmod_eq_emod] at hz ⊢
  split at hz
  · rename_i hh
    rw [if_pos hh]
    omega
  · have : size.natAbs = size := by omega
    omega
theorem tmod_bd {z size : Int} (hs : 0 < size) : -size < z.tmod size ∧ z.tmod size < size := by
  have h1 := Int.emod_nonneg z (show size ≠ 0 by omega)
  have h2 := Int.emod_lt_of_pos z hs
  have : size.natAbs = size := by omega
  rw [Int.tmod_eq_emod]
  split <;> omega

set_option maxRecDepth 100000 in
set_option maxHeartbeats 4000000 in
theorem least_call (z size : Int) (w : World) (z0 : -1000 ≤ z) (z1 : z ≤ 50000) (hs : 0 < size) (hs1 : size ≤ 1000) :
    Calls Try.prog 23 #[.int .i64 z, .int .i64 size] w fun e w' => e = .returned (.int .i64 (leS z size)) ∧ w = w' := by
  have hb := tmod_bd (z := z) hs
  have hne : (size == 0) = false := by simp; omega
  have hw : IntKind.i64.wrap (z.tmod size) = z.tmod size := by rw [IntKind.wrap_i64] <;> omega
  by_cases hr : z.tmod size < 0
  · have HE := Lib.hid (tmod_le hs hr)
    have hd : decide (z.tmod size < 0) = true := decide_eq_true hr
    go_enter Try.func23, Try.ntmps23
    go_wp2_with fail
    go_ret
    exact ⟨congrArg (fun q => Ending.returned (.int .i64 q)) HE.out, rfl⟩
  · have HE := Lib.hid (tmod_ge hs hr)
    have hd : decide (z.tmod size < 0) = false := decide_eq_false hr
    go_enter Try.func23, Try.ntmps23
    go_wp2_with fail
    go_ret
    exact ⟨congrArg (fun q => Ending.returned (.int .i64 q)) HE.out, rfl⟩
end Go.Proofs.Ytojjhkahigdkoaa
