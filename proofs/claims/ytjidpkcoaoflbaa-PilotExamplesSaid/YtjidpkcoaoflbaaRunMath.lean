/-
  Plain laws of layer 37 (pilot): what Run computes. No program in sight.
-/
import Derived.Test.YtjidpkcoaoflbaaPilotMath
namespace PilotMath
open PlaneMath

/-- The bounds of all cycles. -/
def rnB (ms : Int) (d : Nat) (l : List Adv) : List (Int × Int) := (List.range l.length).map (bdK ms d l)
theorem rnB_get {ms : Int} {d : Nat} {l : List Adv} {k : Nat} (hk : k < l.length) : (rnB ms d l)[k]?.getD (0, 0) = bdK ms d l k := by
  unfold rnB
  simp [hk]
/-- The error of Run. -/
def rnE (d pl ms z v : Int) (l : List Adv) : Int := if plE d pl ms ≠ 0 then plE d pl ms else if stE z v ≠ 0 then stE z v else if 256 < l.length then 1 else firstE l
def rnL (d pl ms z v : Int) (l : List Adv) : List (Int × Int) := if rnE d pl ms z v l = 0 then psts pl (rnB ms d.toNat l) z v (l.length + 1) else []
theorem rnE_ok {d pl ms z v : Int} {l : List Adv} (h : rnE d pl ms z v l = 0) : plE d pl ms = 0 ∧ stE z v = 0 ∧ l.length ≤ 256 ∧ firstE l = 0 := by
  unfold rnE at h
  by_cases h1 : plE d pl ms ≠ 0
  · rw [if_pos h1] at h; exact absurd h h1
  · rw [if_neg h1] at h
    by_cases h2 : stE z v ≠ 0
    · rw [if_pos h2] at h; exact absurd h h2
    · rw [if_neg h2] at h
      by_cases h3 : 256 < l.length
      · rw [if_pos h3] at h; exact absurd h (by decide)
      · rw [if_neg h3] at h
        exact ⟨by omega, by omega, by omega, h⟩
theorem rnE_pl {d pl ms z v : Int} {l : List Adv} (h : plE d pl ms ≠ 0) : rnE d pl ms z v l = plE d pl ms := if_pos h
theorem rnE_st {d pl ms z v : Int} {l : List Adv} (h : plE d pl ms = 0) (h2 : stE z v ≠ 0) : rnE d pl ms z v l = stE z v := by unfold rnE; rw [if_neg (by simpa using h), if_pos h2]
theorem rnE_long {d pl ms z v : Int} {l : List Adv} (h : plE d pl ms = 0) (h2 : stE z v = 0) (h3 : 256 < l.length) : rnE d pl ms z v l = 1 := by unfold rnE; rw [if_neg (by simpa using h), if_neg (by simpa using h2), if_pos h3]
theorem rnE_first {d pl ms z v : Int} {l : List Adv} (h : plE d pl ms = 0) (h2 : stE z v = 0) (h3 : l.length ≤ 256) : rnE d pl ms z v l = firstE l := by unfold rnE; rw [if_neg (by simpa using h), if_neg (by simpa using h2), if_neg (by omega)]
theorem rnL_err {d pl ms z v : Int} {l : List Adv} (h : rnE d pl ms z v l ≠ 0) : rnL d pl ms z v l = [] := if_neg h
theorem rnL_ok {d pl ms z v : Int} {l : List Adv} (h : rnE d pl ms z v l = 0) : rnL d pl ms z v l = psts pl (rnB ms d.toNat l) z v (l.length + 1) := if_pos h
theorem rnL_length (d pl ms z v : Int) (l : List Adv) : (rnL d pl ms z v l).length ≤ 257 := by
  by_cases h : rnE d pl ms z v l = 0
  · rw [rnL_ok h, psts_length]; have := rnE_ok h; omega
  · rw [rnL_err h]; simp
theorem rnB_bd {ms : Int} {d : Nat} {l : List Adv} (hs : ∀ i, i < l.length → 0 ≤ (ga l i).s) (hok : OkTo l l.length) (k : Nat) (hk : k ≤ l.length) : BdTo (rnB ms d l) k := fun i hi => by
  rw [rnB_get (by omega)]
  have hg := stK_good (ms := ms) (d := d) hs hok (i + 1) (by omega)
  exact bnd_ok hg.fl.1
theorem stE_of {z v : Int} (h : stE z v = 0) : stB z v = true := by
  cases hb : stB z v with
  | true => rfl
  | false => unfold stE at h; rw [hb] at h; exact absurd h (by decide)
end PilotMath
