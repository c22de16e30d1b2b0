/-
  Layer 1 (bits): a string of bits as it comes in.
-/
import Derived.Test.YthabecfajponfaaBitsA
import Derived.Test.YthabecfajponfaaSliceLib
import Derived.Lib.SmallJoins
import Derived.ProofKit
import Derived.OpenShut
namespace Go.Proofs.Ythabecfajponfaa
open Go.RowKit BitsMath

theorem u8s_of_ints {W : World} {a : Option Addr} {n : Nat} {zs : List Int} (h : MySlice.IntsAt .u8 W a n zs) (hw : ∀ z ∈ zs, (Lit.int .u8 z).wf = true) : U8s W a n (zs.map Int.toNat) := by
  refine ⟨by rw [List.length_map]; exact h.len, h.bound, ?_⟩
  rcases h.cells with h0 | ⟨b, off, rfl, hc⟩
  · exact Or.inl h0
  · refine Or.inr ⟨b, off, rfl, fun i hi => ?_⟩
    rw [hc i hi, List.getElem?_map]
    have hlt : i < zs.length := by rw [h.len]; exact hi
    have := Go.bounds_u8 (hw zs[i] (List.getElem_mem hlt))
    rw [List.getElem?_eq_getElem hlt]
    simp only [Option.map_some, Option.getD_some]
    congr 2
    omega

section
open Go.ChangeShapes Go.WideShapes Go.ChangeAt
variable {H : Type} {enc : TypeId × Value → H}
/-- A string as it comes in, with a bound of its capacity. -/
theorem open_bits {base : Nat} {W : World} {v : Value} {d : DataW H} {ps : List MemPlace}
    (hv : Value.okWide Try.prog W .any base 23 v) (h : DataW.Trod enc Try.prog W 0 (fun _ => true) true 23 v d ps) :
    ∃ a n c xs, v = .slice a n c ∧ U8s W a n xs ∧ n ≤ c ∧ c ≤ 9223372036854775807 := by
  have ht := Try.underlying23
  have he := Try.underlying5
  have hc1 : Try.prog.cellsOf 5 = 1 := by kernel_rfl
  obtain ⟨a0, len, cap, rfl⟩ := okWide_slice ht hv
  have hh := h
  obtain ⟨fuel, hf⟩ := hh
  rcases open_ints ht he hc1 hf with ⟨hcs, hx⟩ | ⟨a, len', cap', zs, hcs, _, hl, hm, hz, hx, hcell, hwz⟩
  · simp [Value.cells] at hcs
    obtain ⟨rfl, rfl, rfl⟩ := hcs
    exact ⟨none, 0, 0, [], rfl, ⟨rfl, by omega, Or.inl rfl⟩, by omega, by omega⟩
  · simp [Value.cells] at hcs
    obtain ⟨rfl, rfl, rfl⟩ := hcs
    obtain ⟨a', n', c', zs', e, hI, hcap, hwf⟩ := Go.MySlice.open_intsAt ht he hc1 hv h
    cases e
    have hm' : cap ≤ 9223372036854775807 := hm
    exact ⟨_, _, _, _, rfl, u8s_of_ints hI hwf, hcap, hm'⟩
end
end Go.Proofs.Ythabecfajponfaa
