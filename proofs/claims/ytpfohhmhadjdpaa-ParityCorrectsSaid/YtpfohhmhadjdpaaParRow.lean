/-
  Layer 2 (parity): a string as it comes in.
-/
import Derived.Test.YtpfohhmhadjdpaaBitsA
import Derived.Test.YtpfohhmhadjdpaaSliceLib
namespace Go.Proofs.Ytpfohhmhadjdpaa
open Go.RowKit BitsMath

theorem u8s_of_ints {W : World} {a : Option Addr} {n : Nat} {zs : List Int} (h : MySlice.IntsAt .u8 W a n zs) (hw : ∀ z ∈ zs, (Lit.int .u8 z).wf = true) : U8s W a n (zs.map Int.toNat) := by
  refine ⟨by rw [List.length_map]; exact h.len, h.bound, ?_⟩
  rcases h.cells with h0 | ⟨b, off, rfl, hc⟩
  · exact Or.inl h0
  · refine Or.inr ⟨b, off, rfl, fun i hi => ?_⟩
    rw [hc i hi, List.getElem?_map]
    have hlt : i < zs.length := by rw [h.len]; exact hi
    have := Go.bounds_u8 (hw zs[i] (List.getElem_mem hlt))
    rw [List.getElem?_eq_getElem hlt]
    simp only [Option.map_some, Option.getD_some]
    congr 2
    omega
end Go.Proofs.Ytpfohhmhadjdpaa
