/-
  Layer 18 (altitude): the law Truth, for every argument.
-/
import Derived.Test.YtojjhkahigdkoaaAltTt
namespace Go.Proofs.Ytojjhkahigdkoaa
open Go.RowKit AltMath MyHeap MyCopy MyOwn

theorem i8_bd {zs : List Int} (h : ∀ z ∈ zs, (Lit.int .i8 z).wf = true) (i : Nat) : -128 ≤ zs[i]?.getD 0 ∧ zs[i]?.getD 0 ≤ 127 := by
  cases hi : zs[i]? with
  | none => exact ⟨by decide, by decide⟩
  | some z =>
    have := h z (List.mem_of_getElem? hi)
    simp [Lit.wf, IntKind.min, IntKind.max, IntKind.signed, IntKind.bits] at this
    simp only [Option.getD_some]
    omega
theorem u8_bd {zs : List Int} (h : ∀ z ∈ zs, (Lit.int .u8 z).wf = true) (i : Nat) : 0 ≤ zs[i]?.getD 0 ∧ zs[i]?.getD 0 ≤ 255 := by
  cases hi : zs[i]? with
  | none => exact ⟨by decide, by decide⟩
  | some z =>
    have := h z (List.mem_of_getElem? hi)
    simp [Lit.wf, IntKind.min, IntKind.max, IntKind.signed, IntKind.bits] at this
    simp only [Option.getD_some]
    omega
theorem truth_call (z v pull : Int) (aP aK : Option Addr) (nP cP nK cK : Nat) (ps ks : List Int) (w : World) (p0 : 0 ≤ pull) (p1 : pull ≤ 255) (hP : MySlice.IntsAt .i8 w aP nP ps) (hK : MySlice.IntsAt .u8 w aK nK ks)
    (hps : ∀ z ∈ ps, (Lit.int .i8 z).wf = true) (hks : ∀ z ∈ ks, (Lit.int .u8 z).wf = true) :
    Calls Try.prog 5 #[.agg #[.int .i64 z, .int .i64 v], .int .u8 pull, .slice aP nP cP, .slice aK nK cK] w (BPost true w) := by
  by_cases h : z < -1000 ∨ 50000 < z ∨ v < -100 ∨ 100 < v ∨ 60 < (nP : Int)
  · exact truth_out z v pull aP aK nP cP nK cK w p0 p1 h
  · exact truth_go z v pull aP aK nP cP nK cK ps ks w p0 p1 hP hK (i8_bd hps) (u8_bd hks) (by omega) (by omega) (by omega) (by omega) (by omega)
end Go.Proofs.Ytojjhkahigdkoaa
