/-
  Layer 18 (altitude): the program's Empty.
-/
import Derived.Test.YtojjhkahigdkoaaAltM
namespace Go.Proofs.Ytojjhkahigdkoaa
open Go.RowKit AltMath MyHeap MyCopy MyOwn

/-- Empty's answer and error. -/
def emB (lo hi : List Int) : Bool := spE lo hi == 9
def emE (lo hi : List Int) : Int := if spE lo hi = 9 then 0 else spE lo hi
set_option maxRecDepth 100000 in
set_option maxHeartbeats 4000000 in
theorem pEmpty_call (aL aH : Option Addr) (nL nH cL cH : Nat) (lo hi : List Int) (w : World) (hL : Ints w aL nL lo) (hH : Ints w aH nH hi) :
    Calls Try.prog 27 #[bdV aL nL cL aH nH cH] w fun e w' => e = .returned (.tuple #[.bool (emB lo hi), .int .i64 (emE lo hi)]) ∧ Below w.heap.size w w' := by
  have H := Lib.hid (And.intro hL hH)
  have B := Lib.hid (below_alloc w (.cells (bdC aL nL cL aH nH cH) 24))
  clear hL hH
  unfold bdV
  unfold bdC at B
  by_cases h9 : spE lo hi = 9
  · have HE := Lib.hid (show emB lo hi = true ∧ emE lo hi = 0 from ⟨by unfold emB; rw [h9]; rfl, if_pos h9⟩)
    have H9 := Lib.hid h9
    clear h9
    go_enter Try.func27, Try.ntmps27
    go_wp2_with fail
    refine (pSpread_call aL aH nL nH cL cH lo hi _ (H.out.1.below B.out) (H.out.2.below B.out)).mono ?_; rintro e w1 ⟨rfl, hb⟩
    rw [H9.out]
    replace B := Lib.hid (B.out.trans (hb.mono B.out.size))
    unfold exC
    clear hb
    go_wp2_with fail
    go_ret2
    exact ⟨by rw [HE.out.1, HE.out.2]; rfl, B.out.alloc B.out.size _⟩
  · have HE := Lib.hid (show emB lo hi = false ∧ emE lo hi = spE lo hi from ⟨by unfold emB; simpa using h9, if_neg h9⟩)
    have d9 : (spE lo hi == 9) = false := by simpa using h9
    clear h9
    go_enter Try.func27, Try.ntmps27
    go_wp2_with fail
    refine (pSpread_call aL aH nL nH cL cH lo hi _ (H.out.1.below B.out) (H.out.2.below B.out)).mono ?_; rintro e w1 ⟨rfl, hb⟩
    replace B := Lib.hid (B.out.trans (hb.mono B.out.size))
    unfold exC
    clear hb
    go_wp2_with fail
    go_ret2
    exact ⟨by rw [HE.out.1, HE.out.2]; rfl, B.out.alloc B.out.size _⟩
end Go.Proofs.Ytojjhkahigdkoaa
