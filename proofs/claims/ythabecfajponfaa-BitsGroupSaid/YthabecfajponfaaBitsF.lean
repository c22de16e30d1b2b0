/-
  Layer 1 (bits): the reference's Check.
-/
import Derived.Test.YthabecfajponfaaBitsE
namespace Go.Proofs.Ythabecfajponfaa
open Go.RowKit BitsMath

set_option maxHeartbeats 1000000 in
theorem refCheck_call (a : Option Addr) (m c : Nat) (xs : List Nat) (w : World) (h : U8s w a m xs) :
    Calls Try.prog 24 #[.slice a m c] w fun e w' => e = .returned (.int .i64 (chkE xs)) ∧ w = w' := by
  obtain ⟨hl, hm, hcs⟩ := h
  unfold chkE
  rw [hl]
  by_cases h1 : 128 < m
  · have h1' : (128 : Int) < (m : Int) := by omega
    rw [if_pos h1]
    clear hl hcs
    go_enter Try.func24, Try.ntmps24
    go_wp2
    go_ret
    exact ⟨rfl, rfl⟩
  · have h1' : ¬ (128 : Int) < (m : Int) := by omega
    rw [if_neg h1]
    have HL := Lib.hid hl
    clear hl
    generalize hr : (if anyBig xs = true then (1 : Int) else 0) = r
    have HR := Lib.hid hr
    clear hr
    go_enter Try.func24, Try.ntmps24
    go_wp2
    go_loop [3] (fun k => ∃ j : Nat, j ≤ m ∧ k = .int .i64 j ∧ Small xs j) (fun k => m - (intOf k).toNat)
    case atStart => exact ⟨0, by omega, rfl, fun i hi => by omega⟩
    case round =>
      obtain ⟨j, hj, rfl, hA⟩ := hrel
      have HA := Lib.hid hA
      clear hA
      by_cases hlt : j < m
      · rcases hcs with h0 | ⟨b, off, rfl, hc⟩
        · omega
        · have hcj := hc j hlt
          clear hc
          by_cases hx : 1 < xs[j]?.getD 0
          · have hx' : (1 : Int) < ((xs[j]?.getD 0 : Nat) : Int) := by omega
            have HX := Lib.hid hx
            clear hx
            go_wp2
            go_ret
            refine ⟨?_, rfl⟩
            rw [← HR.out, anyBig_true (by rw [HL.out]; exact hlt) HX.out]; rfl
          · have hx' : ¬ (1 : Int) < ((xs[j]?.getD 0 : Nat) : Int) := by omega
            have HX := Lib.hid hx
            clear hx
            go_wp2
            go_round
            case rel => exact ⟨j + 1, by omega, by go_num, fun i hi => by
              by_cases e : i = j
              · subst e; have := HX.out; omega
              · exact HA.out i (by omega)⟩
            case measure => simp [intOf]; omega
      · obtain rfl : j = m := by omega
        go_wp2
        go_ret
        refine ⟨?_, rfl⟩
        rw [← HR.out, anyBig_false (by rw [HL.out]; exact HA.out)]; rfl

end Go.Proofs.Ythabecfajponfaa
