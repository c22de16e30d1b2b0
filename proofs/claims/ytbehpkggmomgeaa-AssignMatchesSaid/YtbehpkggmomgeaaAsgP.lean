/-
  Layer 19 (assign): Better of the reference.
-/
import Derived.Test.YtbehpkggmomgeaaAsgO
import Derived.Test.YtbehpkggmomgeaaAsgL
namespace Go.Proofs.Ytbehpkggmomgeaa
open Go.RowKit AsgRows AsgMath MyHeap MyOwn

theorem same_prB {ps qs : List (Int × Int)} {i : Nat} : prB (pA ps i, pB ps i) (pA qs i, pB qs i) = true ↔ sameAt ps qs i := by
  rw [prB_true]
  exact ⟨fun h => ⟨congrArg Prod.fst h, congrArg Prod.snd h⟩, fun h => by rw [h.1, h.2]⟩

set_option maxRecDepth 100000 in
set_option maxHeartbeats 8000000 in
theorem rBetter_call (a a1 a2 : Option Addr) (n cc n1 c1 n2 c2 : Nat) (L : List (List Int)) (ps qs : List (Int × Int)) (w : World) (hM : Mtx w a n L) (hP : Prs w a1 n1 ps) (hQ : Prs w a2 n2 qs) :
    Calls Try.prog 24 #[.slice a n cc, .slice a1 n1 c1, .slice a2 n2 c2] w (BtPost L ps qs w) := by
  have HM := Lib.hid hM
  have HP := Lib.hid hP
  have HQ := Lib.hid hQ
  have m1 := hP.bound
  have m2 := hQ.bound
  clear hM hP hQ
  go_enter Try.func24, Try.ntmps24
  go_wp2_with fail
  refine (rCost_call a a1 n cc n1 c1 L ps _ HM.out HP.out).mono ?_
  rintro e w1 ⟨rfl, hb⟩
  have K := Lib.hid hb
  clear hb
  obtain ⟨E1, hE1⟩ : ∃ E, coE L ps = E := ⟨_, rfl⟩
  obtain ⟨S1, hS1⟩ : ∃ E, coS L ps = E := ⟨_, rfl⟩
  rw [hE1, hS1]
  by_cases h1 : E1 = 0
  · subst h1
    have HE1 := Lib.hid (And.intro hE1 hS1)
    clear hE1 hS1
    go_wp2_with fail
    refine (rCost_call a a2 n cc n2 c2 L qs _ (HM.out.below K.out) (HQ.out.below K.out)).mono ?_
    rintro e w2 ⟨rfl, hb⟩
    replace K := Lib.hid (K.out.trans (hb.mono K.out.size))
    clear hb
    obtain ⟨E2, hE2⟩ : ∃ E, coE L qs = E := ⟨_, rfl⟩
    obtain ⟨S2, hS2⟩ : ∃ E, coS L qs = E := ⟨_, rfl⟩
    rw [hE2, hS2]
    by_cases h2 : E2 = 0
    · subst h2
      have HBE := Lib.hid (show btE L ps qs = 0 by rw [bt_e2 HE1.out.1, hE2])
      have HE2 := Lib.hid hS2
      clear hE2 hS2
      by_cases hl : n1 = n2
      · subst hl
        have HLL := Lib.hid (show ps.length = qs.length by rw [HP.out.len, HQ.out.len])
        have hnn : ((n1 : Int) != (n1 : Int)) = false := by simp
        by_cases hc : S1 = S2
        · subst hc
          have HLx := Lib.hid (bt_lex HBE.out HLL.out (by rw [HE1.out.2, HE2.out]))
          have hss : (S1 != S1) = false := by simp
          have gd := pln_guard
          have ng := pln_neq
          go_wp2_with fail
          go_loopw [11] (fun iv wr => ∃ (i : Nat), i ≤ n1 ∧ iv = .int .i64 i ∧ (∀ j, j < i → sameAt ps qs j) ∧ Below w.heap.size w wr) (fun iv _ => n1 - (intOf iv).toNat)
          case atStart => exact ⟨0, Nat.zero_le _, rfl, fun j hj => by omega, K.out⟩
          case round =>
            clear K
            obtain ⟨i, hi, rfl, hS, hB⟩ := hrel
            have HS := Lib.hid hS
            have K := Lib.hid hB
            clear hS hB
            by_cases hin : i < n1
            · obtain ⟨bp, op, rfl, x0, x1⟩ := prs_at (HP.out.below K.out) hin
              obtain ⟨bq, oq, rfl, y0, y1⟩ := prs_at (HQ.out.below K.out) hin
              obtain ⟨A1, hA1⟩ : ∃ A, pA ps i = A := ⟨_, rfl⟩
              obtain ⟨B1, hB1⟩ : ∃ A, pB ps i = A := ⟨_, rfl⟩
              obtain ⟨A2, hA2⟩ : ∃ A, pA qs i = A := ⟨_, rfl⟩
              obtain ⟨B2, hB2⟩ : ∃ A, pB qs i = A := ⟨_, rfl⟩
              have x0' : wr.cell? ⟨bp, op + i * 2, none⟩ = some (.int .i64 A1) := by rw [← hA1]; exact x0
              have x1' : wr.cell? ⟨bp, op + i * 2 + 1, none⟩ = some (.int .i64 B1) := by rw [← hB1]; exact x1
              have y0' : wr.cell? ⟨bq, oq + i * 2, none⟩ = some (.int .i64 A2) := by rw [← hA2]; exact y0
              have y1' : wr.cell? ⟨bq, oq + i * 2 + 1, none⟩ = some (.int .i64 B2) := by rw [← hB2]; exact y1
              have HA := Lib.hid (And.intro (And.intro hA1 hB1) (And.intro hA2 hB2))
              have q0 := World.block_lt_of_cell? wr _ x0
              have q1 := World.block_lt_of_cell? wr _ y0
              have hi0 : (0 : Int) ≤ (i : Int) := by omega
              have hi1 : (i : Int) < (n1 : Int) := by omega
              clear x0 x1 y0 y1 hA1 hB1 hA2 hB2
              by_cases hs : prB (A1, B1) (A2, B2) = true
              · have HSm := Lib.hid (show sameAt ps qs i from same_prB.1 (by rw [HA.out.1.1, HA.out.1.2, HA.out.2.1, HA.out.2.2]; exact hs))
                go_wp2_with fail
                go_quiet (fail)
                go_wp2_with fail
                go_roundw
                case rel => exact ⟨i + 1, by omega, by go_num, fun j hj => by
                  by_cases e : j = i
                  · subst e; exact HSm.out
                  · exact HS.out j (by omega), below_drewN K.out _⟩
                case measure => simp [intOf]; omega
              · have hs2 : prB (A1, B1) (A2, B2) = false := by simpa using hs
                have HNs := Lib.hid (show ¬ sameAt ps qs i from fun q => hs (by have := same_prB.2 q; rwa [HA.out.1.1, HA.out.1.2, HA.out.2.1, HA.out.2.2] at this))
                have HRes := Lib.hid (show btB L ps qs = (decide (A1 < A2) || (decide (A1 = A2) && decide (B1 < B2))) by
                  rw [HLx.out, lxB_at ps qs i (by rw [HP.out.len]; exact hin) (by rw [HQ.out.len]; exact hin) HS.out HNs.out, HA.out.1.1, HA.out.1.2, HA.out.2.1, HA.out.2.2])
                clear hs
                by_cases hA : A1 < A2
                · have HR := Lib.hid (show btB L ps qs = true by rw [HRes.out, decide_eq_true hA]; rfl)
                  clear HRes
                  go_wp2_with fail
                  go_quiet (fail)
                  go_wp2_with fail
                  go_quiet (fail)
                  go_wp2_with fail
                  go_ret2
                  exact btPost_of HR.out HBE.out (below_drewN (below_drewN K.out _) _)
                · have d1 : decide (A1 < A2) = false := decide_eq_false hA
                  by_cases hE : A1 = A2
                  · have d2 : (A1 == A2) = true := by rw [beq_iff_eq]; exact hE
                    have HR := Lib.hid (show btB L ps qs = decide (B1 < B2) by rw [HRes.out, d1, decide_eq_true hE]; simp)
                    clear HRes hA hE
                    go_wp2_with fail
                    go_quiet (fail)
                    go_wp2_with fail
                    go_quiet (fail)
                    go_wp2_with fail
                    go_ret2
                    exact btPost_of HR.out HBE.out (below_drewN (below_drewN K.out _) _)
                  · have d2 : (A1 == A2) = false := by rw [beq_eq_false_iff_ne]; exact hE
                    have HR := Lib.hid (show btB L ps qs = false by rw [HRes.out, d1, decide_eq_false hE]; rfl)
                    clear HRes hA hE
                    go_wp2_with fail
                    go_quiet (fail)
                    go_wp2_with fail
                    go_quiet (fail)
                    go_wp2_with fail
                    go_ret2
                    exact btPost_of HR.out HBE.out (below_drewN (below_drewN K.out _) _)
            · obtain rfl : n1 = i := by omega
              have HR := Lib.hid (show btB L ps qs = false by rw [HLx.out, same_all HLL.out (by rw [HP.out.len]; exact HS.out)]; exact lxB_same _)
              clear hi hin
              go_wp2_with fail
              go_ret2
              exact btPost_of HR.out HBE.out K.out
        · have hss : (S1 != S2) = true := by rw [bne_iff_ne]; exact hc
          have HR := Lib.hid (show btB L ps qs = decide (S1 < S2) by rw [bt_cost HBE.out HLL.out (by rw [HE1.out.2, HE2.out]; exact hc), HE1.out.2, HE2.out])
          clear hc
          go_wp2_with fail
          go_ret2
          exact btPost_of HR.out HBE.out K.out
      · have hnn : ((n1 : Int) != (n2 : Int)) = true := by rw [bne_iff_ne]; omega
        have HR := Lib.hid (show btB L ps qs = decide (n2 < n1) by rw [bt_len HBE.out (by rw [HP.out.len, HQ.out.len]; exact hl), HP.out.len, HQ.out.len])
        clear hl
        go_wp2_with fail
        go_ret2
        exact btPost_of HR.out HBE.out K.out
    · have hne : (E2 != 0) = true := by rw [bne_iff_ne]; exact h2
      have HBE := Lib.hid (show btE L ps qs = E2 by rw [bt_e2 HE1.out.1, hE2])
      have HBB := Lib.hid (bt_err HBE.out h2)
      clear h2 hE2 hS2
      go_wp2_with fail
      go_ret2
      exact btPost_of HBB.out HBE.out K.out
  · have hne : (E1 != 0) = true := by rw [bne_iff_ne]; exact h1
    have HBE := Lib.hid (show btE L ps qs = E1 by rw [bt_e1 (by rw [hE1]; exact h1), hE1])
    have HBB := Lib.hid (bt_err HBE.out h1)
    clear h1 hE1 hS1
    go_wp2_with fail
    go_ret2
    exact btPost_of HBB.out HBE.out K.out
end Go.Proofs.Ytbehpkggmomgeaa
