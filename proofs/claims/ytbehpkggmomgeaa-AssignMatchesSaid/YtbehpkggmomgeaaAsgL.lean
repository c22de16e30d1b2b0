/-
  Layer 19 (assign): Cost of the reference.
-/
import Derived.Test.YtbehpkggmomgeaaAsgK
import Derived.Test.YtbehpkggmomgeaaAsgB
namespace Go.Proofs.Ytbehpkggmomgeaa
open Go.RowKit AsgRows AsgMath MyHeap MyOwn

set_option maxRecDepth 100000 in
set_option maxHeartbeats 16000000 in
theorem rCost_call (a al : Option Addr) (n cc nl cl : Nat) (L : List (List Int)) (ps : List (Int × Int)) (w : World) (hM : Mtx w a n L) (hP : Prs w al nl ps) :
    Calls Try.prog 22 #[.slice a n cc, .slice al nl cl] w (CoPost L ps w) := by
  have HM0 := Lib.hid hM
  have HP := Lib.hid hP
  have hnl := hP.bound
  by_cases hE : chM L = 0
  · have hMa := Ma.of hM hE
    obtain ⟨m, hm⟩ : ∃ m, wid L = m := ⟨_, rfl⟩
    rw [hm] at hMa
    have HM := Lib.hid hMa
    have HW := Lib.hid hm
    have HE := Lib.hid hE
    have m16 := hMa.m16
    have n16 : n ≤ 16 := by have := hMa.ok.n16; rw [hMa.M.len] at this; exact this
    have HLn := Lib.hid (And.intro hMa.M.len hP.len)
    clear hM hMa hm hP
    go_enter Try.func22, Try.ntmps22
    go_wp2_with fail
    refine (rCheck_call a n cc L _ HM0.out).mono ?_; rintro e w1 ⟨rfl, hb⟩
    rw [hE]
    have K := Lib.hid hb
    clear hE hb
    go_wp2_with fail
    go_loopw [7, 8] (fun sv iv wr => ∃ (i : Nat) (last : Int) (T : Nat → Bool), i ≤ nl ∧ iv = .int .i64 i ∧ sv = .int .i64 (cosS L ps i) ∧ Below w.heap.size w wr ∧ Cs L ps i last T) (fun _ iv _ => nl - (intOf iv).toNat)
    case atStart => exact ⟨0, -1, _, Nat.zero_le _, rfl, rfl, K.out, Cs.start⟩
    case round =>
      clear K
      obtain ⟨i, last, T, hi, rfl, rfl, hB, hC⟩ := hrel
      have K := Lib.hid (And.intro hB trivial)
      have C := Lib.hid hC
      have hS0 := hC.s0
      have hS1 := hC.s1
      clear hB hC
      by_cases hin : i < nl
      · obtain ⟨bl, ol, rfl, p0, p1⟩ := prs_at (HP.out.below K.out.1) hin
        have hi0 : (0 : Int) ≤ (i : Int) := by omega
        have hi1 : (i : Int) < (nl : Int) := by omega
        have ql := World.block_lt_of_cell? wr _ p0
        obtain ⟨A, hA⟩ : ∃ A, pA ps i = A := ⟨_, rfl⟩
        obtain ⟨B, hB⟩ : ∃ A, pB ps i = A := ⟨_, rfl⟩
        have p0' : wr.cell? ⟨bl, ol + i * 2, none⟩ = some (.int .i64 A) := by rw [← hA]; exact p0
        have p1' : wr.cell? ⟨bl, ol + i * 2 + 1, none⟩ = some (.int .i64 B) := by rw [← hB]; exact p1
        have HAB := Lib.hid (And.intro hA hB)
        have K2 := Lib.hid (show Below w.heap.size w (wr.alloc (.cells #[.int .i64 A, .int .i64 B] 42 (0, 0))) ∧ True from ⟨K.out.1.alloc K.out.1.size _, trivial⟩)
        have HQ := Lib.hid (block_new wr (.cells #[.int .i64 A, .int .i64 B] 42 (0, 0)) rfl)
        obtain ⟨S, hS⟩ : ∃ S, cosS L ps i = S := ⟨_, rfl⟩
        rw [hS] at hS0 hS1 ⊢
        have HS := Lib.hid hS
        clear p0 p1 hA hB hS
        go_upto_region 9 with fail
        generalize wr.alloc (.cells #[.int .i64 A, .int .i64 B] 42) = w3 at *
        generalize wr.heap.size = qb at *
        obtain ⟨a0, a1, -, -⟩ := two_old HQ.out
        have qq := lt_of_block HQ.out
        clear p0' p1' ql
        by_cases hA0 : A < 0
        · have HBad := Lib.hid (show badP L (pA ps i) (pB ps i) by rw [HAB.out.1, HAB.out.2]; exact Or.inl hA0)
          go_wp2_with fail
          go_quiet (fail)
          go_wp2_with fail
          go_ret2
          have h := co_err HE.out (by decide) (cosE_bad C.out.e0 (by rw [HLn.out.2]; exact hin) HBad.out)
          exact n2_of h.2.symm h.1.symm (below_drewN K2.out.1 _)
        · by_cases hA1 : (n : Int) ≤ A
          · have HBad := Lib.hid (show badP L (pA ps i) (pB ps i) by rw [HAB.out.1, HAB.out.2]; exact Or.inr (Or.inl (by rw [HLn.out.1]; exact hA1)))
            have d1 : decide (A < 0) = false := decide_eq_false hA0
            have d2 : decide ((n : Int) ≤ A) = true := decide_eq_true hA1
            clear hA0 hA1
            go_wp2_with fail
            go_quiet (fail)
            go_wp2_with fail
            go_ret2
            have h := co_err HE.out (by decide) (cosE_bad C.out.e0 (by rw [HLn.out.2]; exact hin) HBad.out)
            exact n2_of h.2.symm h.1.symm (below_drewN K2.out.1 _)
          · by_cases hB0 : B < 0
            · have HBad := Lib.hid (show badP L (pA ps i) (pB ps i) by rw [HAB.out.1, HAB.out.2]; exact Or.inr (Or.inr (Or.inl hB0)))
              have d1 : decide (A < 0) = false := decide_eq_false hA0
              have d2 : decide ((n : Int) ≤ A) = false := decide_eq_false hA1
              have d3 : decide (B < 0) = true := decide_eq_true hB0
              clear hA0 hA1 hB0
              go_wp2_with fail
              go_quiet (fail)
              go_wp2_with fail
              go_ret2
              have h := co_err HE.out (by decide) (cosE_bad C.out.e0 (by rw [HLn.out.2]; exact hin) HBad.out)
              exact n2_of h.2.symm h.1.symm (below_drewN K2.out.1 _)
            · obtain ⟨A', rfl⟩ := Int.eq_ofNat_of_zero_le (show 0 ≤ A by omega)
              obtain ⟨B', rfl⟩ := Int.eq_ofNat_of_zero_le (show 0 ≤ B by omega)
              have hAn : A' < n := by omega
              have hAn2 : (A' : Int) < (n : Int) := by omega
              have hA00 : (0 : Int) ≤ (A' : Int) := by omega
              have hB00 : (0 : Int) ≤ (B' : Int) := by omega
              have hn0 : (0 : Int) < (n : Int) := by omega
              obtain ⟨b, off, r0, c0, ra, rc, rfl, x0w, xAw, xi⟩ := mtx_two HM0.out (i := A') hAn
              have x0 := keep1 K2.out.1 x0w
              have xA := keep1 K2.out.1 xAw
              have hbw := World.block_lt_of_cell? w _ x0w
              clear x0w xAw
              have hrl : (rowL L A').length = m := by rw [HM.out.ok.form A' (by rw [HM.out.M.len]; exact hAn), HM.out.wd]
              rw [HM.out.wd] at x0
              rw [hrl] at xA xi
              have qb2 := World.block_lt_of_cell? w3 _ x0
              have d1 : decide ((A' : Int) < 0) = false := decide_eq_false hA0
              have d2 : decide ((n : Int) ≤ (A' : Int)) = false := decide_eq_false hA1
              have f2 : decide (n ≤ A') = false := decide_eq_false (by omega)
              have d3 : decide ((B' : Int) < 0) = false := decide_eq_false hB0
              by_cases hB1 : (m : Int) ≤ (B' : Int)
              · have HBad := Lib.hid (show badP L (pA ps i) (pB ps i) by rw [HAB.out.1, HAB.out.2]; exact Or.inr (Or.inr (Or.inr (Or.inl (by rw [HM.out.wd]; exact hB1)))))
                have d4 : decide ((m : Int) ≤ (B' : Int)) = true := decide_eq_true hB1
                have f4 : decide (m ≤ B') = true := decide_eq_true (by omega)
                clear xi hrl hA0 hA1 hB0 hB1
                go_wp2_with fail
                go_quiet (fail)
                go_wp2_with fail
                go_ret2
                have h := co_err HE.out (by decide) (cosE_bad C.out.e0 (by rw [HLn.out.2]; exact hin) HBad.out)
                exact n2_of h.2.symm h.1.symm (below_drewN K2.out.1 _)
              · have hBm : B' < m := by omega
                obtain ⟨b2, o2, rfl, x1g⟩ := ints_at xi hBm
                have hb2w := World.block_lt_of_cell? w _ x1g
                have x1 : w3.cell? ⟨b2, o2 + B', none⟩ = some (.int .i64 (AsgRows.ent L A' B')) := keep1 K2.out.1 x1g
                clear x1g
                have qb3 := World.block_lt_of_cell? w3 _ x1
                have e1 := HM.out.ok.lo A' B' (by rw [HM.out.M.len]; exact hAn) (by rw [HM.out.wd]; exact hBm)
                have e2 := HM.out.hi2 A' B' hAn hBm
                obtain ⟨X, hX⟩ : ∃ X, AsgRows.ent L A' B' = X := ⟨_, rfl⟩
                rw [hX] at x1 e1 e2
                have HX := Lib.hid hX
                have hB2 : (B' : Int) < 16 := by omega
                have hBm2 : (B' : Int) < (m : Int) := by omega
                clear xi hrl hX
                by_cases hx : X < 0
                · have HBad := Lib.hid (show badP L (pA ps i) (pB ps i) by rw [HAB.out.1, HAB.out.2]; exact Or.inr (Or.inr (Or.inr (Or.inr (by rw [Int.toNat_natCast, Int.toNat_natCast, HX.out]; exact hx)))))
                  have d4 : decide ((m : Int) ≤ (B' : Int)) = false := decide_eq_false hB1
                  have f4 : decide (m ≤ B') = false := decide_eq_false (by omega)
                  have d5 : decide (X < 0) = true := decide_eq_true hx
                  clear hA0 hA1 hB0 hB1
                  go_wp2_with fail
                  go_quiet (fail)
                  go_wp2_with fail
                  go_ret2
                  have h := co_err HE.out (by decide) (cosE_bad C.out.e0 (by rw [HLn.out.2]; exact hin) HBad.out)
                  exact n2_of h.2.symm h.1.symm (below_drewN K2.out.1 _)
                · have HNB := Lib.hid (show ¬ badP L (pA ps i) (pB ps i) by
                    rw [HAB.out.1, HAB.out.2]
                    unfold badP
                    rw [Int.toNat_natCast, Int.toNat_natCast, HX.out, HLn.out.1, HM.out.wd]
                    omega)
                  have d4 : decide ((m : Int) ≤ (B' : Int)) = false := decide_eq_false hB1
                  have f4 : decide (m ≤ B') = false := decide_eq_false (by omega)
                  have d5 : decide (X < 0) = false := decide_eq_false hx
                  have hCl := Lib.hid (C.out.clash (b := B') (by rw [HAB.out.1]; omega) HAB.out.2 (by omega))
                  clear hA0 hA1 hB0 hB1 hx
                  have hwr : IntKind.i64.wrap (S + X) = S + X := IntWalk.i64_in _ (by omega)
                  go_wp2_with fail
                  go_quiet (fail)
                  go_wp2_with fail
                  go_loopw [10] (fun kv wr => ∃ (k : Nat), k ≤ i ∧ kv = .int .i64 k ∧ (∃ d, wr = w3.drewN d) ∧ ∀ j, j < k → ¬ ((A' : Int) ≤ pA ps j ∨ pB ps j = (B' : Int))) (fun kv _ => i - (intOf kv).toNat)
                  case atStart => exact ⟨0, Nat.zero_le _, rfl, ⟨_, rfl⟩, fun j hj => by omega⟩
                  case round =>
                    obtain ⟨k, hk, rfl, ⟨d, rfl⟩, hN⟩ := hrel
                    have HN := Lib.hid hN
                    clear hN
                    by_cases hki : k < i
                    · obtain ⟨bl', ol', e', y0, y1⟩ := prs_at (HP.out.below K2.out.1) (k := k) (by omega)
                      cases e'
                      have hk0 : (0 : Int) ≤ (k : Int) := by omega
                      have hk1 : (k : Int) < (nl : Int) := by omega
                      have hk2 : (k : Int) < (i : Int) := by omega
                      have ql := World.block_lt_of_cell? w3 _ y0
                      obtain ⟨A2, hA2⟩ : ∃ A, pA ps k = A := ⟨_, rfl⟩
                      obtain ⟨B2, hB2'⟩ : ∃ A, pB ps k = A := ⟨_, rfl⟩
                      have y0' : w3.cell? ⟨bl, ol + k * 2, none⟩ = some (.int .i64 A2) := by rw [← hA2]; exact y0
                      have y1' : w3.cell? ⟨bl, ol + k * 2 + 1, none⟩ = some (.int .i64 B2) := by rw [← hB2']; exact y1
                      have HAB2 := Lib.hid (And.intro hA2 hB2')
                      clear y0 y1 hA2 hB2'
                      by_cases hc : (A' : Int) ≤ A2
                      · have HCl2 := Lib.hid (show AsgRows.clash ps i from ⟨k, List.mem_range.2 hki, Or.inl (by rw [HAB.out.1, HAB2.out.1]; exact hc)⟩)
                        have d7 : decide ((A' : Int) ≤ A2) = true := decide_eq_true hc
                        clear hc
                        go_wp2_with fail
                        go_quiet (fail)
                        go_wp2_with fail
                        go_ret2
                        have h := co_err HE.out (by decide) (cosE_clash C.out.e0 (by rw [HLn.out.2]; exact hin) HNB.out HCl2.out)
                        exact n2_of h.2.symm h.1.symm (below_drewN (below_drewN K2.out.1 _) _)
                      · have d7 : decide ((A' : Int) ≤ A2) = false := decide_eq_false hc
                        have HC7 := Lib.hid hc
                        clear hc
                        by_cases hc : B2 = (B' : Int)
                        · have HCl2 := Lib.hid (show AsgRows.clash ps i from ⟨k, List.mem_range.2 hki, Or.inr (by rw [HAB.out.2, HAB2.out.2]; exact hc)⟩)
                          have d8 : (B2 == (B' : Int)) = true := by rw [beq_iff_eq]; exact hc
                          clear hc
                          go_wp2_with fail
                          go_quiet (fail)
                          go_wp2_with fail
                          go_ret2
                          have h := co_err HE.out (by decide) (cosE_clash C.out.e0 (by rw [HLn.out.2]; exact hin) HNB.out HCl2.out)
                          exact n2_of h.2.symm h.1.symm (below_drewN (below_drewN K2.out.1 _) _)
                        · have d8 : (B2 == (B' : Int)) = false := by rw [beq_eq_false_iff_ne]; exact hc
                          have HC8 := Lib.hid hc
                          clear hc
                          go_wp2_with fail
                          go_quiet (fail)
                          go_wp2_with fail
                          go_roundw
                          case rel => exact ⟨k + 1, by omega, by go_num, ⟨_, rfl⟩, fun j hj => by
                            by_cases e : j = k
                            · subst e
                              rw [HAB2.out.1, HAB2.out.2]
                              rintro (q | q)
                              · have := HC7.out; omega
                              · have := HC8.out; omega
                            · exact HN.out j (by omega)⟩
                          case measure => simp [intOf]; omega
                    · obtain rfl : i = k := by omega
                      have hno : ¬ AsgRows.clash ps i := fun ⟨j, hj, q⟩ => HN.out j (List.mem_range.1 hj) (by rw [HAB.out.1, HAB.out.2] at q; exact q)
                      have hcl := mt hCl.out.2 hno
                      have hT : T B' = false := by
                        cases hT : T B' with
                        | false => rfl
                        | true => exact absurd (Or.inr hT) hcl
                      have hll : last < pA ps i := Int.not_le.1 (fun q => hcl (Or.inl q))
                      have HNx := Lib.hid (C.out.next (T' := upd T B' true) HNB.out HAB.out.2 (by omega) hll hT (fun k => rfl) (by rw [HAB.out.1, HAB.out.2, Int.toNat_natCast, Int.toNat_natCast, HX.out]; exact e2))
                      have HSN := Lib.hid (show cosS L ps (i + 1) = S + X by
                        show cosS L ps i + AsgRows.ent L (pA ps i).toNat (pB ps i).toNat = _
                        rw [HAB.out.1, HAB.out.2, Int.toNat_natCast, Int.toNat_natCast, HX.out, HS.out])
                      clear hno hcl hT hll hCl hk hki
                      go_wp2_with fail
                      go_quiet (fail)
                      go_wp2_with fail
                      go_roundw
                      case rel => exact ⟨i + 1, pA ps i, upd T B' true, by omega, by go_num, by rw [HSN.out], below_drewN K2.out.1 _, HNx.out⟩
                      case measure => simp [intOf]; omega
      · obtain rfl : nl = i := by omega
        clear hi hin
        go_wp2_with fail
        go_ret2
        have h := co_ok HE.out (by rw [HLn.out.2]; exact C.out.e0)
        rw [HLn.out.2] at h
        exact n2_of h.2.symm h.1.symm K.out.1
  · have HB := Lib.hid hE
    have hne : (chM L != 0) = true := by rw [bne_iff_ne]; exact hE
    clear hM hE hP
    go_enter Try.func22, Try.ntmps22
    go_wp2_with fail
    refine (rCheck_call a n cc L _ HM0.out).mono ?_; rintro e w1 ⟨rfl, hb⟩
    obtain ⟨E, hE⟩ : ∃ E, chM L = E := ⟨_, rfl⟩
    rw [hE] at hne
    have HE := Lib.hid hE
    rw [hE]
    clear hE
    go_wp2_with fail
    go_ret2
    have h := co_ch (ps := ps) HB.out
    exact n2_of h.2.symm (by rw [h.1, HE.out]) hb
end Go.Proofs.Ytbehpkggmomgeaa
