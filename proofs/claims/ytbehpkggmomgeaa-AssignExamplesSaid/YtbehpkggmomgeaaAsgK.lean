/-
  Layer 19 (assign): Cost of the program.
-/
import Derived.Test.YtbehpkggmomgeaaAsgG
import Derived.Test.YtbehpkggmomgeaaAsgI
import Derived.Test.YtbehpkggmomgeaaAsgCos
namespace Go.Proofs.Ytbehpkggmomgeaa
open Go.RowKit AsgRows AsgMath MyHeap MyOwn

/-- Two numbers as a result; new blocks alone are made. -/
def N2Post (x y : Int) (w : World) (e : Ending) (w' : World) : Prop := e = .returned (.tuple #[.int .i64 x, .int .i64 y]) ∧ Below w.heap.size w w'
theorem n2_of {x y x' y' : Int} {w w' : World} (h1 : x = x') (h2 : y = y') (hB : Below w.heap.size w w') : N2Post x' y' w (.returned (.tuple #[.int .i64 x, .int .i64 y])) w' := by subst h1; subst h2; exact ⟨rfl, hB⟩
def CoPost (L : List (List Int)) (ps : List (Int × Int)) : World → Ending → World → Prop := N2Post (coS L ps) (coE L ps)

theorem tkDrew {W : World} {b : Nat} {T : Nat → Bool} (h : Tk W b T) (d : Nat) : Tk (W.drewN d) b T := h
set_option maxRecDepth 100000 in
set_option maxHeartbeats 16000000 in
theorem pCost_call (a al : Option Addr) (n cc nl cl : Nat) (L : List (List Int)) (ps : List (Int × Int)) (w : World) (hM : Mtx w a n L) (hP : Prs w al nl ps) :
    Calls Try.prog 20 #[.slice a n cc, .slice al nl cl] w (CoPost L ps w) := by
  have HM0 := Lib.hid hM
  have HP := Lib.hid hP
  have hnl := hP.bound
  by_cases hE : chM L = 0
  · have hMa := Ma.of hM hE
    obtain ⟨m, hm⟩ : ∃ m, wid L = m := ⟨_, rfl⟩
    rw [hm] at hMa
    have HM := Lib.hid hMa
    have HW := Lib.hid hm
    have HE := Lib.hid hE
    have m16 := hMa.m16
    have n16 : n ≤ 16 := by have := hMa.ok.n16; rw [hMa.M.len] at this; exact this
    have HLn := Lib.hid (And.intro hMa.M.len hP.len)
    clear hM hMa hm hP
    go_enter Try.func20, Try.ntmps20
    go_wp2_with fail
    refine (pCheck_call a n cc L _ HM0.out).mono ?_; rintro e w1 ⟨rfl, hb⟩
    rw [hE]
    have K := Lib.hid (show Below w.heap.size w (w1.alloc (.cells #[.bool false, .bool false, .bool false, .bool false, .bool false, .bool false, .bool false, .bool false, .bool false, .bool false, .bool false, .bool false, .bool false, .bool false, .bool false, .bool false] 58 (0, 0))) ∧ Tk (w1.alloc (.cells #[.bool false, .bool false, .bool false, .bool false, .bool false, .bool false, .bool false, .bool false, .bool false, .bool false, .bool false, .bool false, .bool false, .bool false, .bool false, .bool false] 58 (0, 0))) w1.heap.size (fun _ => false) from ⟨hb.alloc hb.size _, tk_start (block_new _ _ rfl)⟩)
    have hkb := hb.size
    clear hE hb
    go_wp2_with fail
    generalize w1.alloc (.cells #[.bool false, .bool false, .bool false, .bool false, .bool false, .bool false, .bool false, .bool false, .bool false, .bool false, .bool false, .bool false, .bool false, .bool false, .bool false, .bool false] 58 (0, 0)) = w2 at *
    generalize w1.heap.size = kb at *
    go_loopw [4, 8, 18] (fun sv lv iv wr => ∃ (i : Nat) (last : Int) (T : Nat → Bool), i ≤ nl ∧ iv = .int .i64 i ∧ lv = .int .i64 last ∧ sv = .int .i64 (cosS L ps i) ∧ Below w.heap.size w wr ∧ Tk wr kb T ∧ Cs L ps i last T) (fun _ _ iv _ => nl - (intOf iv).toNat)
    case atStart => exact ⟨0, -1, _, Nat.zero_le _, rfl, rfl, rfl, K.out.1, K.out.2, Cs.start⟩
    case round =>
      clear K
      obtain ⟨i, last, T, hi, rfl, rfl, rfl, hB, hT, hC⟩ := hrel
      have K := Lib.hid (And.intro hB hT)
      have C := Lib.hid hC
      have hS0 := hC.s0
      have hS1 := hC.s1
      clear hB hT hC
      by_cases hin : i < nl
      · obtain ⟨bl, ol, rfl, p0, p1⟩ := prs_at (HP.out.below K.out.1) hin
        have hi0 : (0 : Int) ≤ (i : Int) := by omega
        have hi1 : (i : Int) < (nl : Int) := by omega
        have ql := World.block_lt_of_cell? wr _ p0
        obtain ⟨A, hA⟩ : ∃ A, pA ps i = A := ⟨_, rfl⟩
        obtain ⟨B, hB⟩ : ∃ A, pB ps i = A := ⟨_, rfl⟩
        have p0' : wr.cell? ⟨bl, ol + i * 2, none⟩ = some (.int .i64 A) := by rw [← hA]; exact p0
        have p1' : wr.cell? ⟨bl, ol + i * 2 + 1, none⟩ = some (.int .i64 B) := by rw [← hB]; exact p1
        have HAB := Lib.hid (And.intro hA hB)
        have K2 := Lib.hid (show Below w.heap.size w (wr.alloc (.cells #[.int .i64 A, .int .i64 B] 42 (0, 0))) ∧ Tk (wr.alloc (.cells #[.int .i64 A, .int .i64 B] 42 (0, 0))) kb T from ⟨K.out.1.alloc K.out.1.size _, K.out.2.keep (below_alloc _ _)⟩)
        have HQ := Lib.hid (block_new wr (.cells #[.int .i64 A, .int .i64 B] 42 (0, 0)) rfl)
        obtain ⟨S, hS⟩ : ∃ S, cosS L ps i = S := ⟨_, rfl⟩
        rw [hS] at hS0 hS1 ⊢
        have HS := Lib.hid hS
        clear p0 p1 hA hB hS
        go_upto_region 9 with fail
        generalize wr.alloc (.cells #[.int .i64 A, .int .i64 B] 42) = w3 at *
        have hkq : kb < wr.heap.size := (K.out.2.cell (k := 0) (by decide)).2.2
        generalize wr.heap.size = qb at *
        obtain ⟨a0, a1, -, -⟩ := two_old HQ.out
        have qq := lt_of_block HQ.out
        clear p0' p1' ql
        by_cases hA0 : A < 0
        · have HBad := Lib.hid (show badP L (pA ps i) (pB ps i) by rw [HAB.out.1, HAB.out.2]; exact Or.inl hA0)
          go_wp2_with fail
          go_quiet (fail)
          go_wp2_with fail
          go_ret2
          have h := co_err HE.out (by decide) (cosE_bad C.out.e0 (by rw [HLn.out.2]; exact hin) HBad.out)
          exact n2_of h.2.symm h.1.symm (below_drewN K2.out.1 _)
        · by_cases hA1 : (n : Int) ≤ A
          · have HBad := Lib.hid (show badP L (pA ps i) (pB ps i) by rw [HAB.out.1, HAB.out.2]; exact Or.inr (Or.inl (by rw [HLn.out.1]; exact hA1)))
            have d1 : decide (A < 0) = false := decide_eq_false hA0
            have d2 : decide ((n : Int) ≤ A) = true := decide_eq_true hA1
            clear hA0 hA1
            go_wp2_with fail
            go_quiet (fail)
            go_wp2_with fail
            go_ret2
            have h := co_err HE.out (by decide) (cosE_bad C.out.e0 (by rw [HLn.out.2]; exact hin) HBad.out)
            exact n2_of h.2.symm h.1.symm (below_drewN K2.out.1 _)
          · by_cases hB0 : B < 0
            · have HBad := Lib.hid (show badP L (pA ps i) (pB ps i) by rw [HAB.out.1, HAB.out.2]; exact Or.inr (Or.inr (Or.inl hB0)))
              have d1 : decide (A < 0) = false := decide_eq_false hA0
              have d2 : decide ((n : Int) ≤ A) = false := decide_eq_false hA1
              have d3 : decide (B < 0) = true := decide_eq_true hB0
              clear hA0 hA1 hB0
              go_wp2_with fail
              go_quiet (fail)
              go_wp2_with fail
              go_ret2
              have h := co_err HE.out (by decide) (cosE_bad C.out.e0 (by rw [HLn.out.2]; exact hin) HBad.out)
              exact n2_of h.2.symm h.1.symm (below_drewN K2.out.1 _)
            · obtain ⟨A', rfl⟩ := Int.eq_ofNat_of_zero_le (show 0 ≤ A by omega)
              obtain ⟨B', rfl⟩ := Int.eq_ofNat_of_zero_le (show 0 ≤ B by omega)
              have hAn : A' < n := by omega
              have hAn2 : (A' : Int) < (n : Int) := by omega
              have hA00 : (0 : Int) ≤ (A' : Int) := by omega
              have hB00 : (0 : Int) ≤ (B' : Int) := by omega
              have hn0 : (0 : Int) < (n : Int) := by omega
              obtain ⟨b, off, r0, c0, ra, rc, rfl, x0w, xAw, xi⟩ := mtx_two HM0.out (i := A') hAn
              have x0 := keep1 K2.out.1 x0w
              have xA := keep1 K2.out.1 xAw
              have hbw := World.block_lt_of_cell? w _ x0w
              clear x0w xAw
              have hrl : (rowL L A').length = m := by rw [HM.out.ok.form A' (by rw [HM.out.M.len]; exact hAn), HM.out.wd]
              rw [HM.out.wd] at x0
              rw [hrl] at xA xi
              have qb2 := World.block_lt_of_cell? w3 _ x0
              have d1 : decide ((A' : Int) < 0) = false := decide_eq_false hA0
              have d2 : decide ((n : Int) ≤ (A' : Int)) = false := decide_eq_false hA1
              have f2 : decide (n ≤ A') = false := decide_eq_false (by omega)
              have d3 : decide ((B' : Int) < 0) = false := decide_eq_false hB0
              by_cases hB1 : (m : Int) ≤ (B' : Int)
              · have HBad := Lib.hid (show badP L (pA ps i) (pB ps i) by rw [HAB.out.1, HAB.out.2]; exact Or.inr (Or.inr (Or.inr (Or.inl (by rw [HM.out.wd]; exact hB1)))))
                have d4 : decide ((m : Int) ≤ (B' : Int)) = true := decide_eq_true hB1
                have f4 : decide (m ≤ B') = true := decide_eq_true (by omega)
                clear xi hrl xA hA0 hA1 hB0 hB1
                go_wp2_with fail
                go_quiet (fail)
                go_wp2_with fail
                go_ret2
                have h := co_err HE.out (by decide) (cosE_bad C.out.e0 (by rw [HLn.out.2]; exact hin) HBad.out)
                exact n2_of h.2.symm h.1.symm (below_drewN K2.out.1 _)
              · have hBm : B' < m := by omega
                obtain ⟨b2, o2, rfl, x1g⟩ := ints_at xi hBm
                have hb2w := World.block_lt_of_cell? w _ x1g
                have x1 : w3.cell? ⟨b2, o2 + B', none⟩ = some (.int .i64 (AsgRows.ent L A' B')) := keep1 K2.out.1 x1g
                clear x1g
                have qb3 := World.block_lt_of_cell? w3 _ x1
                have e1 := HM.out.ok.lo A' B' (by rw [HM.out.M.len]; exact hAn) (by rw [HM.out.wd]; exact hBm)
                have e2 := HM.out.hi2 A' B' hAn hBm
                obtain ⟨X, hX⟩ : ∃ X, AsgRows.ent L A' B' = X := ⟨_, rfl⟩
                rw [hX] at x1 e1 e2
                have HX := Lib.hid hX
                have hB2 : (B' : Int) < 16 := by omega
                have hBm2 : (B' : Int) < (m : Int) := by omega
                clear xi hrl hX
                by_cases hx : X < 0
                · have HBad := Lib.hid (show badP L (pA ps i) (pB ps i) by rw [HAB.out.1, HAB.out.2]; exact Or.inr (Or.inr (Or.inr (Or.inr (by rw [Int.toNat_natCast, Int.toNat_natCast, HX.out]; exact hx)))))
                  have d4 : decide ((m : Int) ≤ (B' : Int)) = false := decide_eq_false hB1
                  have f4 : decide (m ≤ B') = false := decide_eq_false (by omega)
                  have d5 : decide (X < 0) = true := decide_eq_true hx
                  clear hA0 hA1 hB0 hB1
                  go_wp2_with fail
                  go_quiet (fail)
                  go_wp2_with fail
                  go_ret2
                  have h := co_err HE.out (by decide) (cosE_bad C.out.e0 (by rw [HLn.out.2]; exact hin) HBad.out)
                  exact n2_of h.2.symm h.1.symm (below_drewN K2.out.1 _)
                · have HNB := Lib.hid (show ¬ badP L (pA ps i) (pB ps i) by
                    rw [HAB.out.1, HAB.out.2]
                    unfold badP
                    rw [Int.toNat_natCast, Int.toNat_natCast, HX.out, HLn.out.1, HM.out.wd]
                    omega)
                  have d4 : decide ((m : Int) ≤ (B' : Int)) = false := decide_eq_false hB1
                  have f4 : decide (m ≤ B') = false := decide_eq_false (by omega)
                  have d5 : decide (X < 0) = false := decide_eq_false hx
                  have hCl := Lib.hid (C.out.clash (b := B') (by rw [HAB.out.1]; omega) HAB.out.2 (by omega))
                  obtain ⟨t0, t1, t2⟩ := K2.out.2.cell (k := B') (by omega)
                  clear hA0 hA1 hB0 hB1 hx
                  by_cases hl : (A' : Int) ≤ last
                  · have HCl2 := Lib.hid (hCl.out.2 (Or.inl (by rw [HAB.out.1]; exact hl)))
                    clear hCl
                    go_wp2_with fail
                    go_quiet (fail)
                    go_wp2_with fail
                    go_ret2
                    have h := co_err HE.out (by decide) (cosE_clash C.out.e0 (by rw [HLn.out.2]; exact hin) HNB.out HCl2.out)
                    exact n2_of h.2.symm h.1.symm (below_drewN K2.out.1 _)
                  · have d6 : decide ((A' : Int) ≤ last) = false := decide_eq_false hl
                    cases hT : T B' with
                    | true =>
                      rw [hT] at t0
                      have HCl2 := Lib.hid (hCl.out.2 (Or.inr hT))
                      clear hCl
                      go_wp2_with fail
                      go_quiet (fail)
                      go_wp2_with fail
                      go_ret2
                      have h := co_err HE.out (by decide) (cosE_clash C.out.e0 (by rw [HLn.out.2]; exact hin) HNB.out HCl2.out)
                      exact n2_of h.2.symm h.1.symm (below_drewN K2.out.1 _)
                    | false =>
                      rw [hT] at t0
                      have HN := Lib.hid (C.out.next (T' := upd T B' true) HNB.out HAB.out.2 (by omega) (by rw [HAB.out.1]; omega) hT (fun k => rfl) (by rw [HAB.out.1, HAB.out.2, Int.toNat_natCast, Int.toNat_natCast, HX.out]; exact e2))
                      have HSN := Lib.hid (show cosS L ps (i + 1) = S + X by
                        show cosS L ps i + AsgRows.ent L (pA ps i).toNat (pB ps i).toNat = _
                        rw [HAB.out.1, HAB.out.2, Int.toNat_natCast, Int.toNat_natCast, HX.out, HS.out])
                      have HT := Lib.hid hT
                      have hwr : IntKind.i64.wrap (S + X) = S + X := IntWalk.i64_in _ (by omega)
                      clear hCl hT
                      go_wp2_with fail
                      go_quiet (fail)
                      go_wp2_with fail
                      have n1 : kb ≠ b := by omega
                      have n2 : b ≠ kb := n1.symm
                      have n3 : kb ≠ b2 := by omega
                      have n4 : b2 ≠ kb := n3.symm
                      have n5 : kb ≠ qb := by omega
                      have n6 : qb ≠ kb := n5.symm
                      go_region
                      all_goals
                        go_wp2_with fail
                        go_quiet (fail)
                        go_wp2_with fail
                        go_roundw
                        case rel => exact ⟨i + 1, (A' : Int), upd T B' true, by omega, by go_num, rfl, by rw [HSN.out], below_drewN (below_new (below_drewN K2.out.1 _) hkb _ _) _, tkDrew (Tk.set (tkDrew K2.out.2 _) (by omega) true) _, by
                          have h := HN.out
                          rw [HAB.out.1] at h
                          exact h⟩
                        case measure => simp [intOf]; omega
      · obtain rfl : nl = i := by omega
        clear hi hin
        go_wp2_with fail
        go_ret2
        have h := co_ok HE.out (by rw [HLn.out.2]; exact C.out.e0)
        rw [HLn.out.2] at h
        exact n2_of h.2.symm h.1.symm K.out.1
  · have HB := Lib.hid hE
    have hne : (chM L != 0) = true := by rw [bne_iff_ne]; exact hE
    clear hM hE hP
    go_enter Try.func20, Try.ntmps20
    go_wp2_with fail
    refine (pCheck_call a n cc L _ HM0.out).mono ?_; rintro e w1 ⟨rfl, hb⟩
    obtain ⟨E, hE⟩ : ∃ E, chM L = E := ⟨_, rfl⟩
    rw [hE] at hne
    have HE := Lib.hid hE
    rw [hE]
    clear hE
    go_wp2_with fail
    go_ret2
    have h := co_ch (ps := ps) HB.out
    exact n2_of h.2.symm (by rw [h.1, HE.out]) hb
end Go.Proofs.Ytbehpkggmomgeaa
