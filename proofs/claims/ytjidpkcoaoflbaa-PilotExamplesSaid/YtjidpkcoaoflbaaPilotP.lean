/-
  Layer 37 (pilot): the law PilotLater, walked.
-/
import Derived.Test.YtjidpkcoaoflbaaPilotN
import Derived.Test.YtjidpkcoaoflbaaPilotL
import Derived.Test.YtjidpkcoaoflbaaPilotLaw
import Derived.Test.YtjidpkcoaoflbaaPlaneH
import Derived.Deep.QuietTactic
import Derived.BigQuiet
import Derived.IntWalk
namespace Go.Proofs.Ytjidpkcoaoflbaa
open Go.RowKit PilotMath MyHeap MyOwn PlaneMath MyCopy

theorem prs_at {w : World} {a : Option Addr} {n : Nat} {ps : List (Int × Int)} (h : Prs w a n ps) {k : Nat} (hk : k < n) : ∃ b off, a = some ⟨b, off, none⟩ ∧ w.cell? ⟨b, off + k * 2, none⟩ = some (.int .i64 (ps[k]?.getD (0, 0)).1) ∧ w.cell? ⟨b, off + k * 2 + 1, none⟩ = some (.int .i64 (ps[k]?.getD (0, 0)).2) := by
  rcases h.cells with h0 | ⟨b, off, e, hc⟩
  · omega
  · exact ⟨b, off, e, hc k hk⟩
theorem u8_lt {n : Int} (h : (Lit.int .u8 n).wf = true) : 0 ≤ n ∧ n < 256 := by
  simp [Lit.wf, IntKind.min, IntKind.max, IntKind.signed, IntKind.bits] at h
  omega
/-- What Run leaves where there is no error. -/
theorem runPost_good {d pl ms z v : Int} {l : List Adv} {n : Nat} {w : World} {e : Ending} {w' : World} (h : RunPost d pl ms z v l w e w') (hE : rnE d pl ms z v l = 0) (hn : l.length = n) : ∃ a c, e = .returned (.tuple #[.slice a (n + 1) c, .int .i64 0]) ∧ Prs w' a (n + 1) (rnL d pl ms z v l) ∧ Below w.heap.size w w' := by
  have hl : (rnL d pl ms z v l).length = n + 1 := by rw [rnL_ok hE, psts_length, hn]
  obtain ⟨a, c, rfl, hP, hB⟩ := runPost_at h rfl hE (by rw [hl]; have := rnE_ok hE; omega)
  rw [hl] at hP ⊢
  exact ⟨a, c, rfl, hP, hB⟩
/-- What Run leaves where there is one. -/
theorem runPost_bad {d pl ms z v : Int} {l : List Adv} {w : World} {e : Ending} {w' : World} (h : RunPost d pl ms z v l w e w') : ∃ s, e = .returned (.tuple #[s, .int .i64 (rnE d pl ms z v l)]) ∧ Below w.heap.size w w' := by
  obtain ⟨s, rfl, _, hB⟩ := h
  exact ⟨s, rfl, hB⟩

set_option maxRecDepth 100000 in
set_option maxHeartbeats 8000000 in
theorem LaterLaw_bad (a : Option Addr) (n c : Nat) (l : List Adv) (d pl ms z m : Int) (w : World) (hl : Advs w a n l) (hs : Pos l) (hm : 0 ≤ m ∧ m < 256) (hE : rnE d pl ms z 0 l ≠ 0) :
    Calls Try.prog 5 #[.agg #[.int .i64 d, .int .i64 pl, .int .i64 ms], .int .i64 z, .slice a n c, .int .u8 m] w fun e w' => e = .returned (.bool true) ∧ Below w.heap.size w w' := by
  obtain ⟨hm0, hm1⟩ := hm
  have hb := hl.bound
  have HL := Lib.hid hl
  have HPos := Lib.hid hs
  have hne : (rnE d pl ms z 0 l != 0) = true := by simp [hE]
  clear hl hs hE
  go_enter Try.func5, Try.ntmps5
  go_wp2_with fail
  refine (Run_call d pl ms z 0 a n c l _ (HL.out.below ((((Below.refl _ _).alloc (Nat.le_refl _) _).alloc (by simp) _).alloc (by simp; omega) _)) HPos.out).mono ?_
  intro e w1 hpost
  obtain ⟨s1, rfl, hb1⟩ := runPost_bad hpost
  have k1 := keepO hb1 (block_alloc (block_new (w.alloc (.cells #[.int .i64 d, .int .i64 pl, .int .i64 ms] 23)) (.cells #[.int .i64 (wrap64 (d + m % 5)), .int .i64 pl, .int .i64 ms] 23) (n := w.heap.size + 1) (by simp)))
  have k2 := keepO hb1 (block_new ((w.alloc (.cells #[.int .i64 d, .int .i64 pl, .int .i64 ms] 23)).alloc (.cells #[.int .i64 (wrap64 (d + m % 5)), .int .i64 pl, .int .i64 ms] 23)) (.cells #[.int .i64 z, .int .i64 0] 25) (n := w.heap.size + 1 + 1) (by simp))
  have hB1 : Below w.heap.size w w1 := ((((Below.refl _ w).alloc (Nat.le_refl _) _).alloc (by simp) _).alloc (by simp; omega) _).trans (hb1.mono (by simp; omega))
  have HB1 := Lib.hid hB1
  obtain ⟨q0, q1, q2⟩ := three_old k1
  obtain ⟨x0, x1, _, _⟩ := two_old k2
  clear hpost hb1 hB1 k1 k2
  go_wp2_with fail
  refine (Run_call _ pl ms z 0 a n c l _ (HL.out.below HB1.out) HPos.out).mono ?_
  intro e w2 hpost
  obtain ⟨s2, rfl, hb2⟩ := runPost_bad hpost
  have HB2 := Lib.hid (HB1.out.trans (hb2.mono HB1.out.size))
  clear hpost hb2 q0 q1 q2 x0 x1
  go_wp2_with fail
  refine (awake_call _).mono ?_; rintro e w3 ⟨rfl, hb3⟩
  have HB3 := Lib.hid (HB2.out.trans (hb3.mono HB2.out.size))
  clear hb3
  go_wp2
  go_ret
  exact ⟨rfl, HB3.out⟩

set_option maxRecDepth 100000 in
set_option maxHeartbeats 8000000 in
theorem LaterLaw_good (a : Option Addr) (n c : Nat) (l : List Adv) (dI pl ms z m : Int) (w : World) (hl : Advs w a n l) (hs : Pos l) (hm : 0 ≤ m ∧ m < 256) (hE : rnE dI pl ms z 0 l = 0) :
    Calls Try.prog 5 #[.agg #[.int .i64 dI, .int .i64 pl, .int .i64 ms], .int .i64 z, .slice a n c, .int .u8 m] w fun e w' => e = .returned (.bool true) ∧ Below w.heap.size w w' := by
  obtain ⟨hm0, hm1⟩ := hm
  have hb := hl.bound
  obtain ⟨hpl, _, hl256, _⟩ := rnE_ok hE
  obtain ⟨d0, d16, _, _, _, _⟩ := plE_ok hpl
  obtain ⟨d, rfl⟩ : ∃ k : Nat, dI = (k : Int) := ⟨dI.toNat, by omega⟩
  obtain ⟨mm, hmm⟩ : ∃ k : Nat, m % 5 = (k : Int) := ⟨(m % 5).toNat, by omega⟩
  have hmm4 : mm ≤ 4 := by omega
  have hmm5 : (0 : Int) ≤ (mm : Int) := by omega
  have hmm6 : (mm : Int) ≤ 4 := by omega
  have HL := Lib.hid hl
  have HLen := Lib.hid hl.len
  have HPos := Lib.hid hs
  have HE := Lib.hid hE
  have hn256 : n ≤ 256 := by have := hl.len; omega
  clear hl hs hE hpl hl256
  go_enter Try.func5, Try.ntmps5
  go_wp2_with fail
  refine (Run_call d pl ms z 0 a n c l _ (HL.out.below ((((Below.refl _ _).alloc (Nat.le_refl _) _).alloc (by simp) _).alloc (by simp; omega) _)) HPos.out).mono ?_
  intro e w1 hpost
  obtain ⟨a1, c1, rfl, hP1, hb1⟩ := runPost_good hpost HE.out HLen.out
  have k0 := keepO hb1 (block_alloc (block_alloc (block_new w (.cells #[.int .i64 (d : Int), .int .i64 pl, .int .i64 ms] 23) rfl)))
  have k1 := keepO hb1 (block_alloc (block_new (w.alloc (.cells #[.int .i64 (d : Int), .int .i64 pl, .int .i64 ms] 23)) (.cells #[.int .i64 ((d : Int) + (mm : Int)), .int .i64 pl, .int .i64 ms] 23) (n := w.heap.size + 1) (by simp)))
  have k2 := keepO hb1 (block_new ((w.alloc (.cells #[.int .i64 (d : Int), .int .i64 pl, .int .i64 ms] 23)).alloc (.cells #[.int .i64 ((d : Int) + (mm : Int)), .int .i64 pl, .int .i64 ms] 23)) (.cells #[.int .i64 z, .int .i64 0] 25) (n := w.heap.size + 1 + 1) (by simp))
  have hB1 : Below w.heap.size w w1 := ((((Below.refl _ w).alloc (Nat.le_refl _) _).alloc (by simp) _).alloc (by simp; omega) _).trans (hb1.mono (by simp; omega))
  have H1 := Lib.hid (And.intro hP1 (And.intro k0 (And.intro k1 (And.intro k2 hB1))))
  obtain ⟨q0, q1, q2⟩ := three_old k1
  obtain ⟨x0, x1, _, _⟩ := two_old k2
  clear hpost hb1 hB1 k0 k1 k2 hP1
  go_wp2_with fail
  by_cases hE2 : rnE ((d : Int) + (mm : Int)) pl ms z 0 l = 0
  · have HE2 := Lib.hid hE2
    clear hE2
    refine (Run_call _ pl ms z 0 a n c l _ (HL.out.below H1.out.2.2.2.2) HPos.out).mono ?_
    intro e w2 hpost
    obtain ⟨a2, c2, rfl, hP2, hb2⟩ := runPost_good hpost HE2.out HLen.out
    have H2 := Lib.hid (And.intro (H1.out.1.below hb2) (And.intro hP2 (And.intro (keepO hb2 H1.out.2.1) (And.intro (keepO hb2 H1.out.2.2.1) (And.intro (keepO hb2 H1.out.2.2.2.1) (H1.out.2.2.2.2.trans (hb2.mono H1.out.2.2.2.2.size)))))))
    clear hpost hb2 hP2 q0 q1 q2 x0 x1 H1
    go_wp2_with fail
    refine (awake_call _).mono ?_; rintro e w3 ⟨rfl, hb3⟩
    have H3 := Lib.hid (And.intro (H2.out.1.below hb3) (And.intro (H2.out.2.1.below hb3) (And.intro (keepO hb3 H2.out.2.2.1) (And.intro (keepO hb3 H2.out.2.2.2.1) (And.intro (keepO hb3 H2.out.2.2.2.2.1) (H2.out.2.2.2.2.2.trans (hb3.mono H2.out.2.2.2.2.2.size)))))))
    clear hb3 H2
    obtain ⟨r0, _, _⟩ := three_old H3.out.2.2.1
    obtain ⟨q0, _, _⟩ := three_old H3.out.2.2.2.1
    obtain ⟨x0, x1, _, _⟩ := two_old H3.out.2.2.2.2.1
    have hsub : (d : Int) + (mm : Int) - (d : Int) = (mm : Int) := by omega
    go_wp2_with fail
    clear hsub
    have gd := pln_guard
    have ng := pln_neq
    clear r0 q0 x0 x1
    go_loopw [16] (fun kv wr => ∃ k : Nat, k ≤ n + 1 ∧ kv = .int .i64 k ∧ ∃ dd, wr = w3.drewN dd) (fun kv _ => n + 1 - (intOf kv).toNat)
    case atStart => exact ⟨0, by omega, rfl, 0, rfl⟩
    case round =>
      obtain ⟨k, hk, rfl, dd, rfl⟩ := hrel
      obtain ⟨x0, x1, _, _⟩ := two_old H3.out.2.2.2.2.1
      by_cases hlt : k < n + 1
      · obtain ⟨bb, offb, rfl, y0, y1⟩ := prs_at H3.out.2.1 hlt
        have hk0 : (0 : Int) ≤ (k : Int) := by omega
        have hk1 : (k : Int) < (n : Int) + 1 := by omega
        have hval := later HE.out HE2.out (k := k) (by rw [HLen.out]; omega)
        by_cases hkm : k < mm
        · rw [if_pos hkm] at hval
          have hkm1 : decide ((k : Int) < (mm : Int)) = true := decide_eq_true (by omega)
          have hkm2 : decide ((mm : Int) ≤ (k : Int)) = false := decide_eq_false (by omega)
          have hkm3 : decide (mm ≤ k) = false := decide_eq_false (by omega)
          have hkm4 : decide (k < mm) = true := decide_eq_true hkm
          unfold gpl at hval
          have ht : prB (((rnL ((d : Int) + (mm : Int)) pl ms z 0 l)[k]?.getD (0, 0)).1, ((rnL ((d : Int) + (mm : Int)) pl ms z 0 l)[k]?.getD (0, 0)).2) (z, 0) = true := prB_true.2 hval
          clear hval
          go_wp2
          go_quiet (fail)
          go_wp2
          go_roundw
          case rel => exact ⟨k + 1, by omega, by go_num, _, rfl⟩
          case measure => simp [intOf]; omega
        · rw [if_neg hkm] at hval
          have hkm1 : decide ((k : Int) < (mm : Int)) = false := decide_eq_false (by omega)
          have hkm2 : decide ((mm : Int) ≤ (k : Int)) = true := decide_eq_true (by omega)
          have hkm3 : decide (k < mm) = false := decide_eq_false hkm
          have hkm4 : decide (mm ≤ k) = true := decide_eq_true (by omega)
          unfold gpl at hval
          obtain ⟨ba, offa, rfl, z0, z1⟩ := prs_at H3.out.1 (k := k - mm) (by omega)
          obtain ⟨j, hj⟩ : ∃ j : Nat, k - mm = j := ⟨_, rfl⟩
          rw [hj] at hval z0 z1
          have ht : prB (((rnL ((d : Int) + (mm : Int)) pl ms z 0 l)[k]?.getD (0, 0)).1, ((rnL ((d : Int) + (mm : Int)) pl ms z 0 l)[k]?.getD (0, 0)).2) (((rnL (d : Int) pl ms z 0 l)[j]?.getD (0, 0)).1, ((rnL (d : Int) pl ms z 0 l)[j]?.getD (0, 0)).2) = true := prB_true.2 hval
          have hj0 : (0 : Int) ≤ (j : Int) := by omega
          have hj1 : (j : Int) < (n : Int) + 1 := by omega
          have hj2 : (k : Int) - (mm : Int) = (j : Int) := by omega
          have hj3 : IntKind.i64.wrap ((k : Int) - (mm : Int)) = (j : Int) := by rw [hj2]; exact IntWalk.i64_in _ (by omega)
          clear hval hj hkm
          go_wp2
          go_quiet (fail)
          go_wp2
          clear hj2 hj3
          go_roundw
          case rel => exact ⟨k + 1, by omega, by go_num, _, rfl⟩
          case measure => simp [intOf]; omega
      · obtain rfl : k = n + 1 := by omega
        go_wp2
        go_ret
        exact ⟨rfl, below_drewN H3.out.2.2.2.2.2 _⟩
  · have hne : (rnE ((d : Int) + (mm : Int)) pl ms z 0 l != 0) = true := by simp [hE2]
    clear hE2
    refine (Run_call _ pl ms z 0 a n c l _ (HL.out.below H1.out.2.2.2.2) HPos.out).mono ?_
    intro e w2 hpost
    obtain ⟨s2, rfl, hb2⟩ := runPost_bad hpost
    have HB2 := Lib.hid (H1.out.2.2.2.2.trans (hb2.mono H1.out.2.2.2.2.size))
    clear hpost hb2 q0 q1 q2 x0 x1
    go_wp2_with fail
    refine (awake_call _).mono ?_; rintro e w3 ⟨rfl, hb3⟩
    have HB3 := Lib.hid (HB2.out.trans (hb3.mono HB2.out.size))
    clear hb3
    go_wp2
    go_ret
    exact ⟨rfl, HB3.out⟩
theorem LaterLaw_call (a : Option Addr) (n c : Nat) (l : List Adv) (d pl ms z m : Int) (w : World) (hl : Advs w a n l) (hs : Pos l) (hm : 0 ≤ m ∧ m < 256) :
    Calls Try.prog 5 #[.agg #[.int .i64 d, .int .i64 pl, .int .i64 ms], .int .i64 z, .slice a n c, .int .u8 m] w fun e w' => e = .returned (.bool true) ∧ Below w.heap.size w w' := by
  by_cases hE : rnE d pl ms z 0 l = 0
  · exact LaterLaw_good a n c l d pl ms z m w hl hs hm hE
  · exact LaterLaw_bad a n c l d pl ms z m w hl hs hm hE
end Go.Proofs.Ytjidpkcoaoflbaa
