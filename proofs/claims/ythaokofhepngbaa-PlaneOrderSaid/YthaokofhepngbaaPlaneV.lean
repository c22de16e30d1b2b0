/-
  Layer 36 (plane): the law PlaneOrder, walked.
-/
import Derived.Test.YthaokofhepngbaaPlaneT
namespace Go.Proofs.Ythaokofhepngbaa
open Go.RowKit PlaneMath MyHeap MyOwn

set_option maxRecDepth 100000 in
set_option maxHeartbeats 4000000 in
theorem limited_call (z v : Int) (w : World) (h : stB z v = true) :
    Calls Try.prog 22 #[.agg #[.int .i64 z, .int .i64 v]] w fun e w' => e = .returned (.bool (limB z v)) ∧ Below w.heap.size w w' := by
  obtain ⟨s1, s2, s3, s4⟩ := stB_iff.1 h
  clear h
  have hL : limB z v = (decide (z + v < -1000) || decide (50000 < z + v)) := rfl
  have HL := Lib.hid hL
  clear hL
  by_cases h1 : z + v < -1000
  · have HD := Lib.hid h1
    go_enter Try.func22, Try.ntmps22
    go_wp2
    go_ret
    exact ⟨by rw [HL.out, decide_eq_true HD.out]; rfl, by go_grown⟩
  · have HD := Lib.hid h1
    go_enter Try.func22, Try.ntmps22
    go_wp2
    go_ret
    exact ⟨by rw [HL.out, decide_eq_false (show ¬ z + v < -1000 by have := HD.out; omega)]; rfl, by go_grown⟩

set_option maxRecDepth 100000 in
set_option maxHeartbeats 4000000 in
theorem OrderLaw_long (a : Option Addr) (n c : Nat) (z v m0 m1 pull : Int) (w : World) (hn : 300 < n) :
    Calls Try.prog 6 #[.agg #[.int .i64 z, .int .i64 v], .agg #[.int .u8 m0, .int .u8 m1], .slice a n c, .int .i64 pull] w fun e w' => e = .returned (.bool true) ∧ Below w.heap.size w w' := by
  have hd : decide (300 < (n : Int)) = true := decide_eq_true (by omega)
  go_enter Try.func6, Try.ntmps6
  go_wp2_with fail
  refine (long_nil _ _ _ _).mono ?_; rintro e w1 ⟨rfl, rfl⟩
  go_wp2_with fail
  refine (awake_call _).mono ?_; rintro e w2 ⟨rfl, hb2⟩
  have hB : Below w.heap.size w w2 := (((Below.refl _ w).alloc (Nat.le_refl _) _).alloc (by simp) _).trans (hb2.mono (by simp; omega))
  clear hb2
  go_wp2
  go_ret
  exact ⟨rfl, hB⟩

set_option maxRecDepth 100000 in
set_option maxHeartbeats 8000000 in
theorem OrderLaw_bad (a : Option Addr) (n c : Nat) (l : List (Int × Int)) (z v m0 m1 pull : Int) (w : World) (hl : Prs w a n l) (hn : n ≤ 300) (hE : pthE z v pull l ≠ 0) :
    Calls Try.prog 6 #[.agg #[.int .i64 z, .int .i64 v], .agg #[.int .u8 m0, .int .u8 m1], .slice a n c, .int .i64 pull] w fun e w' => e = .returned (.bool true) ∧ Below w.heap.size w w' := by
  have hd : decide (300 < (n : Int)) = false := decide_eq_false (by omega)
  have HL := Lib.hid hl
  clear hl
  obtain ⟨e1, e2⟩ := e_ne hE
  have HE := Lib.hid hE
  clear hE
  go_enter Try.func6, Try.ntmps6
  go_wp2_with fail
  refine (long_nil _ _ _ _).mono ?_; rintro e w1 ⟨rfl, rfl⟩
  go_wp2_with fail
  refine (awake_call _).mono ?_; rintro e w2 ⟨rfl, hb2⟩
  have k4 := keepO hb2 (block_alloc (o' := .cells #[.int .u8 m0, .int .u8 m1] 42) (block_new w (.cells #[.int .i64 z, .int .i64 v] 23) rfl))
  have k5 := keepO hb2 (block_new (w.alloc (.cells #[.int .i64 z, .int .i64 v] 23)) (.cells #[.int .u8 m0, .int .u8 m1] 42) (n := w.heap.size + 1) (by simp))
  have hB2 : Below w.heap.size w w2 := (((Below.refl _ w).alloc (Nat.le_refl _) _).alloc (by simp) _).trans (hb2.mono (by simp; omega))
  have hw2 := hB2.size
  have hz5 := lt_of_block k5
  have hz4 := lt_of_block k4
  have H2 := Lib.hid (And.intro k4 hB2)
  obtain ⟨p0, p1, _, _⟩ := two_old k4
  obtain ⟨q0, q1, _, _⟩ := two_old k5
  clear hb2 hB2 k4 k5
  go_wp2_with fail
  refine (Path_call _ _ _ l _ _ _ _ (HL.out.below (H2.out.2.alloc hw2 _))).mono ?_; intro e w4 hpost
  obtain ⟨a4, c4, rfl, _, _, hb4⟩ := pthPost_at hpost rfl rfl (by
    unfold pthL
    split
    · rw [psts_length, HL.out.len]; omega
    · simp)
  have k9 := keepO hb4 (block_new w2 (.cells #[.int .i64 (wrap64 (z + wrap64 m0)), .int .i64 (wrap64 (v + wrap64 m1))] 23) rfl)
  obtain ⟨r0, r1, _, _⟩ := two_old k9
  have hB4 : Below w.heap.size w w4 := (H2.out.2.alloc hw2 _).trans (hb4.mono (by simp; omega))
  have hw4 := hB4.size
  have H4 := Lib.hid hB4
  clear hpost hb4 k9 hB4 p0 p1 q0 q1
  go_wp2_with fail
  refine (Path_call _ _ _ l _ _ _ _ (HL.out.below H4.out)).mono ?_; intro e w5 hpost
  obtain ⟨a5, c5, rfl, _, _, hb5⟩ := pthPost_at hpost rfl rfl (by
    unfold pthL
    split
    · rw [psts_length, HL.out.len]; omega
    · simp)
  have H5 := Lib.hid (H4.out.trans (hb5.mono hw4))
  clear hpost hb5
  generalize (pthL z v pull l).length = len4 at *
  generalize (pthL (wrap64 (z + wrap64 m0)) (wrap64 (v + wrap64 m1)) pull l).length = len5 at *
  go_wp2
  go_ret
  exact ⟨rfl, H5.out⟩

set_option maxRecDepth 100000 in
set_option maxHeartbeats 8000000 in
theorem OrderLaw_f (a : Option Addr) (n c : Nat) (l : List (Int × Int)) (z v m0 m1 pull : Int) (w : World) (hl : Prs w a n l) (hn : n ≤ 300) (hG : pthE z v pull l = 0) (hE : pthE (z + m0) (v + m1) pull l ≠ 0) (a0 : 0 ≤ m0) (a1 : m0 ≤ 255) (b0 : 0 ≤ m1) (b1 : m1 ≤ 255) :
    Calls Try.prog 6 #[.agg #[.int .i64 z, .int .i64 v], .agg #[.int .u8 m0, .int .u8 m1], .slice a n c, .int .i64 pull] w fun e w' => e = .returned (.bool true) ∧ Below w.heap.size w w' := by
  have hd : decide (300 < (n : Int)) = false := decide_eq_false (by omega)
  have HL := Lib.hid hl
  clear hl
  obtain ⟨hst, _, _, _, _⟩ := pth_ok hG
  obtain ⟨s1, s2, s3, s4⟩ := stB_iff.1 hst
  obtain ⟨e1, e2⟩ := e_ne hE
  have HG := Lib.hid hG
  clear hG hst
  have HE := Lib.hid hE
  clear hE
  go_enter Try.func6, Try.ntmps6
  go_wp2_with fail
  refine (long_nil _ _ _ _).mono ?_; rintro e w1 ⟨rfl, rfl⟩
  go_wp2_with fail
  refine (awake_call _).mono ?_; rintro e w2 ⟨rfl, hb2⟩
  have k4 := keepO hb2 (block_alloc (o' := .cells #[.int .u8 m0, .int .u8 m1] 42) (block_new w (.cells #[.int .i64 z, .int .i64 v] 23) rfl))
  have k5 := keepO hb2 (block_new (w.alloc (.cells #[.int .i64 z, .int .i64 v] 23)) (.cells #[.int .u8 m0, .int .u8 m1] 42) (n := w.heap.size + 1) (by simp))
  have hB2 : Below w.heap.size w w2 := (((Below.refl _ w).alloc (Nat.le_refl _) _).alloc (by simp) _).trans (hb2.mono (by simp; omega))
  have hw2 := hB2.size
  have hz5 := lt_of_block k5
  have hz4 := lt_of_block k4
  have H2 := Lib.hid (And.intro k4 hB2)
  obtain ⟨p0, p1, _, _⟩ := two_old k4
  obtain ⟨q0, q1, _, _⟩ := two_old k5
  clear hb2 hB2 k4 k5
  go_wp2_with fail
  refine (Path_call _ _ _ l _ _ _ _ (HL.out.below (H2.out.2.alloc hw2 _))).mono ?_; intro e w4 hpost
  obtain ⟨a4, c4, rfl, _, _, hb4⟩ := pthPost_at hpost rfl HG.out (by
    unfold pthL
    split
    · rw [psts_length, HL.out.len]; omega
    · simp)
  have k9 := keepO hb4 (block_new w2 (.cells #[.int .i64 (z + m0), .int .i64 (v + m1)] 23) rfl)
  obtain ⟨r0, r1, _, _⟩ := two_old k9
  have hB4 : Below w.heap.size w w4 := (H2.out.2.alloc hw2 _).trans (hb4.mono (by simp; omega))
  have hw4 := hB4.size
  have H4 := Lib.hid hB4
  clear hpost hb4 k9 hB4 p0 p1 q0 q1
  go_wp2_with fail
  refine (Path_call _ _ _ l _ _ _ _ (HL.out.below H4.out)).mono ?_; intro e w5 hpost
  obtain ⟨a5, c5, rfl, _, _, hb5⟩ := pthPost_at hpost rfl rfl (by
    unfold pthL
    split
    · rw [psts_length, HL.out.len]; omega
    · simp)
  have H5 := Lib.hid (H4.out.trans (hb5.mono hw4))
  clear hpost hb5
  generalize (pthL z v pull l).length = len4 at *
  generalize (pthL (z + m0) (v + m1) pull l).length = len5 at *
  go_wp2
  go_ret
  exact ⟨rfl, H5.out⟩

set_option maxRecDepth 100000 in
set_option maxHeartbeats 16000000 in
theorem OrderLaw_good (a : Option Addr) (n c : Nat) (l : List (Int × Int)) (z v m0 m1 pull : Int) (w : World) (hl : Prs w a n l) (hE : pthE z v pull l = 0) (hF : pthE (z + m0) (v + m1) pull l = 0) (a0 : 0 ≤ m0) (a1 : m0 ≤ 255) (b0 : 0 ≤ m1) (b1 : m1 ≤ 255) :
    Calls Try.prog 6 #[.agg #[.int .i64 z, .int .i64 v], .agg #[.int .u8 m0, .int .u8 m1], .slice a n c, .int .i64 pull] w fun e w' => e = .returned (.bool true) ∧ Below w.heap.size w w' := by
  obtain ⟨hst, hp0, hp1, hn, hbt⟩ := pth_ok hE
  obtain ⟨hst', _, _, _, _⟩ := pth_ok hF
  have hlen := hl.len
  rw [hlen] at hn hbt
  have hd : decide (300 < (n : Int)) = false := decide_eq_false (by omega)
  have HM := Lib.hid (And.intro (pthL_ok hE hlen) (pthL_ok hF hlen))
  have HL := Lib.hid hl
  have HE := Lib.hid (And.intro hE hF)
  have HS := Lib.hid (And.intro hst (And.intro hst' hbt))
  obtain ⟨s1, s2, s3, s4⟩ := stB_iff.1 hst
  clear hl hE hF hst hst' hbt hlen
  go_enter Try.func6, Try.ntmps6
  go_wp2_with fail
  refine (long_nil _ _ _ _).mono ?_; rintro e w1 ⟨rfl, rfl⟩
  go_wp2_with fail
  refine (awake_call _).mono ?_; rintro e w2 ⟨rfl, hb2⟩
  have k4 := keepO hb2 (block_alloc (o' := .cells #[.int .u8 m0, .int .u8 m1] 42) (block_new w (.cells #[.int .i64 z, .int .i64 v] 23) rfl))
  have k5 := keepO hb2 (block_new (w.alloc (.cells #[.int .i64 z, .int .i64 v] 23)) (.cells #[.int .u8 m0, .int .u8 m1] 42) (n := w.heap.size + 1) (by simp))
  have hB2 : Below w.heap.size w w2 := (((Below.refl _ w).alloc (Nat.le_refl _) _).alloc (by simp) _).trans (hb2.mono (by simp; omega))
  have hw2 := hB2.size
  have hz5 := lt_of_block k5
  have hz4 := lt_of_block k4
  have H2 := Lib.hid (And.intro k4 hB2)
  obtain ⟨p0, p1, _, _⟩ := two_old k4
  obtain ⟨q0, q1, _, _⟩ := two_old k5
  clear hb2 hB2 k4 k5
  go_wp2_with fail
  refine (Path_call _ _ _ l _ _ _ _ (HL.out.below (H2.out.2.alloc hw2 _))).mono ?_; intro e w4 hpost
  obtain ⟨a4, c4, rfl, hPr4, _, hb4⟩ := pthPost_at hpost HM.out.1 HE.out.1 (by rw [psts_length]; omega)
  have k9 := keepO hb4 (block_new w2 (.cells #[.int .i64 (z + m0), .int .i64 (v + m1)] 23) rfl)
  obtain ⟨r0, r1, _, _⟩ := two_old k9
  have hB4 : Below w.heap.size w w4 := (H2.out.2.alloc hw2 _).trans (hb4.mono (by simp; omega))
  have hw4 := hB4.size
  have H4 := Lib.hid (And.intro hPr4 hB4)
  rw [psts_length]
  clear hpost hb4 k9 hB4 hPr4 p0 p1 q0 q1
  go_wp2_with fail
  refine (Path_call _ _ _ l _ _ _ _ (HL.out.below H4.out.2)).mono ?_; intro e w5 hpost
  obtain ⟨a5, c5, rfl, hPr5, _, hb5⟩ := pthPost_at hpost HM.out.2 HE.out.2 (by rw [psts_length]; omega)
  have hB5 := H4.out.2.trans (hb5.mono hw4)
  have hw5 := hB5.size
  have H5 := Lib.hid (And.intro (H4.out.1.below hb5) (And.intro hPr5 hB5))
  rw [psts_length]
  clear hpost hb5 hPr5 hB5 r0 r1
  go_wp2_with fail
  go_loopw [14] (fun kv wr => ∃ k : Nat, k ≤ n + 1 ∧ kv = .int .i64 k ∧ (k ≤ n → (pst pull l k z v).1 ≤ (pst pull l k (z + m0) (v + m1)).1 ∧ (pst pull l k z v).2 ≤ (pst pull l k (z + m0) (v + m1)).2) ∧ Below w5.heap.size w5 wr) (fun kv _ => n + 1 - (intOf kv).toNat)
  case atStart => exact ⟨0, by omega, rfl, fun _ => ⟨by show z ≤ z + m0; omega, by show v ≤ v + m1; omega⟩, Below.refl _ _⟩
  case round =>
    obtain ⟨k, hk, rfl, hO, hBr⟩ := hrel
    by_cases hlt : k < n + 1
    · obtain ⟨b, off, rfl, x0, x1⟩ := prs_at (H5.out.1.below hBr) (k := k) (by rw [psts_length]; omega)
      obtain ⟨b', off', rfl, y0, y1⟩ := prs_at (H5.out.2.1.below hBr) (k := k) (by rw [psts_length]; omega)
      rw [psts_get _ _ _ _ hlt] at x0 x1 y0 y1
      obtain ⟨o1, o2⟩ := hO (by omega)
      have hst := pst_st hp0 HS.out.1 k (fun i hi => HS.out.2.2 i (by omega))
      have hst' := pst_st hp0 HS.out.2.1 k (fun i hi => HS.out.2.2 i (by omega))
      have hnext : k + 1 ≤ n → limB (pst pull l k z v).1 (pst pull l k z v).2 = false → limB (pst pull l k (z + m0) (v + m1)).1 (pst pull l k (z + m0) (v + m1)).2 = false → _ := fun hk1 ha hb => ord_next (HS.out.2.2 k (by omega)) ⟨o1, o2⟩ ha hb
      have HN := Lib.hid (And.intro hst (And.intro hst' hnext))
      have hsz := hBr.size
      have HB := Lib.hid hBr
      clear hO hst hst' hnext hBr
      have g1 : decide ((pst pull l k (z + m0) (v + m1)).1 < (pst pull l k z v).1) = false := decide_eq_false (by omega)
      have g2 : decide ((pst pull l k (z + m0) (v + m1)).2 < (pst pull l k z v).2) = false := decide_eq_false (by omega)
      have hk0 : (0 : Int) ≤ (k : Int) := by omega
      have hk1 : (k : Int) < (n : Int) + 1 := by omega
      go_wp2_with fail
      go_quiet (fail)
      clear g1 g2
      have hbq : Below wr.heap.size wr (wr.drewN nq) := below_drewN (Below.refl _ _) _
      replace x0 := keep1 hbq x0
      replace x1 := keep1 hbq x1
      replace y0 := keep1 hbq y0
      replace y1 := keep1 hbq y1
      have HBq := Lib.hid (HB.out.trans (hbq.mono hsz))
      have hszq := HBq.out.size
      clear hbq HB hsz
      generalize wr.drewN nq = wq at *
      cases ha : limB (pst pull l k z v).1 (pst pull l k z v).2 with
      | true =>
        have HA := Lib.hid ha
        clear ha
        go_wp2_with fail
        refine (limited_call _ _ _ HN.out.1).mono ?_; rintro e w6 ⟨rfl, hb6⟩
        rw [HA.out]
        have H6 := Lib.hid (H5.out.2.2.trans ((HBq.out.trans (hb6.mono hszq)).mono hw5))
        clear hb6
        go_wp2
        go_ret
        exact ⟨rfl, H6.out⟩
      | false =>
        have HA := Lib.hid ha
        clear ha
        go_wp2_with fail
        refine (limited_call _ _ _ HN.out.1).mono ?_; rintro e w6 ⟨rfl, hb6⟩
        rw [HA.out]
        have HB6 := Lib.hid (HBq.out.trans (hb6.mono hszq))
        have hsz6 := HB6.out.size
        replace y0 := keep1 hb6 y0
        replace y1 := keep1 hb6 y1
        clear hb6 x0 x1
        cases hb : limB (pst pull l k (z + m0) (v + m1)).1 (pst pull l k (z + m0) (v + m1)).2 with
        | true =>
          have HC := Lib.hid hb
          clear hb
          go_wp2_with fail
          refine (limited_call _ _ _ HN.out.2.1).mono ?_; rintro e w7 ⟨rfl, hb7⟩
          rw [HC.out]
          have H7 := Lib.hid (H5.out.2.2.trans ((HB6.out.trans (hb7.mono hsz6)).mono hw5))
          clear hb7
          go_wp2
          go_ret
          exact ⟨rfl, H7.out⟩
        | false =>
          have HC := Lib.hid hb
          clear hb
          go_wp2_with fail
          refine (limited_call _ _ _ HN.out.2.1).mono ?_; rintro e w7 ⟨rfl, hb7⟩
          rw [HC.out]
          have HB7 := Lib.hid (HB6.out.trans (hb7.mono hsz6))
          clear hb7
          go_wp2_with fail
          go_roundw
          case rel => exact ⟨k + 1, by omega, by go_num, fun hk1 => HN.out.2.2 hk1 HA.out HC.out, HB7.out⟩
          case measure => simp [intOf]; omega
    · obtain rfl : k = n + 1 := by omega
      have HB := Lib.hid (H5.out.2.2.trans (hBr.mono hw5))
      go_wp2
      go_ret
      exact ⟨rfl, HB.out⟩

theorem OrderLaw_call (a : Option Addr) (n c : Nat) (l : List (Int × Int)) (z v m0 m1 pull : Int) (w : World) (hl : Go.MyPair.Rd w a n l) (a0 : 0 ≤ m0) (a1 : m0 ≤ 255) (b0 : 0 ≤ m1) (b1 : m1 ≤ 255) :
    Calls Try.prog 6 #[.agg #[.int .i64 z, .int .i64 v], .agg #[.int .u8 m0, .int .u8 m1], .slice a n c, .int .i64 pull] w fun e w' => e = .returned (.bool true) ∧ Below w.heap.size w w' := by
  by_cases hn : 300 < n
  · exact OrderLaw_long a n c z v m0 m1 pull w hn
  · have hP := prs_rd hl (by omega)
    by_cases hE : pthE z v pull l = 0
    · by_cases hF : pthE (z + m0) (v + m1) pull l = 0
      · exact OrderLaw_good a n c l z v m0 m1 pull w hP hE hF a0 a1 b0 b1
      · exact OrderLaw_f a n c l z v m0 m1 pull w hP (by omega) hE hF a0 a1 b0 b1
    · exact OrderLaw_bad a n c l z v m0 m1 pull w hP (by omega) hE
end Go.Proofs.Ythaokofhepngbaa
