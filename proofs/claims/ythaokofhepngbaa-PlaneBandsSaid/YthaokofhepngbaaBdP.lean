/-
  Altitude in seat 36: Contains (printed by genBand.py)
-/
import Derived.Test.YthaokofhepngbaaBdB
namespace Go.Proofs.Ythaokofhepngbaa.Alt
open Go.RowKit AltMath MyHeap

def CnPost (lo hi : List Int) (z v : Int) (w : World) (e : Ending) (w' : World) : Prop := e = .returned (.tuple #[.bool (cnB lo hi z v), .int .i64 (chB lo hi)]) ∧ Below w.heap.size w w'
theorem cn_ch {lo hi : List Int} {z v : Int} (h : chB lo hi ≠ 0) : cnB lo hi z v = false := by unfold cnB; rw [show (chB lo hi == 0) = false by simpa using h]; rfl
theorem cn_out {lo hi : List Int} {z v : Int} (h : v < -100 ∨ 100 < v) : cnB lo hi z v = false := by
  unfold cnB
  rcases h with h | h
  · rw [decide_eq_false (show ¬ -100 ≤ v by omega)]; simp
  · rw [decide_eq_false (show ¬ v ≤ 100 by omega)]; simp
theorem cn_in {lo hi : List Int} {z : Int} {j : Nat} (h : chB lo hi = 0) (hj : j < 201) : cnB lo hi z ((j : Int) - 100) = (decide (gi lo j ≤ z) && decide (z ≤ gi hi j)) := by
  unfold cnB
  rw [h, decide_eq_true (show -100 ≤ (j : Int) - 100 by omega), decide_eq_true (show (j : Int) - 100 ≤ 100 by omega), show ((j : Int) - 100 + 100).toNat = j by omega]
  simp
set_option maxRecDepth 100000 in
set_option maxHeartbeats 4000000 in
theorem pCon_ch (aL aH : Option Addr) (nL nH cL cH : Nat) (lo hi : List Int) (z v : Int) (w : World) (hL : Ints w aL nL lo) (hH : Ints w aH nH hi) (hE : chB lo hi ≠ 0) :
    Calls Try.prog 26 #[bdV aL nL cL aH nH cH, .agg #[.int .i64 z, .int .i64 v]] w (CnPost lo hi z v w) := by
  have d1 : (chB lo hi != 0) = true := bne_iff_ne.2 hE
  have HE := Lib.hid (cn_ch (z := z) (v := v) hE)
  have H := Lib.hid (And.intro hL hH)
  have B := Lib.hid ((below_alloc w (.cells (bdC aL nL cL aH nH cH) 50)).alloc (by simp) (.cells #[.int .i64 z, .int .i64 v] 23))
  clear hL hH hE
  unfold bdV
  unfold bdC at *
  go_enter Try.func26, Try.ntmps26
  go_wp2_with fail
  refine (pCheck_call aL aH nL nH cL cH lo hi _ (H.out.1.below B.out) (H.out.2.below B.out)).mono ?_; rintro e w1 ⟨rfl, hb⟩
  replace B := Lib.hid (B.out.trans (hb.mono B.out.size))
  clear hb
  go_wp2_with fail
  go_ret2
  exact ⟨by rw [HE.out]; rfl, B.out⟩
set_option maxRecDepth 100000 in
set_option maxHeartbeats 4000000 in
theorem pCon_lo (aL aH : Option Addr) (cL cH : Nat) (lo hi : List Int) (z v : Int) (w : World) (hL : Ints w aL 201 lo) (hH : Ints w aH 201 hi) (hE : chB lo hi = 0) (hv : v < -100) :
    Calls Try.prog 26 #[bdV aL 201 cL aH 201 cH, .agg #[.int .i64 z, .int .i64 v]] w (CnPost lo hi z v w) := by
  have HE := Lib.hid (And.intro hE (cn_out (lo := lo) (hi := hi) (z := z) (v := v) (by omega)))
  have H := Lib.hid (And.intro hL hH)
  have B := Lib.hid (And.intro ((below_alloc w (.cells (bdC aL 201 cL aH 201 cH) 50)).alloc (by simp) (.cells #[.int .i64 z, .int .i64 v] 23)) (block_new (w.alloc (.cells (bdC aL 201 cL aH 201 cH) 50)) (.cells #[.int .i64 z, .int .i64 v] 23) (n := w.heap.size + 1) (by simp)))
  have dA : decide (-100 ≤ v) = false := decide_eq_false (by omega)
  clear hL hH hE hv
  unfold bdV
  unfold bdC at *
  go_enter Try.func26, Try.ntmps26
  go_wp2_with fail
  refine (pCheck_call aL aH 201 201 cL cH lo hi _ (H.out.1.below B.out.1) (H.out.2.below B.out.1)).mono ?_; rintro e w1 ⟨rfl, hb⟩
  replace B := Lib.hid (And.intro (B.out.1.trans (hb.mono B.out.1.size)) (keepO hb B.out.2))
  have p0 := cell_of_block (i := 0) B.out.2 rfl
  have p1 := cell_of_block (i := 1) B.out.2 rfl
  rw [HE.out.1]
  clear hb
  go_wp2_with fail
  go_quiet (fail)
  go_wp2_with fail
  go_ret2
  exact ⟨by rw [HE.out.1, HE.out.2]; rfl, B.out.1.trans ⟨rfl, rfl, rfl, Nat.le_refl _, fun _ _ => rfl⟩⟩
set_option maxRecDepth 100000 in
set_option maxHeartbeats 4000000 in
theorem pCon_hi (aL aH : Option Addr) (cL cH : Nat) (lo hi : List Int) (z v : Int) (w : World) (hL : Ints w aL 201 lo) (hH : Ints w aH 201 hi) (hE : chB lo hi = 0) (hv : 100 < v) :
    Calls Try.prog 26 #[bdV aL 201 cL aH 201 cH, .agg #[.int .i64 z, .int .i64 v]] w (CnPost lo hi z v w) := by
  have HE := Lib.hid (And.intro hE (cn_out (lo := lo) (hi := hi) (z := z) (v := v) (by omega)))
  have H := Lib.hid (And.intro hL hH)
  have B := Lib.hid (And.intro ((below_alloc w (.cells (bdC aL 201 cL aH 201 cH) 50)).alloc (by simp) (.cells #[.int .i64 z, .int .i64 v] 23)) (block_new (w.alloc (.cells (bdC aL 201 cL aH 201 cH) 50)) (.cells #[.int .i64 z, .int .i64 v] 23) (n := w.heap.size + 1) (by simp)))
  have dA : decide (-100 ≤ v) = true := decide_eq_true (by omega)
  have dB : decide (v ≤ 100) = false := decide_eq_false (by omega)
  clear hL hH hE hv
  unfold bdV
  unfold bdC at *
  go_enter Try.func26, Try.ntmps26
  go_wp2_with fail
  refine (pCheck_call aL aH 201 201 cL cH lo hi _ (H.out.1.below B.out.1) (H.out.2.below B.out.1)).mono ?_; rintro e w1 ⟨rfl, hb⟩
  replace B := Lib.hid (And.intro (B.out.1.trans (hb.mono B.out.1.size)) (keepO hb B.out.2))
  have p0 := cell_of_block (i := 0) B.out.2 rfl
  have p1 := cell_of_block (i := 1) B.out.2 rfl
  rw [HE.out.1]
  clear hb
  go_wp2_with fail
  go_quiet (fail)
  go_wp2_with fail
  go_ret2
  exact ⟨by rw [HE.out.1, HE.out.2]; rfl, B.out.1.trans ⟨rfl, rfl, rfl, Nat.le_refl _, fun _ _ => rfl⟩⟩
set_option maxRecDepth 100000 in
set_option maxHeartbeats 8000000 in
theorem pCon_in (b1 o1 b2 o2 cL cH : Nat) (lo hi : List Int) (z : Int) (j : Nat) (w : World) (hL : Ints w (some ⟨b1, o1, none⟩) 201 lo) (hH : Ints w (some ⟨b2, o2, none⟩) 201 hi) (hE : chB lo hi = 0) (hj : j < 201) :
    Calls Try.prog 26 #[bdV (some ⟨b1, o1, none⟩) 201 cL (some ⟨b2, o2, none⟩) 201 cH, .agg #[.int .i64 z, .int .i64 ((j : Int) - 100)]] w (CnPost lo hi z ((j : Int) - 100) w) := by
  have HE := Lib.hid (And.intro hE (cn_in (z := z) hE hj))
  have H := Lib.hid (And.intro hL hH)
  have B := Lib.hid (And.intro ((below_alloc w (.cells (bdC (some ⟨b1, o1, none⟩) 201 cL (some ⟨b2, o2, none⟩) 201 cH) 50)).alloc (by simp) (.cells #[.int .i64 z, .int .i64 ((j : Int) - 100)] 23)) (And.intro (block_new (w.alloc (.cells (bdC (some ⟨b1, o1, none⟩) 201 cL (some ⟨b2, o2, none⟩) 201 cH) 50)) (.cells #[.int .i64 z, .int .i64 ((j : Int) - 100)] 23) (n := w.heap.size + 1) (by simp)) (block_alloc (o' := .cells #[.int .i64 z, .int .i64 ((j : Int) - 100)] 23) (block_new w (.cells (bdC (some ⟨b1, o1, none⟩) 201 cL (some ⟨b2, o2, none⟩) 201 cH) 50) rfl))))
  have hj0 : (0 : Int) ≤ (j : Int) := by omega
  have hj1 : (j : Int) < 201 := by omega
  have dA : decide (-100 ≤ (j : Int) - 100) = true := decide_eq_true (by omega)
  have dB : decide ((j : Int) - 100 ≤ 100) = true := decide_eq_true (by omega)
  clear hL hH hE
  unfold bdV
  unfold bdC at *
  go_enter Try.func26, Try.ntmps26
  go_wp2_with fail
  refine (pCheck_call (some ⟨b1, o1, none⟩) (some ⟨b2, o2, none⟩) 201 201 cL cH lo hi _ (H.out.1.below B.out.1) (H.out.2.below B.out.1)).mono ?_; rintro e w1 ⟨rfl, hb⟩
  replace B := Lib.hid (And.intro (B.out.1.trans (hb.mono B.out.1.size)) (And.intro (keepO hb B.out.2.1) (keepO hb B.out.2.2)))
  have p0 := cell_of_block (i := 0) B.out.2.1 rfl
  have p1 := cell_of_block (i := 1) B.out.2.1 rfl
  have k0 := cell_of_block (i := 0) B.out.2.2 rfl
  have k1 := cell_of_block (i := 1) B.out.2.2 rfl
  obtain ⟨_, _, e1, x0⟩ := ints_at (H.out.1.below B.out.1) hj
  obtain ⟨_, _, e2, y0⟩ := ints_at (H.out.2.below B.out.1) hj
  cases e1; cases e2
  obtain ⟨X, hX⟩ : ∃ X, gi lo j = X := ⟨_, rfl⟩
  obtain ⟨Y, hY⟩ : ∃ Y, gi hi j = Y := ⟨_, rfl⟩
  rw [hX, hY] at HE
  rw [hX] at x0
  rw [hY] at y0
  rw [HE.out.1]
  clear hb hX hY
  cases dC : decide (X ≤ z)
  all_goals
    go_wp2_with fail
    go_quiet (fail)
    go_wp2_with fail
    go_ret2
    exact ⟨by rw [HE.out.1, HE.out.2, dC]; rfl, B.out.1.trans ⟨rfl, rfl, rfl, Nat.le_refl _, fun _ _ => rfl⟩⟩
theorem pCon_call (aL aH : Option Addr) (nL nH cL cH : Nat) (lo hi : List Int) (z v : Int) (w : World) (hL : Ints w aL nL lo) (hH : Ints w aH nH hi) :
    Calls Try.prog 26 #[bdV aL nL cL aH nH cH, .agg #[.int .i64 z, .int .i64 v]] w (CnPost lo hi z v w) := by
  by_cases hE : chB lo hi = 0
  · obtain ⟨e1, e2, -⟩ := chB_ok hE
    obtain rfl : nL = 201 := by rw [← hL.len]; exact e1
    obtain rfl : nH = 201 := by rw [← hH.len]; exact e2
    by_cases h1 : v < -100
    · exact pCon_lo aL aH cL cH lo hi z v w hL hH hE h1
    · by_cases h2 : 100 < v
      · exact pCon_hi aL aH cL cH lo hi z v w hL hH hE h2
      · obtain ⟨j, rfl⟩ : ∃ j : Nat, v = (j : Int) - 100 := ⟨(v + 100).toNat, by omega⟩
        obtain ⟨b1, o1, rfl, -⟩ := ints_at hL (k := 0) (by decide)
        obtain ⟨b2, o2, rfl, -⟩ := ints_at hH (k := 0) (by decide)
        exact pCon_in b1 o1 b2 o2 cL cH lo hi z j w hL hH hE (by omega)
  · exact pCon_ch aL aH nL nH cL cH lo hi z v w hL hH hE
end Go.Proofs.Ythaokofhepngbaa.Alt
