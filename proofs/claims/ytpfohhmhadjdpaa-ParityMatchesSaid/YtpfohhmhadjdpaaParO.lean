/-
  Layer 2 (parity): the law Linear, the walk. Printed by genParO.py.
-/
import Derived.Test.YtpfohhmhadjdpaaParN
import Derived.Test.YtpfohhmhadjdpaaParK
namespace Go.Proofs.Ytpfohhmhadjdpaa
open Go.RowKit BitsMath ParityMath MyHeap MyCopy MyOwn

theorem adr_vals {xs : List Nat} (h : adrE xs = 0) : all1 xs ∧ xs.length ≤ 128 ∧ 24 ≤ xs.length ∧ adrR xs = (rg xs : Nat) ∧ rg xs < 2 ^ 24 := by
  obtain ⟨h1, h2⟩ := adrE_ok h
  obtain ⟨h3, h4⟩ := all1_of h1
  exact ⟨h3, h4, h2, (adr_of h3 h4 h2).2, rg_lt h3⟩
theorem adr_bad {xs : List Nat} (h : adrE xs ≠ 0) : adrR xs = 0 := if_neg h
theorem xor_ok {xs ys : List Nat} (h : xorE xs ys = 0) : chkE xs = 0 ∧ chkE ys = 0 ∧ xs.length = ys.length := by
  unfold xorE at h
  by_cases h1 : chk2E xs ys = 0
  · rw [if_neg (by rw [h1]; decide)] at h
    by_cases h2 : xs.length = ys.length
    · exact ⟨(chk2_zero h1).1, (chk2_zero h1).2, h2⟩
    · rw [if_pos h2] at h; cases h
  · rw [if_pos h1] at h; exact absurd h h1
/-- The address of a sum. -/
theorem lin_xor {xs ys : List Nat} (h : xorE xs ys = 0) (h1 : adrE xs = 0) (h2 : adrE ys = 0) : adrE (xr xs ys) = 0 ∧ adrR (xr xs ys) = ((rg xs ^^^ rg ys : Nat) : Int) ∧ (xr xs ys).length = xs.length := by
  obtain ⟨_, _, hl⟩ := xor_ok h
  obtain ⟨a1, a2, a3, _⟩ := adr_vals h1
  obtain ⟨b1, _⟩ := adr_vals h2
  have hxl := xr_len hl
  obtain ⟨e1, e2⟩ := adr_of (xr_all1 a1 b1) (by rw [hxl]; exact a2) (by rw [hxl]; exact a3)
  exact ⟨e1, by rw [e2, rg_lin hl], hxl⟩
/-- One bit changed. -/
theorem lin_fl {xs : List Nat} {i : Int} (h1 : adrE xs = 0) (h : flE xs i = 0) : synE xs.length i = 0 ∧ adrE (flL xs i.toNat) = 0 ∧ adrR (flL xs i.toNat) = ((rg xs ^^^ rg (unitL xs.length i.toNat) : Nat) : Int) ∧ synR xs.length i = (rg (unitL xs.length i.toNat) : Nat) ∧ (flL xs i.toNat).length = xs.length := by
  obtain ⟨a1, a2, a3, _⟩ := adr_vals h1
  have hck := (adrE_ok h1).1
  unfold flE at h
  rw [if_neg (by rw [hck]; decide)] at h
  by_cases hi : i < 0 ∨ (xs.length : Int) ≤ i
  · rw [if_pos hi] at h; cases h
  · have hi2 : i.toNat < xs.length := by omega
    have hs : synE xs.length i = 0 := by unfold synE; rw [if_neg (by omega), if_neg (by omega)]
    have hfl := fl_len xs i.toNat
    obtain ⟨e1, e2⟩ := adr_of (fl_all1 a1 hi2) (by rw [hfl]; exact a2) (by rw [hfl]; exact a3)
    refine ⟨hs, e1, by rw [e2, rg_fl hi2], ?_, hfl⟩
    unfold synR
    rw [if_pos hs, Int.toNat_natCast]
theorem lin_no {xs : List Nat} {i : Int} (h1 : adrE xs = 0) (h : flE xs i ≠ 0) : synE xs.length i = 8 ∧ synR xs.length i = 0 := by
  obtain ⟨a1, a2, a3, _⟩ := adr_vals h1
  have hck := (adrE_ok h1).1
  unfold flE at h
  rw [if_neg (by rw [hck]; decide)] at h
  have hi : i < 0 ∨ (xs.length : Int) ≤ i := by
    apply Decidable.byContradiction
    intro hi
    exact h (if_neg hi)
  have hs : synE xs.length i = 8 := by unfold synE; rw [if_neg (by omega), if_pos hi]
  exact ⟨hs, by unfold synR; rw [hs]; rfl⟩

set_option maxRecDepth 100000 in
set_option maxHeartbeats 8000000 in
theorem lin_err (a a' : Option Addr) (n n' c c' : Nat) (xs ys : List Nat) (i : Int) (w : World) (h : U8s w a n xs) (h' : U8s w a' n' ys) (hc : n ≤ c) (hc' : n' ≤ c') (hn : n ≤ 200) (hn' : n' ≤ 200) (h1 : adrE xs ≠ 0) :
    Calls Try.prog 5 #[.slice a n c, .slice a' n' c', .int .i64 i] w (BPost true w) := by
  have HL := Lib.hid h
  have HL' := Lib.hid h'
  have hl := h.len
  have HLn := Lib.hid hl
  have hlong : decide ((200 : Int) < (n : Int)) = false := decide_eq_false (by omega)
  have hlong' : decide ((200 : Int) < (n' : Int)) = false := decide_eq_false (by omega)
  have d1 : (adrE xs != 0) = true := bne_iff_ne.2 h1
  have d2 : (adrE xs == 0) = false := by simpa using h1
  have HR := Lib.hid (adr_bad h1)
  clear h1
  cases d3 : (xorE xs ys == 0)
  all_goals
    clear h h' hl
    go_enter Try.func5, Try.ntmps5
    go_wp2_with fail
    refine (awake_call _).mono ?_; rintro e w1 ⟨rfl, hb1⟩
    have B1 := Lib.hid hb1
    clear hb1
    go_wp2_with fail
    refine (Xor_call a a' n n' c c' xs ys _ (HL.out.below B1.out) (HL'.out.below B1.out)).mono ?_; rintro e w2 ⟨vX, rfl, hO, hb2⟩
    have B2 := Lib.hid (B1.out.trans (hb2.mono B1.out.size))
    clear hb2 hO B1
    go_wp2_with fail
    refine (Address_call a n c xs _ (HL.out.below B2.out) hc).mono ?_; rintro e w3 ⟨rfl, hb3⟩
    have B3 := Lib.hid (B2.out.trans (hb3.mono B2.out.size))
    rw [HR.out]
    clear hb3 B2
    go_wp2_with fail
    refine (Address_call a' n' c' ys _ (HL'.out.below B3.out) hc').mono ?_; rintro e w4 ⟨rfl, hb4⟩
    have B4 := Lib.hid (B3.out.trans (hb4.mono B3.out.size))
    clear hb4 B3
    go_wp2_with fail
    go_ret
    exact bPost_of rfl B4.out

set_option maxRecDepth 100000 in
set_option maxHeartbeats 8000000 in
theorem lin_a_fl (a a' : Option Addr) (n n' c c' : Nat) (xs ys : List Nat) (i : Int) (w : World) (h : U8s w a n xs) (h' : U8s w a' n' ys) (hc : n ≤ c) (hc' : n' ≤ c') (hn : n ≤ 200) (hn' : n' ≤ 200) (h1 : adrE xs = 0) (h2 : xorE xs ys ≠ 0) (h4 : flE xs i = 0) :
    Calls Try.prog 5 #[.slice a n c, .slice a' n' c', .int .i64 i] w (BPost true w) := by
  have HL := Lib.hid h
  have HL' := Lib.hid h'
  have hl := h.len
  have HLn := Lib.hid hl
  have hlong : decide ((200 : Int) < (n : Int)) = false := decide_eq_false (by omega)
  have hlong' : decide ((200 : Int) < (n' : Int)) = false := decide_eq_false (by omega)
  obtain ⟨_, g2, g3, g4, g5⟩ := adr_vals h1
  have H1 := Lib.hid (And.intro h1 g4)
  have g6 : rg xs < 16777216 := g5
  rw [hl] at g2 g3
  have d3 : (xorE xs ys == 0) = false := by simpa using h2
  clear h2
  have HF := Lib.hid (lin_fl h1 h4)
  have H4 := Lib.hid h4
  have hx2 := xor_adr (rg xs) (rg (unitL xs.length i.toNat)) g6 (rg_lt (unit_all1 _ _))
  clear h1 h4 g4 g5
  clear h h' hl
  go_enter Try.func5, Try.ntmps5
  go_wp2_with fail
  refine (awake_call _).mono ?_; rintro e w1 ⟨rfl, hb1⟩
  have B1 := Lib.hid hb1
  clear hb1
  go_wp2_with fail
  refine (Xor_call a a' n n' c c' xs ys _ (HL.out.below B1.out) (HL'.out.below B1.out)).mono ?_; rintro e w2 ⟨vX, rfl, hO, hb2⟩
  have B2 := Lib.hid (B1.out.trans (hb2.mono B1.out.size))
  clear hb2 hO B1
  go_wp2_with fail
  refine (Address_call a n c xs _ (HL.out.below B2.out) hc).mono ?_; rintro e w3 ⟨rfl, hb3⟩
  have B3 := Lib.hid (B2.out.trans (hb3.mono B2.out.size))
  rw [H1.out.1, H1.out.2]
  clear hb3 B2
  go_wp2_with fail
  refine (Address_call a' n' c' ys _ (HL'.out.below B3.out) hc').mono ?_; rintro e w4 ⟨rfl, hb4⟩
  have B4 := Lib.hid (B3.out.trans (hb4.mono B3.out.size))
  clear hb4 B3
  go_wp2_with fail
  refine (Flip_call a n c xs i _ (HL.out.below B4.out)).mono ?_; rintro e w6 ⟨vF, rfl, hO, hb6⟩
  have B6 := Lib.hid (B4.out.trans (hb6.mono B4.out.size))
  rw [H4.out] at hO ⊢
  obtain ⟨aF, cF, rfl, hUF, hcF⟩ := own_u8s (hO.1 rfl) rfl (by rw [HF.out.2.2.2.2, HLn.out]; omega)
  rw [HF.out.2.2.2.2, HLn.out] at hUF hcF ⊢
  have HUF := Lib.hid hUF
  clear hUF
  clear hb6 hO
  go_wp2_with fail
  refine (Syndrome_call (n : Int) i _).mono ?_; rintro e w7 ⟨rfl, hb7⟩
  have B7 := Lib.hid (B6.out.trans (hb7.mono B6.out.size))
  have HUF7 := Lib.hid (HUF.out.below hb7)
  rw [← HLn.out, HF.out.1, HF.out.2.2.2.1, HLn.out]
  rw [HLn.out] at hx2
  clear hb7
  go_wp2_with fail
  refine (Address_call aF n cF (flL xs i.toNat) _ HUF7.out hcF).mono ?_; rintro e w8 ⟨rfl, hb8⟩
  have B8 := Lib.hid (B7.out.trans (hb8.mono B7.out.size))
  rw [HF.out.2.1, HF.out.2.2.1, HLn.out]
  clear hb8
  go_wp2_with fail
  go_ret
  exact bPost_of (by simp) B8.out

set_option maxRecDepth 100000 in
set_option maxHeartbeats 8000000 in
theorem lin_a_no (a a' : Option Addr) (n n' c c' : Nat) (xs ys : List Nat) (i : Int) (w : World) (h : U8s w a n xs) (h' : U8s w a' n' ys) (hc : n ≤ c) (hc' : n' ≤ c') (hn : n ≤ 200) (hn' : n' ≤ 200) (h1 : adrE xs = 0) (h2 : xorE xs ys ≠ 0) (h4 : flE xs i ≠ 0) :
    Calls Try.prog 5 #[.slice a n c, .slice a' n' c', .int .i64 i] w (BPost true w) := by
  have HL := Lib.hid h
  have HL' := Lib.hid h'
  have hl := h.len
  have HLn := Lib.hid hl
  have hlong : decide ((200 : Int) < (n : Int)) = false := decide_eq_false (by omega)
  have hlong' : decide ((200 : Int) < (n' : Int)) = false := decide_eq_false (by omega)
  obtain ⟨_, g2, g3, g4, g5⟩ := adr_vals h1
  have H1 := Lib.hid (And.intro h1 g4)
  have g6 : rg xs < 16777216 := g5
  rw [hl] at g2 g3
  have d3 : (xorE xs ys == 0) = false := by simpa using h2
  clear h2
  have HF := Lib.hid (lin_no h1 h4)
  have d5 : (flE xs i != 0) = true := bne_iff_ne.2 h4
  clear h1 h4 g4 g5
  clear h h' hl
  go_enter Try.func5, Try.ntmps5
  go_wp2_with fail
  refine (awake_call _).mono ?_; rintro e w1 ⟨rfl, hb1⟩
  have B1 := Lib.hid hb1
  clear hb1
  go_wp2_with fail
  refine (Xor_call a a' n n' c c' xs ys _ (HL.out.below B1.out) (HL'.out.below B1.out)).mono ?_; rintro e w2 ⟨vX, rfl, hO, hb2⟩
  have B2 := Lib.hid (B1.out.trans (hb2.mono B1.out.size))
  clear hb2 hO B1
  go_wp2_with fail
  refine (Address_call a n c xs _ (HL.out.below B2.out) hc).mono ?_; rintro e w3 ⟨rfl, hb3⟩
  have B3 := Lib.hid (B2.out.trans (hb3.mono B2.out.size))
  rw [H1.out.1, H1.out.2]
  clear hb3 B2
  go_wp2_with fail
  refine (Address_call a' n' c' ys _ (HL'.out.below B3.out) hc').mono ?_; rintro e w4 ⟨rfl, hb4⟩
  have B4 := Lib.hid (B3.out.trans (hb4.mono B3.out.size))
  clear hb4 B3
  go_wp2_with fail
  refine (Flip_call a n c xs i _ (HL.out.below B4.out)).mono ?_; rintro e w6 ⟨vF, rfl, hO, hb6⟩
  have B6 := Lib.hid (B4.out.trans (hb6.mono B4.out.size))
  clear hb6 hO
  go_wp2_with fail
  refine (Syndrome_call (n : Int) i _).mono ?_; rintro e w7 ⟨rfl, hb7⟩
  have B7 := Lib.hid (B6.out.trans (hb7.mono B6.out.size))
  rw [← HLn.out, HF.out.1, HF.out.2]
  clear hb7
  go_wp2_with fail
  go_ret
  exact bPost_of rfl B7.out

set_option maxRecDepth 100000 in
set_option maxHeartbeats 8000000 in
theorem lin_b_fl (a a' : Option Addr) (n n' c c' : Nat) (xs ys : List Nat) (i : Int) (w : World) (h : U8s w a n xs) (h' : U8s w a' n' ys) (hc : n ≤ c) (hc' : n' ≤ c') (hn : n ≤ 200) (hn' : n' ≤ 200) (h1 : adrE xs = 0) (h2 : xorE xs ys = 0) (h3 : adrE ys ≠ 0) (h4 : flE xs i = 0) :
    Calls Try.prog 5 #[.slice a n c, .slice a' n' c', .int .i64 i] w (BPost true w) := by
  have HL := Lib.hid h
  have HL' := Lib.hid h'
  have hl := h.len
  have HLn := Lib.hid hl
  have hlong : decide ((200 : Int) < (n : Int)) = false := decide_eq_false (by omega)
  have hlong' : decide ((200 : Int) < (n' : Int)) = false := decide_eq_false (by omega)
  obtain ⟨_, g2, g3, g4, g5⟩ := adr_vals h1
  have H1 := Lib.hid (And.intro h1 g4)
  have g6 : rg xs < 16777216 := g5
  rw [hl] at g2 g3
  have d3 : (adrE ys == 0) = false := by simpa using h3
  have H2 := Lib.hid h2
  clear h2 h3
  have HF := Lib.hid (lin_fl h1 h4)
  have H4 := Lib.hid h4
  have hx2 := xor_adr (rg xs) (rg (unitL xs.length i.toNat)) g6 (rg_lt (unit_all1 _ _))
  clear h1 h4 g4 g5
  clear h h' hl
  go_enter Try.func5, Try.ntmps5
  go_wp2_with fail
  refine (awake_call _).mono ?_; rintro e w1 ⟨rfl, hb1⟩
  have B1 := Lib.hid hb1
  clear hb1
  go_wp2_with fail
  refine (Xor_call a a' n n' c c' xs ys _ (HL.out.below B1.out) (HL'.out.below B1.out)).mono ?_; rintro e w2 ⟨vX, rfl, hO, hb2⟩
  have B2 := Lib.hid (B1.out.trans (hb2.mono B1.out.size))
  rw [H2.out]
  clear hb2 hO B1
  go_wp2_with fail
  refine (Address_call a n c xs _ (HL.out.below B2.out) hc).mono ?_; rintro e w3 ⟨rfl, hb3⟩
  have B3 := Lib.hid (B2.out.trans (hb3.mono B2.out.size))
  rw [H1.out.1, H1.out.2]
  clear hb3 B2
  go_wp2_with fail
  refine (Address_call a' n' c' ys _ (HL'.out.below B3.out) hc').mono ?_; rintro e w4 ⟨rfl, hb4⟩
  have B4 := Lib.hid (B3.out.trans (hb4.mono B3.out.size))
  clear hb4 B3
  go_wp2_with fail
  refine (Flip_call a n c xs i _ (HL.out.below B4.out)).mono ?_; rintro e w6 ⟨vF, rfl, hO, hb6⟩
  have B6 := Lib.hid (B4.out.trans (hb6.mono B4.out.size))
  rw [H4.out] at hO ⊢
  obtain ⟨aF, cF, rfl, hUF, hcF⟩ := own_u8s (hO.1 rfl) rfl (by rw [HF.out.2.2.2.2, HLn.out]; omega)
  rw [HF.out.2.2.2.2, HLn.out] at hUF hcF ⊢
  have HUF := Lib.hid hUF
  clear hUF
  clear hb6 hO
  go_wp2_with fail
  refine (Syndrome_call (n : Int) i _).mono ?_; rintro e w7 ⟨rfl, hb7⟩
  have B7 := Lib.hid (B6.out.trans (hb7.mono B6.out.size))
  have HUF7 := Lib.hid (HUF.out.below hb7)
  rw [← HLn.out, HF.out.1, HF.out.2.2.2.1, HLn.out]
  rw [HLn.out] at hx2
  clear hb7
  go_wp2_with fail
  refine (Address_call aF n cF (flL xs i.toNat) _ HUF7.out hcF).mono ?_; rintro e w8 ⟨rfl, hb8⟩
  have B8 := Lib.hid (B7.out.trans (hb8.mono B7.out.size))
  rw [HF.out.2.1, HF.out.2.2.1, HLn.out]
  clear hb8
  go_wp2_with fail
  go_ret
  exact bPost_of (by simp) B8.out

set_option maxRecDepth 100000 in
set_option maxHeartbeats 8000000 in
theorem lin_b_no (a a' : Option Addr) (n n' c c' : Nat) (xs ys : List Nat) (i : Int) (w : World) (h : U8s w a n xs) (h' : U8s w a' n' ys) (hc : n ≤ c) (hc' : n' ≤ c') (hn : n ≤ 200) (hn' : n' ≤ 200) (h1 : adrE xs = 0) (h2 : xorE xs ys = 0) (h3 : adrE ys ≠ 0) (h4 : flE xs i ≠ 0) :
    Calls Try.prog 5 #[.slice a n c, .slice a' n' c', .int .i64 i] w (BPost true w) := by
  have HL := Lib.hid h
  have HL' := Lib.hid h'
  have hl := h.len
  have HLn := Lib.hid hl
  have hlong : decide ((200 : Int) < (n : Int)) = false := decide_eq_false (by omega)
  have hlong' : decide ((200 : Int) < (n' : Int)) = false := decide_eq_false (by omega)
  obtain ⟨_, g2, g3, g4, g5⟩ := adr_vals h1
  have H1 := Lib.hid (And.intro h1 g4)
  have g6 : rg xs < 16777216 := g5
  rw [hl] at g2 g3
  have d3 : (adrE ys == 0) = false := by simpa using h3
  have H2 := Lib.hid h2
  clear h2 h3
  have HF := Lib.hid (lin_no h1 h4)
  have d5 : (flE xs i != 0) = true := bne_iff_ne.2 h4
  clear h1 h4 g4 g5
  clear h h' hl
  go_enter Try.func5, Try.ntmps5
  go_wp2_with fail
  refine (awake_call _).mono ?_; rintro e w1 ⟨rfl, hb1⟩
  have B1 := Lib.hid hb1
  clear hb1
  go_wp2_with fail
  refine (Xor_call a a' n n' c c' xs ys _ (HL.out.below B1.out) (HL'.out.below B1.out)).mono ?_; rintro e w2 ⟨vX, rfl, hO, hb2⟩
  have B2 := Lib.hid (B1.out.trans (hb2.mono B1.out.size))
  rw [H2.out]
  clear hb2 hO B1
  go_wp2_with fail
  refine (Address_call a n c xs _ (HL.out.below B2.out) hc).mono ?_; rintro e w3 ⟨rfl, hb3⟩
  have B3 := Lib.hid (B2.out.trans (hb3.mono B2.out.size))
  rw [H1.out.1, H1.out.2]
  clear hb3 B2
  go_wp2_with fail
  refine (Address_call a' n' c' ys _ (HL'.out.below B3.out) hc').mono ?_; rintro e w4 ⟨rfl, hb4⟩
  have B4 := Lib.hid (B3.out.trans (hb4.mono B3.out.size))
  clear hb4 B3
  go_wp2_with fail
  refine (Flip_call a n c xs i _ (HL.out.below B4.out)).mono ?_; rintro e w6 ⟨vF, rfl, hO, hb6⟩
  have B6 := Lib.hid (B4.out.trans (hb6.mono B4.out.size))
  clear hb6 hO
  go_wp2_with fail
  refine (Syndrome_call (n : Int) i _).mono ?_; rintro e w7 ⟨rfl, hb7⟩
  have B7 := Lib.hid (B6.out.trans (hb7.mono B6.out.size))
  rw [← HLn.out, HF.out.1, HF.out.2]
  clear hb7
  go_wp2_with fail
  go_ret
  exact bPost_of rfl B7.out

set_option maxRecDepth 100000 in
set_option maxHeartbeats 8000000 in
theorem lin_c_fl (a a' : Option Addr) (n n' c c' : Nat) (xs ys : List Nat) (i : Int) (w : World) (h : U8s w a n xs) (h' : U8s w a' n' ys) (hc : n ≤ c) (hc' : n' ≤ c') (hn : n ≤ 200) (hn' : n' ≤ 200) (h1 : adrE xs = 0) (h2 : xorE xs ys = 0) (h3 : adrE ys = 0) (h4 : flE xs i = 0) :
    Calls Try.prog 5 #[.slice a n c, .slice a' n' c', .int .i64 i] w (BPost true w) := by
  have HL := Lib.hid h
  have HL' := Lib.hid h'
  have hl := h.len
  have HLn := Lib.hid hl
  have hlong : decide ((200 : Int) < (n : Int)) = false := decide_eq_false (by omega)
  have hlong' : decide ((200 : Int) < (n' : Int)) = false := decide_eq_false (by omega)
  obtain ⟨_, g2, g3, g4, g5⟩ := adr_vals h1
  have H1 := Lib.hid (And.intro h1 g4)
  have g6 : rg xs < 16777216 := g5
  rw [hl] at g2 g3
  obtain ⟨_, _, _, k4, k5⟩ := adr_vals h3
  have H3 := Lib.hid (And.intro h2 (And.intro h3 k4))
  have HX := Lib.hid (lin_xor h2 h1 h3)
  have hx1 := xor_adr (rg xs) (rg ys) g6 k5
  clear h2 h3
  have HF := Lib.hid (lin_fl h1 h4)
  have H4 := Lib.hid h4
  have hx2 := xor_adr (rg xs) (rg (unitL xs.length i.toNat)) g6 (rg_lt (unit_all1 _ _))
  clear h1 h4 g4 g5
  clear h h' hl
  go_enter Try.func5, Try.ntmps5
  go_wp2_with fail
  refine (awake_call _).mono ?_; rintro e w1 ⟨rfl, hb1⟩
  have B1 := Lib.hid hb1
  clear hb1
  go_wp2_with fail
  refine (Xor_call a a' n n' c c' xs ys _ (HL.out.below B1.out) (HL'.out.below B1.out)).mono ?_; rintro e w2 ⟨vX, rfl, hO, hb2⟩
  have B2 := Lib.hid (B1.out.trans (hb2.mono B1.out.size))
  rw [H3.out.1] at hO ⊢
  obtain ⟨aX, cX, rfl, hU, hcX⟩ := own_u8s (hO.1 rfl) rfl (by rw [HX.out.2.2, HLn.out]; omega)
  rw [HX.out.2.2, HLn.out] at hU hcX ⊢
  have HU := Lib.hid hU
  clear hU
  clear hb2 hO B1
  go_wp2_with fail
  refine (Address_call a n c xs _ (HL.out.below B2.out) hc).mono ?_; rintro e w3 ⟨rfl, hb3⟩
  have B3 := Lib.hid (B2.out.trans (hb3.mono B2.out.size))
  have HU3 := Lib.hid (HU.out.below hb3)
  rw [H1.out.1, H1.out.2]
  clear hb3 B2
  go_wp2_with fail
  refine (Address_call a' n' c' ys _ (HL'.out.below B3.out) hc').mono ?_; rintro e w4 ⟨rfl, hb4⟩
  have B4 := Lib.hid (B3.out.trans (hb4.mono B3.out.size))
  have HU4 := Lib.hid (HU3.out.below hb4)
  rw [H3.out.2.1, H3.out.2.2]
  clear hb4 B3
  go_wp2_with fail
  refine (Address_call aX n cX (xr xs ys) _ HU4.out hcX).mono ?_; rintro e w5 ⟨rfl, hb5⟩
  have B5 := Lib.hid (B4.out.trans (hb5.mono B4.out.size))
  rw [HX.out.1, HX.out.2.1]
  clear hb5 B4
  go_wp2_with fail
  refine (Flip_call a n c xs i _ (HL.out.below B5.out)).mono ?_; rintro e w6 ⟨vF, rfl, hO, hb6⟩
  have B6 := Lib.hid (B5.out.trans (hb6.mono B5.out.size))
  rw [H4.out] at hO ⊢
  obtain ⟨aF, cF, rfl, hUF, hcF⟩ := own_u8s (hO.1 rfl) rfl (by rw [HF.out.2.2.2.2, HLn.out]; omega)
  rw [HF.out.2.2.2.2, HLn.out] at hUF hcF ⊢
  have HUF := Lib.hid hUF
  clear hUF
  clear hb6 hO
  go_wp2_with fail
  refine (Syndrome_call (n : Int) i _).mono ?_; rintro e w7 ⟨rfl, hb7⟩
  have B7 := Lib.hid (B6.out.trans (hb7.mono B6.out.size))
  have HUF7 := Lib.hid (HUF.out.below hb7)
  rw [← HLn.out, HF.out.1, HF.out.2.2.2.1, HLn.out]
  rw [HLn.out] at hx2
  clear hb7
  go_wp2_with fail
  refine (Address_call aF n cF (flL xs i.toNat) _ HUF7.out hcF).mono ?_; rintro e w8 ⟨rfl, hb8⟩
  have B8 := Lib.hid (B7.out.trans (hb8.mono B7.out.size))
  rw [HF.out.2.1, HF.out.2.2.1, HLn.out]
  clear hb8
  go_wp2_with fail
  go_ret
  exact bPost_of (by simp) B8.out

set_option maxRecDepth 100000 in
set_option maxHeartbeats 8000000 in
theorem lin_c_no (a a' : Option Addr) (n n' c c' : Nat) (xs ys : List Nat) (i : Int) (w : World) (h : U8s w a n xs) (h' : U8s w a' n' ys) (hc : n ≤ c) (hc' : n' ≤ c') (hn : n ≤ 200) (hn' : n' ≤ 200) (h1 : adrE xs = 0) (h2 : xorE xs ys = 0) (h3 : adrE ys = 0) (h4 : flE xs i ≠ 0) :
    Calls Try.prog 5 #[.slice a n c, .slice a' n' c', .int .i64 i] w (BPost true w) := by
  have HL := Lib.hid h
  have HL' := Lib.hid h'
  have hl := h.len
  have HLn := Lib.hid hl
  have hlong : decide ((200 : Int) < (n : Int)) = false := decide_eq_false (by omega)
  have hlong' : decide ((200 : Int) < (n' : Int)) = false := decide_eq_false (by omega)
  obtain ⟨_, g2, g3, g4, g5⟩ := adr_vals h1
  have H1 := Lib.hid (And.intro h1 g4)
  have g6 : rg xs < 16777216 := g5
  rw [hl] at g2 g3
  obtain ⟨_, _, _, k4, k5⟩ := adr_vals h3
  have H3 := Lib.hid (And.intro h2 (And.intro h3 k4))
  have HX := Lib.hid (lin_xor h2 h1 h3)
  have hx1 := xor_adr (rg xs) (rg ys) g6 k5
  clear h2 h3
  have HF := Lib.hid (lin_no h1 h4)
  have d5 : (flE xs i != 0) = true := bne_iff_ne.2 h4
  clear h1 h4 g4 g5
  clear h h' hl
  go_enter Try.func5, Try.ntmps5
  go_wp2_with fail
  refine (awake_call _).mono ?_; rintro e w1 ⟨rfl, hb1⟩
  have B1 := Lib.hid hb1
  clear hb1
  go_wp2_with fail
  refine (Xor_call a a' n n' c c' xs ys _ (HL.out.below B1.out) (HL'.out.below B1.out)).mono ?_; rintro e w2 ⟨vX, rfl, hO, hb2⟩
  have B2 := Lib.hid (B1.out.trans (hb2.mono B1.out.size))
  rw [H3.out.1] at hO ⊢
  obtain ⟨aX, cX, rfl, hU, hcX⟩ := own_u8s (hO.1 rfl) rfl (by rw [HX.out.2.2, HLn.out]; omega)
  rw [HX.out.2.2, HLn.out] at hU hcX ⊢
  have HU := Lib.hid hU
  clear hU
  clear hb2 hO B1
  go_wp2_with fail
  refine (Address_call a n c xs _ (HL.out.below B2.out) hc).mono ?_; rintro e w3 ⟨rfl, hb3⟩
  have B3 := Lib.hid (B2.out.trans (hb3.mono B2.out.size))
  have HU3 := Lib.hid (HU.out.below hb3)
  rw [H1.out.1, H1.out.2]
  clear hb3 B2
  go_wp2_with fail
  refine (Address_call a' n' c' ys _ (HL'.out.below B3.out) hc').mono ?_; rintro e w4 ⟨rfl, hb4⟩
  have B4 := Lib.hid (B3.out.trans (hb4.mono B3.out.size))
  have HU4 := Lib.hid (HU3.out.below hb4)
  rw [H3.out.2.1, H3.out.2.2]
  clear hb4 B3
  go_wp2_with fail
  refine (Address_call aX n cX (xr xs ys) _ HU4.out hcX).mono ?_; rintro e w5 ⟨rfl, hb5⟩
  have B5 := Lib.hid (B4.out.trans (hb5.mono B4.out.size))
  rw [HX.out.1, HX.out.2.1]
  clear hb5 B4
  go_wp2_with fail
  refine (Flip_call a n c xs i _ (HL.out.below B5.out)).mono ?_; rintro e w6 ⟨vF, rfl, hO, hb6⟩
  have B6 := Lib.hid (B5.out.trans (hb6.mono B5.out.size))
  clear hb6 hO
  go_wp2_with fail
  refine (Syndrome_call (n : Int) i _).mono ?_; rintro e w7 ⟨rfl, hb7⟩
  have B7 := Lib.hid (B6.out.trans (hb7.mono B6.out.size))
  rw [← HLn.out, HF.out.1, HF.out.2]
  clear hb7
  go_wp2_with fail
  go_ret
  exact bPost_of rfl B7.out

set_option maxRecDepth 100000 in
set_option maxHeartbeats 4000000 in
theorem lin_long (a a' : Option Addr) (n n' c c' : Nat) (i : Int) (w : World) (_hm : n ≤ 9223372036854775807) (_hm' : n' ≤ 9223372036854775807) (b1 b2 : Bool) (h1 : decide ((200 : Int) < (n : Int)) = b1) (h2 : decide ((200 : Int) < (n' : Int)) = b2) (hor : b1 = true ∨ b1 = false ∧ b2 = true) :
    Calls Try.prog 5 #[.slice a n c, .slice a' n' c', .int .i64 i] w (BPost true w) := by
  rcases hor with rfl | ⟨rfl, rfl⟩
  all_goals
    go_enter Try.func5, Try.ntmps5
    go_wp2_with fail
    refine (awake_call _).mono ?_; rintro e w1 ⟨rfl, hb1⟩
    have HB1 := Lib.hid hb1
    clear hb1
    go_wp2_with fail
    go_ret
    exact bPost_of rfl HB1.out
theorem linear_call (a a' : Option Addr) (n n' c c' : Nat) (xs ys : List Nat) (i : Int) (w : World) (h : U8s w a n xs) (h' : U8s w a' n' ys) (hc : n ≤ c) (hc' : n' ≤ c') :
    Calls Try.prog 5 #[.slice a n c, .slice a' n' c', .int .i64 i] w (BPost true w) := by
  by_cases hn : n ≤ 200
  · by_cases hn' : n' ≤ 200
    · by_cases h1 : adrE xs = 0
      · by_cases h4 : flE xs i = 0
        · by_cases h2 : xorE xs ys = 0
          · by_cases h3 : adrE ys = 0
            · exact lin_c_fl a a' n n' c c' xs ys i w h h' hc hc' hn hn' h1 h2 h3 h4
            · exact lin_b_fl a a' n n' c c' xs ys i w h h' hc hc' hn hn' h1 h2 h3 h4
          · exact lin_a_fl a a' n n' c c' xs ys i w h h' hc hc' hn hn' h1 h2 h4
        · by_cases h2 : xorE xs ys = 0
          · by_cases h3 : adrE ys = 0
            · exact lin_c_no a a' n n' c c' xs ys i w h h' hc hc' hn hn' h1 h2 h3 h4
            · exact lin_b_no a a' n n' c c' xs ys i w h h' hc hc' hn hn' h1 h2 h3 h4
          · exact lin_a_no a a' n n' c c' xs ys i w h h' hc hc' hn hn' h1 h2 h4
      · exact lin_err a a' n n' c c' xs ys i w h h' hc hc' hn hn' h1
    · exact lin_long a a' n n' c c' i w h.bound h'.bound false true (decide_eq_false (by omega)) (decide_eq_true (by omega)) (Or.inr ⟨rfl, rfl⟩)
  · exact lin_long a a' n n' c c' i w h.bound h'.bound true _ (decide_eq_true (by omega)) rfl (Or.inl rfl)
end Go.Proofs.Ytpfohhmhadjdpaa
