/-
  Layer 2 (parity): the law Corrects, the walk. Printed by genParT.py.
-/
import Derived.Test.YtpfohhmhadjdpaaParQ
namespace Go.Proofs.Ytpfohhmhadjdpaa
open Go.RowKit BitsMath ParityMath MyHeap MyCopy MyOwn

theorem wtL_app (xs ys : List Nat) : wtL (xs ++ ys) = wtL xs + wtL ys := by
  induction ys using snoc_ind with
  | h0 => rw [List.append_nil]; rfl
  | h1 ys y ih => rw [← List.append_assoc, wtL_snoc, wtL_snoc, ih, Nat.add_assoc]
theorem wtL_zeros (k : Nat) : wtL (List.replicate k 0) = 0 := by
  induction k with
  | zero => rfl
  | succ k ih => rw [List.replicate_succ', wtL_snoc, ih]
theorem wtL_unit {n i : Nat} (hi : i < n) : wtL (unitL n i) = 1 := by rw [unit_split hi, wtL_app, wtL_app, wtL_zeros, wtL_zeros]; rfl
theorem zeros_all1 (k : Nat) : all1 (List.replicate k 0) := fun x hx => by rw [List.eq_of_mem_replicate hx]; decide
theorem xor_zero {xs ys : List Nat} (h : chkE xs = 0) (h' : chkE ys = 0) (hl : xs.length = ys.length) : xorE xs ys = 0 := by
  have e : chk2E xs ys = 0 := by unfold chk2E; rw [h, if_neg (by decide)]; exact h'
  unfold xorE
  rw [e, if_neg (by decide), if_neg (fun h => h hl)]
theorem wtR_of {xs : List Nat} (h : all1 xs) (hl : xs.length ≤ 128) : chkE xs = 0 ∧ wtR xs = (wtL xs : Nat) := by
  have e := chkE_of h hl
  exact ⟨e, if_pos e⟩
theorem cor_no {xs : List Nat} {ad : Int} (h : corE xs ad ≠ 0) : corA xs ad = 0 := if_pos h
theorem cor_ok {xs : List Nat} {ad : Int} (h : corE xs ad = 0) : adrE xs = 0 ∧ 0 ≤ ad ∧ ad ≤ 16777215 ∧ (rg xs = ad.toNat ∨ (rg xs ≠ ad.toNat ∧ synI xs.length (rg xs ^^^ ad.toNat) < xs.length)) := by
  unfold corE at h
  by_cases h1 : adrE xs = 0
  · rw [if_neg (by rw [h1]; decide)] at h
    by_cases h2 : ad < 0 ∨ 16777215 < ad
    · rw [if_pos h2] at h; cases h
    · rw [if_neg h2] at h
      by_cases h3 : rg xs = ad.toNat
      · exact ⟨h1, by omega, by omega, Or.inl h3⟩
      · rw [if_neg h3] at h
        by_cases h4 : synI xs.length (rg xs ^^^ ad.toNat) < xs.length
        · exact ⟨h1, by omega, by omega, Or.inr ⟨h3, h4⟩⟩
        · rw [if_neg h4] at h; cases h
  · rw [if_pos h1] at h; exact absurd h h1
/-- The first answer: the string itself. -/
theorem p_same {xs : List Nat} {A : Nat} (h : corE xs (A : Int) = 0) (hs : rg xs = A) : corA xs (A : Int) = -1 ∧ corL xs (A : Int) = xs ∧ adrE xs = 0 ∧ adrR xs = (A : Int) ∧ xorE xs xs = 0 ∧ chkE (xr xs xs) = 0 ∧ wtR (xr xs xs) = 0 ∧ (xr xs xs).length = xs.length := by
  obtain ⟨h1, _, _, _⟩ := cor_ok h
  obtain ⟨a1, a2, a3, a4, _⟩ := adr_vals h1
  have hw := wtR_of (zeros_all1 xs.length) (by rw [List.length_replicate]; exact a2)
  refine ⟨by unfold corA; rw [h, if_neg (by decide), Int.toNat_natCast, if_pos hs], by unfold corL; rw [Int.toNat_natCast, if_pos hs], h1, by rw [a4, hs], xor_zero (adrE_ok h1).1 (adrE_ok h1).1 rfl, ?_, ?_, xr_len rfl⟩
  · rw [xr_self]; exact hw.1
  · rw [xr_self, hw.2, wtL_zeros]; rfl
/-- The first answer: one bit changed. -/
theorem p_fix {xs : List Nat} {A s : Nat} (h : corE xs (A : Int) = 0) (hs : rg xs ≠ A) (hsy : synI xs.length (rg xs ^^^ A) = s) : corA xs (A : Int) = (s : Int) ∧ corL xs (A : Int) = flL xs s ∧ adrE (flL xs s) = 0 ∧ adrR (flL xs s) = (A : Int) ∧ xorE xs (flL xs s) = 0 ∧ xr xs (flL xs s) = unitL xs.length s ∧ chkE (unitL xs.length s) = 0 ∧ wtR (unitL xs.length s) = 1 ∧ s < xs.length ∧ (flL xs s).length = xs.length := by
  obtain ⟨h1, _, _, h4⟩ := cor_ok h
  rw [Int.toNat_natCast] at h4
  have h5 : synI xs.length (rg xs ^^^ A) < xs.length := (h4.resolve_left hs).2
  have hA : corA xs (A : Int) = (s : Int) := by unfold corA; rw [h, if_neg (by decide), Int.toNat_natCast, if_neg hs, hsy]
  have hL : corL xs (A : Int) = flL xs s := by unfold corL; rw [Int.toNat_natCast, if_neg hs, hsy]
  have hrg : rg (unitL xs.length s) = rg xs ^^^ A := by
    rcases synI_cases xs.length (rg xs ^^^ A) with ⟨_, e⟩ | ⟨_, e, _⟩
    · omega
    · rw [hsy] at e; exact e
  rw [hsy] at h5
  obtain ⟨a1, a2, a3, _, _⟩ := adr_vals h1
  have hfl := fl_len xs s
  have hf1 := fl_all1 a1 h5
  obtain ⟨e1, e2⟩ := adr_of hf1 (by rw [hfl]; exact a2) (by rw [hfl]; exact a3)
  have hw := wtR_of (unit_all1 xs.length s) (by rw [unit_len]; exact a2)
  refine ⟨hA, hL, e1, ?_, xor_zero (adrE_ok h1).1 (chkE_of hf1 (by rw [hfl]; exact a2)) hfl.symm, ?_, hw.1, ?_, h5, hfl⟩
  · rw [e2, rg_fl h5, hrg, ← Nat.xor_assoc, Nat.xor_self, Nat.zero_xor]
  · rw [fl_xr h5]
    apply get_ext
    · rw [xr_len (by rw [xr_len (by rw [unit_len])]), unit_len]
    · intro j _
      rw [xr_get (by rw [xr_len (by rw [unit_len])]), xr_get (by rw [unit_len]), ← Nat.xor_assoc, Nat.xor_self, Nat.zero_xor]
  · rw [hw.2, wtL_unit h5]; rfl
/-- The second answer: a sealed string with one changed bit. -/
theorem q_fix {S : List Nat} {A : Nat} {i : Int} (hS : adrE S = 0) (hr : rg S = A) (hA : A < 2 ^ 24) (hf : flE S i = 0) : ∃ s : Nat, corE (flL S i.toNat) (A : Int) = 0 ∧ corA (flL S i.toNat) (A : Int) = (s : Int) ∧ (s : Int) ≤ i ∧ adrE (corL (flL S i.toNat) (A : Int)) = 0 ∧ adrR (corL (flL S i.toNat) (A : Int)) = (A : Int) ∧ (corL (flL S i.toNat) (A : Int)).length = S.length := by
  obtain ⟨a1, a2, a3, _, _⟩ := adr_vals hS
  have hck := (adrE_ok hS).1
  unfold flE at hf
  rw [if_neg (by rw [hck]; decide)] at hf
  have hi : ¬ (i < 0 ∨ (S.length : Int) ≤ i) := fun hi => by rw [if_pos hi] at hf; cases hf
  obtain ⟨I, rfl⟩ := Int.eq_ofNat_of_zero_le (show 0 ≤ i by omega)
  rw [Int.toNat_natCast]
  have hI : I < S.length := by omega
  have hfl := fl_len S I
  have hrD : rg (flL S I) = A ^^^ rg (unitL S.length I) := by rw [rg_fl hI, hr]
  have ht : rg (flL S I) ^^^ A = rg (unitL S.length I) := by rw [hrD, Nat.xor_comm A, Nat.xor_assoc, Nat.xor_self, Nat.xor_zero]
  have hne : rg (flL S I) ≠ A := fun e => by
    rw [e, Nat.xor_self] at ht
    exact unit_ne hI ht.symm
  have hlt : synI S.length (rg (flL S I) ^^^ A) ≤ I := by
    rw [ht]
    rcases synI_cases S.length (rg (unitL S.length I)) with ⟨e, _⟩ | ⟨_, _, e⟩
    · exact absurd rfl (e I hI)
    · apply Decidable.byContradiction
      intro hn
      exact e I (by omega) rfl
  have hE1 : adrE (flL S I) = 0 := (adr_of (fl_all1 a1 hI) (by rw [hfl]; exact a2) (by rw [hfl]; exact a3)).1
  have hc : corE (flL S I) (A : Int) = 0 := by
    unfold corE
    rw [if_neg (by rw [hE1]; decide), if_neg (by omega), Int.toNat_natCast, if_neg hne, hfl, if_pos (by omega)]
  obtain ⟨p1, p2, p3, p4, _, _, _, _, _, p5⟩ := p_fix (s := synI (flL S I).length (rg (flL S I) ^^^ A)) hc hne rfl
  rw [hfl] at p1 p2 p3 p4 p5
  exact ⟨_, hc, p1, by omega, by rw [p2]; exact p3, by rw [p2]; exact p4, by rw [p2, p5]⟩
theorem u8s_nil (w : World) : U8s w none 0 [] := ⟨rfl, by decide, Or.inl rfl⟩

set_option maxRecDepth 100000 in
set_option maxHeartbeats 8000000 in
theorem corr_err_e (a : Option Addr) (n c : Nat) (xs : List Nat) (ad i : Int) (w : World) (h : U8s w a n xs) (hc : n ≤ c) (hn : n ≤ 200) (h1 : corE xs ad ≠ 0) (h3 : seaE xs ad ≠ 0) :
    Calls Try.prog 9 #[.slice a n c, .int .i64 ad, .int .i64 i] w (BPost true w) := by
  have HL := Lib.hid h
  have hl := h.len
  have HLn := Lib.hid hl
  have hlong : decide ((200 : Int) < (n : Int)) = false := decide_eq_false (by omega)
  have H1 := Lib.hid (And.intro h1 (cor_no h1))
  have d1 : (corE xs ad == 0) = false := by simpa using h1
  have HQ := Lib.hid h3
  have d10 : (seaE xs ad != 0) = true := bne_iff_ne.2 h3
  clear h hl h1 h3
  go_enter Try.func9, Try.ntmps9
  go_wp2_with fail
  refine (awake_call _).mono ?_; rintro e w1 ⟨rfl, hb1⟩
  have B := Lib.hid hb1
  clear hb1
  go_wp2_with fail
  refine (Correct_call a n c xs ad _ (HL.out.below B.out) hc).mono ?_; rintro e w2 ⟨v2, rfl, hO, hb⟩
  replace B := Lib.hid (B.out.trans (hb.mono B.out.size))
  obtain rfl := hO.2 H1.out.1
  rw [H1.out.2]
  clear hb hO
  go_wp2_with fail
  refine (Seal_call a n c xs ad _ (HL.out.below B.out)).mono ?_; rintro e w6 ⟨v6, rfl, hO, hb⟩
  replace B := Lib.hid (B.out.trans (hb.mono B.out.size))
  obtain rfl := hO.2 HQ.out
  clear hb hO
  go_wp2_with fail
  refine (Flip_call none 0 0 [] i _ (u8s_nil _)).mono ?_; rintro e w7 ⟨v7, rfl, hO, hb⟩
  replace B := Lib.hid (B.out.trans (hb.mono B.out.size))
  clear hb hO
  go_wp2_with fail
  go_ret
  exact bPost_of rfl B.out

set_option maxRecDepth 100000 in
set_option maxHeartbeats 8000000 in
theorem corr_err_f (a : Option Addr) (n c : Nat) (xs : List Nat) (ad i : Int) (w : World) (h : U8s w a n xs) (hc : n ≤ c) (hn : n ≤ 200) (h1 : corE xs ad ≠ 0) (h3 : seaE xs ad = 0) (h4 : flE (seaL xs ad.toNat) i ≠ 0) :
    Calls Try.prog 9 #[.slice a n c, .int .i64 ad, .int .i64 i] w (BPost true w) := by
  have HL := Lib.hid h
  have hl := h.len
  have HLn := Lib.hid hl
  have hlong : decide ((200 : Int) < (n : Int)) = false := decide_eq_false (by omega)
  obtain ⟨A, hAd⟩ : ∃ A : Nat, ad = (A : Int) := ⟨ad.toNat, by have := (sea_ok h3).2.1; omega⟩
  subst hAd
  rw [Int.toNat_natCast] at *
  have d20 : ((A : Int) != (A : Int)) = false := by simp
  have d21 : ((A : Int) == (A : Int)) = true := by simp
  have H1 := Lib.hid (And.intro h1 (cor_no h1))
  have d1 : (corE xs (A : Int) == 0) = false := by simpa using h1
  have HQ := Lib.hid h3
  have hso := sea_ok h3
  have hA24 : A < 2 ^ 24 := by omega
  have HSL := Lib.hid (seaL_len xs A)
  have h104 := (remE_ok hso.1).2.1
  rw [hl] at h104
  have d11 : (flE (seaL xs A) i != 0) = true := bne_iff_ne.2 h4
  clear hso
  clear h hl h1 h3 h4
  go_enter Try.func9, Try.ntmps9
  go_wp2_with fail
  refine (awake_call _).mono ?_; rintro e w1 ⟨rfl, hb1⟩
  have B := Lib.hid hb1
  clear hb1
  go_wp2_with fail
  refine (Correct_call a n c xs (A : Int) _ (HL.out.below B.out) hc).mono ?_; rintro e w2 ⟨v2, rfl, hO, hb⟩
  replace B := Lib.hid (B.out.trans (hb.mono B.out.size))
  obtain rfl := hO.2 H1.out.1
  rw [H1.out.2]
  clear hb hO
  go_wp2_with fail
  refine (Seal_call a n c xs (A : Int) _ (HL.out.below B.out)).mono ?_; rintro e w6 ⟨v6, rfl, hO, hb⟩
  replace B := Lib.hid (B.out.trans (hb.mono B.out.size))
  rw [HQ.out, Int.toNat_natCast] at hO
  rw [HQ.out]
  obtain ⟨aS, cS, hv, hU, hcC⟩ := own_u8s (hO.1 rfl) rfl (by rw [HSL.out, HLn.out]; omega)
  rw [HSL.out, HLn.out] at hv hU hcC
  subst hv
  have HS := Lib.hid hU
  clear hb hO hU hcC
  go_wp2_with fail
  refine (Flip_call aS (n + 24) cS (seaL xs A) i _ HS.out).mono ?_; rintro e w7 ⟨v7, rfl, hO, hb⟩
  replace B := Lib.hid (B.out.trans (hb.mono B.out.size))
  clear hb hO
  go_wp2_with fail
  go_ret
  exact bPost_of rfl B.out

set_option maxRecDepth 100000 in
set_option maxHeartbeats 8000000 in
theorem corr_err_g (a : Option Addr) (n c : Nat) (xs : List Nat) (ad i : Int) (w : World) (h : U8s w a n xs) (hc : n ≤ c) (hn : n ≤ 200) (h1 : corE xs ad ≠ 0) (h3 : seaE xs ad = 0) (h4 : flE (seaL xs ad.toNat) i = 0) :
    Calls Try.prog 9 #[.slice a n c, .int .i64 ad, .int .i64 i] w (BPost true w) := by
  have HL := Lib.hid h
  have hl := h.len
  have HLn := Lib.hid hl
  have hlong : decide ((200 : Int) < (n : Int)) = false := decide_eq_false (by omega)
  obtain ⟨A, hAd⟩ : ∃ A : Nat, ad = (A : Int) := ⟨ad.toNat, by have := (sea_ok h3).2.1; omega⟩
  subst hAd
  rw [Int.toNat_natCast] at *
  have d20 : ((A : Int) != (A : Int)) = false := by simp
  have d21 : ((A : Int) == (A : Int)) = true := by simp
  have H1 := Lib.hid (And.intro h1 (cor_no h1))
  have d1 : (corE xs (A : Int) == 0) = false := by simpa using h1
  have HQ := Lib.hid h3
  have hso := sea_ok h3
  have hA24 : A < 2 ^ 24 := by omega
  have HSL := Lib.hid (seaL_len xs A)
  have h104 := (remE_ok hso.1).2.1
  rw [hl] at h104
  have H4 := Lib.hid h4
  obtain ⟨s2, hq⟩ := q_fix (sea_adr hso.1 A hA24).1 (sea_adr hso.1 A hA24).2.2 hA24 h4
  have HF := Lib.hid hq
  have d12 : decide (0 ≤ (s2 : Int)) = true := decide_eq_true (by omega)
  have d13 : decide ((s2 : Int) ≤ i) = true := decide_eq_true hq.2.2.1
  have HFL := Lib.hid (fl_len (seaL xs A) i.toNat)
  clear hq
  clear hso
  clear h hl h1 h3 h4
  go_enter Try.func9, Try.ntmps9
  go_wp2_with fail
  refine (awake_call _).mono ?_; rintro e w1 ⟨rfl, hb1⟩
  have B := Lib.hid hb1
  clear hb1
  go_wp2_with fail
  refine (Correct_call a n c xs (A : Int) _ (HL.out.below B.out) hc).mono ?_; rintro e w2 ⟨v2, rfl, hO, hb⟩
  replace B := Lib.hid (B.out.trans (hb.mono B.out.size))
  obtain rfl := hO.2 H1.out.1
  rw [H1.out.2]
  clear hb hO
  go_wp2_with fail
  refine (Seal_call a n c xs (A : Int) _ (HL.out.below B.out)).mono ?_; rintro e w6 ⟨v6, rfl, hO, hb⟩
  replace B := Lib.hid (B.out.trans (hb.mono B.out.size))
  rw [HQ.out, Int.toNat_natCast] at hO
  rw [HQ.out]
  obtain ⟨aS, cS, hv, hU, hcC⟩ := own_u8s (hO.1 rfl) rfl (by rw [HSL.out, HLn.out]; omega)
  rw [HSL.out, HLn.out] at hv hU hcC
  subst hv
  have HS := Lib.hid hU
  clear hb hO hU hcC
  go_wp2_with fail
  refine (Flip_call aS (n + 24) cS (seaL xs A) i _ HS.out).mono ?_; rintro e w7 ⟨v7, rfl, hO, hb⟩
  replace B := Lib.hid (B.out.trans (hb.mono B.out.size))
  rw [H4.out] at hO ⊢
  obtain ⟨aT, cT, hv, hU, hcC⟩ := own_u8s (hO.1 rfl) rfl (by rw [HFL.out, HSL.out, HLn.out]; omega)
  rw [HFL.out, HSL.out, HLn.out] at hv hU hcC
  subst hv
  have HT := Lib.hid (And.intro hU hcC)
  clear hb hO hU hcC
  go_wp2_with fail
  refine (Correct_call aT (n + 24) cT (flL (seaL xs A) i.toNat) (A : Int) _ HT.out.1 HT.out.2).mono ?_; rintro e w8 ⟨v8, rfl, hO, hb⟩
  replace B := Lib.hid (B.out.trans (hb.mono B.out.size))
  rw [HF.out.1] at hO
  rw [HF.out.1, HF.out.2.1]
  obtain ⟨aU, cU, hv, hU, hcC⟩ := own_u8s (hO.1 rfl) rfl (by rw [HF.out.2.2.2.2.2, HSL.out, HLn.out]; omega)
  rw [HF.out.2.2.2.2.2, HSL.out, HLn.out] at hv hU hcC
  subst hv
  have HU := Lib.hid (And.intro hU hcC)
  clear hb hO hU hcC
  go_wp2_with fail
  refine (Address_call aU (n + 24) cU _ _ HU.out.1 HU.out.2).mono ?_; rintro e w9 ⟨rfl, hb⟩
  rw [HF.out.2.2.2.1, HF.out.2.2.2.2.1]
  replace B := Lib.hid (B.out.trans (hb.mono B.out.size))
  clear hb
  go_wp2_with fail
  go_ret
  exact bPost_of rfl B.out

set_option maxRecDepth 100000 in
set_option maxHeartbeats 8000000 in
theorem corr_same_e (a : Option Addr) (n c : Nat) (xs : List Nat) (ad i : Int) (w : World) (h : U8s w a n xs) (hc : n ≤ c) (hn : n ≤ 200) (h1 : corE xs ad = 0) (h2 : rg xs = ad.toNat) (h3 : seaE xs ad ≠ 0) :
    Calls Try.prog 9 #[.slice a n c, .int .i64 ad, .int .i64 i] w (BPost true w) := by
  have HL := Lib.hid h
  have hl := h.len
  have HLn := Lib.hid hl
  have hlong : decide ((200 : Int) < (n : Int)) = false := decide_eq_false (by omega)
  obtain ⟨A, hAd⟩ : ∃ A : Nat, ad = (A : Int) := ⟨ad.toNat, by have := (cor_ok h1).2.1; omega⟩
  subst hAd
  rw [Int.toNat_natCast] at *
  have d20 : ((A : Int) != (A : Int)) = false := by simp
  have d21 : ((A : Int) == (A : Int)) = true := by simp
  have HE := Lib.hid h1
  have HP := Lib.hid (p_same h1 h2)
  have h128 := (adr_vals (p_same h1 h2).2.2.1).2.1
  rw [hl] at h128
  have HQ := Lib.hid h3
  have d10 : (seaE xs (A : Int) != 0) = true := bne_iff_ne.2 h3
  clear h hl h1 h2 h3
  go_enter Try.func9, Try.ntmps9
  go_wp2_with fail
  refine (awake_call _).mono ?_; rintro e w1 ⟨rfl, hb1⟩
  have B := Lib.hid hb1
  clear hb1
  go_wp2_with fail
  refine (Correct_call a n c xs (A : Int) _ (HL.out.below B.out) hc).mono ?_; rintro e w2 ⟨v2, rfl, hO, hb⟩
  replace B := Lib.hid (B.out.trans (hb.mono B.out.size))
  rw [HE.out, HP.out.2.1] at hO
  rw [HE.out, HP.out.1]
  obtain ⟨aC, cC, hv, hU, hcC⟩ := own_u8s (hO.1 rfl) rfl (by rw [HLn.out]; omega)
  rw [HLn.out] at hv hU hcC
  subst hv
  have HC := Lib.hid (And.intro hU hcC)
  clear hb hO hU hcC
  go_wp2_with fail
  refine (Address_call aC n cC xs _ HC.out.1 HC.out.2).mono ?_; rintro e w3 ⟨rfl, hb⟩
  rw [HP.out.2.2.1, HP.out.2.2.2.1]
  replace B := Lib.hid (B.out.trans (hb.mono B.out.size))
  replace HC := Lib.hid (And.intro (HC.out.1.below hb) HC.out.2)
  clear hb
  go_wp2_with fail
  refine (Xor_call a aC n n c cC xs xs _ (HL.out.below B.out) HC.out.1).mono ?_; rintro e w4 ⟨v4, rfl, hO, hb⟩
  replace B := Lib.hid (B.out.trans (hb.mono B.out.size))
  rw [HP.out.2.2.2.2.1] at hO
  rw [HP.out.2.2.2.2.1]
  obtain ⟨aX, cX, hv, hU, hcC⟩ := own_u8s (hO.1 rfl) rfl (by rw [HP.out.2.2.2.2.2.2.2, HLn.out]; omega)
  rw [HP.out.2.2.2.2.2.2.2, HLn.out] at hv hU hcC
  subst hv
  have HX := Lib.hid hU
  clear hb hO hU hcC
  go_wp2_with fail
  refine (Weight_call aX n cX (xr xs xs) _ HX.out).mono ?_; rintro e w5 ⟨rfl, hb⟩
  rw [HP.out.2.2.2.2.2.1, HP.out.2.2.2.2.2.2.1]
  replace B := Lib.hid (B.out.trans (hb.mono B.out.size))
  replace HX := Lib.hid (HX.out.below hb)
  clear hb
  go_wp2_with fail
  refine (Seal_call a n c xs (A : Int) _ (HL.out.below B.out)).mono ?_; rintro e w6 ⟨v6, rfl, hO, hb⟩
  replace B := Lib.hid (B.out.trans (hb.mono B.out.size))
  obtain rfl := hO.2 HQ.out
  clear hb hO
  go_wp2_with fail
  refine (Flip_call none 0 0 [] i _ (u8s_nil _)).mono ?_; rintro e w7 ⟨v7, rfl, hO, hb⟩
  replace B := Lib.hid (B.out.trans (hb.mono B.out.size))
  clear hb hO
  go_wp2_with fail
  go_ret
  exact bPost_of rfl B.out

set_option maxRecDepth 100000 in
set_option maxHeartbeats 8000000 in
theorem corr_same_f (a : Option Addr) (n c : Nat) (xs : List Nat) (ad i : Int) (w : World) (h : U8s w a n xs) (hc : n ≤ c) (hn : n ≤ 200) (h1 : corE xs ad = 0) (h2 : rg xs = ad.toNat) (h3 : seaE xs ad = 0) (h4 : flE (seaL xs ad.toNat) i ≠ 0) :
    Calls Try.prog 9 #[.slice a n c, .int .i64 ad, .int .i64 i] w (BPost true w) := by
  have HL := Lib.hid h
  have hl := h.len
  have HLn := Lib.hid hl
  have hlong : decide ((200 : Int) < (n : Int)) = false := decide_eq_false (by omega)
  obtain ⟨A, hAd⟩ : ∃ A : Nat, ad = (A : Int) := ⟨ad.toNat, by have := (cor_ok h1).2.1; omega⟩
  subst hAd
  rw [Int.toNat_natCast] at *
  have d20 : ((A : Int) != (A : Int)) = false := by simp
  have d21 : ((A : Int) == (A : Int)) = true := by simp
  have HE := Lib.hid h1
  have HP := Lib.hid (p_same h1 h2)
  have h128 := (adr_vals (p_same h1 h2).2.2.1).2.1
  rw [hl] at h128
  have HQ := Lib.hid h3
  have hso := sea_ok h3
  have hA24 : A < 2 ^ 24 := by omega
  have HSL := Lib.hid (seaL_len xs A)
  have h104 := (remE_ok hso.1).2.1
  rw [hl] at h104
  have d11 : (flE (seaL xs A) i != 0) = true := bne_iff_ne.2 h4
  clear hso
  clear h hl h1 h2 h3 h4
  go_enter Try.func9, Try.ntmps9
  go_wp2_with fail
  refine (awake_call _).mono ?_; rintro e w1 ⟨rfl, hb1⟩
  have B := Lib.hid hb1
  clear hb1
  go_wp2_with fail
  refine (Correct_call a n c xs (A : Int) _ (HL.out.below B.out) hc).mono ?_; rintro e w2 ⟨v2, rfl, hO, hb⟩
  replace B := Lib.hid (B.out.trans (hb.mono B.out.size))
  rw [HE.out, HP.out.2.1] at hO
  rw [HE.out, HP.out.1]
  obtain ⟨aC, cC, hv, hU, hcC⟩ := own_u8s (hO.1 rfl) rfl (by rw [HLn.out]; omega)
  rw [HLn.out] at hv hU hcC
  subst hv
  have HC := Lib.hid (And.intro hU hcC)
  clear hb hO hU hcC
  go_wp2_with fail
  refine (Address_call aC n cC xs _ HC.out.1 HC.out.2).mono ?_; rintro e w3 ⟨rfl, hb⟩
  rw [HP.out.2.2.1, HP.out.2.2.2.1]
  replace B := Lib.hid (B.out.trans (hb.mono B.out.size))
  replace HC := Lib.hid (And.intro (HC.out.1.below hb) HC.out.2)
  clear hb
  go_wp2_with fail
  refine (Xor_call a aC n n c cC xs xs _ (HL.out.below B.out) HC.out.1).mono ?_; rintro e w4 ⟨v4, rfl, hO, hb⟩
  replace B := Lib.hid (B.out.trans (hb.mono B.out.size))
  rw [HP.out.2.2.2.2.1] at hO
  rw [HP.out.2.2.2.2.1]
  obtain ⟨aX, cX, hv, hU, hcC⟩ := own_u8s (hO.1 rfl) rfl (by rw [HP.out.2.2.2.2.2.2.2, HLn.out]; omega)
  rw [HP.out.2.2.2.2.2.2.2, HLn.out] at hv hU hcC
  subst hv
  have HX := Lib.hid hU
  clear hb hO hU hcC
  go_wp2_with fail
  refine (Weight_call aX n cX (xr xs xs) _ HX.out).mono ?_; rintro e w5 ⟨rfl, hb⟩
  rw [HP.out.2.2.2.2.2.1, HP.out.2.2.2.2.2.2.1]
  replace B := Lib.hid (B.out.trans (hb.mono B.out.size))
  replace HX := Lib.hid (HX.out.below hb)
  clear hb
  go_wp2_with fail
  refine (Seal_call a n c xs (A : Int) _ (HL.out.below B.out)).mono ?_; rintro e w6 ⟨v6, rfl, hO, hb⟩
  replace B := Lib.hid (B.out.trans (hb.mono B.out.size))
  rw [HQ.out, Int.toNat_natCast] at hO
  rw [HQ.out]
  obtain ⟨aS, cS, hv, hU, hcC⟩ := own_u8s (hO.1 rfl) rfl (by rw [HSL.out, HLn.out]; omega)
  rw [HSL.out, HLn.out] at hv hU hcC
  subst hv
  have HS := Lib.hid hU
  clear hb hO hU hcC
  go_wp2_with fail
  refine (Flip_call aS (n + 24) cS (seaL xs A) i _ HS.out).mono ?_; rintro e w7 ⟨v7, rfl, hO, hb⟩
  replace B := Lib.hid (B.out.trans (hb.mono B.out.size))
  clear hb hO
  go_wp2_with fail
  go_ret
  exact bPost_of rfl B.out

set_option maxRecDepth 100000 in
set_option maxHeartbeats 8000000 in
theorem corr_same_g (a : Option Addr) (n c : Nat) (xs : List Nat) (ad i : Int) (w : World) (h : U8s w a n xs) (hc : n ≤ c) (hn : n ≤ 200) (h1 : corE xs ad = 0) (h2 : rg xs = ad.toNat) (h3 : seaE xs ad = 0) (h4 : flE (seaL xs ad.toNat) i = 0) :
    Calls Try.prog 9 #[.slice a n c, .int .i64 ad, .int .i64 i] w (BPost true w) := by
  have HL := Lib.hid h
  have hl := h.len
  have HLn := Lib.hid hl
  have hlong : decide ((200 : Int) < (n : Int)) = false := decide_eq_false (by omega)
  obtain ⟨A, hAd⟩ : ∃ A : Nat, ad = (A : Int) := ⟨ad.toNat, by have := (cor_ok h1).2.1; omega⟩
  subst hAd
  rw [Int.toNat_natCast] at *
  have d20 : ((A : Int) != (A : Int)) = false := by simp
  have d21 : ((A : Int) == (A : Int)) = true := by simp
  have HE := Lib.hid h1
  have HP := Lib.hid (p_same h1 h2)
  have h128 := (adr_vals (p_same h1 h2).2.2.1).2.1
  rw [hl] at h128
  have HQ := Lib.hid h3
  have hso := sea_ok h3
  have hA24 : A < 2 ^ 24 := by omega
  have HSL := Lib.hid (seaL_len xs A)
  have h104 := (remE_ok hso.1).2.1
  rw [hl] at h104
  have H4 := Lib.hid h4
  obtain ⟨s2, hq⟩ := q_fix (sea_adr hso.1 A hA24).1 (sea_adr hso.1 A hA24).2.2 hA24 h4
  have HF := Lib.hid hq
  have d12 : decide (0 ≤ (s2 : Int)) = true := decide_eq_true (by omega)
  have d13 : decide ((s2 : Int) ≤ i) = true := decide_eq_true hq.2.2.1
  have HFL := Lib.hid (fl_len (seaL xs A) i.toNat)
  clear hq
  clear hso
  clear h hl h1 h2 h3 h4
  go_enter Try.func9, Try.ntmps9
  go_wp2_with fail
  refine (awake_call _).mono ?_; rintro e w1 ⟨rfl, hb1⟩
  have B := Lib.hid hb1
  clear hb1
  go_wp2_with fail
  refine (Correct_call a n c xs (A : Int) _ (HL.out.below B.out) hc).mono ?_; rintro e w2 ⟨v2, rfl, hO, hb⟩
  replace B := Lib.hid (B.out.trans (hb.mono B.out.size))
  rw [HE.out, HP.out.2.1] at hO
  rw [HE.out, HP.out.1]
  obtain ⟨aC, cC, hv, hU, hcC⟩ := own_u8s (hO.1 rfl) rfl (by rw [HLn.out]; omega)
  rw [HLn.out] at hv hU hcC
  subst hv
  have HC := Lib.hid (And.intro hU hcC)
  clear hb hO hU hcC
  go_wp2_with fail
  refine (Address_call aC n cC xs _ HC.out.1 HC.out.2).mono ?_; rintro e w3 ⟨rfl, hb⟩
  rw [HP.out.2.2.1, HP.out.2.2.2.1]
  replace B := Lib.hid (B.out.trans (hb.mono B.out.size))
  replace HC := Lib.hid (And.intro (HC.out.1.below hb) HC.out.2)
  clear hb
  go_wp2_with fail
  refine (Xor_call a aC n n c cC xs xs _ (HL.out.below B.out) HC.out.1).mono ?_; rintro e w4 ⟨v4, rfl, hO, hb⟩
  replace B := Lib.hid (B.out.trans (hb.mono B.out.size))
  rw [HP.out.2.2.2.2.1] at hO
  rw [HP.out.2.2.2.2.1]
  obtain ⟨aX, cX, hv, hU, hcC⟩ := own_u8s (hO.1 rfl) rfl (by rw [HP.out.2.2.2.2.2.2.2, HLn.out]; omega)
  rw [HP.out.2.2.2.2.2.2.2, HLn.out] at hv hU hcC
  subst hv
  have HX := Lib.hid hU
  clear hb hO hU hcC
  go_wp2_with fail
  refine (Weight_call aX n cX (xr xs xs) _ HX.out).mono ?_; rintro e w5 ⟨rfl, hb⟩
  rw [HP.out.2.2.2.2.2.1, HP.out.2.2.2.2.2.2.1]
  replace B := Lib.hid (B.out.trans (hb.mono B.out.size))
  replace HX := Lib.hid (HX.out.below hb)
  clear hb
  go_wp2_with fail
  refine (Seal_call a n c xs (A : Int) _ (HL.out.below B.out)).mono ?_; rintro e w6 ⟨v6, rfl, hO, hb⟩
  replace B := Lib.hid (B.out.trans (hb.mono B.out.size))
  rw [HQ.out, Int.toNat_natCast] at hO
  rw [HQ.out]
  obtain ⟨aS, cS, hv, hU, hcC⟩ := own_u8s (hO.1 rfl) rfl (by rw [HSL.out, HLn.out]; omega)
  rw [HSL.out, HLn.out] at hv hU hcC
  subst hv
  have HS := Lib.hid hU
  clear hb hO hU hcC
  go_wp2_with fail
  refine (Flip_call aS (n + 24) cS (seaL xs A) i _ HS.out).mono ?_; rintro e w7 ⟨v7, rfl, hO, hb⟩
  replace B := Lib.hid (B.out.trans (hb.mono B.out.size))
  rw [H4.out] at hO ⊢
  obtain ⟨aT, cT, hv, hU, hcC⟩ := own_u8s (hO.1 rfl) rfl (by rw [HFL.out, HSL.out, HLn.out]; omega)
  rw [HFL.out, HSL.out, HLn.out] at hv hU hcC
  subst hv
  have HT := Lib.hid (And.intro hU hcC)
  clear hb hO hU hcC
  go_wp2_with fail
  refine (Correct_call aT (n + 24) cT (flL (seaL xs A) i.toNat) (A : Int) _ HT.out.1 HT.out.2).mono ?_; rintro e w8 ⟨v8, rfl, hO, hb⟩
  replace B := Lib.hid (B.out.trans (hb.mono B.out.size))
  rw [HF.out.1] at hO
  rw [HF.out.1, HF.out.2.1]
  obtain ⟨aU, cU, hv, hU, hcC⟩ := own_u8s (hO.1 rfl) rfl (by rw [HF.out.2.2.2.2.2, HSL.out, HLn.out]; omega)
  rw [HF.out.2.2.2.2.2, HSL.out, HLn.out] at hv hU hcC
  subst hv
  have HU := Lib.hid (And.intro hU hcC)
  clear hb hO hU hcC
  go_wp2_with fail
  refine (Address_call aU (n + 24) cU _ _ HU.out.1 HU.out.2).mono ?_; rintro e w9 ⟨rfl, hb⟩
  rw [HF.out.2.2.2.1, HF.out.2.2.2.2.1]
  replace B := Lib.hid (B.out.trans (hb.mono B.out.size))
  clear hb
  go_wp2_with fail
  go_ret
  exact bPost_of rfl B.out

set_option maxRecDepth 100000 in
set_option maxHeartbeats 8000000 in
theorem corr_fix_e (a : Option Addr) (n c : Nat) (xs : List Nat) (ad i : Int) (w : World) (h : U8s w a n xs) (hc : n ≤ c) (hn : n ≤ 200) (h1 : corE xs ad = 0) (h2 : rg xs ≠ ad.toNat) (h3 : seaE xs ad ≠ 0) :
    Calls Try.prog 9 #[.slice a n c, .int .i64 ad, .int .i64 i] w (BPost true w) := by
  have HL := Lib.hid h
  have hl := h.len
  have HLn := Lib.hid hl
  have hlong : decide ((200 : Int) < (n : Int)) = false := decide_eq_false (by omega)
  obtain ⟨A, hAd⟩ : ∃ A : Nat, ad = (A : Int) := ⟨ad.toNat, by have := (cor_ok h1).2.1; omega⟩
  subst hAd
  rw [Int.toNat_natCast] at *
  have d20 : ((A : Int) != (A : Int)) = false := by simp
  have d21 : ((A : Int) == (A : Int)) = true := by simp
  obtain ⟨s, hs⟩ : ∃ s, synI xs.length (rg xs ^^^ A) = s := ⟨_, rfl⟩
  have HE := Lib.hid h1
  have hpf := p_fix h1 h2 hs
  have HP := Lib.hid hpf
  have hsn : s < n := by rw [← hl]; exact hpf.2.2.2.2.2.2.2.2.1
  have h128 := (adr_vals (cor_ok h1).1).2.1
  rw [hl] at h128
  have d2 : ((s : Int) == -1) = false := by rw [beq_eq_false_iff_ne]; omega
  have d3 : decide ((s : Int) < 0) = false := decide_eq_false (by omega)
  have d4 : decide ((n : Int) ≤ (s : Int)) = false := decide_eq_false (by omega)
  have d5 : decide (n ≤ s) = false := decide_eq_false (by omega)
  have d6 : (0 : Int) ≤ (s : Int) := by omega
  have d7 : (s : Int) < (n : Int) := by omega
  clear hpf hs
  have HQ := Lib.hid h3
  have d10 : (seaE xs (A : Int) != 0) = true := bne_iff_ne.2 h3
  clear h hl h1 h2 h3
  go_enter Try.func9, Try.ntmps9
  go_wp2_with fail
  refine (awake_call _).mono ?_; rintro e w1 ⟨rfl, hb1⟩
  have B := Lib.hid hb1
  clear hb1
  go_wp2_with fail
  refine (Correct_call a n c xs (A : Int) _ (HL.out.below B.out) hc).mono ?_; rintro e w2 ⟨v2, rfl, hO, hb⟩
  replace B := Lib.hid (B.out.trans (hb.mono B.out.size))
  rw [HE.out, HP.out.2.1] at hO
  rw [HE.out, HP.out.1]
  obtain ⟨aC, cC, hv, hU, hcC⟩ := own_u8s (hO.1 rfl) rfl (by rw [HP.out.2.2.2.2.2.2.2.2.2, HLn.out]; omega)
  rw [HP.out.2.2.2.2.2.2.2.2.2, HLn.out] at hv hU hcC
  subst hv
  have HC := Lib.hid (And.intro hU hcC)
  clear hb hO hU hcC
  go_wp2_with fail
  refine (Address_call aC n cC (flL xs s) _ HC.out.1 HC.out.2).mono ?_; rintro e w3 ⟨rfl, hb⟩
  rw [HP.out.2.2.1, HP.out.2.2.2.1]
  replace B := Lib.hid (B.out.trans (hb.mono B.out.size))
  replace HC := Lib.hid (And.intro (HC.out.1.below hb) HC.out.2)
  clear hb
  go_wp2_with fail
  refine (Xor_call a aC n n c cC xs (flL xs s) _ (HL.out.below B.out) HC.out.1).mono ?_; rintro e w4 ⟨v4, rfl, hO, hb⟩
  replace B := Lib.hid (B.out.trans (hb.mono B.out.size))
  rw [HP.out.2.2.2.2.1, HP.out.2.2.2.2.2.1] at hO
  rw [HP.out.2.2.2.2.1]
  obtain ⟨aX, cX, hv, hU, hcC⟩ := own_u8s (hO.1 rfl) rfl (by rw [unit_len, HLn.out]; omega)
  rw [unit_len, HLn.out] at hv hU hcC
  subst hv
  replace hU : U8s w4 aX n (unitL xs.length s) := by rw [HLn.out]; exact hU
  have HX := Lib.hid hU
  clear hb hO hU hcC
  go_wp2_with fail
  refine (Weight_call aX n cX (unitL xs.length s) _ HX.out).mono ?_; rintro e w5 ⟨rfl, hb⟩
  rw [HP.out.2.2.2.2.2.2.1, HP.out.2.2.2.2.2.2.2.1]
  replace B := Lib.hid (B.out.trans (hb.mono B.out.size))
  replace HX := Lib.hid (HX.out.below hb)
  clear hb
  obtain ⟨bX, oX, rfl, x0⟩ := u8s_at HX.out hsn
  rw [unit_get _ _ _ (by rw [HLn.out]; exact hsn), if_pos rfl] at x0
  go_wp2_with fail
  refine (Seal_call a n c xs (A : Int) _ (HL.out.below B.out)).mono ?_; rintro e w6 ⟨v6, rfl, hO, hb⟩
  replace B := Lib.hid (B.out.trans (hb.mono B.out.size))
  clear x0
  obtain rfl := hO.2 HQ.out
  clear hb hO
  go_wp2_with fail
  refine (Flip_call none 0 0 [] i _ (u8s_nil _)).mono ?_; rintro e w7 ⟨v7, rfl, hO, hb⟩
  replace B := Lib.hid (B.out.trans (hb.mono B.out.size))
  clear hb hO
  go_wp2_with fail
  go_ret
  exact bPost_of rfl B.out

set_option maxRecDepth 100000 in
set_option maxHeartbeats 8000000 in
theorem corr_fix_f (a : Option Addr) (n c : Nat) (xs : List Nat) (ad i : Int) (w : World) (h : U8s w a n xs) (hc : n ≤ c) (hn : n ≤ 200) (h1 : corE xs ad = 0) (h2 : rg xs ≠ ad.toNat) (h3 : seaE xs ad = 0) (h4 : flE (seaL xs ad.toNat) i ≠ 0) :
    Calls Try.prog 9 #[.slice a n c, .int .i64 ad, .int .i64 i] w (BPost true w) := by
  have HL := Lib.hid h
  have hl := h.len
  have HLn := Lib.hid hl
  have hlong : decide ((200 : Int) < (n : Int)) = false := decide_eq_false (by omega)
  obtain ⟨A, hAd⟩ : ∃ A : Nat, ad = (A : Int) := ⟨ad.toNat, by have := (cor_ok h1).2.1; omega⟩
  subst hAd
  rw [Int.toNat_natCast] at *
  have d20 : ((A : Int) != (A : Int)) = false := by simp
  have d21 : ((A : Int) == (A : Int)) = true := by simp
  obtain ⟨s, hs⟩ : ∃ s, synI xs.length (rg xs ^^^ A) = s := ⟨_, rfl⟩
  have HE := Lib.hid h1
  have hpf := p_fix h1 h2 hs
  have HP := Lib.hid hpf
  have hsn : s < n := by rw [← hl]; exact hpf.2.2.2.2.2.2.2.2.1
  have h128 := (adr_vals (cor_ok h1).1).2.1
  rw [hl] at h128
  have d2 : ((s : Int) == -1) = false := by rw [beq_eq_false_iff_ne]; omega
  have d3 : decide ((s : Int) < 0) = false := decide_eq_false (by omega)
  have d4 : decide ((n : Int) ≤ (s : Int)) = false := decide_eq_false (by omega)
  have d5 : decide (n ≤ s) = false := decide_eq_false (by omega)
  have d6 : (0 : Int) ≤ (s : Int) := by omega
  have d7 : (s : Int) < (n : Int) := by omega
  clear hpf hs
  have HQ := Lib.hid h3
  have hso := sea_ok h3
  have hA24 : A < 2 ^ 24 := by omega
  have HSL := Lib.hid (seaL_len xs A)
  have h104 := (remE_ok hso.1).2.1
  rw [hl] at h104
  have d11 : (flE (seaL xs A) i != 0) = true := bne_iff_ne.2 h4
  clear hso
  clear h hl h1 h2 h3 h4
  go_enter Try.func9, Try.ntmps9
  go_wp2_with fail
  refine (awake_call _).mono ?_; rintro e w1 ⟨rfl, hb1⟩
  have B := Lib.hid hb1
  clear hb1
  go_wp2_with fail
  refine (Correct_call a n c xs (A : Int) _ (HL.out.below B.out) hc).mono ?_; rintro e w2 ⟨v2, rfl, hO, hb⟩
  replace B := Lib.hid (B.out.trans (hb.mono B.out.size))
  rw [HE.out, HP.out.2.1] at hO
  rw [HE.out, HP.out.1]
  obtain ⟨aC, cC, hv, hU, hcC⟩ := own_u8s (hO.1 rfl) rfl (by rw [HP.out.2.2.2.2.2.2.2.2.2, HLn.out]; omega)
  rw [HP.out.2.2.2.2.2.2.2.2.2, HLn.out] at hv hU hcC
  subst hv
  have HC := Lib.hid (And.intro hU hcC)
  clear hb hO hU hcC
  go_wp2_with fail
  refine (Address_call aC n cC (flL xs s) _ HC.out.1 HC.out.2).mono ?_; rintro e w3 ⟨rfl, hb⟩
  rw [HP.out.2.2.1, HP.out.2.2.2.1]
  replace B := Lib.hid (B.out.trans (hb.mono B.out.size))
  replace HC := Lib.hid (And.intro (HC.out.1.below hb) HC.out.2)
  clear hb
  go_wp2_with fail
  refine (Xor_call a aC n n c cC xs (flL xs s) _ (HL.out.below B.out) HC.out.1).mono ?_; rintro e w4 ⟨v4, rfl, hO, hb⟩
  replace B := Lib.hid (B.out.trans (hb.mono B.out.size))
  rw [HP.out.2.2.2.2.1, HP.out.2.2.2.2.2.1] at hO
  rw [HP.out.2.2.2.2.1]
  obtain ⟨aX, cX, hv, hU, hcC⟩ := own_u8s (hO.1 rfl) rfl (by rw [unit_len, HLn.out]; omega)
  rw [unit_len, HLn.out] at hv hU hcC
  subst hv
  replace hU : U8s w4 aX n (unitL xs.length s) := by rw [HLn.out]; exact hU
  have HX := Lib.hid hU
  clear hb hO hU hcC
  go_wp2_with fail
  refine (Weight_call aX n cX (unitL xs.length s) _ HX.out).mono ?_; rintro e w5 ⟨rfl, hb⟩
  rw [HP.out.2.2.2.2.2.2.1, HP.out.2.2.2.2.2.2.2.1]
  replace B := Lib.hid (B.out.trans (hb.mono B.out.size))
  replace HX := Lib.hid (HX.out.below hb)
  clear hb
  obtain ⟨bX, oX, rfl, x0⟩ := u8s_at HX.out hsn
  rw [unit_get _ _ _ (by rw [HLn.out]; exact hsn), if_pos rfl] at x0
  go_wp2_with fail
  refine (Seal_call a n c xs (A : Int) _ (HL.out.below B.out)).mono ?_; rintro e w6 ⟨v6, rfl, hO, hb⟩
  replace B := Lib.hid (B.out.trans (hb.mono B.out.size))
  clear x0
  rw [HQ.out, Int.toNat_natCast] at hO
  rw [HQ.out]
  obtain ⟨aS, cS, hv, hU, hcC⟩ := own_u8s (hO.1 rfl) rfl (by rw [HSL.out, HLn.out]; omega)
  rw [HSL.out, HLn.out] at hv hU hcC
  subst hv
  have HS := Lib.hid hU
  clear hb hO hU hcC
  go_wp2_with fail
  refine (Flip_call aS (n + 24) cS (seaL xs A) i _ HS.out).mono ?_; rintro e w7 ⟨v7, rfl, hO, hb⟩
  replace B := Lib.hid (B.out.trans (hb.mono B.out.size))
  clear hb hO
  go_wp2_with fail
  go_ret
  exact bPost_of rfl B.out

set_option maxRecDepth 100000 in
set_option maxHeartbeats 8000000 in
theorem corr_fix_g (a : Option Addr) (n c : Nat) (xs : List Nat) (ad i : Int) (w : World) (h : U8s w a n xs) (hc : n ≤ c) (hn : n ≤ 200) (h1 : corE xs ad = 0) (h2 : rg xs ≠ ad.toNat) (h3 : seaE xs ad = 0) (h4 : flE (seaL xs ad.toNat) i = 0) :
    Calls Try.prog 9 #[.slice a n c, .int .i64 ad, .int .i64 i] w (BPost true w) := by
  have HL := Lib.hid h
  have hl := h.len
  have HLn := Lib.hid hl
  have hlong : decide ((200 : Int) < (n : Int)) = false := decide_eq_false (by omega)
  obtain ⟨A, hAd⟩ : ∃ A : Nat, ad = (A : Int) := ⟨ad.toNat, by have := (cor_ok h1).2.1; omega⟩
  subst hAd
  rw [Int.toNat_natCast] at *
  have d20 : ((A : Int) != (A : Int)) = false := by simp
  have d21 : ((A : Int) == (A : Int)) = true := by simp
  obtain ⟨s, hs⟩ : ∃ s, synI xs.length (rg xs ^^^ A) = s := ⟨_, rfl⟩
  have HE := Lib.hid h1
  have hpf := p_fix h1 h2 hs
  have HP := Lib.hid hpf
  have hsn : s < n := by rw [← hl]; exact hpf.2.2.2.2.2.2.2.2.1
  have h128 := (adr_vals (cor_ok h1).1).2.1
  rw [hl] at h128
  have d2 : ((s : Int) == -1) = false := by rw [beq_eq_false_iff_ne]; omega
  have d3 : decide ((s : Int) < 0) = false := decide_eq_false (by omega)
  have d4 : decide ((n : Int) ≤ (s : Int)) = false := decide_eq_false (by omega)
  have d5 : decide (n ≤ s) = false := decide_eq_false (by omega)
  have d6 : (0 : Int) ≤ (s : Int) := by omega
  have d7 : (s : Int) < (n : Int) := by omega
  clear hpf hs
  have HQ := Lib.hid h3
  have hso := sea_ok h3
  have hA24 : A < 2 ^ 24 := by omega
  have HSL := Lib.hid (seaL_len xs A)
  have h104 := (remE_ok hso.1).2.1
  rw [hl] at h104
  have H4 := Lib.hid h4
  obtain ⟨s2, hq⟩ := q_fix (sea_adr hso.1 A hA24).1 (sea_adr hso.1 A hA24).2.2 hA24 h4
  have HF := Lib.hid hq
  have d12 : decide (0 ≤ (s2 : Int)) = true := decide_eq_true (by omega)
  have d13 : decide ((s2 : Int) ≤ i) = true := decide_eq_true hq.2.2.1
  have HFL := Lib.hid (fl_len (seaL xs A) i.toNat)
  clear hq
  clear hso
  clear h hl h1 h2 h3 h4
  go_enter Try.func9, Try.ntmps9
  go_wp2_with fail
  refine (awake_call _).mono ?_; rintro e w1 ⟨rfl, hb1⟩
  have B := Lib.hid hb1
  clear hb1
  go_wp2_with fail
  refine (Correct_call a n c xs (A : Int) _ (HL.out.below B.out) hc).mono ?_; rintro e w2 ⟨v2, rfl, hO, hb⟩
  replace B := Lib.hid (B.out.trans (hb.mono B.out.size))
  rw [HE.out, HP.out.2.1] at hO
  rw [HE.out, HP.out.1]
  obtain ⟨aC, cC, hv, hU, hcC⟩ := own_u8s (hO.1 rfl) rfl (by rw [HP.out.2.2.2.2.2.2.2.2.2, HLn.out]; omega)
  rw [HP.out.2.2.2.2.2.2.2.2.2, HLn.out] at hv hU hcC
  subst hv
  have HC := Lib.hid (And.intro hU hcC)
  clear hb hO hU hcC
  go_wp2_with fail
  refine (Address_call aC n cC (flL xs s) _ HC.out.1 HC.out.2).mono ?_; rintro e w3 ⟨rfl, hb⟩
  rw [HP.out.2.2.1, HP.out.2.2.2.1]
  replace B := Lib.hid (B.out.trans (hb.mono B.out.size))
  replace HC := Lib.hid (And.intro (HC.out.1.below hb) HC.out.2)
  clear hb
  go_wp2_with fail
  refine (Xor_call a aC n n c cC xs (flL xs s) _ (HL.out.below B.out) HC.out.1).mono ?_; rintro e w4 ⟨v4, rfl, hO, hb⟩
  replace B := Lib.hid (B.out.trans (hb.mono B.out.size))
  rw [HP.out.2.2.2.2.1, HP.out.2.2.2.2.2.1] at hO
  rw [HP.out.2.2.2.2.1]
  obtain ⟨aX, cX, hv, hU, hcC⟩ := own_u8s (hO.1 rfl) rfl (by rw [unit_len, HLn.out]; omega)
  rw [unit_len, HLn.out] at hv hU hcC
  subst hv
  replace hU : U8s w4 aX n (unitL xs.length s) := by rw [HLn.out]; exact hU
  have HX := Lib.hid hU
  clear hb hO hU hcC
  go_wp2_with fail
  refine (Weight_call aX n cX (unitL xs.length s) _ HX.out).mono ?_; rintro e w5 ⟨rfl, hb⟩
  rw [HP.out.2.2.2.2.2.2.1, HP.out.2.2.2.2.2.2.2.1]
  replace B := Lib.hid (B.out.trans (hb.mono B.out.size))
  replace HX := Lib.hid (HX.out.below hb)
  clear hb
  obtain ⟨bX, oX, rfl, x0⟩ := u8s_at HX.out hsn
  rw [unit_get _ _ _ (by rw [HLn.out]; exact hsn), if_pos rfl] at x0
  go_wp2_with fail
  refine (Seal_call a n c xs (A : Int) _ (HL.out.below B.out)).mono ?_; rintro e w6 ⟨v6, rfl, hO, hb⟩
  replace B := Lib.hid (B.out.trans (hb.mono B.out.size))
  clear x0
  rw [HQ.out, Int.toNat_natCast] at hO
  rw [HQ.out]
  obtain ⟨aS, cS, hv, hU, hcC⟩ := own_u8s (hO.1 rfl) rfl (by rw [HSL.out, HLn.out]; omega)
  rw [HSL.out, HLn.out] at hv hU hcC
  subst hv
  have HS := Lib.hid hU
  clear hb hO hU hcC
  go_wp2_with fail
  refine (Flip_call aS (n + 24) cS (seaL xs A) i _ HS.out).mono ?_; rintro e w7 ⟨v7, rfl, hO, hb⟩
  replace B := Lib.hid (B.out.trans (hb.mono B.out.size))
  rw [H4.out] at hO ⊢
  obtain ⟨aT, cT, hv, hU, hcC⟩ := own_u8s (hO.1 rfl) rfl (by rw [HFL.out, HSL.out, HLn.out]; omega)
  rw [HFL.out, HSL.out, HLn.out] at hv hU hcC
  subst hv
  have HT := Lib.hid (And.intro hU hcC)
  clear hb hO hU hcC
  go_wp2_with fail
  refine (Correct_call aT (n + 24) cT (flL (seaL xs A) i.toNat) (A : Int) _ HT.out.1 HT.out.2).mono ?_; rintro e w8 ⟨v8, rfl, hO, hb⟩
  replace B := Lib.hid (B.out.trans (hb.mono B.out.size))
  rw [HF.out.1] at hO
  rw [HF.out.1, HF.out.2.1]
  obtain ⟨aU, cU, hv, hU, hcC⟩ := own_u8s (hO.1 rfl) rfl (by rw [HF.out.2.2.2.2.2, HSL.out, HLn.out]; omega)
  rw [HF.out.2.2.2.2.2, HSL.out, HLn.out] at hv hU hcC
  subst hv
  have HU := Lib.hid (And.intro hU hcC)
  clear hb hO hU hcC
  go_wp2_with fail
  refine (Address_call aU (n + 24) cU _ _ HU.out.1 HU.out.2).mono ?_; rintro e w9 ⟨rfl, hb⟩
  rw [HF.out.2.2.2.1, HF.out.2.2.2.2.1]
  replace B := Lib.hid (B.out.trans (hb.mono B.out.size))
  clear hb
  go_wp2_with fail
  go_ret
  exact bPost_of rfl B.out

set_option maxRecDepth 100000 in
set_option maxHeartbeats 4000000 in
theorem corr_long (a : Option Addr) (n c : Nat) (ad i : Int) (w : World) (hn : n ≤ 9223372036854775807) (h : 200 < n) :
    Calls Try.prog 9 #[.slice a n c, .int .i64 ad, .int .i64 i] w (BPost true w) := by
  have hlong : decide ((200 : Int) < (n : Int)) = true := decide_eq_true (by omega)
  have hn1 : (n : Int) ≤ 9223372036854775807 := by omega
  clear h hn
  go_enter Try.func9, Try.ntmps9
  go_wp2_with fail
  refine (awake_call _).mono ?_; rintro e w1 ⟨rfl, hb1⟩
  have HB1 := Lib.hid hb1
  clear hb1
  go_wp2_with fail
  go_ret
  exact bPost_of rfl HB1.out
theorem corrects_call (a : Option Addr) (n c : Nat) (xs : List Nat) (ad i : Int) (w : World) (h : U8s w a n xs) (hc : n ≤ c) :
    Calls Try.prog 9 #[.slice a n c, .int .i64 ad, .int .i64 i] w (BPost true w) := by
  by_cases hn : n ≤ 200
  · by_cases h3 : seaE xs ad = 0
    · by_cases h4 : flE (seaL xs ad.toNat) i = 0
      · by_cases h1 : corE xs ad = 0
        · by_cases h2 : rg xs = ad.toNat
          · exact corr_same_g a n c xs ad i w h hc hn h1 h2 h3 h4
          · exact corr_fix_g a n c xs ad i w h hc hn h1 h2 h3 h4
        · exact corr_err_g a n c xs ad i w h hc hn h1 h3 h4
      · by_cases h1 : corE xs ad = 0
        · by_cases h2 : rg xs = ad.toNat
          · exact corr_same_f a n c xs ad i w h hc hn h1 h2 h3 h4
          · exact corr_fix_f a n c xs ad i w h hc hn h1 h2 h3 h4
        · exact corr_err_f a n c xs ad i w h hc hn h1 h3 h4
    · by_cases h1 : corE xs ad = 0
      · by_cases h2 : rg xs = ad.toNat
        · exact corr_same_e a n c xs ad i w h hc hn h1 h2 h3
        · exact corr_fix_e a n c xs ad i w h hc hn h1 h2 h3
      · exact corr_err_e a n c xs ad i w h hc hn h1 h3
  · exact corr_long a n c ad i w h.bound (by omega)
end Go.Proofs.Ytpfohhmhadjdpaa
