/-
  PtAltF
-/
import Derived.Test.YtikjjpjekchcjaaGreatPm6
set_option linter.all false
set_option maxRecDepth 100000
set_option maxHeartbeats 64000000
namespace Go.Proofs.YtikjjpjekchcjaaGreat.Alt
open Go.RowKit AltMath MyHeap MyCopy MyOwn
theorem stE_ch {lo hi : List Int} {p : Int} (h : chB lo hi ≠ 0) : stE lo hi p = chB lo hi := if_pos h
theorem stE_no {lo hi : List Int} {p : Int} (h : chB lo hi = 0) (hp : p < 0 ∨ 32 < p) : stE lo hi p = 1 := by unfold stE; rw [if_neg (fun e => e h), if_pos hp]
theorem stE_ok {lo hi : List Int} {p : Int} (h : chB lo hi = 0) (hp : ¬ (p < 0 ∨ 32 < p)) : stE lo hi p = 0 := by unfold stE; rw [if_neg (fun e => e h), if_neg hp]
def rA (a : Option (Int × Int)) : Int × Int := a.getD (1073741824, -1073741824)
theorem rA_add {a : Option (Int × Int)} {p : Int × Int} (h1 : p.1 ≤ 1073741824) (h2 : -1073741824 ≤ p.2) : rA (addO a p) = (min (rA a).1 p.1, max (rA a).2 p.2) := by
 cases a with
 | none => simp only [addO, rA, Option.getD_some, Option.getD_none]; ext <;> omega
 | some q => rfl
theorem nm_clip (a : Option (Int × Int)) : nm (max (rA a).1 (-1000), min (rA a).2 50000) = nm (clip a) := by
 cases a with
 | none => rfl
 | some q => rfl
theorem stA_le (P k : Nat) (hk : k < 201) : stA P k + stN P k = min 200 (k + P) + 1 ∧ stA P k ≤ min 200 (k + P) := by unfold stN stA; omega
theorem shG_bd {lo hi : List Int} (h : ∀ i, i < 201 → ¬ badAt lo hi i) {i : Nat} (hi' : i < 201) : -1100 ≤ (shG lo hi i).1 ∧ (shG lo hi i).1 ≤ 50100 ∧ -1100 ≤ (shG lo hi i).2 ∧ (shG lo hi i).2 ≤ 50100 := by
 obtain ⟨b1, b2, b3, b4⟩ := ok_bd h hi'
 unfold shG
 simp only
 omega
theorem qP {lo hi : List Int} {P k j : Nat} (h : hasB lo hi (stA P k + j)) : stA' lo hi P k (j + 1) = addO (stA' lo hi P k j) (shG lo hi (stA P k + j)) := if_pos h
theorem stA'_no {lo hi : List Int} {P k j : Nat} (h : ¬ hasB lo hi (stA P k + j)) : stA' lo hi P k (j + 1) = stA' lo hi P k j := if_neg h
theorem rA_bd {lo hi : List Int} (h : ∀ i, i < 201 → ¬ badAt lo hi i) {P k j : Nat} (hj : stA P k + j ≤ 201) : -1100 ≤ (rA (stA' lo hi P k j)).1 ∧ (rA (stA' lo hi P k j)).1 ≤ 1073741824 ∧ -1073741824 ≤ (rA (stA' lo hi P k j)).2 ∧ (rA (stA' lo hi P k j)).2 ≤ 50100 := by
 induction j with
 | zero => show -1100 ≤ (1073741824 : Int) ∧ (1073741824 : Int) ≤ 1073741824 ∧ (-1073741824 : Int) ≤ -1073741824 ∧ (-1073741824 : Int) ≤ 50100; decide
 | succ j ih =>
  have ih := ih (by omega)
  by_cases hh : hasB lo hi (stA P k + j)
  ·obtain ⟨b1, b2, b3, b4⟩ := shG_bd h (i := stA P k + j) (by omega)
   rw [qP hh, rA_add (by omega) (by omega)]
   simp only
   omega
  rw [stA'_no hh]; exact ih
theorem RmK.keep {w0 W W' : World} {O : Nat} {aL aH : Option Addr} {cL cH : Nat} {f : Nat → Int × Int} {k : Nat} (h : RmK w0 O aL cL aH cH f k W) (hb : Below W.heap.size W W') : RmK w0 O aL cL aH cH f k W' := by
 obtain ⟨⟨a, n, c, a', n', c', h1, h2, h3, h4, h5, h6⟩, h7⟩ := h
 exact ⟨⟨a, n, c, a', n', c', aN hb h1, aN hb h2, h3.below hb, h4.trans (hb.mono h4.size), h5, h6⟩, aN hb h7⟩
theorem RmK.bel {w0 W : World} {O : Nat} {aL aH : Option Addr} {cL cH : Nat} {f : Nat → Int × Int} {k : Nat} (h : RmK w0 O aL cL aH cH f k W) : Below w0.heap.size w0 W := by
 obtain ⟨⟨_, _, _, _, _, _, _, _, _, h4, _, _⟩, _⟩ := h
 exact h4
theorem rStep_ch (aL aH : Option Addr) (nL nH cL cH : Nat) (lo hi : List Int) (p : Int) (f : Nat → Int × Int) (w : World) (hL : Ints w aL nL lo) (hH : Ints w aH nH hi) (hE : chB lo hi ≠ 0) :
    Calls Tryz.prog 31 #[bdV aL nL cL aH nH cH, .int .i64 p] w (BOPost (stE lo hi p) (loK f 201) (hiK f 201) w) := by
 have d1 : (chB lo hi != 0) = true := bne_iff_ne.2 hE
 have HE := qh hE
 have H := qh (And.intro hL hH)
 have B := qh ((aC w (.cells (bdC aL nL cL aH nH cH) 53)).alloc (by simp) (.cells #[.slice none 0 0, .slice none 0 0] 53))
 have R := qh (aI (w.alloc (.cells (bdC aL nL cL aH nH cH) 53)) (.cells #[.slice none 0 0, .slice none 0 0] 53) (n := w.heap.size + 1) (by simp))
 clear hL hH hE
 unfold bdV
 unfold bdC at *
 go_enter Tryz.func31, Tryz.ntmps31
 go_wp2_with fail
 refine (bY aL aH nL nH cL cH lo hi _ (H.out.1.below B.out) (H.out.2.below B.out)).mono ?_; rintro e w1 ⟨rfl, hb⟩
 obtain ⟨c0, c1, f0, f1⟩ := two_facts (aN hb R.out)
 replace B := qh (B.out.trans (hb.mono B.out.size))
 replace R := qh (aN hb R.out)
 clear hb
 go_wp2_with fail
 have hx := aD (i := 1) (v := .slice none 0 0) (aD (i := 0) (v := .slice none 0 0) R.out)
 have hO : Only (w.heap.size + 1) w1 ((w1.setCell ⟨w.heap.size + 1, 0, none⟩ (.slice none 0 0)).setCell ⟨w.heap.size + 1, 1, none⟩ (.slice none 0 0)) := ((Only.refl _ _).setCell 0 _).setCell 1 _
 have r0 := aA (i := 0) (v := .slice none 0 0) hx rfl
 have r1 := aA (i := 1) (v := .slice none 0 0) hx rfl
 refine bodyPost_ret (v := .tuple #[.agg #[.slice none 0 0, .slice none 0 0], .int .i64 (chB lo hi)]) ?_ rfl (iK (stE_ch HE.out) HE.out (B.out.trans (hO.below (by omega) B.out.size)))
 simp [results, Tryz.f31, go_sem, r0, r1]
theorem rStep_no (aL aH : Option Addr) (nL nH cL cH : Nat) (lo hi : List Int) (p : Int) (f : Nat → Int × Int) (w : World) (hL : Ints w aL nL lo) (hH : Ints w aH nH hi) (hE : chB lo hi = 0) (hp : p < 0 ∨ 32 < p) :
    Calls Tryz.prog 31 #[bdV aL nL cL aH nH cH, .int .i64 p] w (BOPost (stE lo hi p) (loK f 201) (hiK f 201) w) := by
 have HE := qh (And.intro hE hp)
 have H := qh (And.intro hL hH)
 have B := qh ((aC w (.cells (bdC aL nL cL aH nH cH) 53)).alloc (by simp) (.cells #[.slice none 0 0, .slice none 0 0] 53))
 have R := qh (aI (w.alloc (.cells (bdC aL nL cL aH nH cH) 53)) (.cells #[.slice none 0 0, .slice none 0 0] 53) (n := w.heap.size + 1) (by simp))
 clear hL hH hE
 unfold bdV
 unfold bdC at *
 by_cases hp0 : p < 0
 all_goals
  have hp1 : p < 0 ∨ 32 < p := hp
  clear hp
  try (replace hp1 : 32 < p := by omega)
  go_enter Tryz.func31, Tryz.ntmps31
  go_wp2_with fail
  refine (bY aL aH nL nH cL cH lo hi _ (H.out.1.below B.out) (H.out.2.below B.out)).mono ?_; rintro e w1 ⟨rfl, hb⟩
  obtain ⟨c0, c1, f0, f1⟩ := two_facts (aN hb R.out)
  replace B := qh (B.out.trans (hb.mono B.out.size))
  replace R := qh (aN hb R.out)
  rw [HE.out.1]
  clear hb
  go_wp2_with fail
  have hx := aD (i := 1) (v := .slice none 0 0) (aD (i := 0) (v := .slice none 0 0) R.out)
  have hO : Only (w.heap.size + 1) w1 ((w1.setCell ⟨w.heap.size + 1, 0, none⟩ (.slice none 0 0)).setCell ⟨w.heap.size + 1, 1, none⟩ (.slice none 0 0)) := ((Only.refl _ _).setCell 0 _).setCell 1 _
  have r0 := aA (i := 0) (v := .slice none 0 0) hx rfl
  have r1 := aA (i := 1) (v := .slice none 0 0) hx rfl
  refine bodyPost_ret (v := .tuple #[.agg #[.slice none 0 0, .slice none 0 0], .int .i64 1]) ?_ rfl (iK (stE_no HE.out.1 HE.out.2) (by decide) (B.out.trans (hO.below (by omega) B.out.size)))
  simp [results, Tryz.f31, go_sem, r0, r1]
theorem rStep_ok (aL aH : Option Addr) (cL cH : Nat) (lo hi : List Int) (P : Nat) (w : World) (hL : Ints w aL 201 lo) (hH : Ints w aH 201 hi) (hE : chB lo hi = 0) (hP : P ≤ 32) :
    Calls Tryz.prog 31 #[bdV aL 201 cL aH 201 cH, .int .i64 (P : Int)] w (BOPost (stE lo hi (P : Int)) (loK (stF lo hi P) 201) (hiK (stF lo hi P) 201) w) := by
 have HE := qh hE
 have HV := qh (chB_ok hE).2.2
 have hP0 : (0 : Int) ≤ (P : Int) := by omega
 have hP1 : (P : Int) ≤ 32 := by omega
 obtain ⟨b1, o1, rfl, -⟩ := ints_at hL (k := 0) (by decide)
 obtain ⟨b2, o2, rfl, -⟩ := ints_at hH (k := 0) (by decide)
 have H := qh (And.intro hL hH)
 have B := qh ((aC w (.cells (bdC (some ⟨b1, o1, none⟩) 201 cL (some ⟨b2, o2, none⟩) 201 cH) 53)).alloc (by simp) (.cells #[.slice none 0 0, .slice none 0 0] 53))
 have R := qh (And.intro (aI (w.alloc (.cells (bdC (some ⟨b1, o1, none⟩) 201 cL (some ⟨b2, o2, none⟩) 201 cH) 53)) (.cells #[.slice none 0 0, .slice none 0 0] 53) (n := w.heap.size + 1) (by simp)) (aG (o' := .cells #[.slice none 0 0, .slice none 0 0] 53) (aI w (.cells (bdC (some ⟨b1, o1, none⟩) 201 cL (some ⟨b2, o2, none⟩) 201 cH) 53) rfl)))
 clear hL hH hE
 unfold bdV
 unfold bdC at *
 go_enter Tryz.func31, Tryz.ntmps31
 go_wp2_with fail
 refine (bY (some ⟨b1, o1, none⟩) (some ⟨b2, o2, none⟩) 201 201 cL cH lo hi _ (H.out.1.below B.out) (H.out.2.below B.out)).mono ?_; rintro e w1 ⟨rfl, hb⟩
 replace B := qh (B.out.trans (hb.mono B.out.size))
 replace R := qh (And.intro (aN hb R.out.1) (aN hb R.out.2))
 rw [HE.out]
 clear hb
 go_wp2_with fail
 have hO1 : w.heap.size + 1 < w1.heap.size := aB R.out.1
 obtain ⟨O, hO⟩ : ∃ O, w1.heap.size = O := ⟨_, rfl⟩
 have K := qh (show RmK w O (some ⟨b1, o1, none⟩) cL (some ⟨b2, o2, none⟩) cH (stF lo hi P) 0 (w1.alloc (.cells #[.slice none 0 0, .slice none 0 0] 53)) from ⟨⟨none, 0, 0, none, 0, 0, aG R.out.1, aI _ _ hO.symm, TwoOwn.nil _ _, B.out.alloc B.out.size _, by omega, by omega⟩, aG R.out.2⟩)
 rw [hO] at hO1 ⊢
 clear B R hO
 go_loopw [8] (fun kv wr => ∃ k : Nat, k ≤ 201 ∧ kv = .int .i64 k ∧ RmK w O (some ⟨b1, o1, none⟩) cL (some ⟨b2, o2, none⟩) cH (stF lo hi P) k wr) (fun kv _ => 201 - (intOf kv).toNat)
 case atStart => exact ⟨0, Nat.zero_le _, rfl, K.out⟩
 case round =>
  clear K
  obtain ⟨k, hk, rfl, hK⟩ := hrel
  by_cases hlt : k < 201
  ·have hk0 : (0 : Int) ≤ (k : Int) := by omega
   have hk1 : (k : Int) < 201 := by omega
   have K := qh hK
   have hA := stA_le P k hlt
   obtain ⟨A, hAe⟩ : ∃ A, stA P k = A := ⟨_, rfl⟩
   obtain ⟨N, hNe⟩ : ∃ N, stN P k = N := ⟨_, rfl⟩
   obtain ⟨E, hEe⟩ : ∃ E, min 200 (k + P) = E := ⟨_, rfl⟩
   rw [hAe, hNe, hEe] at hA
   have HA0 := qh (show (A : Int) = (k : Int) - (P : Int) ∨ ((A : Int) = 0 ∧ (k : Int) - (P : Int) ≤ 0) from by unfold stA at hAe; omega)
   have HE0 := qh (show (E : Int) = (k : Int) + (P : Int) ∧ (k : Int) + (P : Int) ≤ 200 ∨ ((E : Int) = 200 ∧ 200 ≤ (k : Int) + (P : Int)) from by omega)
   have HAN := qh (And.intro hAe hNe)
   have hE2 : E ≤ 200 := by omega
   have HA12 := qh hA
   clear hA
   clear hK hAe hNe hEe
   go_wp2_with fail
   all_goals
    go_loopw [9, 10, 11] (fun l h v wr => ∃ j : Nat, j ≤ N ∧ v = .int .i64 ((A + j : Nat) : Int) ∧ l = .int .i64 (rA (stA' lo hi P k j)).1 ∧ h = .int .i64 (rA (stA' lo hi P k j)).2 ∧ RmK w O (some ⟨b1, o1, none⟩) cL (some ⟨b2, o2, none⟩) cH (stF lo hi P) k wr) (fun _ _ v _ => 201 - (intOf v).toNat)
    case atStart => exact ⟨0, Nat.zero_le _, by have := HA0.out; congr 1; omega, rfl, rfl, K.out⟩
    case round =>
     clear K
     obtain ⟨j, hj, rfl, rfl, rfl, hK⟩ := hrel
     have K := qh hK
     obtain ⟨k0, k1⟩ := bW hK.2
     obtain ⟨L1, L2, U1, U2⟩ := rA_bd HV.out (P := P) (k := k) (j := j) (by rw [HAN.out.1]; have := HA12.out; omega)
     have HACC := qh (And.intro (@qP lo hi P k j) (@stA'_no lo hi P k j))
     have HCL := qh (nm_clip (stA' lo hi P k j))
     clear hK
     obtain ⟨La, hLa⟩ : ∃ La, (rA (stA' lo hi P k j)).1 = La := ⟨_, rfl⟩
     obtain ⟨Ha, hHa⟩ : ∃ Ha, (rA (stA' lo hi P k j)).2 = Ha := ⟨_, rfl⟩
     rw [hLa] at L1 L2 ⊢
     rw [hHa] at U1 U2 ⊢
     have HLa := qh (And.intro hLa hHa)
     clear hLa hHa
     obtain ⟨i, hi⟩ : ∃ i, A + j = i := ⟨_, rfl⟩
     rw [hi]
     have HI := qh hi
     clear hi
     by_cases hjN : j < N
     ·have hi1 : i < 201 := by have := HA12.out; have := HI.out; omega
      have hii : (i : Int) < 201 := by omega
      have hi0 : (0 : Int) ≤ (i : Int) := by omega
      have hiE : (i : Int) ≤ 200 ∧ (i : Int) ≤ (k : Int) + (P : Int) := by have := HA12.out; have := HI.out; have := HE0.out; omega
      obtain ⟨hie1, hie2⟩ := hiE
      by_cases hkp : (k : Int) + (P : Int) < 200
      ·go_wp2_with fail
       refine (iS (some ⟨b1, o1, none⟩) (some ⟨b2, o2, none⟩) 201 201 cL cH lo hi i _ (H.out.1.below K.out.bel) (H.out.2.below K.out.bel) hi1 hi1).mono ?_; rintro e w3 ⟨rfl, hb⟩
       replace K := qh (K.out.keep hb)
       clear hb k0 k1
       by_cases hn : nonAt lo hi i
       ·have hd : decide (gi lo i ≤ gi hi i) = false := decide_eq_false (fun e => (fI HV.out hi1).1 e hn)
        have HNX := qh (show stA' lo hi P k (j + 1) = stA' lo hi P k j from HACC.out.2 (by rw [HAN.out.1, HI.out]; exact fun e => e hn))
        rw [hd]
        clear hn hd
        go_wp2_with fail
        go_roundw
        case rel => exact ⟨j + 1, by omega, by have := HI.out; congr 1; omega, by rw [HNX.out, HLa.out.1], by rw [HNX.out, HLa.out.2], K.out⟩
        case measure => have := HI.out; simp [intOf]; omega
       have hd : decide (gi lo i ≤ gi hi i) = true := decide_eq_true ((fI HV.out hi1).2 hn)
       have e1 := HACC.out.1 (by rw [HAN.out.1, HI.out]; exact hn)
       have eb := shG_bd HV.out hi1
       rw [HAN.out.1, HI.out] at e1
       have e2 := rA_add (a := stA' lo hi P k j) (p := shG lo hi i) (by omega) (by omega)
       rw [← e1, HLa.out.1, HLa.out.2] at e2
       obtain ⟨_, _, e3, x0⟩ := ints_at (H.out.1.below K.out.bel) hi1
       obtain ⟨_, _, e4, y0⟩ := ints_at (H.out.2.below K.out.bel) hi1
       cases e3; cases e4
       obtain ⟨x1, x2, y1, y2⟩ := ok_bd HV.out hi1
       unfold shG at e2
       obtain ⟨X, hX⟩ : ∃ X, gi lo i = X := ⟨_, rfl⟩
       obtain ⟨Y, hY⟩ : ∃ Y, gi hi i = Y := ⟨_, rfl⟩
       rw [hX] at x0 x1 x2 e2
       rw [hY] at y0 y1 y2 e2
       have HNX := qh (show (rA (stA' lo hi P k (j + 1))).1 = min La (X + ((i : Int) - 100)) ∧ (rA (stA' lo hi P k (j + 1))).2 = max Ha (Y + ((i : Int) - 100)) from ⟨by rw [e2], by rw [e2]⟩)
       rw [hd]
       obtain ⟨k0, k1⟩ := bW K.out.2
       clear hn hd e1 e2 eb hX hY
       by_cases hm1 : X + (i : Int) - 100 < La
       ·by_cases hm2 : Ha < Y + (i : Int) - 100
        ·go_wp2_with fail
         go_roundw
         case rel => exact ⟨j + 1, by omega, by have := HI.out; congr 1; omega, by rw [HNX.out.1]; congr 1; omega, by rw [HNX.out.2]; congr 1; omega, K.out⟩
         case measure => have := HI.out; simp [intOf]; omega
        go_wp2_with fail
        go_roundw
        case rel => exact ⟨j + 1, by omega, by have := HI.out; congr 1; omega, by rw [HNX.out.1]; congr 1; omega, by rw [HNX.out.2]; congr 1; omega, K.out⟩
        case measure => have := HI.out; simp [intOf]; omega
       by_cases hm2 : Ha < Y + (i : Int) - 100
       ·go_wp2_with fail
        go_roundw
        case rel => exact ⟨j + 1, by omega, by have := HI.out; congr 1; omega, by rw [HNX.out.1]; congr 1; omega, by rw [HNX.out.2]; congr 1; omega, K.out⟩
        case measure => have := HI.out; simp [intOf]; omega
       go_wp2_with fail
       go_roundw
       case rel => exact ⟨j + 1, by omega, by have := HI.out; congr 1; omega, by rw [HNX.out.1]; congr 1; omega, by rw [HNX.out.2]; congr 1; omega, K.out⟩
       case measure => have := HI.out; simp [intOf]; omega
      try (exfalso; omega)
      all_goals
       go_wp2_with fail
       refine (iS (some ⟨b1, o1, none⟩) (some ⟨b2, o2, none⟩) 201 201 cL cH lo hi i _ (H.out.1.below K.out.bel) (H.out.2.below K.out.bel) hi1 hi1).mono ?_; rintro e w3 ⟨rfl, hb⟩
       replace K := qh (K.out.keep hb)
       clear hb k0 k1
       by_cases hn : nonAt lo hi i
       ·have hd : decide (gi lo i ≤ gi hi i) = false := decide_eq_false (fun e => (fI HV.out hi1).1 e hn)
        have HNX := qh (show stA' lo hi P k (j + 1) = stA' lo hi P k j from HACC.out.2 (by rw [HAN.out.1, HI.out]; exact fun e => e hn))
        rw [hd]
        clear hn hd
        go_wp2_with fail
        go_roundw
        case rel => exact ⟨j + 1, by omega, by have := HI.out; congr 1; omega, by rw [HNX.out, HLa.out.1], by rw [HNX.out, HLa.out.2], K.out⟩
        case measure => have := HI.out; simp [intOf]; omega
       have hd : decide (gi lo i ≤ gi hi i) = true := decide_eq_true ((fI HV.out hi1).2 hn)
       have e1 := HACC.out.1 (by rw [HAN.out.1, HI.out]; exact hn)
       have eb := shG_bd HV.out hi1
       rw [HAN.out.1, HI.out] at e1
       have e2 := rA_add (a := stA' lo hi P k j) (p := shG lo hi i) (by omega) (by omega)
       rw [← e1, HLa.out.1, HLa.out.2] at e2
       obtain ⟨_, _, e3, x0⟩ := ints_at (H.out.1.below K.out.bel) hi1
       obtain ⟨_, _, e4, y0⟩ := ints_at (H.out.2.below K.out.bel) hi1
       cases e3; cases e4
       obtain ⟨x1, x2, y1, y2⟩ := ok_bd HV.out hi1
       unfold shG at e2
       obtain ⟨X, hX⟩ : ∃ X, gi lo i = X := ⟨_, rfl⟩
       obtain ⟨Y, hY⟩ : ∃ Y, gi hi i = Y := ⟨_, rfl⟩
       rw [hX] at x0 x1 x2 e2
       rw [hY] at y0 y1 y2 e2
       have HNX := qh (show (rA (stA' lo hi P k (j + 1))).1 = min La (X + ((i : Int) - 100)) ∧ (rA (stA' lo hi P k (j + 1))).2 = max Ha (Y + ((i : Int) - 100)) from ⟨by rw [e2], by rw [e2]⟩)
       rw [hd]
       obtain ⟨k0, k1⟩ := bW K.out.2
       clear hn hd e1 e2 eb hX hY
       by_cases hm1 : X + (i : Int) - 100 < La
       ·by_cases hm2 : Ha < Y + (i : Int) - 100
        ·go_wp2_with fail
         go_roundw
         case rel => exact ⟨j + 1, by omega, by have := HI.out; congr 1; omega, by rw [HNX.out.1]; congr 1; omega, by rw [HNX.out.2]; congr 1; omega, K.out⟩
         case measure => have := HI.out; simp [intOf]; omega
        go_wp2_with fail
        go_roundw
        case rel => exact ⟨j + 1, by omega, by have := HI.out; congr 1; omega, by rw [HNX.out.1]; congr 1; omega, by rw [HNX.out.2]; congr 1; omega, K.out⟩
        case measure => have := HI.out; simp [intOf]; omega
       by_cases hm2 : Ha < Y + (i : Int) - 100
       ·go_wp2_with fail
        go_roundw
        case rel => exact ⟨j + 1, by omega, by have := HI.out; congr 1; omega, by rw [HNX.out.1]; congr 1; omega, by rw [HNX.out.2]; congr 1; omega, K.out⟩
        case measure => have := HI.out; simp [intOf]; omega
       go_wp2_with fail
       go_roundw
       case rel => exact ⟨j + 1, by omega, by have := HI.out; congr 1; omega, by rw [HNX.out.1]; congr 1; omega, by rw [HNX.out.2]; congr 1; omega, K.out⟩
       case measure => have := HI.out; simp [intOf]; omega
     obtain rfl : j = N := by omega
     have HQ := qh (show ∀ l h : Int, l = max La (-1000) → h = min Ha 50000 → nm (l, h) = nm (stF lo hi P k) from fun l h e1 e2 => by
      have e3 := HCL.out
      rw [HLa.out.1, HLa.out.2, ← e1, ← e2] at e3
      unfold stF
      rw [HAN.out.2]
      exact e3)
     obtain ⟨⟨aP, nP, cP, aQ, nQ, cQ, hR, hOb, hT, hB, _, _⟩, hBx⟩ := K.out
     obtain ⟨c0, c1, f0, f1⟩ := two_facts hOb
     have G := qh (And.intro (And.intro hR (And.intro hOb hBx)) (And.intro hT hB))
     clear hR hOb hBx hT hB K k0 k1
     have hend : (k : Int) + (P : Int) < 200 ∧ (k : Int) + (P : Int) < (i : Int) ∨ 200 ≤ (k : Int) + (P : Int) ∧ 200 < (i : Int) := by have := HA12.out; have := HI.out; have := HE0.out; omega
     rcases hend with ⟨hen1, hen2⟩ | ⟨hen1, hen2⟩
     ·by_cases hm1 : La < -1000
      ·by_cases hm2 : 50000 < Ha
       ·go_wp2_with fail
        refine (dM (O + 1) _ _ (loK (stF lo hi P) k) (hiK (stF lo hi P) k) (-1000) 50000 _ G.out.2.1 (aB G.out.1.2.1) (by rw [loK_len]; omega) (by rw [hiK_len]; omega)).mono ?_
        rintro e w4 ⟨vL, vH, rfl, hT, hB⟩
        rw [HQ.out (-1000) 50000 (by omega) (by omega)] at hT
        obtain ⟨aL', nL', cL', rfl⟩ := aZ hT.L
        obtain ⟨aH', nH', cH', rfl⟩ := aZ hT.H
        have hK2 := RfK.next (f := stF lo hi P) (k := k) (by omega) hO1 G.out.1.1 G.out.1.2.1 G.out.2.2 hT hB
        have hBx := (hB.block w.heap.size (by omega)).trans G.out.1.2.2
        obtain ⟨d0, d1, g0, g1⟩ := two_facts ((hB.block O (by omega)).trans G.out.1.2.1)
        have KC := qh (And.intro hK2 hBx)
        clear c0 c1 f0 f1 hT hB hK2 G hBx
        go_wp2_with fail
        go_roundw
        case rel => exact ⟨k + 1, by omega, by go_num, KC.out.1, (((Only.refl O w4).setCell 0 _).setCell 1 _).keeps KC.out.2 (by omega)⟩
        case measure => simp [intOf]; omega
       go_wp2_with fail
       refine (dM (O + 1) _ _ (loK (stF lo hi P) k) (hiK (stF lo hi P) k) (-1000) Ha _ G.out.2.1 (aB G.out.1.2.1) (by rw [loK_len]; omega) (by rw [hiK_len]; omega)).mono ?_
       rintro e w4 ⟨vL, vH, rfl, hT, hB⟩
       rw [HQ.out (-1000) Ha (by omega) (by omega)] at hT
       obtain ⟨aL', nL', cL', rfl⟩ := aZ hT.L
       obtain ⟨aH', nH', cH', rfl⟩ := aZ hT.H
       have hK2 := RfK.next (f := stF lo hi P) (k := k) (by omega) hO1 G.out.1.1 G.out.1.2.1 G.out.2.2 hT hB
       have hBx := (hB.block w.heap.size (by omega)).trans G.out.1.2.2
       obtain ⟨d0, d1, g0, g1⟩ := two_facts ((hB.block O (by omega)).trans G.out.1.2.1)
       have KC := qh (And.intro hK2 hBx)
       clear c0 c1 f0 f1 hT hB hK2 G hBx
       go_wp2_with fail
       go_roundw
       case rel => exact ⟨k + 1, by omega, by go_num, KC.out.1, (((Only.refl O w4).setCell 0 _).setCell 1 _).keeps KC.out.2 (by omega)⟩
       case measure => simp [intOf]; omega
      by_cases hm2 : 50000 < Ha
      ·go_wp2_with fail
       refine (dM (O + 1) _ _ (loK (stF lo hi P) k) (hiK (stF lo hi P) k) La 50000 _ G.out.2.1 (aB G.out.1.2.1) (by rw [loK_len]; omega) (by rw [hiK_len]; omega)).mono ?_
       rintro e w4 ⟨vL, vH, rfl, hT, hB⟩
       rw [HQ.out La 50000 (by omega) (by omega)] at hT
       obtain ⟨aL', nL', cL', rfl⟩ := aZ hT.L
       obtain ⟨aH', nH', cH', rfl⟩ := aZ hT.H
       have hK2 := RfK.next (f := stF lo hi P) (k := k) (by omega) hO1 G.out.1.1 G.out.1.2.1 G.out.2.2 hT hB
       have hBx := (hB.block w.heap.size (by omega)).trans G.out.1.2.2
       obtain ⟨d0, d1, g0, g1⟩ := two_facts ((hB.block O (by omega)).trans G.out.1.2.1)
       have KC := qh (And.intro hK2 hBx)
       clear c0 c1 f0 f1 hT hB hK2 G hBx
       go_wp2_with fail
       go_roundw
       case rel => exact ⟨k + 1, by omega, by go_num, KC.out.1, (((Only.refl O w4).setCell 0 _).setCell 1 _).keeps KC.out.2 (by omega)⟩
       case measure => simp [intOf]; omega
      go_wp2_with fail
      refine (dM (O + 1) _ _ (loK (stF lo hi P) k) (hiK (stF lo hi P) k) La Ha _ G.out.2.1 (aB G.out.1.2.1) (by rw [loK_len]; omega) (by rw [hiK_len]; omega)).mono ?_
      rintro e w4 ⟨vL, vH, rfl, hT, hB⟩
      rw [HQ.out La Ha (by omega) (by omega)] at hT
      obtain ⟨aL', nL', cL', rfl⟩ := aZ hT.L
      obtain ⟨aH', nH', cH', rfl⟩ := aZ hT.H
      have hK2 := RfK.next (f := stF lo hi P) (k := k) (by omega) hO1 G.out.1.1 G.out.1.2.1 G.out.2.2 hT hB
      have hBx := (hB.block w.heap.size (by omega)).trans G.out.1.2.2
      obtain ⟨d0, d1, g0, g1⟩ := two_facts ((hB.block O (by omega)).trans G.out.1.2.1)
      have KC := qh (And.intro hK2 hBx)
      clear c0 c1 f0 f1 hT hB hK2 G hBx
      go_wp2_with fail
      go_roundw
      case rel => exact ⟨k + 1, by omega, by go_num, KC.out.1, (((Only.refl O w4).setCell 0 _).setCell 1 _).keeps KC.out.2 (by omega)⟩
      case measure => simp [intOf]; omega
     try (exfalso; omega)
     all_goals
      by_cases hm1 : La < -1000
      ·by_cases hm2 : 50000 < Ha
       ·go_wp2_with fail
        refine (dM (O + 1) _ _ (loK (stF lo hi P) k) (hiK (stF lo hi P) k) (-1000) 50000 _ G.out.2.1 (aB G.out.1.2.1) (by rw [loK_len]; omega) (by rw [hiK_len]; omega)).mono ?_
        rintro e w4 ⟨vL, vH, rfl, hT, hB⟩
        rw [HQ.out (-1000) 50000 (by omega) (by omega)] at hT
        obtain ⟨aL', nL', cL', rfl⟩ := aZ hT.L
        obtain ⟨aH', nH', cH', rfl⟩ := aZ hT.H
        have hK2 := RfK.next (f := stF lo hi P) (k := k) (by omega) hO1 G.out.1.1 G.out.1.2.1 G.out.2.2 hT hB
        have hBx := (hB.block w.heap.size (by omega)).trans G.out.1.2.2
        obtain ⟨d0, d1, g0, g1⟩ := two_facts ((hB.block O (by omega)).trans G.out.1.2.1)
        have KC := qh (And.intro hK2 hBx)
        clear c0 c1 f0 f1 hT hB hK2 G hBx
        go_wp2_with fail
        go_roundw
        case rel => exact ⟨k + 1, by omega, by go_num, KC.out.1, (((Only.refl O w4).setCell 0 _).setCell 1 _).keeps KC.out.2 (by omega)⟩
        case measure => simp [intOf]; omega
       go_wp2_with fail
       refine (dM (O + 1) _ _ (loK (stF lo hi P) k) (hiK (stF lo hi P) k) (-1000) Ha _ G.out.2.1 (aB G.out.1.2.1) (by rw [loK_len]; omega) (by rw [hiK_len]; omega)).mono ?_
       rintro e w4 ⟨vL, vH, rfl, hT, hB⟩
       rw [HQ.out (-1000) Ha (by omega) (by omega)] at hT
       obtain ⟨aL', nL', cL', rfl⟩ := aZ hT.L
       obtain ⟨aH', nH', cH', rfl⟩ := aZ hT.H
       have hK2 := RfK.next (f := stF lo hi P) (k := k) (by omega) hO1 G.out.1.1 G.out.1.2.1 G.out.2.2 hT hB
       have hBx := (hB.block w.heap.size (by omega)).trans G.out.1.2.2
       obtain ⟨d0, d1, g0, g1⟩ := two_facts ((hB.block O (by omega)).trans G.out.1.2.1)
       have KC := qh (And.intro hK2 hBx)
       clear c0 c1 f0 f1 hT hB hK2 G hBx
       go_wp2_with fail
       go_roundw
       case rel => exact ⟨k + 1, by omega, by go_num, KC.out.1, (((Only.refl O w4).setCell 0 _).setCell 1 _).keeps KC.out.2 (by omega)⟩
       case measure => simp [intOf]; omega
      by_cases hm2 : 50000 < Ha
      ·go_wp2_with fail
       refine (dM (O + 1) _ _ (loK (stF lo hi P) k) (hiK (stF lo hi P) k) La 50000 _ G.out.2.1 (aB G.out.1.2.1) (by rw [loK_len]; omega) (by rw [hiK_len]; omega)).mono ?_
       rintro e w4 ⟨vL, vH, rfl, hT, hB⟩
       rw [HQ.out La 50000 (by omega) (by omega)] at hT
       obtain ⟨aL', nL', cL', rfl⟩ := aZ hT.L
       obtain ⟨aH', nH', cH', rfl⟩ := aZ hT.H
       have hK2 := RfK.next (f := stF lo hi P) (k := k) (by omega) hO1 G.out.1.1 G.out.1.2.1 G.out.2.2 hT hB
       have hBx := (hB.block w.heap.size (by omega)).trans G.out.1.2.2
       obtain ⟨d0, d1, g0, g1⟩ := two_facts ((hB.block O (by omega)).trans G.out.1.2.1)
       have KC := qh (And.intro hK2 hBx)
       clear c0 c1 f0 f1 hT hB hK2 G hBx
       go_wp2_with fail
       go_roundw
       case rel => exact ⟨k + 1, by omega, by go_num, KC.out.1, (((Only.refl O w4).setCell 0 _).setCell 1 _).keeps KC.out.2 (by omega)⟩
       case measure => simp [intOf]; omega
      go_wp2_with fail
      refine (dM (O + 1) _ _ (loK (stF lo hi P) k) (hiK (stF lo hi P) k) La Ha _ G.out.2.1 (aB G.out.1.2.1) (by rw [loK_len]; omega) (by rw [hiK_len]; omega)).mono ?_
      rintro e w4 ⟨vL, vH, rfl, hT, hB⟩
      rw [HQ.out La Ha (by omega) (by omega)] at hT
      obtain ⟨aL', nL', cL', rfl⟩ := aZ hT.L
      obtain ⟨aH', nH', cH', rfl⟩ := aZ hT.H
      have hK2 := RfK.next (f := stF lo hi P) (k := k) (by omega) hO1 G.out.1.1 G.out.1.2.1 G.out.2.2 hT hB
      have hBx := (hB.block w.heap.size (by omega)).trans G.out.1.2.2
      obtain ⟨d0, d1, g0, g1⟩ := two_facts ((hB.block O (by omega)).trans G.out.1.2.1)
      have KC := qh (And.intro hK2 hBx)
      clear c0 c1 f0 f1 hT hB hK2 G hBx
      go_wp2_with fail
      go_roundw
      case rel => exact ⟨k + 1, by omega, by go_num, KC.out.1, (((Only.refl O w4).setCell 0 _).setCell 1 _).keeps KC.out.2 (by omega)⟩
      case measure => simp [intOf]; omega
  obtain rfl : k = 201 := by omega
  obtain ⟨⟨aP, nP, cP, aQ, nQ, cQ, hR, hOb, hT, hB, _, _⟩, hBx⟩ := hK
  obtain ⟨c0, c1, f0, f1⟩ := two_facts hOb
  obtain ⟨d0, d1, g0, g1⟩ := two_facts hR
  have G := qh (And.intro hR (And.intro hOb (And.intro hT hB)))
  clear hR hOb hT hB hk hlt hBx
  go_wp2_with fail
  obtain ⟨hT9, hB9, r0, r1⟩ := RfK.done (by omega) (show w.heap.size + 1 < O + 1 by omega) G.out.1 G.out.2.2.2 G.out.2.2.1
  have hE0 : stE lo hi (P : Int) = 0 := stE_ok HE.out (by omega)
  refine bodyPost_ret (v := .tuple #[.agg #[.slice aP nP cP, .slice aQ nQ cQ], .int .i64 0]) ?_ rfl ⟨_, _, by rw [hE0], fun _ => hT9, fun e => absurd hE0 e, hB9⟩
  simp [results, Tryz.f31, go_sem, r0, r1]
theorem rStep_call (aL aH : Option Addr) (nL nH cL cH : Nat) (lo hi : List Int) (p : Int) (w : World) (hL : Ints w aL nL lo) (hH : Ints w aH nH hi) :
    Calls Tryz.prog 31 #[bdV aL nL cL aH nH cH, .int .i64 p] w (BOPost (stE lo hi p) (loK (stF lo hi p.toNat) 201) (hiK (stF lo hi p.toNat) 201) w) := by
 by_cases hE : chB lo hi = 0
 ·by_cases hp : p < 0 ∨ 32 < p
  ·exact rStep_no aL aH nL nH cL cH lo hi p _ w hL hH hE hp
  obtain ⟨e1, e2, -⟩ := chB_ok hE
  obtain rfl : nL = 201 := by rw [← hL.len]; exact e1
  obtain rfl : nH = 201 := by rw [← hH.len]; exact e2
  obtain ⟨P, rfl⟩ : ∃ P : Nat, p = (P : Int) := ⟨p.toNat, by omega⟩
  exact rStep_ok aL aH cL cH lo hi P w hL hH hE (by omega)
 exact rStep_ch aL aH nL nH cL cH lo hi p _ w hL hH hE
end Go.Proofs.YtikjjpjekchcjaaGreat.Alt
