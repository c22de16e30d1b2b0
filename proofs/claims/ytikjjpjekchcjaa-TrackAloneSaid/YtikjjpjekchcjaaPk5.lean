/-
  PtAltF, PtAltG, PtAltH
-/
import Derived.Test.YtikjjpjekchcjaaPk4
import Derived.Test.YtikjjpjekchcjaaPk3
import Derived.Shelf.Abstract
section
namespace Go.Proofs.Ytikjjpjekchcjaa.Alt
open Go.RowKit AltMath MyHeap MyCopy MyOwn
theorem stE_ch {lo hi : List Int} {p : Int} (h : chB lo hi ≠ 0) : stE lo hi p = chB lo hi := if_pos h
theorem stE_no {lo hi : List Int} {p : Int} (h : chB lo hi = 0) (hp : p < 0 ∨ 32 < p) : stE lo hi p = 1 := by unfold stE; rw [if_neg (fun e => e h), if_pos hp]
theorem stE_ok {lo hi : List Int} {p : Int} (h : chB lo hi = 0) (hp : ¬ (p < 0 ∨ 32 < p)) : stE lo hi p = 0 := by unfold stE; rw [if_neg (fun e => e h), if_neg hp]
def rA (a : Option (Int × Int)) : Int × Int := a.getD (1073741824, -1073741824)
theorem rA_add {a : Option (Int × Int)} {p : Int × Int} (h1 : p.1 ≤ 1073741824) (h2 : -1073741824 ≤ p.2) : rA (addO a p) = (min (rA a).1 p.1, max (rA a).2 p.2) := by
 cases a with
 | none => simp only [addO, rA, Option.getD_some, Option.getD_none]; ext <;> omega
 | some q => rfl
theorem nm_clip (a : Option (Int × Int)) : nm (max (rA a).1 (-1000), min (rA a).2 50000) = nm (clip a) := by
 cases a with
 | none => rfl
 | some q => rfl
theorem stA_le (P k : Nat) (hk : k < 201) : stA P k + stN P k = min 200 (k + P) + 1 ∧ stA P k ≤ min 200 (k + P) := by unfold stN stA; omega
theorem shG_bd {lo hi : List Int} (h : ∀ i, i < 201 → ¬ badAt lo hi i) {i : Nat} (hi' : i < 201) : -1100 ≤ (shG lo hi i).1 ∧ (shG lo hi i).1 ≤ 50100 ∧ -1100 ≤ (shG lo hi i).2 ∧ (shG lo hi i).2 ≤ 50100 := by
 obtain ⟨b1, b2, b3, b4⟩ := ok_bd h hi'
 unfold shG
 simp only
 omega
theorem stA'_yes {lo hi : List Int} {P k j : Nat} (h : hasB lo hi (stA P k + j)) : stA' lo hi P k (j + 1) = addO (stA' lo hi P k j) (shG lo hi (stA P k + j)) := if_pos h
theorem stA'_no {lo hi : List Int} {P k j : Nat} (h : ¬ hasB lo hi (stA P k + j)) : stA' lo hi P k (j + 1) = stA' lo hi P k j := if_neg h
theorem rA_bd {lo hi : List Int} (h : ∀ i, i < 201 → ¬ badAt lo hi i) {P k j : Nat} (hj : stA P k + j ≤ 201) : -1100 ≤ (rA (stA' lo hi P k j)).1 ∧ (rA (stA' lo hi P k j)).1 ≤ 1073741824 ∧ -1073741824 ≤ (rA (stA' lo hi P k j)).2 ∧ (rA (stA' lo hi P k j)).2 ≤ 50100 := by
 induction j with
 | zero => show -1100 ≤ (1073741824 : Int) ∧ (1073741824 : Int) ≤ 1073741824 ∧ (-1073741824 : Int) ≤ -1073741824 ∧ (-1073741824 : Int) ≤ 50100; decide
 | succ j ih =>
  have ih := ih (by omega)
  by_cases hh : hasB lo hi (stA P k + j)
  ·obtain ⟨b1, b2, b3, b4⟩ := shG_bd h (i := stA P k + j) (by omega)
   rw [stA'_yes hh, rA_add (by omega) (by omega)]
   simp only
   omega
  ·rw [stA'_no hh]; exact ih
theorem RmK.keep {w0 W W' : World} {O : Nat} {aL aH : Option Addr} {cL cH : Nat} {f : Nat → Int × Int} {k : Nat} (h : RmK w0 O aL cL aH cH f k W) (hb : Below W.heap.size W W') : RmK w0 O aL cL aH cH f k W' := by
 obtain ⟨⟨a, n, c, a', n', c', h1, h2, h3, h4, h5, h6⟩, h7⟩ := h
 exact ⟨⟨a, n, c, a', n', c', keepO hb h1, keepO hb h2, h3.below hb, h4.trans (hb.mono h4.size), h5, h6⟩, keepO hb h7⟩
theorem RmK.bel {w0 W : World} {O : Nat} {aL aH : Option Addr} {cL cH : Nat} {f : Nat → Int × Int} {k : Nat} (h : RmK w0 O aL cL aH cH f k W) : Below w0.heap.size w0 W := by
 obtain ⟨⟨_, _, _, _, _, _, _, _, _, h4, _, _⟩, _⟩ := h
 exact h4
set_option maxRecDepth 100000 in
set_option maxHeartbeats 4000000 in
theorem rStep_ch (aL aH : Option Addr) (nL nH cL cH : Nat) (lo hi : List Int) (p : Int) (f : Nat → Int × Int) (w : World) (hL : Ints w aL nL lo) (hH : Ints w aH nH hi) (hE : chB lo hi ≠ 0) :
    Calls Try.prog 33 #[bdV aL nL cL aH nH cH, .int .i64 p] w (BOPost (stE lo hi p) (loK f 201) (hiK f 201) w) := by
 have d1 : (chB lo hi != 0) = true := bne_iff_ne.2 hE
 have HE := Lib.hid hE
 have H := Lib.hid (And.intro hL hH)
 have B := Lib.hid ((below_alloc w (.cells (bdC aL nL cL aH nH cH) 44)).alloc (by simp) (.cells #[.slice none 0 0, .slice none 0 0] 44))
 have R := Lib.hid (block_new (w.alloc (.cells (bdC aL nL cL aH nH cH) 44)) (.cells #[.slice none 0 0, .slice none 0 0] 44) (n := w.heap.size + 1) (by simp))
 clear hL hH hE
 unfold bdV
 unfold bdC at *
 go_enter Try.func33, Try.ntmps33
 go_wp2_with fail
 refine (rCheck_call aL aH nL nH cL cH lo hi _ (H.out.1.below B.out) (H.out.2.below B.out)).mono ?_; rintro e w1 ⟨rfl, hb⟩
 obtain ⟨c0, c1, f0, f1⟩ := two_facts (keepO hb R.out)
 replace B := Lib.hid (B.out.trans (hb.mono B.out.size))
 replace R := Lib.hid (keepO hb R.out)
 clear hb
 go_wp2_with fail
 have hx := block_setCell (i := 1) (v := .slice none 0 0) (block_setCell (i := 0) (v := .slice none 0 0) R.out)
 have hO : Only (w.heap.size + 1) w1 ((w1.setCell ⟨w.heap.size + 1, 0, none⟩ (.slice none 0 0)).setCell ⟨w.heap.size + 1, 1, none⟩ (.slice none 0 0)) := ((Only.refl _ _).setCell 0 _).setCell 1 _
 have r0 := cell_of_block (i := 0) (v := .slice none 0 0) hx rfl
 have r1 := cell_of_block (i := 1) (v := .slice none 0 0) hx rfl
 refine bodyPost_ret (v := .tuple #[.agg #[.slice none 0 0, .slice none 0 0], .int .i64 (chB lo hi)]) ?_ rfl (bo_err (stE_ch HE.out) HE.out (B.out.trans (hO.below (by omega) B.out.size)))
 simp [results, Try.f33, go_sem, r0, r1]
set_option maxRecDepth 100000 in
set_option maxHeartbeats 4000000 in
theorem rStep_no (aL aH : Option Addr) (nL nH cL cH : Nat) (lo hi : List Int) (p : Int) (f : Nat → Int × Int) (w : World) (hL : Ints w aL nL lo) (hH : Ints w aH nH hi) (hE : chB lo hi = 0) (hp : p < 0 ∨ 32 < p) :
    Calls Try.prog 33 #[bdV aL nL cL aH nH cH, .int .i64 p] w (BOPost (stE lo hi p) (loK f 201) (hiK f 201) w) := by
 have HE := Lib.hid (And.intro hE hp)
 have H := Lib.hid (And.intro hL hH)
 have B := Lib.hid ((below_alloc w (.cells (bdC aL nL cL aH nH cH) 44)).alloc (by simp) (.cells #[.slice none 0 0, .slice none 0 0] 44))
 have R := Lib.hid (block_new (w.alloc (.cells (bdC aL nL cL aH nH cH) 44)) (.cells #[.slice none 0 0, .slice none 0 0] 44) (n := w.heap.size + 1) (by simp))
 clear hL hH hE
 unfold bdV
 unfold bdC at *
 by_cases hp0 : p < 0
 all_goals
  have hp1 : p < 0 ∨ 32 < p := hp
  clear hp
  try (replace hp1 : 32 < p := by omega)
  go_enter Try.func33, Try.ntmps33
  go_wp2_with fail
  refine (rCheck_call aL aH nL nH cL cH lo hi _ (H.out.1.below B.out) (H.out.2.below B.out)).mono ?_; rintro e w1 ⟨rfl, hb⟩
  obtain ⟨c0, c1, f0, f1⟩ := two_facts (keepO hb R.out)
  replace B := Lib.hid (B.out.trans (hb.mono B.out.size))
  replace R := Lib.hid (keepO hb R.out)
  rw [HE.out.1]
  clear hb
  go_wp2_with fail
  have hx := block_setCell (i := 1) (v := .slice none 0 0) (block_setCell (i := 0) (v := .slice none 0 0) R.out)
  have hO : Only (w.heap.size + 1) w1 ((w1.setCell ⟨w.heap.size + 1, 0, none⟩ (.slice none 0 0)).setCell ⟨w.heap.size + 1, 1, none⟩ (.slice none 0 0)) := ((Only.refl _ _).setCell 0 _).setCell 1 _
  have r0 := cell_of_block (i := 0) (v := .slice none 0 0) hx rfl
  have r1 := cell_of_block (i := 1) (v := .slice none 0 0) hx rfl
  refine bodyPost_ret (v := .tuple #[.agg #[.slice none 0 0, .slice none 0 0], .int .i64 1]) ?_ rfl (bo_err (stE_no HE.out.1 HE.out.2) (by decide) (B.out.trans (hO.below (by omega) B.out.size)))
  simp [results, Try.f33, go_sem, r0, r1]
set_option maxRecDepth 100000 in
set_option maxHeartbeats 16000000 in
theorem rStep_ok (aL aH : Option Addr) (cL cH : Nat) (lo hi : List Int) (P : Nat) (w : World) (hL : Ints w aL 201 lo) (hH : Ints w aH 201 hi) (hE : chB lo hi = 0) (hP : P ≤ 32) :
    Calls Try.prog 33 #[bdV aL 201 cL aH 201 cH, .int .i64 (P : Int)] w (BOPost (stE lo hi (P : Int)) (loK (stF lo hi P) 201) (hiK (stF lo hi P) 201) w) := by
 have HE := Lib.hid hE
 have HV := Lib.hid (chB_ok hE).2.2
 have hP0 : (0 : Int) ≤ (P : Int) := by omega
 have hP1 : (P : Int) ≤ 32 := by omega
 obtain ⟨b1, o1, rfl, -⟩ := ints_at hL (k := 0) (by decide)
 obtain ⟨b2, o2, rfl, -⟩ := ints_at hH (k := 0) (by decide)
 have H := Lib.hid (And.intro hL hH)
 have B := Lib.hid ((below_alloc w (.cells (bdC (some ⟨b1, o1, none⟩) 201 cL (some ⟨b2, o2, none⟩) 201 cH) 44)).alloc (by simp) (.cells #[.slice none 0 0, .slice none 0 0] 44))
 have R := Lib.hid (And.intro (block_new (w.alloc (.cells (bdC (some ⟨b1, o1, none⟩) 201 cL (some ⟨b2, o2, none⟩) 201 cH) 44)) (.cells #[.slice none 0 0, .slice none 0 0] 44) (n := w.heap.size + 1) (by simp)) (block_alloc (o' := .cells #[.slice none 0 0, .slice none 0 0] 44) (block_new w (.cells (bdC (some ⟨b1, o1, none⟩) 201 cL (some ⟨b2, o2, none⟩) 201 cH) 44) rfl)))
 clear hL hH hE
 unfold bdV
 unfold bdC at *
 go_enter Try.func33, Try.ntmps33
 go_wp2_with fail
 refine (rCheck_call (some ⟨b1, o1, none⟩) (some ⟨b2, o2, none⟩) 201 201 cL cH lo hi _ (H.out.1.below B.out) (H.out.2.below B.out)).mono ?_; rintro e w1 ⟨rfl, hb⟩
 replace B := Lib.hid (B.out.trans (hb.mono B.out.size))
 replace R := Lib.hid (And.intro (keepO hb R.out.1) (keepO hb R.out.2))
 rw [HE.out]
 clear hb
 go_wp2_with fail
 have hO1 : w.heap.size + 1 < w1.heap.size := lt_of_block R.out.1
 obtain ⟨O, hO⟩ : ∃ O, w1.heap.size = O := ⟨_, rfl⟩
 have K := Lib.hid (show RmK w O (some ⟨b1, o1, none⟩) cL (some ⟨b2, o2, none⟩) cH (stF lo hi P) 0 (w1.alloc (.cells #[.slice none 0 0, .slice none 0 0] 44)) from ⟨⟨none, 0, 0, none, 0, 0, block_alloc R.out.1, block_new _ _ hO.symm, TwoOwn.nil _ _, B.out.alloc B.out.size _, by omega, by omega⟩, block_alloc R.out.2⟩)
 rw [hO] at hO1 ⊢
 clear B R hO
 go_loopw [8] (fun kv wr => ∃ k : Nat, k ≤ 201 ∧ kv = .int .i64 k ∧ RmK w O (some ⟨b1, o1, none⟩) cL (some ⟨b2, o2, none⟩) cH (stF lo hi P) k wr) (fun kv _ => 201 - (intOf kv).toNat)
 case atStart => exact ⟨0, Nat.zero_le _, rfl, K.out⟩
 case round =>
  clear K
  obtain ⟨k, hk, rfl, hK⟩ := hrel
  by_cases hlt : k < 201
  ·have hk0 : (0 : Int) ≤ (k : Int) := by omega
   have hk1 : (k : Int) < 201 := by omega
   have K := Lib.hid hK
   have hA := stA_le P k hlt
   obtain ⟨A, hAe⟩ : ∃ A, stA P k = A := ⟨_, rfl⟩
   obtain ⟨N, hNe⟩ : ∃ N, stN P k = N := ⟨_, rfl⟩
   obtain ⟨E, hEe⟩ : ∃ E, min 200 (k + P) = E := ⟨_, rfl⟩
   rw [hAe, hNe, hEe] at hA
   have HA0 := Lib.hid (show (A : Int) = (k : Int) - (P : Int) ∨ ((A : Int) = 0 ∧ (k : Int) - (P : Int) ≤ 0) from by unfold stA at hAe; omega)
   have HE0 := Lib.hid (show (E : Int) = (k : Int) + (P : Int) ∧ (k : Int) + (P : Int) ≤ 200 ∨ ((E : Int) = 200 ∧ 200 ≤ (k : Int) + (P : Int)) from by omega)
   have HAN := Lib.hid (And.intro hAe hNe)
   have hE2 : E ≤ 200 := by omega
   have HA12 := Lib.hid hA
   clear hA
   clear hK hAe hNe hEe
   go_wp2_with fail
   all_goals
    go_loopw [9, 10, 11] (fun l h v wr => ∃ j : Nat, j ≤ N ∧ v = .int .i64 ((A + j : Nat) : Int) ∧ l = .int .i64 (rA (stA' lo hi P k j)).1 ∧ h = .int .i64 (rA (stA' lo hi P k j)).2 ∧ RmK w O (some ⟨b1, o1, none⟩) cL (some ⟨b2, o2, none⟩) cH (stF lo hi P) k wr) (fun _ _ v _ => 201 - (intOf v).toNat)
    case atStart => exact ⟨0, Nat.zero_le _, by have := HA0.out; congr 1; omega, rfl, rfl, K.out⟩
    case round =>
     clear K
     obtain ⟨j, hj, rfl, rfl, rfl, hK⟩ := hrel
     have K := Lib.hid hK
     obtain ⟨k0, k1⟩ := two_cells hK.2
     obtain ⟨L1, L2, U1, U2⟩ := rA_bd HV.out (P := P) (k := k) (j := j) (by rw [HAN.out.1]; have := HA12.out; omega)
     have HACC := Lib.hid (And.intro (@stA'_yes lo hi P k j) (@stA'_no lo hi P k j))
     have HCL := Lib.hid (nm_clip (stA' lo hi P k j))
     clear hK
     obtain ⟨La, hLa⟩ : ∃ La, (rA (stA' lo hi P k j)).1 = La := ⟨_, rfl⟩
     obtain ⟨Ha, hHa⟩ : ∃ Ha, (rA (stA' lo hi P k j)).2 = Ha := ⟨_, rfl⟩
     rw [hLa] at L1 L2 ⊢
     rw [hHa] at U1 U2 ⊢
     have HLa := Lib.hid (And.intro hLa hHa)
     clear hLa hHa
     obtain ⟨i, hi⟩ : ∃ i, A + j = i := ⟨_, rfl⟩
     rw [hi]
     have HI := Lib.hid hi
     clear hi
     by_cases hjN : j < N
     ·have hi1 : i < 201 := by have := HA12.out; have := HI.out; omega
      have hii : (i : Int) < 201 := by omega
      have hi0 : (0 : Int) ≤ (i : Int) := by omega
      have hiE : (i : Int) ≤ 200 ∧ (i : Int) ≤ (k : Int) + (P : Int) := by have := HA12.out; have := HI.out; have := HE0.out; omega
      obtain ⟨hie1, hie2⟩ := hiE
      by_cases hkp : (k : Int) + (P : Int) < 200
      ·go_wp2_with fail
       refine (has_call (some ⟨b1, o1, none⟩) (some ⟨b2, o2, none⟩) 201 201 cL cH lo hi i _ (H.out.1.below K.out.bel) (H.out.2.below K.out.bel) hi1 hi1).mono ?_; rintro e w3 ⟨rfl, hb⟩
       replace K := Lib.hid (K.out.keep hb)
       clear hb k0 k1
       by_cases hn : nonAt lo hi i
       ·have hd : decide (gi lo i ≤ gi hi i) = false := decide_eq_false (fun e => (has_iff HV.out hi1).1 e hn)
        have HNX := Lib.hid (show stA' lo hi P k (j + 1) = stA' lo hi P k j from HACC.out.2 (by rw [HAN.out.1, HI.out]; exact fun e => e hn))
        rw [hd]
        clear hn hd
        go_wp2_with fail
        go_roundw
        case rel => exact ⟨j + 1, by omega, by have := HI.out; congr 1; omega, by rw [HNX.out, HLa.out.1], by rw [HNX.out, HLa.out.2], K.out⟩
        case measure => have := HI.out; simp [intOf]; omega
       ·have hd : decide (gi lo i ≤ gi hi i) = true := decide_eq_true ((has_iff HV.out hi1).2 hn)
        have e1 := HACC.out.1 (by rw [HAN.out.1, HI.out]; exact hn)
        have eb := shG_bd HV.out hi1
        rw [HAN.out.1, HI.out] at e1
        have e2 := rA_add (a := stA' lo hi P k j) (p := shG lo hi i) (by omega) (by omega)
        rw [← e1, HLa.out.1, HLa.out.2] at e2
        obtain ⟨_, _, e3, x0⟩ := ints_at (H.out.1.below K.out.bel) hi1
        obtain ⟨_, _, e4, y0⟩ := ints_at (H.out.2.below K.out.bel) hi1
        cases e3; cases e4
        obtain ⟨x1, x2, y1, y2⟩ := ok_bd HV.out hi1
        unfold shG at e2
        obtain ⟨X, hX⟩ : ∃ X, gi lo i = X := ⟨_, rfl⟩
        obtain ⟨Y, hY⟩ : ∃ Y, gi hi i = Y := ⟨_, rfl⟩
        rw [hX] at x0 x1 x2 e2
        rw [hY] at y0 y1 y2 e2
        have HNX := Lib.hid (show (rA (stA' lo hi P k (j + 1))).1 = min La (X + ((i : Int) - 100)) ∧ (rA (stA' lo hi P k (j + 1))).2 = max Ha (Y + ((i : Int) - 100)) from ⟨by rw [e2], by rw [e2]⟩)
        rw [hd]
        obtain ⟨k0, k1⟩ := two_cells K.out.2
        clear hn hd e1 e2 eb hX hY
        by_cases hm1 : X + (i : Int) - 100 < La
        ·by_cases hm2 : Ha < Y + (i : Int) - 100
         ·go_wp2_with fail
          go_roundw
          case rel => exact ⟨j + 1, by omega, by have := HI.out; congr 1; omega, by rw [HNX.out.1]; congr 1; omega, by rw [HNX.out.2]; congr 1; omega, K.out⟩
          case measure => have := HI.out; simp [intOf]; omega
         ·go_wp2_with fail
          go_roundw
          case rel => exact ⟨j + 1, by omega, by have := HI.out; congr 1; omega, by rw [HNX.out.1]; congr 1; omega, by rw [HNX.out.2]; congr 1; omega, K.out⟩
          case measure => have := HI.out; simp [intOf]; omega
        ·by_cases hm2 : Ha < Y + (i : Int) - 100
         ·go_wp2_with fail
          go_roundw
          case rel => exact ⟨j + 1, by omega, by have := HI.out; congr 1; omega, by rw [HNX.out.1]; congr 1; omega, by rw [HNX.out.2]; congr 1; omega, K.out⟩
          case measure => have := HI.out; simp [intOf]; omega
         ·go_wp2_with fail
          go_roundw
          case rel => exact ⟨j + 1, by omega, by have := HI.out; congr 1; omega, by rw [HNX.out.1]; congr 1; omega, by rw [HNX.out.2]; congr 1; omega, K.out⟩
          case measure => have := HI.out; simp [intOf]; omega
      ·try (exfalso; omega)
       all_goals
        go_wp2_with fail
        refine (has_call (some ⟨b1, o1, none⟩) (some ⟨b2, o2, none⟩) 201 201 cL cH lo hi i _ (H.out.1.below K.out.bel) (H.out.2.below K.out.bel) hi1 hi1).mono ?_; rintro e w3 ⟨rfl, hb⟩
        replace K := Lib.hid (K.out.keep hb)
        clear hb k0 k1
        by_cases hn : nonAt lo hi i
        ·have hd : decide (gi lo i ≤ gi hi i) = false := decide_eq_false (fun e => (has_iff HV.out hi1).1 e hn)
         have HNX := Lib.hid (show stA' lo hi P k (j + 1) = stA' lo hi P k j from HACC.out.2 (by rw [HAN.out.1, HI.out]; exact fun e => e hn))
         rw [hd]
         clear hn hd
         go_wp2_with fail
         go_roundw
         case rel => exact ⟨j + 1, by omega, by have := HI.out; congr 1; omega, by rw [HNX.out, HLa.out.1], by rw [HNX.out, HLa.out.2], K.out⟩
         case measure => have := HI.out; simp [intOf]; omega
        ·have hd : decide (gi lo i ≤ gi hi i) = true := decide_eq_true ((has_iff HV.out hi1).2 hn)
         have e1 := HACC.out.1 (by rw [HAN.out.1, HI.out]; exact hn)
         have eb := shG_bd HV.out hi1
         rw [HAN.out.1, HI.out] at e1
         have e2 := rA_add (a := stA' lo hi P k j) (p := shG lo hi i) (by omega) (by omega)
         rw [← e1, HLa.out.1, HLa.out.2] at e2
         obtain ⟨_, _, e3, x0⟩ := ints_at (H.out.1.below K.out.bel) hi1
         obtain ⟨_, _, e4, y0⟩ := ints_at (H.out.2.below K.out.bel) hi1
         cases e3; cases e4
         obtain ⟨x1, x2, y1, y2⟩ := ok_bd HV.out hi1
         unfold shG at e2
         obtain ⟨X, hX⟩ : ∃ X, gi lo i = X := ⟨_, rfl⟩
         obtain ⟨Y, hY⟩ : ∃ Y, gi hi i = Y := ⟨_, rfl⟩
         rw [hX] at x0 x1 x2 e2
         rw [hY] at y0 y1 y2 e2
         have HNX := Lib.hid (show (rA (stA' lo hi P k (j + 1))).1 = min La (X + ((i : Int) - 100)) ∧ (rA (stA' lo hi P k (j + 1))).2 = max Ha (Y + ((i : Int) - 100)) from ⟨by rw [e2], by rw [e2]⟩)
         rw [hd]
         obtain ⟨k0, k1⟩ := two_cells K.out.2
         clear hn hd e1 e2 eb hX hY
         by_cases hm1 : X + (i : Int) - 100 < La
         ·by_cases hm2 : Ha < Y + (i : Int) - 100
          ·go_wp2_with fail
           go_roundw
           case rel => exact ⟨j + 1, by omega, by have := HI.out; congr 1; omega, by rw [HNX.out.1]; congr 1; omega, by rw [HNX.out.2]; congr 1; omega, K.out⟩
           case measure => have := HI.out; simp [intOf]; omega
          ·go_wp2_with fail
           go_roundw
           case rel => exact ⟨j + 1, by omega, by have := HI.out; congr 1; omega, by rw [HNX.out.1]; congr 1; omega, by rw [HNX.out.2]; congr 1; omega, K.out⟩
           case measure => have := HI.out; simp [intOf]; omega
         ·by_cases hm2 : Ha < Y + (i : Int) - 100
          ·go_wp2_with fail
           go_roundw
           case rel => exact ⟨j + 1, by omega, by have := HI.out; congr 1; omega, by rw [HNX.out.1]; congr 1; omega, by rw [HNX.out.2]; congr 1; omega, K.out⟩
           case measure => have := HI.out; simp [intOf]; omega
          ·go_wp2_with fail
           go_roundw
           case rel => exact ⟨j + 1, by omega, by have := HI.out; congr 1; omega, by rw [HNX.out.1]; congr 1; omega, by rw [HNX.out.2]; congr 1; omega, K.out⟩
           case measure => have := HI.out; simp [intOf]; omega
     ·obtain rfl : j = N := by omega
      have HQ := Lib.hid (show ∀ l h : Int, l = max La (-1000) → h = min Ha 50000 → nm (l, h) = nm (stF lo hi P k) from fun l h e1 e2 => by
       have e3 := HCL.out
       rw [HLa.out.1, HLa.out.2, ← e1, ← e2] at e3
       unfold stF
       rw [HAN.out.2]
       exact e3)
      obtain ⟨⟨aP, nP, cP, aQ, nQ, cQ, hR, hOb, hT, hB, _, _⟩, hBx⟩ := K.out
      obtain ⟨c0, c1, f0, f1⟩ := two_facts hOb
      have G := Lib.hid (And.intro (And.intro hR (And.intro hOb hBx)) (And.intro hT hB))
      clear hR hOb hBx hT hB K k0 k1
      have hend : (k : Int) + (P : Int) < 200 ∧ (k : Int) + (P : Int) < (i : Int) ∨ 200 ≤ (k : Int) + (P : Int) ∧ 200 < (i : Int) := by have := HA12.out; have := HI.out; have := HE0.out; omega
      rcases hend with ⟨hen1, hen2⟩ | ⟨hen1, hen2⟩
      ·by_cases hm1 : La < -1000
       ·by_cases hm2 : 50000 < Ha
        ·go_wp2_with fail
         refine (put_call (O + 1) _ _ (loK (stF lo hi P) k) (hiK (stF lo hi P) k) (-1000) 50000 _ G.out.2.1 (lt_of_block G.out.1.2.1) (by rw [loK_len]; omega) (by rw [hiK_len]; omega)).mono ?_
         rintro e w4 ⟨vL, vH, rfl, hT, hB⟩
         rw [HQ.out (-1000) 50000 (by omega) (by omega)] at hT
         obtain ⟨aL', nL', cL', rfl⟩ := own_slice3 hT.L
         obtain ⟨aH', nH', cH', rfl⟩ := own_slice3 hT.H
         have hK2 := RfK.next (f := stF lo hi P) (k := k) (by omega) hO1 G.out.1.1 G.out.1.2.1 G.out.2.2 hT hB
         have hBx := (hB.block w.heap.size (by omega)).trans G.out.1.2.2
         obtain ⟨d0, d1, g0, g1⟩ := two_facts ((hB.block O (by omega)).trans G.out.1.2.1)
         have KC := Lib.hid (And.intro hK2 hBx)
         clear c0 c1 f0 f1 hT hB hK2 G hBx
         go_wp2_with fail
         go_roundw
         case rel => exact ⟨k + 1, by omega, by go_num, KC.out.1, (((Only.refl O w4).setCell 0 _).setCell 1 _).keeps KC.out.2 (by omega)⟩
         case measure => simp [intOf]; omega
        ·go_wp2_with fail
         refine (put_call (O + 1) _ _ (loK (stF lo hi P) k) (hiK (stF lo hi P) k) (-1000) Ha _ G.out.2.1 (lt_of_block G.out.1.2.1) (by rw [loK_len]; omega) (by rw [hiK_len]; omega)).mono ?_
         rintro e w4 ⟨vL, vH, rfl, hT, hB⟩
         rw [HQ.out (-1000) Ha (by omega) (by omega)] at hT
         obtain ⟨aL', nL', cL', rfl⟩ := own_slice3 hT.L
         obtain ⟨aH', nH', cH', rfl⟩ := own_slice3 hT.H
         have hK2 := RfK.next (f := stF lo hi P) (k := k) (by omega) hO1 G.out.1.1 G.out.1.2.1 G.out.2.2 hT hB
         have hBx := (hB.block w.heap.size (by omega)).trans G.out.1.2.2
         obtain ⟨d0, d1, g0, g1⟩ := two_facts ((hB.block O (by omega)).trans G.out.1.2.1)
         have KC := Lib.hid (And.intro hK2 hBx)
         clear c0 c1 f0 f1 hT hB hK2 G hBx
         go_wp2_with fail
         go_roundw
         case rel => exact ⟨k + 1, by omega, by go_num, KC.out.1, (((Only.refl O w4).setCell 0 _).setCell 1 _).keeps KC.out.2 (by omega)⟩
         case measure => simp [intOf]; omega
       ·by_cases hm2 : 50000 < Ha
        ·go_wp2_with fail
         refine (put_call (O + 1) _ _ (loK (stF lo hi P) k) (hiK (stF lo hi P) k) La 50000 _ G.out.2.1 (lt_of_block G.out.1.2.1) (by rw [loK_len]; omega) (by rw [hiK_len]; omega)).mono ?_
         rintro e w4 ⟨vL, vH, rfl, hT, hB⟩
         rw [HQ.out La 50000 (by omega) (by omega)] at hT
         obtain ⟨aL', nL', cL', rfl⟩ := own_slice3 hT.L
         obtain ⟨aH', nH', cH', rfl⟩ := own_slice3 hT.H
         have hK2 := RfK.next (f := stF lo hi P) (k := k) (by omega) hO1 G.out.1.1 G.out.1.2.1 G.out.2.2 hT hB
         have hBx := (hB.block w.heap.size (by omega)).trans G.out.1.2.2
         obtain ⟨d0, d1, g0, g1⟩ := two_facts ((hB.block O (by omega)).trans G.out.1.2.1)
         have KC := Lib.hid (And.intro hK2 hBx)
         clear c0 c1 f0 f1 hT hB hK2 G hBx
         go_wp2_with fail
         go_roundw
         case rel => exact ⟨k + 1, by omega, by go_num, KC.out.1, (((Only.refl O w4).setCell 0 _).setCell 1 _).keeps KC.out.2 (by omega)⟩
         case measure => simp [intOf]; omega
        ·go_wp2_with fail
         refine (put_call (O + 1) _ _ (loK (stF lo hi P) k) (hiK (stF lo hi P) k) La Ha _ G.out.2.1 (lt_of_block G.out.1.2.1) (by rw [loK_len]; omega) (by rw [hiK_len]; omega)).mono ?_
         rintro e w4 ⟨vL, vH, rfl, hT, hB⟩
         rw [HQ.out La Ha (by omega) (by omega)] at hT
         obtain ⟨aL', nL', cL', rfl⟩ := own_slice3 hT.L
         obtain ⟨aH', nH', cH', rfl⟩ := own_slice3 hT.H
         have hK2 := RfK.next (f := stF lo hi P) (k := k) (by omega) hO1 G.out.1.1 G.out.1.2.1 G.out.2.2 hT hB
         have hBx := (hB.block w.heap.size (by omega)).trans G.out.1.2.2
         obtain ⟨d0, d1, g0, g1⟩ := two_facts ((hB.block O (by omega)).trans G.out.1.2.1)
         have KC := Lib.hid (And.intro hK2 hBx)
         clear c0 c1 f0 f1 hT hB hK2 G hBx
         go_wp2_with fail
         go_roundw
         case rel => exact ⟨k + 1, by omega, by go_num, KC.out.1, (((Only.refl O w4).setCell 0 _).setCell 1 _).keeps KC.out.2 (by omega)⟩
         case measure => simp [intOf]; omega
      ·try (exfalso; omega)
       all_goals
        by_cases hm1 : La < -1000
        ·by_cases hm2 : 50000 < Ha
         ·go_wp2_with fail
          refine (put_call (O + 1) _ _ (loK (stF lo hi P) k) (hiK (stF lo hi P) k) (-1000) 50000 _ G.out.2.1 (lt_of_block G.out.1.2.1) (by rw [loK_len]; omega) (by rw [hiK_len]; omega)).mono ?_
          rintro e w4 ⟨vL, vH, rfl, hT, hB⟩
          rw [HQ.out (-1000) 50000 (by omega) (by omega)] at hT
          obtain ⟨aL', nL', cL', rfl⟩ := own_slice3 hT.L
          obtain ⟨aH', nH', cH', rfl⟩ := own_slice3 hT.H
          have hK2 := RfK.next (f := stF lo hi P) (k := k) (by omega) hO1 G.out.1.1 G.out.1.2.1 G.out.2.2 hT hB
          have hBx := (hB.block w.heap.size (by omega)).trans G.out.1.2.2
          obtain ⟨d0, d1, g0, g1⟩ := two_facts ((hB.block O (by omega)).trans G.out.1.2.1)
          have KC := Lib.hid (And.intro hK2 hBx)
          clear c0 c1 f0 f1 hT hB hK2 G hBx
          go_wp2_with fail
          go_roundw
          case rel => exact ⟨k + 1, by omega, by go_num, KC.out.1, (((Only.refl O w4).setCell 0 _).setCell 1 _).keeps KC.out.2 (by omega)⟩
          case measure => simp [intOf]; omega
         ·go_wp2_with fail
          refine (put_call (O + 1) _ _ (loK (stF lo hi P) k) (hiK (stF lo hi P) k) (-1000) Ha _ G.out.2.1 (lt_of_block G.out.1.2.1) (by rw [loK_len]; omega) (by rw [hiK_len]; omega)).mono ?_
          rintro e w4 ⟨vL, vH, rfl, hT, hB⟩
          rw [HQ.out (-1000) Ha (by omega) (by omega)] at hT
          obtain ⟨aL', nL', cL', rfl⟩ := own_slice3 hT.L
          obtain ⟨aH', nH', cH', rfl⟩ := own_slice3 hT.H
          have hK2 := RfK.next (f := stF lo hi P) (k := k) (by omega) hO1 G.out.1.1 G.out.1.2.1 G.out.2.2 hT hB
          have hBx := (hB.block w.heap.size (by omega)).trans G.out.1.2.2
          obtain ⟨d0, d1, g0, g1⟩ := two_facts ((hB.block O (by omega)).trans G.out.1.2.1)
          have KC := Lib.hid (And.intro hK2 hBx)
          clear c0 c1 f0 f1 hT hB hK2 G hBx
          go_wp2_with fail
          go_roundw
          case rel => exact ⟨k + 1, by omega, by go_num, KC.out.1, (((Only.refl O w4).setCell 0 _).setCell 1 _).keeps KC.out.2 (by omega)⟩
          case measure => simp [intOf]; omega
        ·by_cases hm2 : 50000 < Ha
         ·go_wp2_with fail
          refine (put_call (O + 1) _ _ (loK (stF lo hi P) k) (hiK (stF lo hi P) k) La 50000 _ G.out.2.1 (lt_of_block G.out.1.2.1) (by rw [loK_len]; omega) (by rw [hiK_len]; omega)).mono ?_
          rintro e w4 ⟨vL, vH, rfl, hT, hB⟩
          rw [HQ.out La 50000 (by omega) (by omega)] at hT
          obtain ⟨aL', nL', cL', rfl⟩ := own_slice3 hT.L
          obtain ⟨aH', nH', cH', rfl⟩ := own_slice3 hT.H
          have hK2 := RfK.next (f := stF lo hi P) (k := k) (by omega) hO1 G.out.1.1 G.out.1.2.1 G.out.2.2 hT hB
          have hBx := (hB.block w.heap.size (by omega)).trans G.out.1.2.2
          obtain ⟨d0, d1, g0, g1⟩ := two_facts ((hB.block O (by omega)).trans G.out.1.2.1)
          have KC := Lib.hid (And.intro hK2 hBx)
          clear c0 c1 f0 f1 hT hB hK2 G hBx
          go_wp2_with fail
          go_roundw
          case rel => exact ⟨k + 1, by omega, by go_num, KC.out.1, (((Only.refl O w4).setCell 0 _).setCell 1 _).keeps KC.out.2 (by omega)⟩
          case measure => simp [intOf]; omega
         ·go_wp2_with fail
          refine (put_call (O + 1) _ _ (loK (stF lo hi P) k) (hiK (stF lo hi P) k) La Ha _ G.out.2.1 (lt_of_block G.out.1.2.1) (by rw [loK_len]; omega) (by rw [hiK_len]; omega)).mono ?_
          rintro e w4 ⟨vL, vH, rfl, hT, hB⟩
          rw [HQ.out La Ha (by omega) (by omega)] at hT
          obtain ⟨aL', nL', cL', rfl⟩ := own_slice3 hT.L
          obtain ⟨aH', nH', cH', rfl⟩ := own_slice3 hT.H
          have hK2 := RfK.next (f := stF lo hi P) (k := k) (by omega) hO1 G.out.1.1 G.out.1.2.1 G.out.2.2 hT hB
          have hBx := (hB.block w.heap.size (by omega)).trans G.out.1.2.2
          obtain ⟨d0, d1, g0, g1⟩ := two_facts ((hB.block O (by omega)).trans G.out.1.2.1)
          have KC := Lib.hid (And.intro hK2 hBx)
          clear c0 c1 f0 f1 hT hB hK2 G hBx
          go_wp2_with fail
          go_roundw
          case rel => exact ⟨k + 1, by omega, by go_num, KC.out.1, (((Only.refl O w4).setCell 0 _).setCell 1 _).keeps KC.out.2 (by omega)⟩
          case measure => simp [intOf]; omega
  ·obtain rfl : k = 201 := by omega
   obtain ⟨⟨aP, nP, cP, aQ, nQ, cQ, hR, hOb, hT, hB, _, _⟩, hBx⟩ := hK
   obtain ⟨c0, c1, f0, f1⟩ := two_facts hOb
   obtain ⟨d0, d1, g0, g1⟩ := two_facts hR
   have G := Lib.hid (And.intro hR (And.intro hOb (And.intro hT hB)))
   clear hR hOb hT hB hk hlt hBx
   go_wp2_with fail
   obtain ⟨hT9, hB9, r0, r1⟩ := RfK.done (by omega) (show w.heap.size + 1 < O + 1 by omega) G.out.1 G.out.2.2.2 G.out.2.2.1
   have hE0 : stE lo hi (P : Int) = 0 := stE_ok HE.out (by omega)
   refine bodyPost_ret (v := .tuple #[.agg #[.slice aP nP cP, .slice aQ nQ cQ], .int .i64 0]) ?_ rfl ⟨_, _, by rw [hE0], fun _ => hT9, fun e => absurd hE0 e, hB9⟩
   simp [results, Try.f33, go_sem, r0, r1]
set_option maxRecDepth 100000 in
theorem rStep_call (aL aH : Option Addr) (nL nH cL cH : Nat) (lo hi : List Int) (p : Int) (w : World) (hL : Ints w aL nL lo) (hH : Ints w aH nH hi) :
    Calls Try.prog 33 #[bdV aL nL cL aH nH cH, .int .i64 p] w (BOPost (stE lo hi p) (loK (stF lo hi p.toNat) 201) (hiK (stF lo hi p.toNat) 201) w) := by
 by_cases hE : chB lo hi = 0
 ·by_cases hp : p < 0 ∨ 32 < p
  ·exact rStep_no aL aH nL nH cL cH lo hi p _ w hL hH hE hp
  ·obtain ⟨e1, e2, -⟩ := chB_ok hE
   obtain rfl : nL = 201 := by rw [← hL.len]; exact e1
   obtain rfl : nH = 201 := by rw [← hH.len]; exact e2
   obtain ⟨P, rfl⟩ : ∃ P : Nat, p = (P : Int) := ⟨p.toNat, by omega⟩
   exact rStep_ok aL aH cL cH lo hi P w hL hH hE (by omega)
 ·exact rStep_ch aL aH nL nH cL cH lo hi p _ w hL hH hE
end Go.Proofs.Ytikjjpjekchcjaa.Alt
end
section
namespace Go.Proofs.Ytikjjpjekchcjaa.Alt
open Go.RowKit AltMath MyHeap MyCopy MyOwn
theorem madeI (n : Nat) : (madeCells #[.int .i64 0] n).toList = flatI (List.replicate n 0) := by
 rw [toList_madeCells_one]; simp [flatI]
set_option maxRecDepth 100000 in
theorem hmkI (n : Nat) (hn : n ≤ 1000000) (W : World) : (Instr.makeSlice 35 (.int .i64 (n : Int)) (.int .i64 (n : Int))).run Try.prog W = .ok (.slice (some ⟨W.heap.size, 0, none⟩) n n) (W.alloc (.cells (madeCells #[.int .i64 0] n) 3)) := by
 obtain ⟨i0, hi, hiz, his, hib⟩ := info_parts' infoI
 have h := run_make W 35 3 i0 _ Try.underlying35 hi hiz .i64 .i64 (n : Int) (n : Int) (by omega) (by omega) (by rw [hib]; omega) (by omega)
 rw [Int.toNat_natCast, his, Nat.mul_one] at h
 exact h
def PairPost (a b : Int) (w : World) (e : Ending) (w' : World) : Prop := e = .returned (.tuple #[.int .i64 a, .int .i64 b]) ∧ Below w.heap.size w w'
theorem pairPost_of {a b a' b' : Int} {w w' : World} (h1 : a = a') (h2 : b = b') (hB : Below w.heap.size w w') : PairPost a' b' w (.returned (.tuple #[.int .i64 a, .int .i64 b])) w' := by subst h1; subst h2; exact ⟨rfl, hB⟩
theorem below_drew (w : World) : Below w.heap.size w w.drew := ⟨rfl, rfl, rfl, Nat.le_refl _, fun _ _ => rfl⟩
set_option maxRecDepth 100000 in
theorem new1_call (alt size : Int) (p q : Nat) (i : Int) (W : World) (h1 : W.cell? ⟨p, 0, none⟩ = some (.int .i64 alt)) (h2 : W.cell? ⟨q, 0, none⟩ = some (.int .i64 size)) (a1 : -1000 ≤ alt) (a2 : alt ≤ 50000) (s1 : 25 ≤ size) (s2 : size ≤ 100) :
    Calls Try.prog 44 #[.int .i64 i, .pointer (some ⟨p, 0, none⟩), .pointer (some ⟨q, 0, none⟩)] W (PairPost alt (min (alt + size - 1) 50000) W) := by
 go_enter Try.func44, Try.ntmps44
 go_wp2_with fail
 go_region
 all_goals
  go_wp2_with fail
  all_goals
   go_ret2
   exact pairPost_of rfl (by omega) (below_drew _)
set_option maxRecDepth 100000 in
theorem own_row {w : World} {b base n : Nat} {cs : Array Value} {ys : List Int} (h : w.heap[b]? = some (.cells cs 3 (0, 0))) (hb : base ≤ b) (hcs : cs.toList = flatI ys) (hn : ys.length = n) (hm : n ≤ 1000) : w.ownsRow base 3 1 (.slice (some ⟨b, 0, none⟩) n n) n (flatI ys) := by
 have hl : (flatI ys).length = n := by rw [flatI_len, hn]
 refine ⟨by rw [hl, Nat.mul_one], Or.inr ⟨b, n, cs, rfl, hb, h, Nat.le_refl _, by unfold maxLen; omega, ?_, ?_⟩⟩
 ·rw [Nat.mul_one, ← Array.length_toList, hcs, hl]
 ·rw [hcs, Nat.mul_one]
  exact List.take_of_length_le (by rw [hl]; exact Nat.le_refl _)
def mdL (f : Nat → Int × Int) (k : Nat) : List Int := loK f k ++ List.replicate (201 - k) 0
def mdH (f : Nat → Int × Int) (k : Nat) : List Int := hiK f k ++ List.replicate (201 - k) 0
theorem set_next {xs : List Int} {k : Nat} {x : Int} (hx : xs.length = k) (hk : k < 201) : (xs ++ List.replicate (201 - k) 0).set k x = (xs ++ [x]) ++ List.replicate (201 - (k + 1)) 0 := by
 obtain ⟨m, hm⟩ : ∃ m, 201 - k = m + 1 := ⟨200 - k, by omega⟩
 rw [hm, show 201 - (k + 1) = m by omega, List.replicate_succ, List.set_append, if_neg (by omega), hx, Nat.sub_self, List.set_cons_zero, List.append_assoc]
 rfl
theorem flatI_set (xs : List Int) (k : Nat) (x : Int) : (flatI xs).set k (.int .i64 x) = flatI (xs.set k x) := by unfold flatI; rw [List.map_set]
theorem mdL_next (f : Nat → Int × Int) {k : Nat} (hk : k < 201) : (flatI (mdL f k)).set k (.int .i64 (nm (f k)).1) = flatI (mdL f (k + 1)) := by
 rw [flatI_set]; unfold mdL; rw [set_next (loK_len f k) hk, loK_succ]
theorem mdH_next (f : Nat → Int × Int) {k : Nat} (hk : k < 201) : (flatI (mdH f k)).set k (.int .i64 (nm (f k)).2) = flatI (mdH f (k + 1)) := by
 rw [flatI_set]; unfold mdH; rw [set_next (hiK_len f k) hk, hiK_succ]
structure MdK (w0 : World) (bL bH bB : Nat) (f : Nat → Int × Int) (k : Nat) (W : World) : Prop where
 B : Below w0.heap.size w0 W
 R : W.heap[w0.heap.size]? = some (.cells #[.slice none 0 0, .slice none 0 0] 44 (0, 0))
 X : W.heap[bB]? = some (.cells #[.slice (some ⟨bL, 0, none⟩) 201 201, .slice (some ⟨bH, 0, none⟩) 201 201] 44 (0, 0))
 L : ∃ cs : Array Value, W.heap[bL]? = some (.cells cs 3 (0, 0)) ∧ cs.toList = flatI (mdL f k)
 H : ∃ cs : Array Value, W.heap[bH]? = some (.cells cs 3 (0, 0)) ∧ cs.toList = flatI (mdH f k)
 n1 : w0.heap.size < bL
 n2 : w0.heap.size < bH
 n3 : w0.heap.size < bB
 d1 : bL ≠ bH
 d2 : bB ≠ bL
 d3 : bB ≠ bH
theorem MdK.keep {w0 W W' : World} {bL bH bB : Nat} {f : Nat → Int × Int} {k : Nat} (h : MdK w0 bL bH bB f k W) (hb : Below W.heap.size W W') : MdK w0 bL bH bB f k W' :=
 ⟨h.B.trans (hb.mono h.B.size), keepO hb h.R, keepO hb h.X, by obtain ⟨cs, h1, h2⟩ := h.L; exact ⟨cs, keepO hb h1, h2⟩, by obtain ⟨cs, h1, h2⟩ := h.H; exact ⟨cs, keepO hb h1, h2⟩, h.n1, h.n2, h.n3, h.d1, h.d2, h.d3⟩
theorem row_at {xs : List Int} {k : Nat} {cs : Array Value} (hx : xs.length = k) (hk : k < 201) (h : cs.toList = flatI (xs ++ List.replicate (201 - k) 0)) : cs[k]? = some (.int .i64 0) := by
 rw [← Array.getElem?_toList, h]
 unfold flatI
 rw [List.getElem?_map, List.getElem?_append_right (by omega), hx, Nat.sub_self, List.getElem?_replicate, if_pos (by omega)]
 rfl
theorem MdK.facts {w0 W : World} {bL bH bB : Nat} {f : Nat → Int × Int} {k : Nat} (h : MdK w0 bL bH bB f k W) (hk : k < 201) :
    W.cell? ⟨bL, k, none⟩ = some (.int .i64 0) ∧ W.cell? ⟨bH, k, none⟩ = some (.int .i64 0) ∧ W.frozen? ⟨bL, k, none⟩ = false ∧ W.frozen? ⟨bH, k, none⟩ = false := by
 obtain ⟨cs, h1, h2⟩ := h.L
 obtain ⟨ds, h3, h4⟩ := h.H
 exact ⟨cell_of_block h1 (row_at (loK_len f k) hk h2), cell_of_block h3 (row_at (hiK_len f k) hk h4), free_of_block h1, free_of_block h3⟩
theorem set_list {cs : Array Value} {k : Nat} {v : Value} : (cs.setIfInBounds k v).toList = cs.toList.set k v := by simp
theorem MdK.storeL {w0 W : World} {bL bH bB : Nat} {f : Nat → Int × Int} {k : Nat} (h : MdK w0 bL bH bB f k W) (hk : k < 201) {x y : Int} (hx : (nm (f k)).1 = x) (hy : (nm (f k)).2 = y) : MdK w0 bL bH bB f (k + 1) ((W.setCell ⟨bL, k, none⟩ (.int .i64 x)).setCell ⟨bH, k, none⟩ (.int .i64 y)) := by
 subst hx; subst hy
 obtain ⟨cs, h1, h2⟩ := h.L
 obtain ⟨ds, h3, h4⟩ := h.H
 have o1 : Only bL W (W.setCell ⟨bL, k, none⟩ (.int .i64 (nm (f k)).1)) := (Only.refl _ _).setCell k _
 have o2 : Only bH (W.setCell ⟨bL, k, none⟩ (.int .i64 (nm (f k)).1)) ((W.setCell ⟨bL, k, none⟩ (.int .i64 (nm (f k)).1)).setCell ⟨bH, k, none⟩ (.int .i64 (nm (f k)).2)) := (Only.refl _ _).setCell k _
 have b1 := h.B.trans (o1.below (Nat.le_of_lt h.n1) h.B.size)
 exact ⟨b1.trans (o2.below (Nat.le_of_lt h.n2) b1.size), o2.keeps (o1.keeps h.R (Nat.ne_of_lt h.n1)) (Nat.ne_of_lt h.n2), o2.keeps (o1.keeps h.X h.d2) h.d3,
  ⟨_, o2.keeps (block_setCell h1) h.d1, by rw [set_list, h2, mdL_next f hk]⟩, ⟨_, block_setCell (o1.keeps h3 h.d1.symm), by rw [set_list, h4, mdH_next f hk]⟩, h.n1, h.n2, h.n3, h.d1, h.d2, h.d3⟩
theorem MdK.storeH {w0 W : World} {bL bH bB : Nat} {f : Nat → Int × Int} {k : Nat} (h : MdK w0 bL bH bB f k W) (hk : k < 201) {x y : Int} (hx : (nm (f k)).1 = x) (hy : (nm (f k)).2 = y) : MdK w0 bL bH bB f (k + 1) ((W.setCell ⟨bH, k, none⟩ (.int .i64 y)).setCell ⟨bL, k, none⟩ (.int .i64 x)) := by
 subst hx; subst hy
 obtain ⟨cs, h1, h2⟩ := h.L
 obtain ⟨ds, h3, h4⟩ := h.H
 have o1 : Only bH W (W.setCell ⟨bH, k, none⟩ (.int .i64 (nm (f k)).2)) := (Only.refl _ _).setCell k _
 have o2 : Only bL (W.setCell ⟨bH, k, none⟩ (.int .i64 (nm (f k)).2)) ((W.setCell ⟨bH, k, none⟩ (.int .i64 (nm (f k)).2)).setCell ⟨bL, k, none⟩ (.int .i64 (nm (f k)).1)) := (Only.refl _ _).setCell k _
 have b1 := h.B.trans (o1.below (Nat.le_of_lt h.n2) h.B.size)
 exact ⟨b1.trans (o2.below (Nat.le_of_lt h.n1) b1.size), o2.keeps (o1.keeps h.R (Nat.ne_of_lt h.n2)) (Nat.ne_of_lt h.n1), o2.keeps (o1.keeps h.X h.d3) h.d2,
  ⟨_, block_setCell (o1.keeps h1 h.d1), by rw [set_list, h2, mdL_next f hk]⟩, ⟨_, o2.keeps (block_setCell h3) h.d1.symm, by rw [set_list, h4, mdH_next f hk]⟩, h.n1, h.n2, h.n3, h.d1, h.d2, h.d3⟩
theorem MdK.two {w0 W : World} {bL bH bB : Nat} {f : Nat → Int × Int} (h : MdK w0 bL bH bB f 201 W) : TwoOwn (w0.heap.size + 1) (.slice (some ⟨bL, 0, none⟩) 201 201) (.slice (some ⟨bH, 0, none⟩) 201 201) (loK f 201) (hiK f 201) W := by
 obtain ⟨cs, h1, h2⟩ := h.L
 obtain ⟨ds, h3, h4⟩ := h.H
 have e1 : mdL f 201 = loK f 201 := by unfold mdL; simp
 have e2 : mdH f 201 = hiK f 201 := by unfold mdH; simp
 rw [e1] at h2
 rw [e2] at h4
 refine ⟨by rw [loK_len]; exact own_row h1 h.n1 h2 (loK_len f 201) (by decide), by rw [hiK_len]; exact own_row h3 h.n2 h4 (hiK_len f 201) (by decide), fun g e1 e2 => ?_⟩
 cases e1
 cases e2
 exact h.d1 rfl
theorem md0 (f : Nat → Int × Int) : (madeCells #[.int .i64 0] 201).toList = flatI (mdL f 0) ∧ (madeCells #[.int .i64 0] 201).toList = flatI (mdH f 0) := ⟨madeI 201, madeI 201⟩
set_option maxRecDepth 100000 in
set_option maxHeartbeats 8000000 in
theorem made_call (f : Nat → Int × Int) (g : Nat) (caps : Array Value) (w : World) (hen : ∀ (args : Array Value) (W : World), (callFunc g args).run Try.prog W = .ok (.enter g args) W) (hat : ∀ W, Below w.heap.size w W → ∀ i : Nat, i < 201 → Calls Try.prog g (#[.int .i64 (i : Int)] ++ caps) W (PairPost (f i).1 (f i).2 W)) :
    Calls Try.prog 43 #[.func (.func g) #[] caps] w (PtPost w.heap.size (loK f 201) (hiK f 201) w) := by
 have mk : ∀ W : World, (Instr.makeSlice 35 (.int .i64 201) (.int .i64 201)).run Try.prog W = .ok (.slice (some ⟨W.heap.size, 0, none⟩) 201 201) (W.alloc (.cells (madeCells #[.int .i64 0] 201) 3)) := hmkI 201 (by decide)
 have HAT := Lib.hid hat
 have HMD := Lib.hid (md0 f)
 clear hat
 go_enter Try.func43, Try.ntmps43
 go_wp2_with fail
 go_region
 all_goals go_wp2_with fail
 have K := Lib.hid (show MdK w (w.heap.size + 1) (w.heap.size + 1 + 1) (w.heap.size + 1 + 1 + 1) f 0 (((((w.alloc (.cells #[.slice none 0 0, .slice none 0 0] 44)).alloc (.cells (madeCells #[.int .i64 0] 201) 3)).alloc (.cells (madeCells #[.int .i64 0] 201) 3)).alloc (.cells #[.slice (some ⟨w.heap.size + 1, 0, none⟩) 201 201, .slice (some ⟨w.heap.size + 1 + 1, 0, none⟩) 201 201] 44)).drew) from ⟨((((below_alloc w _).alloc (by simp) _).alloc (by simp; omega) _).alloc (by simp; omega) _).drew, block_alloc (block_alloc (block_alloc (block_new _ _ rfl))), (block_new _ _ (by simp)), ⟨_, (block_alloc (block_alloc (block_new _ _ (by simp)))), HMD.out.1⟩, ⟨_, (block_alloc (block_new _ _ (by simp))), HMD.out.2⟩, by omega, by omega, by omega, by omega, by omega, by omega⟩)
 generalize ((((w.alloc (.cells #[.slice none 0 0, .slice none 0 0] 44)).alloc (.cells (madeCells #[.int .i64 0] 201) 3)).alloc (.cells (madeCells #[.int .i64 0] 201) 3)).alloc (.cells #[.slice (some ⟨w.heap.size + 1, 0, none⟩) 201 201, .slice (some ⟨w.heap.size + 1 + 1, 0, none⟩) 201 201] 44)).drew = W0 at K ⊢
 generalize w.heap.size + 1 + 1 + 1 = bB at K ⊢
 generalize w.heap.size + 1 + 1 = bH at K ⊢
 generalize w.heap.size + 1 = bL at K ⊢
 rotate_left
 have K := Lib.hid (show MdK w (w.heap.size + 1) (w.heap.size + 1 + 1 + 1) (w.heap.size + 1 + 1) f 0 (((((w.alloc (.cells #[.slice none 0 0, .slice none 0 0] 44)).alloc (.cells (madeCells #[.int .i64 0] 201) 3)).alloc (.cells #[.slice (some ⟨w.heap.size + 1, 0, none⟩) 201 201, .slice (some ⟨w.heap.size + 1 + 1 + 1, 0, none⟩) 201 201] 44)).alloc (.cells (madeCells #[.int .i64 0] 201) 3)).drew) from ⟨((((below_alloc w _).alloc (by simp) _).alloc (by simp; omega) _).alloc (by simp; omega) _).drew, block_alloc (block_alloc (block_alloc (block_new _ _ rfl))), (block_alloc (block_new _ _ (by simp))), ⟨_, (block_alloc (block_alloc (block_new _ _ (by simp)))), HMD.out.1⟩, ⟨_, (block_new _ _ (by simp)), HMD.out.2⟩, by omega, by omega, by omega, by omega, by omega, by omega⟩)
 generalize ((((w.alloc (.cells #[.slice none 0 0, .slice none 0 0] 44)).alloc (.cells (madeCells #[.int .i64 0] 201) 3)).alloc (.cells #[.slice (some ⟨w.heap.size + 1, 0, none⟩) 201 201, .slice (some ⟨w.heap.size + 1 + 1 + 1, 0, none⟩) 201 201] 44)).alloc (.cells (madeCells #[.int .i64 0] 201) 3)).drew = W0 at K ⊢
 generalize w.heap.size + 1 + 1 + 1 = bH at K ⊢
 generalize w.heap.size + 1 + 1 = bB at K ⊢
 generalize w.heap.size + 1 = bL at K ⊢
 rotate_left
 have K := Lib.hid (show MdK w (w.heap.size + 1 + 1) (w.heap.size + 1) (w.heap.size + 1 + 1 + 1) f 0 (((((w.alloc (.cells #[.slice none 0 0, .slice none 0 0] 44)).alloc (.cells (madeCells #[.int .i64 0] 201) 3)).alloc (.cells (madeCells #[.int .i64 0] 201) 3)).alloc (.cells #[.slice (some ⟨w.heap.size + 1 + 1, 0, none⟩) 201 201, .slice (some ⟨w.heap.size + 1, 0, none⟩) 201 201] 44)).drew) from ⟨((((below_alloc w _).alloc (by simp) _).alloc (by simp; omega) _).alloc (by simp; omega) _).drew, block_alloc (block_alloc (block_alloc (block_new _ _ rfl))), (block_new _ _ (by simp)), ⟨_, (block_alloc (block_new _ _ (by simp))), HMD.out.1⟩, ⟨_, (block_alloc (block_alloc (block_new _ _ (by simp)))), HMD.out.2⟩, by omega, by omega, by omega, by omega, by omega, by omega⟩)
 generalize ((((w.alloc (.cells #[.slice none 0 0, .slice none 0 0] 44)).alloc (.cells (madeCells #[.int .i64 0] 201) 3)).alloc (.cells (madeCells #[.int .i64 0] 201) 3)).alloc (.cells #[.slice (some ⟨w.heap.size + 1 + 1, 0, none⟩) 201 201, .slice (some ⟨w.heap.size + 1, 0, none⟩) 201 201] 44)).drew = W0 at K ⊢
 generalize w.heap.size + 1 + 1 + 1 = bB at K ⊢
 generalize w.heap.size + 1 + 1 = bL at K ⊢
 generalize w.heap.size + 1 = bH at K ⊢
 rotate_left
 have K := Lib.hid (show MdK w (w.heap.size + 1 + 1 + 1) (w.heap.size + 1) (w.heap.size + 1 + 1) f 0 (((((w.alloc (.cells #[.slice none 0 0, .slice none 0 0] 44)).alloc (.cells (madeCells #[.int .i64 0] 201) 3)).alloc (.cells #[.slice (some ⟨w.heap.size + 1 + 1 + 1, 0, none⟩) 201 201, .slice (some ⟨w.heap.size + 1, 0, none⟩) 201 201] 44)).alloc (.cells (madeCells #[.int .i64 0] 201) 3)).drew) from ⟨((((below_alloc w _).alloc (by simp) _).alloc (by simp; omega) _).alloc (by simp; omega) _).drew, block_alloc (block_alloc (block_alloc (block_new _ _ rfl))), (block_alloc (block_new _ _ (by simp))), ⟨_, (block_new _ _ (by simp)), HMD.out.1⟩, ⟨_, (block_alloc (block_alloc (block_new _ _ (by simp)))), HMD.out.2⟩, by omega, by omega, by omega, by omega, by omega, by omega⟩)
 generalize ((((w.alloc (.cells #[.slice none 0 0, .slice none 0 0] 44)).alloc (.cells (madeCells #[.int .i64 0] 201) 3)).alloc (.cells #[.slice (some ⟨w.heap.size + 1 + 1 + 1, 0, none⟩) 201 201, .slice (some ⟨w.heap.size + 1, 0, none⟩) 201 201] 44)).alloc (.cells (madeCells #[.int .i64 0] 201) 3)).drew = W0 at K ⊢
 generalize w.heap.size + 1 + 1 + 1 = bL at K ⊢
 generalize w.heap.size + 1 + 1 = bB at K ⊢
 generalize w.heap.size + 1 = bH at K ⊢
 rotate_left
 have K := Lib.hid (show MdK w (w.heap.size + 1 + 1) (w.heap.size + 1 + 1 + 1) (w.heap.size + 1) f 0 (((((w.alloc (.cells #[.slice none 0 0, .slice none 0 0] 44)).alloc (.cells #[.slice (some ⟨w.heap.size + 1 + 1, 0, none⟩) 201 201, .slice (some ⟨w.heap.size + 1 + 1 + 1, 0, none⟩) 201 201] 44)).alloc (.cells (madeCells #[.int .i64 0] 201) 3)).alloc (.cells (madeCells #[.int .i64 0] 201) 3)).drew) from ⟨((((below_alloc w _).alloc (by simp) _).alloc (by simp; omega) _).alloc (by simp; omega) _).drew, block_alloc (block_alloc (block_alloc (block_new _ _ rfl))), (block_alloc (block_alloc (block_new _ _ (by simp)))), ⟨_, (block_alloc (block_new _ _ (by simp))), HMD.out.1⟩, ⟨_, (block_new _ _ (by simp)), HMD.out.2⟩, by omega, by omega, by omega, by omega, by omega, by omega⟩)
 generalize ((((w.alloc (.cells #[.slice none 0 0, .slice none 0 0] 44)).alloc (.cells #[.slice (some ⟨w.heap.size + 1 + 1, 0, none⟩) 201 201, .slice (some ⟨w.heap.size + 1 + 1 + 1, 0, none⟩) 201 201] 44)).alloc (.cells (madeCells #[.int .i64 0] 201) 3)).alloc (.cells (madeCells #[.int .i64 0] 201) 3)).drew = W0 at K ⊢
 generalize w.heap.size + 1 + 1 + 1 = bH at K ⊢
 generalize w.heap.size + 1 + 1 = bL at K ⊢
 generalize w.heap.size + 1 = bB at K ⊢
 rotate_left
 have K := Lib.hid (show MdK w (w.heap.size + 1 + 1 + 1) (w.heap.size + 1 + 1) (w.heap.size + 1) f 0 (((((w.alloc (.cells #[.slice none 0 0, .slice none 0 0] 44)).alloc (.cells #[.slice (some ⟨w.heap.size + 1 + 1 + 1, 0, none⟩) 201 201, .slice (some ⟨w.heap.size + 1 + 1, 0, none⟩) 201 201] 44)).alloc (.cells (madeCells #[.int .i64 0] 201) 3)).alloc (.cells (madeCells #[.int .i64 0] 201) 3)).drew) from ⟨((((below_alloc w _).alloc (by simp) _).alloc (by simp; omega) _).alloc (by simp; omega) _).drew, block_alloc (block_alloc (block_alloc (block_new _ _ rfl))), (block_alloc (block_alloc (block_new _ _ (by simp)))), ⟨_, (block_new _ _ (by simp)), HMD.out.1⟩, ⟨_, (block_alloc (block_new _ _ (by simp))), HMD.out.2⟩, by omega, by omega, by omega, by omega, by omega, by omega⟩)
 generalize ((((w.alloc (.cells #[.slice none 0 0, .slice none 0 0] 44)).alloc (.cells #[.slice (some ⟨w.heap.size + 1 + 1 + 1, 0, none⟩) 201 201, .slice (some ⟨w.heap.size + 1 + 1, 0, none⟩) 201 201] 44)).alloc (.cells (madeCells #[.int .i64 0] 201) 3)).alloc (.cells (madeCells #[.int .i64 0] 201) 3)).drew = W0 at K ⊢
 generalize w.heap.size + 1 + 1 + 1 = bL at K ⊢
 generalize w.heap.size + 1 + 1 = bH at K ⊢
 generalize w.heap.size + 1 = bB at K ⊢
 rotate_left
 all_goals
  go_loopw [10] (fun kv wr => ∃ k : Nat, k ≤ 201 ∧ kv = .int .i64 k ∧ MdK w bL bH bB f k wr) (fun kv _ => 201 - (intOf kv).toNat)
  case atStart => exact ⟨0, Nat.zero_le _, rfl, K.out⟩
  case round =>
   clear K
   obtain ⟨k, hk, rfl, hK⟩ := hrel
   have K := Lib.hid hK
   clear hK
   by_cases hlt : k < 201
   ·have hk0 : (0 : Int) ≤ (k : Int) := by omega
    have hk1 : (k : Int) < 201 := by omega
    go_wp2_with fail
    refine (HAT.out _ K.out.B k hlt).mono ?_; rintro e w3 ⟨rfl, hb⟩
    replace K := Lib.hid (K.out.keep hb)
    obtain ⟨c0, c1, -, -⟩ := two_facts K.out.X
    obtain ⟨x0, y0, f0, f1⟩ := K.out.facts hlt
    have e1 := K.out.d1
    have e2 := K.out.d2
    have e3 := K.out.d3
    clear hb
    by_cases hN : (f k).2 < (f k).1
    ·have HN := Lib.hid hN
     go_wp2_with fail
     go_region
     all_goals
      go_wp2_with fail
      go_roundw
      case rel => exact ⟨k + 1, by omega, by go_num, by first | exact (K.out.keep (below_drew _)).storeL hlt (by rw [nm_no HN.out]) (by rw [nm_no HN.out]) | exact (K.out.keep (below_drew _)).storeH hlt (by rw [nm_no HN.out]) (by rw [nm_no HN.out])⟩
      case measure => simp [intOf]; omega
    ·have HN := Lib.hid (show (f k).1 ≤ (f k).2 by omega)
     go_wp2_with fail
     go_region
     all_goals
      go_wp2_with fail
      go_roundw
      case rel => exact ⟨k + 1, by omega, by go_num, by first | exact (K.out.keep (below_drew _)).storeL hlt (by rw [nm_yes HN.out]) (by rw [nm_yes HN.out]) | exact (K.out.keep (below_drew _)).storeH hlt (by rw [nm_yes HN.out]) (by rw [nm_yes HN.out])⟩
      case measure => simp [intOf]; omega
   ·obtain rfl : k = 201 := by omega
    obtain ⟨c0, c1, -, -⟩ := two_facts K.out.X
    obtain ⟨d0, d1, g0, g1⟩ := two_facts K.out.R
    clear hk hlt
    go_wp2_with fail
    have hx := block_setCell (i := 1) (v := .slice (some ⟨bH, 0, none⟩) 201 201) (block_setCell (i := 0) (v := .slice (some ⟨bL, 0, none⟩) 201 201) K.out.R)
    have hO : Only w.heap.size wr ((wr.setCell ⟨w.heap.size, 0, none⟩ (.slice (some ⟨bL, 0, none⟩) 201 201)).setCell ⟨w.heap.size, 1, none⟩ (.slice (some ⟨bH, 0, none⟩) 201 201)) := ((Only.refl _ _).setCell 0 _).setCell 1 _
    have r0 := cell_of_block (i := 0) (v := .slice (some ⟨bL, 0, none⟩) 201 201) hx rfl
    have r1 := cell_of_block (i := 1) (v := .slice (some ⟨bH, 0, none⟩) 201 201) hx rfl
    have hT := K.out.two
    refine bodyPost_ret (v := .agg #[.slice (some ⟨bL, 0, none⟩) 201 201, .slice (some ⟨bH, 0, none⟩) 201 201]) ?_ rfl ⟨_, _, rfl, TwoOwn.base ⟨own_keep hT.L hO (Or.inr fun e => by have := (hT.L.lt _ e).1; omega), own_keep hT.H hO (Or.inr fun e => by have := (hT.H.lt _ e).1; omega), hT.A⟩ (by omega), K.out.B.trans (hO.below (Nat.le_refl _) K.out.B.size)⟩
    simp [results, Try.f43, go_sem, r0, r1]
end Go.Proofs.Ytikjjpjekchcjaa.Alt
end
section
namespace Go.Proofs.Ytikjjpjekchcjaa.Alt
open Go.RowKit Go.Shelf AltMath MyHeap MyCopy MyOwn
set_option maxRecDepth 100000 in
theorem pt_store {w0 W W' : World} {R : Nat} {aL aH : Option Addr} {nL cL nH cH : Nat} {lo hi : List Int} (hR : w0.heap.size ≤ R) (h1 : W.heap[R]? = some (.cells #[.slice none 0 0, .slice none 0 0] 44 (0, 0))) (hK : Below w0.heap.size w0 W) (hT : TwoOwn W.heap.size (.slice aL nL cL) (.slice aH nH cH) lo hi W') (hB : Below W.heap.size W W') :
    TwoOwn w0.heap.size (.slice aL nL cL) (.slice aH nH cH) lo hi ((W'.setCell ⟨R, 0, none⟩ (.slice aL nL cL)).setCell ⟨R, 1, none⟩ (.slice aH nH cH)) ∧ Below w0.heap.size w0 ((W'.setCell ⟨R, 0, none⟩ (.slice aL nL cL)).setCell ⟨R, 1, none⟩ (.slice aH nH cH)) ∧
     ((W'.setCell ⟨R, 0, none⟩ (.slice aL nL cL)).setCell ⟨R, 1, none⟩ (.slice aH nH cH)).cell? ⟨R, 0, none⟩ = some (.slice aL nL cL) ∧ ((W'.setCell ⟨R, 0, none⟩ (.slice aL nL cL)).setCell ⟨R, 1, none⟩ (.slice aH nH cH)).cell? ⟨R, 1, none⟩ = some (.slice aH nH cH) := by
 have hlt := lt_of_block h1
 have hx := block_setCell (i := 1) (v := .slice aH nH cH) (block_setCell (i := 0) (v := .slice aL nL cL) (keepO hB h1))
 have hO : Only R W' ((W'.setCell ⟨R, 0, none⟩ (.slice aL nL cL)).setCell ⟨R, 1, none⟩ (.slice aH nH cH)) := ((Only.refl _ _).setCell 0 _).setCell 1 _
 have hK' := hK.trans (hB.mono hK.size)
 exact ⟨TwoOwn.base ⟨own_keep hT.L hO (Or.inr fun e => by have := (hT.L.lt _ e).1; omega), own_keep hT.H hO (Or.inr fun e => by have := (hT.H.lt _ e).1; omega), hT.A⟩ hK.size, hK'.trans (hO.below hR hK'.size), cell_of_block (i := 0) (v := .slice aL nL cL) hx rfl, cell_of_block (i := 1) (v := .slice aH nH cH) hx rfl⟩
set_option maxRecDepth 100000 in
set_option maxHeartbeats 4000000 in
theorem pNew_call (alt size : Int) (w : World) : Calls Try.prog 17 #[.int .i64 alt, .int .i64 size] w (BOPost (meE alt size) (loK (neF alt size) 201) (hiK (neF alt size) 201) w) := by
 have K := Lib.hid (show Below w.heap.size w (((w.alloc (.cells #[.int .i64 alt] 3)).alloc (.cells #[.int .i64 size] 3)).alloc (.cells #[.slice none 0 0, .slice none 0 0] 44)) ∧ (((w.alloc (.cells #[.int .i64 alt] 3)).alloc (.cells #[.int .i64 size] 3)).alloc (.cells #[.slice none 0 0, .slice none 0 0] 44)).heap[w.heap.size + 1 + 1]? = some (.cells #[.slice none 0 0, .slice none 0 0] 44 (0, 0)) ∧
     (((w.alloc (.cells #[.int .i64 alt] 3)).alloc (.cells #[.int .i64 size] 3)).alloc (.cells #[.slice none 0 0, .slice none 0 0] 44)).heap[w.heap.size]? = some (.cells #[.int .i64 alt] 3 (0, 0)) ∧ (((w.alloc (.cells #[.int .i64 alt] 3)).alloc (.cells #[.int .i64 size] 3)).alloc (.cells #[.slice none 0 0, .slice none 0 0] 44)).heap[w.heap.size + 1]? = some (.cells #[.int .i64 size] 3 (0, 0))
  from ⟨((below_alloc w _).alloc (by simp) _).alloc (by simp; omega) _, block_new _ _ (by simp), block_alloc (block_alloc (block_new _ _ rfl)), block_alloc (block_new _ _ (by simp))⟩)
 rcases meE_or alt size with hE | hE
 ·obtain ⟨h1, h2, h3⟩ := meE_ok hE
  have hs : 25 ≤ size ∧ size ≤ 100 := by omega
  have HB := Lib.hid (And.intro (And.intro h1 h2) hs)
  have HE := Lib.hid hE
  clear hE h3 h1 h2 hs
  go_enter Try.func17, Try.ntmps17
  go_wp2_with fail
  refine (measured_call alt size _).mono ?_; rintro e w1 ⟨rfl, rfl⟩
  rw [HE.out]
  go_wp2_with fail
  have hsz : w.heap.size + 3 = (((w.alloc (.cells #[.int .i64 alt] 3)).alloc (.cells #[.int .i64 size] 3)).alloc (.cells #[.slice none 0 0, .slice none 0 0] 44)).heap.size := by simp
  generalize (((w.alloc (.cells #[.int .i64 alt] 3)).alloc (.cells #[.int .i64 size] 3)).alloc (.cells #[.slice none 0 0, .slice none 0 0] 44)) = W at *
  refine (made_call (neF alt size) 44 #[.pointer (some ⟨w.heap.size, 0, none⟩), .pointer (some ⟨w.heap.size + 1, 0, none⟩)] W (enters_of Try.func44 (by kernel_rfl) rfl) (fun V hV i _ => new1_call alt size w.heap.size (w.heap.size + 1) i V (keep1 hV (cell_of_block K.out.2.2.1 rfl)) (keep1 hV (cell_of_block K.out.2.2.2 rfl)) HB.out.1.1 HB.out.1.2 HB.out.2.1 HB.out.2.2)).mono ?_
  rintro e w2 ⟨vL, vH, rfl, hT, hB⟩
  obtain ⟨aL, nL, cL, rfl⟩ := own_slice3 hT.L
  obtain ⟨aH, nH, cH, rfl⟩ := own_slice3 hT.H
  obtain ⟨d0, d1, g0, g1⟩ := two_facts (keepO hB K.out.2.1)
  have H := Lib.hid (And.intro hT hB)
  clear hT hB
  go_wp2_with fail
  obtain ⟨hT9, hB9, r0, r1⟩ := pt_store (R := w.heap.size + 1 + 1) (by omega) K.out.2.1 K.out.1 H.out.1 H.out.2
  refine bodyPost_ret (v := .tuple #[.agg #[.slice aL nL cL, .slice aH nH cH], .int .i64 0]) ?_ rfl ⟨_, _, by rw [HE.out], fun _ => hT9, fun e => absurd HE.out e, hB9⟩
  simp [results, Try.f17, go_sem, r0, r1]
 ·have HE := Lib.hid hE
  clear hE
  go_enter Try.func17, Try.ntmps17
  go_wp2_with fail
  refine (measured_call alt size _).mono ?_; rintro e w1 ⟨rfl, rfl⟩
  rw [HE.out]
  go_wp2_with fail
  have r0 := cell_of_block (i := 0) (v := .slice none 0 0) K.out.2.1 rfl
  have r1 := cell_of_block (i := 1) (v := .slice none 0 0) K.out.2.1 rfl
  refine bodyPost_ret (v := .tuple #[.agg #[.slice none 0 0, .slice none 0 0], .int .i64 1]) ?_ rfl (bo_err HE.out (by decide) K.out.1)
  simp [results, Try.f17, go_sem, r0, r1]
set_option maxRecDepth 100000 in
set_option maxHeartbeats 4000000 in
theorem mea1_call (b1 o1 b2 o2 cL cH : Nat) (lo hi : List Int) (alt size : Int) (p q r : Nat) (i : Nat) (W : World) (hi1 : i < 201) (hL : Ints W (some ⟨b1, o1, none⟩) 201 lo) (hH : Ints W (some ⟨b2, o2, none⟩) 201 hi)
    (h0 : W.heap[p]? = some (.cells (bdC (some ⟨b1, o1, none⟩) 201 cL (some ⟨b2, o2, none⟩) 201 cH) 44 (0, 0))) (h1 : W.cell? ⟨q, 0, none⟩ = some (.int .i64 alt)) (h2 : W.cell? ⟨r, 0, none⟩ = some (.int .i64 size)) (a1 : -1000 ≤ alt) (a2 : alt ≤ 50000) (s1 : 25 ≤ size) (s2 : size ≤ 100) :
    Calls Try.prog 46 #[.int .i64 (i : Int), .pointer (some ⟨p, 0, none⟩), .pointer (some ⟨q, 0, none⟩), .pointer (some ⟨r, 0, none⟩)] W (PairPost (maF lo hi alt size i).1 (maF lo hi alt size i).2 W) := by
 have hi0 : (0 : Int) ≤ (i : Int) := by omega
 have hi2 : (i : Int) < 201 := by omega
 obtain ⟨k0, k1⟩ := two_cells h0
 have H := Lib.hid (And.intro hL hH)
 obtain ⟨_, _, e1, x0⟩ := ints_at hL hi1
 obtain ⟨_, _, e2, y0⟩ := ints_at hH hi1
 cases e1; cases e2
 have HX := Lib.hid (And.intro (And.intro x0 y0) (And.intro h1 h2))
 have HK := Lib.hid (And.intro k0 k1)
 clear hL hH h0 x0 y0
 by_cases hn : nonAt lo hi i
 ·have HF := Lib.hid (show maF lo hi alt size i = (1, 0) from if_pos hn)
  have hd : nonB lo hi i = true := nonB_t hn
  clear hn
  go_enter Try.func46, Try.ntmps46
  go_wp2_with fail
  refine (none_call (some ⟨b1, o1, none⟩) (some ⟨b2, o2, none⟩) 201 201 cL cH lo hi i _ H.out.1 H.out.2 hi1 hi1).mono ?_; rintro e w2 ⟨rfl, hb⟩
  rw [hd]
  have B := Lib.hid hb
  clear hb hd
  go_wp2_with fail
  go_ret2
  exact pairPost_of (by rw [HF.out]) (by rw [HF.out]) B.out
 ·have HF := Lib.hid (show maF lo hi alt size i = (max (gi lo i) alt, min (gi hi i) (alt + size - 1)) from if_neg hn)
  have hd : nonB lo hi i = false := nonB_f hn
  clear hn
  obtain ⟨X, hX⟩ : ∃ X, gi lo i = X := ⟨_, rfl⟩
  obtain ⟨Y, hY⟩ : ∃ Y, gi hi i = Y := ⟨_, rfl⟩
  rw [hX, hY] at HF HX
  clear hX hY
  go_enter Try.func46, Try.ntmps46
  go_wp2_with fail
  refine (none_call (some ⟨b1, o1, none⟩) (some ⟨b2, o2, none⟩) 201 201 cL cH lo hi i _ H.out.1 H.out.2 hi1 hi1).mono ?_; rintro e w2 ⟨rfl, hb⟩
  rw [hd]
  clear k0 k1 h1 h2
  have k0 := keep1 hb HK.out.1
  have k1 := keep1 hb HK.out.2
  have x0 := keep1 hb HX.out.1.1
  have y0 := keep1 hb HX.out.1.2
  have z0 := keep1 hb HX.out.2.1
  have z1 := keep1 hb HX.out.2.2
  have B := Lib.hid hb
  clear hb hd
  by_cases hm1 : X < alt
  all_goals
   by_cases hm2 : alt + size - 1 < Y
   all_goals
    go_wp2_with fail
    go_region
    all_goals
     go_wp2_with fail
     all_goals
      go_ret2
      exact pairPost_of (by rw [HF.out]; show _ = max X alt; omega) (by rw [HF.out]; show _ = min Y (alt + size - 1); omega) (B.out.trans ⟨rfl, rfl, rfl, Nat.le_refl _, fun _ _ => rfl⟩)
end Go.Proofs.Ytikjjpjekchcjaa.Alt
end
