/-
  TrkXp, TrkXa
-/
import Derived.Test.YtikjjpjekchcjaaPb33
import Derived.Test.YtikjjpjekchcjaaPb34
import Derived.Test.YtikjjpjekchcjaaPb35
import Derived.Test.YtikjjpjekchcjaaPb16
import Derived.Test.YtikjjpjekchcjaaPb5
import Derived.Deep.DeepCutAuto
section
namespace TrkMath
open AltMath GrayMath AsgMath
/-! ### sixteen plots, from no track on -/
def yF (r : Int) (k : Nat) : Pl := ⟨r, 4156, k⟩
def yG (k : Nat) : Pl := yF (100 * ((k : Int) + 1)) k
def PF : List Pl := (List.range 16).map yG
def PH : List Pl := (List.range 16).map (yF 8000)
theorem lvF (r : Int) (k : Nat) : lvOf (yF r k) = (0, 25) := by
 have h : lvOf y1 = lvOf (yF r k) := rfl
 rw [← h, lv1]
theorem peF {r : Int} {k : Nat} (hr : 0 ≤ r ∧ r ≤ 8192) (hk : k < 16) : plE (yF r k) = 0 := by
 have hc : plE y1 = altE 4156 := plE_code (plE_zero pe1).1 (by decide)
 rw [plE_code (by unfold plBad yF; dsimp only; omega) (by show (0 : Int) ≤ 4156; decide)]
 show altE 4156 = 0
 rw [← hc, pe1]
theorem gp_map {f : Nat → Pl} {k n : Nat} (hk : k < n) : gp ((List.range n).map f) k = f k := by
 unfold gp
 simp [hk]
theorem plsE_all : ∀ {L : List Pl}, (∀ k, k < L.length → plE (gp L k) = 0) → plsE L = 0
 | [], _ => rfl
 | y :: ys, h => by
  have h0 : plE y = 0 := h 0 (by simp)
  unfold plsE
  rw [if_neg (by rw [h0]; exact fun e => e rfl)]
  exact plsE_all fun k hk => h (k + 1) (by simpa using hk)
theorem plsE_map {f : Nat → Pl} {n : Nat} (h : ∀ k, k < n → plE (f k) = 0) : plsE ((List.range n).map f) = 0 :=
 plsE_all fun k hk => by
  have hk : k < n := by simpa using hk
  rw [gp_map hk]
  exact h k hk
def tF (k : Nat) : Tk := newT pG k (yG k) (0, 25)
def TF (k : Nat) : List Tk := (List.range k).map tF
theorem staF : ∀ {k : Nat}, k ≤ 16 → staA pG PF (usB []) [] 0 k = ⟨TF k, (List.range k).map fun (j : Nat) => ⟨5, (j : Int), (j : Int)⟩, (k : Int)⟩ := by
 intro k
 induction k with
 | zero => intro _; rfl
 | succ k ih =>
  intro hk
  have ih := ih (by omega)
  have hg : gp PF k = yG k := gp_map (by omega)
  have hl : lvOf (yG k) = (0, 25) := lvF _ _
  have hlen : (TF k).length = k := by unfold TF; simp
  have hs : ¬ skipB (usB []) PF (staA pG PF (usB []) [] 0 k).tk.length k := by
   rw [ih]
   unfold skipB
   rintro (e | e | e)
   ·cases e
   ·rw [hg, hl] at e
    exact e (by decide)
   ·dsimp only at e
    rw [hlen] at e
    omega
  rw [staA_go hs, ih, hg, hl]
  dsimp only
  have e1 : TF (k + 1) = TF k ++ [newT pG (k : Int) (yG k) (0, 25)] := by unfold TF; rw [List.range_succ, List.map_append]; rfl
  have e2 : ((k + 1 : Nat) : Int) = (k : Int) + 1 := by omega
  rw [e1, List.range_succ, List.map_append, e2]
  rfl
theorem PF_len : PF.length = 16 := by unfold PF; simp
theorem PH_len : PH.length = 16 := by unfold PH; simp
theorem exF : cyE pG 0 0 [] PF = 0 ∧ cyT pG 0 [] PF = TF 16 ∧ cyV pG 0 [] PF = ((List.range 16).map fun (j : Nat) => (⟨5, (j : Int), (j : Int)⟩ : Ev)) ∧ cyX pG 0 [] PF = 16 := by
 have hN : cyN pG 0 [] PF = ⟨TF 16, (List.range 16).map fun (j : Nat) => ⟨5, (j : Int), (j : Int)⟩, 16⟩ := by
  unfold cyN
  rw [cyU_nil, cyP_nil, PF_len]
  exact staF (Nat.le_refl 16)
 refine ⟨cyE_of (ckE_nil pG_ok (by decide) (by decide)) (by decide) (by decide) (by rw [PF_len]; decide) (plsE_map fun k hk => peF (by omega) hk), ?_, ?_, ?_⟩
 ·unfold cyT; rw [hN]
 ·unfold cyV; rw [hN, cyU_nil, cyS_nil]; rfl
 ·unfold cyX; rw [hN]
theorem awF {k : Nat} (hk : k < 16) : Aw (tF k) := by
 have h := TkOk.new (id := k) (y := yG k) pG_ok (peF (by omega) hk) (by show (0 : Int) ≤ 4156; decide)
 rw [show lvOf (yG k) = (0, 25) from lvF _ _] at h
 exact ⟨h, in_new (by decide) (by decide) (by decide) (by decide)⟩
theorem gk_TF {k n : Nat} (hk : k < n) : gk (TF n) k = tF k := by
 unfold gk TF
 simp [hk]
theorem TF_len (n : Nat) : (TF n).length = n := by unfold TF; simp
def sF (k : Nat) : Tk := stpT pG (tF k)
theorem stpF : ∀ {k : Nat}, k ≤ 16 → stpA pG (TF 16) k = ((List.range k).map sF, []) := by
 intro k
 induction k with
 | zero => intro _; rfl
 | succ k ih =>
  intro hk
  have hg : gk (TF 16) k = tF k := gk_TF (by omega)
  rw [stpA_some (by rw [hg]; exact (awF (by omega)).stp.1), ih (by omega), hg, List.range_succ, List.map_append]
  rfl
theorem gk_sF {k n : Nat} (hk : k < n) : gk ((List.range n).map sF) k = sF k := by
 unfold gk
 simp [hk]
theorem rgF (k : Nat) (hk : k < 16) : (tF k).rg = ⟨25600 * ((k : Int) + 1), 0, 1⟩ := by
 have hne : nwE (100 * ((k : Int) + 1)) = 0 := if_neg (by omega)
 have : (tF k).rg = ⟨256 * (100 * ((k : Int) + 1)), 0, 1⟩ := if_pos hne
 rw [this]
 congr 1
 omega
theorem farF {i k : Nat} (hi : i < 16) : farB pG (sF i) (yF 8000 k) := by
 refine Or.inl ?_
 have hr : (sF i).rg = ⟨25600 * ((i : Int) + 1), 0, 1⟩ := rgF i hi
 have hm : (sF i).misses = 0 := rfl
 have hE : prE ⟨25600 * ((i : Int) + 1), 0, 1⟩ 1 = 0 := by
  have h0 : rgE ⟨25600 * ((i : Int) + 1), 0, 1⟩ = 0 := rgE_ok (by unfold rgBad; dsimp only; omega)
  unfold prE
  rw [if_neg (by rw [h0]; exact fun e => e rfl), if_neg (by omega)]
 have hV : prV ⟨25600 * ((i : Int) + 1), 0, 1⟩ 1 = 25600 * ((i : Int) + 1) := by
  unfold prV
  rw [if_pos hE]
  unfold lim
  dsimp only
  omega
 unfold offV
 rw [hr, hm, show (0 : Int) + 1 = 1 from rfl, hV]
 show 256 * (8 : Int) < max (256 * 8000 - _) _
 omega
def mF (k : Nat) : Tk := misT (sF k)
theorem updF (of : Nat → Option Nat) (hof : ∀ i, of i = none) : ∀ {k : Nat}, k ≤ 16 → updA pG PH of ((List.range 16).map sF) k = ((List.range k).map mF, (List.range k).map fun (j : Nat) => ⟨3, (j : Int), -1⟩) := by
 intro k
 induction k with
 | zero => intro _; rfl
 | succ k ih =>
  intro hk
  have hg : gk ((List.range 16).map sF) k = sF k := gk_sF (by omega)
  have h3 := one_mis (p := pG) (P := PH) (t := sF k) (by show ¬ (3 : Int) ≤ 0 + 1; decide)
  rw [updA_succ, ih (by omega), hof, hg, h3.1, h3.2, List.range_succ, List.map_append, List.map_append]
  rfl
theorem staH {us : Nat → Bool} {L : List Tk} {next : Int} (hl : 16 ≤ L.length) : ∀ k, staA pG PH us L next k = ⟨L, [], next⟩ := by
 intro k
 induction k with
 | zero => rfl
 | succ k ih => rw [staA_skip (Or.inr (Or.inr (by rw [ih]; exact hl))), ih]
theorem ckF : ckE pG 1 16 (TF 16) = 0 := by
 rw [ckE_list (headNot ⟨pG_ok, by decide, by decide⟩) (by rw [TF_len]; decide)]
 refine ckL_of (fun k hk => ?_) (fun j k hj hk => ?_)
 ·rw [TF_len] at hk
  rw [gk_TF hk]
  exact ⟨by show (-1 : Int) < (k : Int); omega, by show (k : Int) < 16; omega, (awF hk).ok⟩
 ·rw [TF_len] at hk
  rw [gk_TF hk, gk_TF (by omega)]
  show (j : Int) < (k : Int)
  omega
theorem hS_F : cyS pG (TF 16) = ((List.range 16).map sF, []) := by
 unfold cyS
 rw [TF_len]
 exact stpF (Nat.le_refl 16)
theorem hP_F : cyP pG (TF 16) PH = [] := by
 unfold cyP
 rw [hS_F]
 refine prsV_none fun i k hi hk => ?_
 have hi : i < 16 := by rw [List.length_map, List.length_range] at hi; exact hi
 rw [PH_len] at hk
 have hg : gp PH k = yF 8000 k := gp_map hk
 rw [gk_sF hi, hg]
 have hc := costV_far (l := lvOf (yF 8000 k)) (farF (k := k) hi)
 omega
theorem hU_F : cyU pG (TF 16) PH = ((List.range 16).map mF, (List.range 16).map fun (j : Nat) => ⟨3, (j : Int), -1⟩) := by
 have h := updF (ofF []) (fun _ => rfl) (Nat.le_refl 16)
 have e : ((List.range 16).map sF).length = 16 := by rw [List.length_map, List.length_range]
 have h2 : cyU pG (TF 16) PH = updA pG PH (ofF (cyP pG (TF 16) PH)) (cyS pG (TF 16)).1 (cyS pG (TF 16)).1.length := rfl
 rw [h2, hP_F, hS_F]
 generalize (List.range 16).map sF = S at *
 show updA pG PH (ofF []) S S.length = _
 rw [e, h]
theorem hN_F : cyN pG 16 (TF 16) PH = ⟨(List.range 16).map mF, [], 16⟩ := by
 have h2 : cyN pG 16 (TF 16) PH = staA pG PH (usB (cyP pG (TF 16) PH)) (cyU pG (TF 16) PH).1 16 PH.length := rfl
 rw [h2, hU_F]
 exact staH (by rw [List.length_map, List.length_range]; exact Nat.le_refl _) _
theorem plsH : plsE PH = 0 := plsE_map (f := yF 8000) fun k hk => peF (by omega) hk
theorem exH_E : cyE pG 1 16 (TF 16) PH = 0 := by
 rw [cyE_pls ckF (by decide) (by rw [PH_len]; decide)]
 exact plsH
theorem cyT_of {p : Par} {next : Int} {L : List Tk} {P : List Pl} {R : StR} (h : cyN p next L P = R) : cyT p next L P = R.tk ∧ cyX p next L P = R.next := by
 subst h
 exact ⟨rfl, rfl⟩
theorem cyV_of {p : Par} {next : Int} {L : List Tk} {P : List Pl} {R : StR} {S U : List Tk × List Ev} (hS : cyS p L = S) (hU : cyU p L P = U) (h : cyN p next L P = R) : cyV p next L P = S.2 ++ U.2 ++ R.ev := by
 subst h; subst hS; subst hU
 rfl
theorem exH_T : cyT pG 16 (TF 16) PH = (List.range 16).map mF := (cyT_of hN_F).1
theorem exH_V : cyV pG 16 (TF 16) PH = ((List.range 16).map fun (j : Nat) => (⟨3, (j : Int), -1⟩ : Ev)) := by
 rw [cyV_of hS_F hU_F hN_F, List.append_nil, List.nil_append]
theorem exH_X : cyX pG 16 (TF 16) PH = 16 := (cyT_of hN_F).2
theorem exH : cyE pG 1 16 (TF 16) PH = 0 ∧ cyT pG 16 (TF 16) PH = (List.range 16).map mF ∧ cyV pG 16 (TF 16) PH = ((List.range 16).map fun (j : Nat) => (⟨3, (j : Int), -1⟩ : Ev)) ∧ cyX pG 16 (TF 16) PH = 16 := ⟨exH_E, exH_T, exH_V, exH_X⟩
/-! ### the parameters that are refused -/
def bP : List Par := [⟨0, 0, 0, 0⟩, ⟨0, 2, 3, 0⟩, ⟨257, 2, 3, 0⟩, ⟨8, 0, 3, 0⟩, ⟨8, 9, 3, 0⟩, ⟨8, 2, 0, 0⟩, ⟨8, 2, 16, 0⟩, ⟨8, 2, 3, -1⟩, ⟨8, 2, 3, 33⟩]
def gpar (k : Nat) : Par := bP[k]?.getD ⟨0, 0, 0, 0⟩
theorem bP_bad {k : Nat} (hk : k < 9) : parE (gpar k) = 1 := by
 rcases (show k = 0 ∨ k = 1 ∨ k = 2 ∨ k = 3 ∨ k = 4 ∨ k = 5 ∨ k = 6 ∨ k = 7 ∨ k = 8 by omega) with rfl | rfl | rfl | rfl | rfl | rfl | rfl | rfl | rfl <;> rfl
theorem ckE_par {p : Par} (h : parE p = 1) (now next : Int) (L : List Tk) : ckE p now next L = 1 := ckE_head (Or.inl (by rw [h]; decide))
theorem cyE_par {p : Par} (h : parE p = 1) (now next : Int) (L : List Tk) (P : List Pl) : cyE p now next L P = 1 := by
 rw [cyE_ck (by rw [ckE_par h]; decide), ckE_par h]
/-! ### the twelve tables -/
def xL : List Int := loK (neF 1000 25) 201
def xH : List Int := hiK (neF 1000 25) 201
def gL : List Int := loK (maF xL xH 5000 25) 201
def gH : List Int := hiK (maF xL xH 5000 25) 201
theorem chX : chB xL xH = 0 := ch_nm fun i _ => by unfold neF; dsimp only; omega
theorem inX : inB xL xH 1000 0 := in_new (by decide) (by decide) (by decide) (by decide)
theorem someX : emptyB xL xH = false := in_some chX inX
theorem chG : chB gL gH = 0 := ch_ma chX (by decide)
theorem noneG : emptyB gL gH = true := by kernel_rfl
theorem emptyE_nil : emptyE [] [] = 2 ∧ emptyB [] [] = false := by
 have h : spE [] [] = 2 := by
  unfold spE
  rw [chB_form (by decide)]
  rfl
 unfold emptyE emptyB
 rw [h]
 decide
def oneT : Tk := ⟨3, -1, ⟨256, 0, 1⟩, xL, xH, 1, 0, false⟩
theorem one_ok : TkOk pG oneT := ⟨by decide, by decide, by decide, by decide, by decide, chX, someX⟩
def cT : Nat → Tk
 | 0 => { oneT with id := -1 }
 | 1 => { oneT with id := 4 }
 | 2 => { oneT with addr := 16777216 }
 | 3 => { oneT with rg := ⟨256, 0, 0⟩ }
 | 4 => { oneT with hits := 0 }
 | 5 => { oneT with misses := 3 }
 | 6 => { oneT with firm := true }
 | 7 => { oneT with lo := [], hi := [] }
 | 8 => { oneT with lo := gL, hi := gH }
 | _ => oneT
def cNow (n : Nat) : Int := if n = 9 then 1073741825 else 0
def cNext (n : Nat) : Int := if n = 10 then -1 else 4
def cW : Nat → Int
 | 0 => 8
 | 1 => 8
 | 7 => 2
 | 8 => 9
 | 11 => 4
 | _ => 1
def cL (n : Nat) : List Tk := if n = 11 then List.replicate 16 tk0 ++ [oneT] else [cT n]
theorem ck_one {p : Par} {now next : Int} {t : Tk} (h : ¬ headBad p now next) : ckE p now next [t] = if t.id ≤ -1 ∨ next ≤ t.id then 8 else tkE p t := by
 rw [ckE_list h (by simp)]
 unfold ckL
 split
 ·rfl
 ·split
  ·rfl
  ·rename_i q
   have q : tkE p t = 0 := Decidable.not_not.1 q
   rw [q]
   rfl
theorem hd0 : ¬ headBad pG 0 4 := headNot ⟨pG_ok, by decide, by decide⟩
theorem cE_bad {t : Tk} (hi : 0 ≤ t.id ∧ t.id < 4) (h : tkBad pG t) : ckE pG 0 4 [t] = 1 := by
 rw [ck_one hd0, if_neg (by omega), tkE_bad h]
theorem cE {n : Nat} (hn : n < 12) : ckE pG (cNow n) (cNext n) (cL n) = cW n := by
 rcases (show n = 0 ∨ n = 1 ∨ n = 2 ∨ n = 3 ∨ n = 4 ∨ n = 5 ∨ n = 6 ∨ n = 7 ∨ n = 8 ∨ n = 9 ∨ n = 10 ∨ n = 11 by omega) with rfl | rfl | rfl | rfl | rfl | rfl | rfl | rfl | rfl | rfl | rfl | rfl
 ·show ckE pG 0 4 [cT 0] = 8
  rw [ck_one hd0, if_pos (Or.inl (by decide))]
 ·show ckE pG 0 4 [cT 1] = 8
  rw [ck_one hd0, if_pos (Or.inr (by decide))]
 ·exact cE_bad (by decide) (Or.inl (by decide))
 ·exact cE_bad (by decide) (Or.inr (Or.inl (by decide)))
 ·exact cE_bad (by decide) (Or.inr (Or.inr (Or.inl (by decide))))
 ·exact cE_bad (by decide) (Or.inr (Or.inr (Or.inr (Or.inl (by decide)))))
 ·exact cE_bad (by decide) (Or.inr (Or.inr (Or.inr (Or.inr (by decide)))))
 ·show ckE pG 0 4 [cT 7] = 2
  have hb : ¬ tkBad pG (cT 7) := (tkE_zero one_ok.zero).1
  rw [ck_one hd0, if_neg (by decide)]
  have h2 : emptyE (cT 7).lo (cT 7).hi = 2 := emptyE_nil.1
  rw [tkE_form hb (by rw [h2]; decide), h2]
 ·show ckE pG 0 4 [cT 8] = 9
  have hb : ¬ tkBad pG (cT 8) := (tkE_zero one_ok.zero).1
  rw [ck_one hd0, if_neg (by decide)]
  exact tkE_none hb (emptyE_of chG) noneG
 ·exact ckE_head (Or.inr (Or.inl (by decide)))
 ·exact ckE_head (Or.inr (Or.inr (by decide)))
 ·exact ckE_long hd0 (by decide)
theorem cW_ne {n : Nat} (hn : n < 12) : cW n ≠ 0 := by
 rcases (show n = 0 ∨ n = 1 ∨ n = 2 ∨ n = 3 ∨ n = 4 ∨ n = 5 ∨ n = 6 ∨ n = 7 ∨ n = 8 ∨ n = 9 ∨ n = 10 ∨ n = 11 by omega) with rfl | rfl | rfl | rfl | rfl | rfl | rfl | rfl | rfl | rfl | rfl | rfl <;> decide
theorem cC {n : Nat} (hn : n < 12) (P : List Pl) : cyE pG (cNow n) (cNext n) (cL n) P = cW n := by
 rw [cyE_ck (by rw [cE hn]; exact cW_ne hn), cE hn]
/-! ### the valid table -/
theorem ck3 {now next : Int} (h1 : 0 ≤ now ∧ now ≤ 1073741824) (h2 : 4 ≤ next ∧ next ≤ 1073741824) : ckE pG now next [oneT] = 0 :=
 ckE_one pG_ok h1 (by omega) ⟨by decide, by show (3 : Int) < next; omega⟩ one_ok
theorem late_E (P : List Pl) : cyE pG 1073741824 4 [oneT] P = 7 := cyE_range (ck3 (by decide) (by decide)) (Or.inl rfl)
theorem many_E (P : List Pl) : cyE pG 0 1073741809 [oneT] P = 7 := cyE_range (ck3 (by decide) (by decide)) (Or.inr (by decide))
theorem long_E {P : List Pl} (h : 16 < P.length) : cyE pG 0 4 [oneT] P = 4 := cyE_long (ck3 (by decide) (by decide)) (by decide) h
theorem pl_E (y : Pl) : cyE pG 0 4 [oneT] [y] = plE y := by
 rw [cyE_pls (ck3 (by decide) (by decide)) (by decide) (by simp)]
 unfold plsE
 split
 ·rfl
 ·rename_i h
  have h : plE y = 0 := Decidable.not_not.1 h
  rw [h]
  rfl
theorem pb1 : plE ⟨8193, 5, 0⟩ = 1 := by kernel_rfl
theorem pb2 : plE ⟨1, 5, 0⟩ = 2 := by kernel_rfl
theorem pb3 : plE ⟨1, 8192, 0⟩ = 1 := by kernel_rfl
end TrkMath
end
section
namespace Go.MyHeldE
open Go.MyHeld (At at_of)
variable {P : Program} {Q : Exit → Act → World → Prop} {md : Region.Mode} {S : World → Prop} {late : List Nat} {l : List Oper}
theorem t1 (i : Nat) {oi : Oper} {v : Value} {n : Nat} {ls : Array Bool} {a : Act} {w : World} (hi : At l i oi) (hQ : ∀ c a w, Q (.panic c) (a.put oi.dst v) w → Q (.panic c) a w) (hS : S w) (hy : ∀ w, S w → (execOp a.eval oi).run P w = .ok (.value v) w)
    (h : Ends P md l.toArray Q S late n (ls.setIfInBounds i true) (a.put oi.dst v) w) (hc : shutB md l.toArray ls = true := by kernel_rfl) (hw : (late.all fun j => waits md l.toArray l.length j i) = true := by kernel_rfl)
    (hs : Region.noSelect l.toArray = true := by kernel_rfl) (hf : Region.free md l.toArray ls i = true := by kernel_rfl) (hr : (Region.ready md l.toArray ls).contains i = true := by kernel_rfl) (hwt : Region.wanted oi (yielded l.toArray a.tmps) = true := by rfl) : Ends P md l.toArray Q S late (n + 1) ls a w := take i hi hc hw hs hf hr hQ hwt hS hy h
theorem t2 (i : Nat) {oi : Oper} {v : Value} {n : Nat} {ls : Array Bool} {a : Act} {w : World} (hi : At l i oi) (hQ : ∀ c a w, Q (.panic c) (a.put oi.dst v) w → Q (.panic c) a w) (hS : S w) (hy : ∀ w, S w → (execOp a.eval oi).run P w = .ok (.value v) w)
    (h : Ends P md l.toArray Q S late n (ls.setIfInBounds i true) (a.put oi.dst v) w) (hc : shutB md l.toArray ls = true := by kernel_rfl) (hw : (late.all fun j => ls.getD j false || waits md l.toArray l.length j i) = true := by kernel_rfl)
    (hs : Region.noSelect l.toArray = true := by kernel_rfl) (hf : Region.free md l.toArray ls i = true := by kernel_rfl) (hr : (Region.ready md l.toArray ls).contains i = true := by kernel_rfl) (hwt : Region.wanted oi (yielded l.toArray a.tmps) = true := by rfl) : Ends P md l.toArray Q S late (n + 1) ls a w := take2 i hi hc hw hs hf hr hQ hwt hS hy h
theorem t0 (i : Nat) {oi : Oper} {v : Value} {n : Nat} {ls : Array Bool} {a : Act} {w : World} (hi : At l i oi) (hQ : ∀ c a w, Q (.panic c) (a.put oi.dst v) w → Q (.panic c) a w) (hy : ∀ w, (execOp a.eval oi).run P w = .ok (.value v) w)
    (h : Ends P md l.toArray Q S late n (ls.setIfInBounds i true) (a.put oi.dst v) w) (hl : late.contains i = true := by kernel_rfl)
    (hs : Region.noSelect l.toArray = true := by kernel_rfl) (hf : Region.free md l.toArray ls i = true := by kernel_rfl) (hr : (Region.ready md l.toArray ls).contains i = true := by kernel_rfl) (hwt : Region.wanted oi (yielded l.toArray a.tmps) = true := by rfl) : Ends P md l.toArray Q S late (n + 1) ls a w := take0 i hi hl hs hf hr hQ hwt hy h
end Go.MyHeldE
namespace Go.Proofs.Ytikjjpjekchcjaa
open Go.RowKit TrkMath MyHeap MyOwn MyCopy
def regOf (n : Nat) : Code → Option Code
 | .region i ops d => if i = n then some (.region i ops d) else none
 | .seq a b => match regOf n a with
  | some c => some c
  | none => regOf n b
 | .loop c => regOf n c
 | .block _ c => regOf n c
 | .scope c => regOf n c
 | .cond _ a b => match regOf n a with
  | some c => some c
  | none => regOf n b
 | _ => none
def loopOf (n : Nat) : Code → Option Code
 | .seq a b => match loopOf n a with
  | some c => some c
  | none => loopOf n b
 | .loop c => match regOf n c with
  | some _ => some (.loop c)
  | none => none
 | .block _ c => loopOf n c
 | .scope c => loopOf n c
 | .cond _ a b => match loopOf n a with
  | some c => some c
  | none => loopOf n b
 | _ => none
theorem four_c {w : World} {b : Nat} {T : TypeId} {x y z u : Value} {fr : Nat × Nat} (h : w.heap[b]? = some (.cells #[x, y, z, u] T fr)) : w.cell? ⟨b, 0, none⟩ = some x ∧ w.cell? ⟨b, 1, none⟩ = some y ∧ w.cell? ⟨b, 2, none⟩ = some z ∧ w.cell? ⟨b, 3, none⟩ = some u := ⟨cell_of_block h rfl, cell_of_block h rfl, cell_of_block h rfl, cell_of_block h rfl⟩
def CyErr (E : Int) (W : World) (e : Ending) (w' : World) : Prop := ∃ a' c' ea ec, e = .returned (.tuple #[.agg #[.int .i64 0, .int .i64 0, .int .i64 0, .int .i64 0, .int .i64 0, .int .i64 0, .slice a' 0 c'], .slice ea 0 ec, .int .i64 E]) ∧ Below W.heap.size W w'
theorem cy_err (p : Par) {now next E : Int} {L : List Tk} {P : List Pl} (hE : cyE p now next L P = E) (h0 : E ≠ 0) (a : Option Addr) (n c : Nat) (pa : Option Addr) (pn pc : Nat) (M : List TB) (W : World) (hTb : TbI W a n M) (hM : fsts M = L) (hP : Pls W pa pn P) :
    Calls Try.prog 9 #[.agg #[.int .i64 p.gate, .int .i64 p.need, .int .i64 p.most, .int .i64 p.pull, .int .i64 now, .int .i64 next, .slice a n c], .slice pa pn pc] W (CyErr E W) := by
 have hc := pCycle_call p now next a n c pa pn pc M P W hTb.T hTb.B hP
 rw [hM, (cyR_bad (by rw [hE]; exact h0)).1, (cyR_bad (by rw [hE]; exact h0)).2, hE] at hc
 refine hc.mono ?_
 intro e w' hpost
 obtain ⟨a', c', ea, ec, M', rfl, -, -, -, hb⟩ := hpost.N (n := 0) (m := 0) rfl rfl (by decide)
 exact ⟨a', c', ea, ec, rfl, hb⟩
def FdErr (E : Int) (W : World) (e : Ending) (w' : World) : Prop := ∃ sL nL kL sH nH kH, e = .returned (.tuple #[.agg #[.int .i64 0, .int .i64 0, .int .i64 0, .int .i64 0, .int .i64 0, .slice sL nL kL, .slice sH nH kH, .int .i64 0, .int .i64 0, .bool false], .int .i64 E]) ∧ Below W.heap.size W w'
theorem fd_err (p : Par) {now next E id : Int} {L : List Tk} (hE : ckE p now next L = E) (h0 : E ≠ 0) (a : Option Addr) (n c : Nat) (M : List TB) (W : World) (hTb : TbI W a n M) (hM : fsts M = L) :
    Calls Try.prog 12 #[.agg #[.int .i64 p.gate, .int .i64 p.need, .int .i64 p.most, .int .i64 p.pull, .int .i64 now, .int .i64 next, .slice a n c], .int .i64 id] W (FdErr E W) := by
 have h := pFind_call p now next id a n c M W hTb
 obtain ⟨e1, e2⟩ := fdE_ck (p := p) (now := now) (next := next) (id := id) (L := fsts M) (by rw [hM, hE]; exact h0)
 rw [e1, e2, hM, hE] at h
 refine h.mono ?_
 rintro e w' ⟨⟨sL, nL, kL, sH, nH, kH⟩, rfl, -, hb⟩
 exact ⟨sL, nL, kL, sH, nH, kH, rfl, hb⟩
theorem fd_no9 (p : Par) {now next id : Int} {L : List Tk} (h0 : ckE p now next L = 0) (hn : ∀ k, k < L.length → (gk L k).id ≠ id) (a : Option Addr) (n c : Nat) (M : List TB) (W : World) (hTb : TbI W a n M) (hM : fsts M = L) :
    Calls Try.prog 12 #[.agg #[.int .i64 p.gate, .int .i64 p.need, .int .i64 p.most, .int .i64 p.pull, .int .i64 now, .int .i64 next, .slice a n c], .int .i64 id] W (FdErr 9 W) := by
 have h := pFind_call p now next id a n c M W hTb
 obtain ⟨e1, e2⟩ := fdE_no (p := p) (now := now) (next := next) (id := id) (L := fsts M) (by rw [hM]; exact h0) (by rw [hM]; exact hn)
 rw [e1, e2] at h
 refine h.mono ?_
 rintro e w' ⟨⟨sL, nL, kL, sH, nH, kH⟩, rfl, -, hb⟩
 exact ⟨sL, nL, kL, sH, nH, kH, rfl, hb⟩
theorem new_err {p : Par} (h : parE p = 1) (W : World) : Calls Try.prog 13 #[.agg #[.int .i64 p.gate, .int .i64 p.need, .int .i64 p.most, .int .i64 p.pull]] W (fun e w' => e = .returned (.tuple #[.agg #[.int .i64 0, .int .i64 0, .int .i64 0, .int .i64 0, .int .i64 0, .int .i64 0, .slice none 0 0], .int .i64 1]) ∧ Below W.heap.size W w') := by
 have hc := pNewT_call p W
 rw [nwP_bad h, h] at hc
 exact hc
theorem new_ok {p : Par} (h : parE p = 0) (W : World) : Calls Try.prog 13 #[.agg #[.int .i64 p.gate, .int .i64 p.need, .int .i64 p.most, .int .i64 p.pull]] W (fun e w' => e = .returned (.tuple #[.agg #[.int .i64 p.gate, .int .i64 p.need, .int .i64 p.most, .int .i64 p.pull, .int .i64 0, .int .i64 0, .slice none 0 0], .int .i64 0]) ∧ Below W.heap.size W w') := by
 have hc := pNewT_call p W
 rw [nwP_ok h, h] at hc
 exact hc
theorem infoPl : (Try.prog.info? 40).map (fun i => (i.zero, i.size, i.bytes)) = some (some (.agg #[.int .i64 0, .int .i64 0, .int .i64 0]), 3, 24) := by kernel_rfl
theorem hmk17 (W : World) : (Instr.makeSlice 27 (.int .i64 17) (.int .i64 17)).run Try.prog W = .ok (.slice (some ⟨W.heap.size, 0, none⟩) 17 17) (W.alloc (.cells (madeCells #[.int .i64 0, .int .i64 0, .int .i64 0] 51) 40)) := by
 obtain ⟨i0, hi, hiz, his, hib⟩ := info_pts infoPl
 have h := run_make W 27 40 i0 _ Try.underlying27 hi hiz .i64 .i64 17 17 (by omega) (by omega) (by rw [hib]; omega) (by omega)
 rw [his] at h
 exact h
theorem hmk16 (W : World) : (Instr.makeSlice 24 (.int .i64 16) (.int .i64 16)).run Try.prog W = .ok (.slice (some ⟨W.heap.size, 0, none⟩) 16 16) (W.alloc (.cells (madeCells (tkC tb0) 160) 46)) := by
 obtain ⟨i0, hi, hiz, his, hib⟩ := info_pts infoTk
 have h := run_make W 24 46 i0 _ Try.underlying24 hi hiz .i64 .i64 16 16 (by omega) (by omega) (by rw [hib]; omega) (by omega)
 rw [his] at h
 exact h
theorem pls_zero {W : World} {g : Nat} (h : W.heap[g]? = some (.cells (madeCells #[.int .i64 0, .int .i64 0, .int .i64 0] 51) 40 (0, 0))) : Pls W (some ⟨g, 0, none⟩) 17 (List.replicate 17 pl0) := by
 refine ⟨by simp, by decide, Or.inr ⟨g, 0, rfl, fun i hi => ?_⟩⟩
 have hg : gp (List.replicate 17 pl0) i = pl0 := by unfold gp; rw [List.getElem?_replicate, if_pos hi]; rfl
 rw [hg]
 have key : ∀ j, j < 51 → (madeCells #[.int .i64 0, .int .i64 0, .int .i64 0] 51)[j]? = some (.int .i64 0) := by
  intro j hj
  have : j % 3 = 0 ∨ j % 3 = 1 ∨ j % 3 = 2 := by omega
  simp [madeCells, hj]
  rcases this with e | e | e <;> simp [e]
 exact ⟨cell_of_block h (key _ (by omega)), cell_of_block h (key _ (by omega)), cell_of_block h (key _ (by omega))⟩
theorem tks_zero {W : World} {g base : Nat} (h : W.heap[g]? = some (.cells (madeCells (tkC tb0) 160) 46 (0, 0))) (hb : base ≤ g) : W.ownsRow base 46 10 (.slice (some ⟨g, 0, none⟩) 16 16) 16 (flat10 (List.replicate 16 tb0)) :=
 ⟨rfl, Or.inr ⟨g, 16, _, rfl, hb, h, by decide, by unfold maxLen; decide, by kernel_rfl, by kernel_rfl⟩⟩
end Go.Proofs.Ytikjjpjekchcjaa
end
