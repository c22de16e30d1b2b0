/-
  TrkOne
-/
import Derived.Test.YtikjjpjekchcjaaPr18
import Derived.Test.YtikjjpjekchcjaaPr1
set_option linter.all false
set_option maxRecDepth 100000
set_option maxHeartbeats 64000000
namespace TrkMath
open AltMath GrayMath AsgMath
theorem none_best {c : Nat → Nat → Int} {n m : Nat} (h : ∀ i k, i < n → k < m → c i k < 0) : ∀ (r : Nat) (T : Nat → Bool), r ≤ n → bestL c n m r T = []
 | 0, _, _ => rfl
 | r + 1, T, hr => by
  rw [(bestL_skip (firstK_no (fun j hj => ?_))).1, none_best h r T (by omega)]
  cases hb : takeB c n m r T j with
  | false => rfl
  | true =>
   have := (takeB_iff.1 hb).1.1
   have := h (n - (r + 1)) j (by omega) hj
   omega
theorem prsV_none {p : Par} {L : List Tk} {P : List Pl} (h : ∀ i k, i < L.length → k < P.length → costV p (gk L i) (gp P k) (lvOf (gp P k)) < 0) : prsV p L P = [] := by
 unfold prsV
 by_cases h0 : 0 < L.length
 ·refine none_best (fun i k hi hk => ?_) _ _ (Nat.le_refl _)
  rw [rowsV_len] at hi
  rw [rowsV_wid h0] at hk
  rw [rowsV_ent hi hk]
  exact h i k hi hk
 have : L = [] := List.length_eq_zero_iff.1 (by omega)
 subst this
 rfl
theorem prsV_one {p : Par} {t : Tk} {y : Pl} (hp : ParOk p) (h : 0 ≤ costV p t y (lvOf y)) : prsV p [t] [y] = [(0, 0)] := by
 have hx : AsgRows.ent (rowsV p [t] [y]) 0 0 = costV p t y (lvOf y) := rowsV_ent (by simp) (by simp)
 have hw : AsgRows.wid (rowsV p [t] [y]) = 1 := rowsV_wid (by simp)
 have hl : (rowsV p [t] [y]).length = 1 := rowsV_len _ _ _
 have hhi := costV_hi hp t y (lvOf y)
 unfold prsV
 rw [hw, hl]
 obtain ⟨c, hc⟩ : ∃ c, AsgRows.ent (rowsV p [t] [y]) = c := ⟨_, rfl⟩
 obtain ⟨x, hxe⟩ : ∃ x, costV p t y (lvOf y) = x := ⟨_, rfl⟩
 rw [hc] at hx ⊢
 rw [hxe] at hx h hhi
 have hf : firstK (takeB c 1 1 0 (fun _ => false)) 1 = some 0 := by
  refine firstK_of (by decide) ?_ (fun j hj => absurd hj (Nat.not_lt_zero _))
  rw [takeB_iff]
  refine ⟨⟨by rw [hx]; exact h, rfl⟩, ?_⟩
  have ho : okB c (fun _ => false) 0 0 = true := okB_iff.2 ⟨by rw [hx]; exact h, rfl⟩
  simp only [V, bestK, Nat.sub_self, Nat.zero_add, ho, if_true, hx]
  omega
 rw [bestL_take hf]
 rfl
/-! ### bands with a truth -/
theorem in_some {lo hi : List Int} (h : chB lo hi = 0) {z v : Int} (hin : inB lo hi z v) : emptyB lo hi = false := by
 unfold emptyB
 rw [(in_spread h hin).1]
 decide
theorem ch_stp (p : Par) (t : Tk) : chB (stpT p t).lo (stpT p t).hi = 0 := ch_st
theorem in_stp {p : Par} {t : Tk} (hp : ParOk p) (h : chB t.lo t.hi = 0) {z v z' v' : Int} (hin : inB t.lo t.hi z v) (hz : z' = z + v) (z1 : -1000 ≤ z') (z2 : z' ≤ 50000) (v1 : -100 ≤ v') (v2 : v' ≤ 100) (d1 : v' - v ≤ p.pull) (d2 : v - v' ≤ p.pull) : inB (stpT p t).lo (stpT p t).hi z' v' := by
 have hq := hp.2.2.2.1
 exact in_step h hin hz z1 z2 v1 v2 (by omega) (by omega)
theorem in_stpS {p : Par} {t : Tk} (hp : ParOk p) (h : chB t.lo t.hi = 0) {z : Int} (hin : inB t.lo t.hi z 0) (z1 : -1000 ≤ z) (z2 : z ≤ 50000) : inB (stpT p t).lo (stpT p t).hi z 0 :=
 in_stp hp h hin (by omega) z1 z2 (by decide) (by decide) (by have := hp.2.2.2.1; omega) (by have := hp.2.2.2.1; omega)
/-! ### small tables -/
theorem cyS_nil (p : Par) : cyS p [] = ([], []) := rfl
theorem cyS_one {p : Par} {t : Tk} (h : emptyB (stpT p t).lo (stpT p t).hi = false) : cyS p [t] = ([stpT p t], []) := by
 show stpA p [t] 1 = _
 rw [stpA_some (show emptyB (stpT p (gk [t] 0)).lo (stpT p (gk [t] 0)).hi = false from h)]
 rfl
theorem cyP_nil (p : Par) (P : List Pl) : cyP p [] P = [] := rfl
theorem cyU_nil (p : Par) (P : List Pl) : cyU p [] P = ([], []) := rfl
theorem cyN_nil0 (p : Par) (next : Int) : cyN p next [] [] = ⟨[], [], next⟩ := rfl
theorem cyN_nil_no {p : Par} {next : Int} {y : Pl} (h : ¬ 0 < (lvOf y).2) : cyN p next [] [y] = ⟨[], [], next⟩ := by
 show staA p [y] (usB []) [] next 1 = _
 rw [staA_skip (P := [y]) (k := 0) (Or.inr (Or.inl (show ¬ 0 < (lvOf y).2 from h)))]
 rfl
theorem cyN_nil_yes {p : Par} {next : Int} {y : Pl} (h : 0 < (lvOf y).2) : cyN p next [] [y] = ⟨[newT p next y (lvOf y)], [⟨5, next, 0⟩], next + 1⟩ := by
 show staA p [y] (usB []) [] next 1 = _
 rw [staA_go (fun e => by
  rcases e with e | e | e
  ·cases e
  ·exact e h
  exact absurd e (by simp [staA]))]
 rfl
theorem cyP_mis {p : Par} {t : Tk} (h : emptyB (stpT p t).lo (stpT p t).hi = false) : cyP p [t] [] = [] := by
 unfold cyP
 rw [cyS_one h]
 exact prsV_none fun i k _ hk => absurd hk (Nat.not_lt_zero _)
theorem cyU_mis {p : Par} {t : Tk} (h : emptyB (stpT p t).lo (stpT p t).hi = false) : cyU p [t] [] = (updT1 p [] (stpT p t) none, updE1 p (stpT p t) none) := by
 unfold cyU
 rw [cyP_mis h, cyS_one h]
 rfl
theorem cy_mis {p : Par} {next : Int} {t : Tk} (h : emptyB (stpT p t).lo (stpT p t).hi = false) : cyT p next [t] [] = updT1 p [] (stpT p t) none ∧ cyV p next [t] [] = updE1 p (stpT p t) none ∧ cyX p next [t] [] = next := by
 have hN : cyN p next [t] [] = ⟨updT1 p [] (stpT p t) none, [], next⟩ := by
  unfold cyN
  rw [cyU_mis h]
  rfl
 refine ⟨by unfold cyT; rw [hN], ?_, by unfold cyX; rw [hN]⟩
 unfold cyV
 rw [hN, cyU_mis h, cyS_one h]
 simp
theorem cyP_hit {p : Par} {t : Tk} {y : Pl} (hp : ParOk p) (h : emptyB (stpT p t).lo (stpT p t).hi = false) (hc : 0 ≤ costV p (stpT p t) y (lvOf y)) : cyP p [t] [y] = [(0, 0)] := by
 unfold cyP
 rw [cyS_one h]
 exact prsV_one hp hc
theorem cyU_hit {p : Par} {t : Tk} {y : Pl} (hp : ParOk p) (h : emptyB (stpT p t).lo (stpT p t).hi = false) (hc : 0 ≤ costV p (stpT p t) y (lvOf y)) : cyU p [t] [y] = ([updT p (stpT p t) y (lvOf y)], updE1 p (stpT p t) (some 0)) := by
 unfold cyU
 rw [cyP_hit hp h hc, cyS_one h]
 rfl
theorem cy_hit {p : Par} {next : Int} {t : Tk} {y : Pl} (hp : ParOk p) (h : emptyB (stpT p t).lo (stpT p t).hi = false) (hc : 0 ≤ costV p (stpT p t) y (lvOf y)) : cyT p next [t] [y] = [updT p (stpT p t) y (lvOf y)] ∧ cyV p next [t] [y] = updE1 p (stpT p t) (some 0) ∧ cyX p next [t] [y] = next := by
 have hN : cyN p next [t] [y] = ⟨[updT p (stpT p t) y (lvOf y)], [], next⟩ := by
  unfold cyN
  rw [cyU_hit hp h hc, cyP_hit hp h hc]
  show staA p [y] (usB [(0, 0)]) _ next 1 = _
  rw [staA_skip (Or.inl rfl)]
  rfl
 refine ⟨by unfold cyT; rw [hN], ?_, by unfold cyX; rw [hN]⟩
 unfold cyV
 rw [hN, cyU_hit hp h hc, cyS_one h]
 simp
theorem ckE_nil {p : Par} {now next : Int} (hp : ParOk p) (h1 : 0 ≤ now ∧ now ≤ 1073741824) (h2 : 0 ≤ next ∧ next ≤ 1073741824) : ckE p now next [] = 0 := by
 rw [ckE_list (headNot ⟨hp, h1, h2⟩) (by decide)]
 rfl
theorem ckE_one {p : Par} {now next : Int} {t : Tk} (hp : ParOk p) (h1 : 0 ≤ now ∧ now ≤ 1073741824) (h2 : 0 ≤ next ∧ next ≤ 1073741824) (h3 : 0 ≤ t.id ∧ t.id < next) (h : TkOk p t) : ckE p now next [t] = 0 := by
 rw [ckE_list (headNot ⟨hp, h1, h2⟩) (by simp)]
 refine ckL_of (fun k hk => ?_) (fun j k hj hk => ?_)
 ·have : k = 0 := by simpa using hk
  subst this
  have e : gk [t] 0 = t := rfl
  rw [e]
  exact ⟨by omega, h3.2, h⟩
 have : k = 0 := by simpa using hk
 omega
theorem cyE_of {p : Par} {now next : Int} {L : List Tk} {P : List Pl} (h : ckE p now next L = 0) (h1 : now < 1073741824) (h2 : next ≤ 1073741808) (hP : P.length ≤ 16) (hp : plsE P = 0) : cyE p now next L P = 0 := by
 rw [cyE_pls h (by omega) (by omega)]
 exact hp
theorem TkOk.new {p : Par} {id : Int} {y : Pl} (hp : ParOk p) (hy : plE y = 0) (hc : 0 ≤ y.code) : TkOk p (newT p id y (lvOf y)) := by
 have hb := (plE_zero hy).1
 have hr : 0 ≤ y.r ∧ y.r ≤ 8192 := Decidable.not_not.1 fun e => hb (Or.inl e)
 have hm := lvOf_ok hy ((lvOf_pos hy).2 hc)
 have hne : nwE y.r = 0 := if_neg (by omega)
 have hrg : nwX y.r = ⟨256 * y.r, 0, 1⟩ := if_pos hne
 have hm3 := meE_zero hm
 have hch : chB (loK (neF (lvOf y).1 (lvOf y).2) 201) (hiK (neF (lvOf y).1 (lvOf y).2) 201) = 0 := ch_nm fun i _ => by
  unfold neF
  dsimp only
  omega
 refine ⟨Decidable.not_not.1 fun e => hb (Or.inr (Or.inr e)), ?_, show (1 : Int) ≤ 1 ∧ (1 : Int) ≤ 1073741824 by decide, ?_, ?_, hch, ?_⟩
 ·show rgE (nwX y.r) = 0
  rw [hrg]
  refine rgE_ok ?_
  unfold rgBad
  dsimp only
  omega
 ·exact ⟨Int.le_refl _, by have h := hp.2.2.1; show 0 ≤ p.most - 1; omega⟩
 ·show decide (p.need = 1) = decide (p.need ≤ 1)
  congr 1
  exact propext ⟨fun e => by omega, fun e => by have := hp.2.1; omega⟩
 exact in_some hch (in_new (z := (lvOf y).1) (v := 0) (by decide) (Int.le_refl _) (by omega) (by omega))
theorem one_gone {p : Par} {P : List Pl} {t : Tk} (h : p.most ≤ t.misses + 1) : updT1 p P t none = [] ∧ updE1 p t none = [⟨4, t.id, -1⟩] := ⟨if_pos h, if_pos h⟩
theorem one_mis {p : Par} {P : List Pl} {t : Tk} (h : ¬ p.most ≤ t.misses + 1) : updT1 p P t none = [misT t] ∧ updE1 p t none = [⟨3, t.id, -1⟩] := ⟨if_neg h, if_neg h⟩
theorem updE1_two {p : Par} {t : Tk} {k : Nat} (h : t.firm = false) (h2 : p.need ≤ hit1 t) : updE1 p t (some k) = [⟨1, t.id, k⟩, ⟨2, t.id, k⟩] := if_pos ⟨h, h2⟩
/-! ### the chapter's examples -/
def pG : Par := ⟨8, 2, 3, 4⟩
theorem pG_ok : ParOk pG := by unfold ParOk pG; decide
def y1 : Pl := ⟨100, 4156, -1⟩
def y2 : Pl := ⟨107, -1, 9⟩
def y3 : Pl := ⟨5, -1, 3⟩
theorem lv1 : lvOf y1 = (0, 25) := by kernel_rfl
theorem lv2 : lvOf y2 = (0, 0) := by kernel_rfl
theorem lv3 : lvOf y3 = (0, 0) := by kernel_rfl
theorem pe1 : plE y1 = 0 := by kernel_rfl
theorem pe2 : plE y2 = 0 := by kernel_rfl
theorem pe3 : plE y3 = 0 := by kernel_rfl
def t1 : Tk := newT pG 0 y1 (0, 25)
def u1 : Tk := stpT pG t1
def t2 : Tk := updT pG u1 y2 (0, 0)
def u2 : Tk := stpT pG t2
def t3 : Tk := misT u2
def u3 : Tk := stpT pG t3
def t4 : Tk := misT u3
def u4 : Tk := stpT pG t4
structure Aw (t : Tk) : Prop where
 ok : TkOk pG t
 it : inB t.lo t.hi 0 0
theorem Aw.stp {t : Tk} (h : Aw t) : emptyB (stpT pG t).lo (stpT pG t).hi = false ∧ Aw (stpT pG t) := by
 have hi := in_stpS pG_ok h.ok.ch h.it (by decide) (by decide)
 have he := in_some (ch_stp pG t) hi
 exact ⟨he, h.ok.stp he, hi⟩
theorem aw1 : Aw t1 := by
 have h := TkOk.new (id := 0) pG_ok pe1 (by decide)
 rw [lv1] at h
 exact ⟨h, in_new (by decide) (by decide) (by decide) (by decide)⟩
theorem prV1 : prV ⟨25600, 0, 1⟩ 1 = 25600 := by kernel_rfl
theorem off1 : offV u1 y2 = 1792 := by
 show max (256 * 107 - prV ⟨25600, 0, 1⟩ (0 + 1)) (-(256 * 107 - prV ⟨25600, 0, 1⟩ (0 + 1))) = 1792
 rw [show (0 : Int) + 1 = 1 from rfl, prV1]
 decide
theorem cost1 : costV pG u1 y2 (lvOf y2) = 67328 := by
 have hb : ¬ bothB u1 y2 := fun e => absurd e.1 (by show ¬ (0 : Int) ≤ -1; decide)
 have hf : ¬ farB pG u1 y2 := by
  rintro (e | e)
  ·rw [off1] at e; exact absurd e (by show ¬ (256 * 8 : Int) < 1792; decide)
  exact hb e.1
 have hm := mea_no (lo := u1.lo) (hi := u1.hi) (l := lvOf y2) (by rw [lv2]; decide)
 rw [costV_one hf (by rw [hm.1, hm.2]; exact aw1.stp.1) hb, off1]
 decide
theorem upx1 : upX ⟨25600, 0, 1⟩ 107 1 = ⟨27392, 1792, 2⟩ := by kernel_rfl
theorem t2_eq : t2 = ⟨0, 9, ⟨27392, 1792, 2⟩, u1.lo, u1.hi, 2, 0, true⟩ := by
 have hm := mea_no (lo := u1.lo) (hi := u1.hi) (l := ((0 : Int), (0 : Int))) (by decide)
 unfold t2 updT
 rw [hm.1, hm.2]
 show Tk.mk 0 (if (-1 : Int) < 0 then 9 else -1) (upX ⟨25600, 0, 1⟩ 107 (0 + 1)) _ _ _ _ _ = _
 rw [show (0 : Int) + 1 = 1 from rfl, upx1]
 rfl
theorem aw2 : Aw t2 := by
 have h := aw1.stp.2
 rw [t2_eq]
 exact ⟨⟨by decide, by decide, by decide, by decide, by decide, h.ok.ch, h.ok.some⟩, h.it⟩
theorem t3_eq : t3 = { u2 with misses := 1 } := rfl
theorem mis2 : u2.misses = 0 ∧ u2.id = 0 := by
 have e : u2.misses = t2.misses ∧ u2.id = t2.id := ⟨rfl, rfl⟩
 rw [e.1, e.2, t2_eq]
 exact ⟨rfl, rfl⟩
theorem Aw.mis {t : Tk} (h : Aw t) (hm : t.misses + 1 ≤ 2) : Aw (misT t) :=
 ⟨⟨h.ok.addr, h.ok.rg, h.ok.hits, ⟨by have := h.ok.mis; show 0 ≤ t.misses + 1; omega, by show t.misses + 1 ≤ 3 - 1; omega⟩, h.ok.firm, h.ok.ch, h.ok.some⟩, h.it⟩
theorem aw3 : Aw t3 := aw2.stp.2.mis (by have h : (stpT pG t2).misses = 0 := mis2.1; omega)
theorem stp_mis (p : Par) (t : Tk) : (stpT p t).misses = t.misses ∧ (stpT p t).id = t.id := ⟨rfl, rfl⟩
theorem misT_mis (t : Tk) : (misT t).misses = t.misses + 1 ∧ (misT t).id = t.id := ⟨rfl, rfl⟩
theorem mis3 : u3.misses = 1 ∧ u3.id = 0 := by
 unfold u3 t3
 rw [(stp_mis _ _).1, (stp_mis _ _).2, (misT_mis _).1, (misT_mis _).2, mis2.1, mis2.2]
 exact ⟨rfl, rfl⟩
theorem aw4 : Aw t4 := aw3.stp.2.mis (by have h : (stpT pG t3).misses = 1 := mis3.1; omega)
theorem mis4 : u4.misses = 2 ∧ u4.id = 0 := by
 unfold u4 t4
 rw [(stp_mis _ _).1, (stp_mis _ _).2, (misT_mis _).1, (misT_mis _).2, mis3.1, mis3.2]
 exact ⟨rfl, rfl⟩
theorem Aw.ck {t : Tk} (h : Aw t) (hid : t.id = 0) {now : Int} (hn : 0 ≤ now ∧ now ≤ 10) : ckE pG now 1 [t] = 0 :=
 ckE_one pG_ok (by omega) (by decide) (by rw [hid]; decide) h.ok
theorem id2 : t2.id = 0 := by rw [t2_eq]
theorem ex1 : cyE pG 0 0 [] [y1] = 0 ∧ cyT pG 0 [] [y1] = [t1] ∧ cyV pG 0 [] [y1] = [⟨5, 0, 0⟩] ∧ cyX pG 0 [] [y1] = 1 := by
 have hN := cyN_nil_yes (p := pG) (next := 0) (y := y1) (by rw [lv1]; decide)
 refine ⟨cyE_of (ckE_nil pG_ok (by decide) (by decide)) (by decide) (by decide) (by decide) (by unfold plsE; rw [if_neg (fun e => e pe1)]; rfl), ?_, ?_, ?_⟩
 ·unfold cyT; rw [hN, lv1]; rfl
 ·unfold cyV; rw [hN, cyU_nil, cyS_nil]; rfl
 unfold cyX; rw [hN]; rfl
theorem ex2 : cyE pG 1 1 [t1] [y2] = 0 ∧ cyT pG 1 [t1] [y2] = [t2] ∧ cyV pG 1 [t1] [y2] = [⟨1, 0, 0⟩, ⟨2, 0, 0⟩] ∧ cyX pG 1 [t1] [y2] = 1 := by
 have h := cy_hit (p := pG) (next := 1) (t := t1) (y := y2) pG_ok aw1.stp.1 (by rw [show stpT pG t1 = u1 from rfl, cost1]; decide)
 refine ⟨cyE_of (aw1.ck rfl (by decide)) (by decide) (by decide) (by decide) (by unfold plsE; rw [if_neg (fun e => e pe2)]; rfl), ?_, ?_, h.2.2⟩
 ·rw [h.1, lv2]; rfl
 rw [h.2.1]
 show updE1 pG u1 (some 0) = _
 rw [updE1_two (by rfl) (by decide)]
 rfl
theorem ex3 : cyE pG 2 1 [t2] [] = 0 ∧ cyT pG 1 [t2] [] = [t3] ∧ cyV pG 1 [t2] [] = [⟨3, 0, -1⟩] ∧ cyX pG 1 [t2] [] = 1 := by
 have h := cy_mis (p := pG) (next := 1) (t := t2) aw2.stp.1
 have hm : ¬ pG.most ≤ u2.misses + 1 := by rw [mis2.1]; decide
 refine ⟨cyE_of (aw2.ck id2 (by decide)) (by decide) (by decide) (by decide) rfl, ?_, ?_, h.2.2⟩
 ·rw [h.1]; exact (one_mis (P := []) hm).1
 rw [h.2.1, ← mis2.2]
 exact (one_mis (P := []) hm).2
theorem ex4 : cyE pG 3 1 [t3] [] = 0 ∧ cyT pG 1 [t3] [] = [t4] ∧ cyV pG 1 [t3] [] = [⟨3, 0, -1⟩] ∧ cyX pG 1 [t3] [] = 1 := by
 have h := cy_mis (p := pG) (next := 1) (t := t3) aw3.stp.1
 have hm : ¬ pG.most ≤ u3.misses + 1 := by rw [mis3.1]; decide
 refine ⟨cyE_of (aw3.ck mis2.2 (by decide)) (by decide) (by decide) (by decide) rfl, ?_, ?_, h.2.2⟩
 ·rw [h.1]; exact (one_mis (P := []) hm).1
 rw [h.2.1, ← mis3.2]
 exact (one_mis (P := []) hm).2
theorem ex5 : cyE pG 4 1 [t4] [] = 0 ∧ cyT pG 1 [t4] [] = [] ∧ cyV pG 1 [t4] [] = [⟨4, 0, -1⟩] ∧ cyX pG 1 [t4] [] = 1 := by
 have h := cy_mis (p := pG) (next := 1) (t := t4) aw4.stp.1
 have hm : pG.most ≤ u4.misses + 1 := by rw [mis4.1]; decide
 refine ⟨cyE_of (aw4.ck mis3.2 (by decide)) (by decide) (by decide) (by decide) rfl, ?_, ?_, h.2.2⟩
 ·rw [h.1]; exact (one_gone (P := []) hm).1
 rw [h.2.1, ← mis4.2]
 exact (one_gone (P := []) hm).2
theorem ex6 : cyE pG 0 0 [] [y3] = 0 ∧ cyT pG 0 [] [y3] = [] ∧ cyV pG 0 [] [y3] = [] ∧ cyX pG 0 [] [y3] = 0 := by
 have hN := cyN_nil_no (p := pG) (next := 0) (y := y3) (by rw [lv3]; decide)
 refine ⟨cyE_of (ckE_nil pG_ok (by decide) (by decide)) (by decide) (by decide) (by decide) (by unfold plsE; rw [if_neg (fun e => e pe3)]; rfl), ?_, ?_, ?_⟩
 ·unfold cyT; rw [hN]
 ·unfold cyV; rw [hN, cyU_nil, cyS_nil]; rfl
 unfold cyX; rw [hN]
end TrkMath
