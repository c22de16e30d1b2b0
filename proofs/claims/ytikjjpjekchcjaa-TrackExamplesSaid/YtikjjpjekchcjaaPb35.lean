/-
  TrkJc, TrkVal
-/
import Derived.Test.YtikjjpjekchcjaaPb17
import Derived.Test.YtikjjpjekchcjaaPb32
import Derived.Test.YtikjjpjekchcjaaPb33
section
namespace Go.Proofs.Ytikjjpjekchcjaa
open Go.RowKit TrkMath MyHeap MyOwn
structure TbJ (B : Nat) (W : World) (a : Option Addr) (n : Nat) (M : List TB) : Prop where
 I : TbI W a n M
 t : ∀ g, blk a = some g → B ≤ g
 b : ∀ k, k < n → BdX B [] W (gt M k)
theorem TbJ.only {B T n : Nat} {W W' : World} {a : Option Addr} {M : List TB} (h : TbJ B W a n M) (hO : Only T W W') (hT : T < B) : TbI W' a n M := by
 have hOo := Outs.of_only (X := [some T]) hO (List.mem_singleton.2 rfl)
 refine ⟨⟨h.I.T.len, h.I.T.bound, ?_⟩, fun k hk => ?_⟩
 ·rcases h.I.T.cells with h0 | ⟨b, off, e, hc⟩
  ·exact Or.inl h0
  ·refine Or.inr ⟨b, off, e, fun i hi => (hc i hi).outs hOo (fun c => ?_)⟩
   have := h.t b (by rw [e]; rfl)
   have := Option.some.inj (List.mem_singleton.1 c)
   omega
 ·have h1 := h.b k hk
  have h2 : BdX B [some T] W (gt M k) := ⟨h1.L, h1.H, fun x e => ⟨⟨(h1.gL x e).1.1, fun c => by have := (h1.gL x e).1.1; have := Option.some.inj (List.mem_singleton.1 c); omega⟩, (h1.gL x e).2⟩, fun x e => ⟨⟨(h1.gH x e).1.1, fun c => by have := (h1.gH x e).1.1; have := Option.some.inj (List.mem_singleton.1 c); omega⟩, (h1.gH x e).2⟩⟩
  exact (h2.outs hOo).I
theorem cy_call (p : Par) {now now' next nx' : Int} {L L' : List Tk} {P : List Pl} (h0 : cyE p now next L P = 0) (hT : cyT p next L P = L') (hX : cyX p next L P = nx') (hl : L'.length ≤ 1000) (hn' : now + 1 = now')
    (a : Option Addr) (n c : Nat) (pa : Option Addr) (pn pc : Nat) (M : List TB) (W : World) (hTb : TbI W a n M) (hM : fsts M = L) (hP : Pls W pa pn P) :
    Calls Try.prog 9 #[.agg #[.int .i64 p.gate, .int .i64 p.need, .int .i64 p.most, .int .i64 p.pull, .int .i64 now, .int .i64 next, .slice a n c], .slice pa pn pc] W (fun e w' => ∃ a' c' ea em ec M', e = .returned (.tuple #[.agg #[.int .i64 p.gate, .int .i64 p.need, .int .i64 p.most, .int .i64 p.pull, .int .i64 now', .int .i64 nx', .slice a' L'.length c'], .slice ea em ec, .int .i64 0]) ∧ TbJ W.heap.size w' a' L'.length M' ∧ fsts M' = L' ∧ EvI w' ea em (cyV p next L P) ∧ Below W.heap.size W w') := by
 have hc := pCycle_call p now next a n c pa pn pc M P W hTb.T hTb.B hP
 rw [hM, h0, (cyR_ok h0).1, (cyR_ok h0).2, hT, hX, hn'] at hc
 refine hc.mono ?_
 rintro e w' ⟨tV, eV, M', rfl, hL, hM', hE, hB⟩
 have hlen : M'.length = L'.length := by rw [← fsts_len, hM']
 obtain ⟨a', c', rfl, hI⟩ := hL.tbI (by omega)
 obtain ⟨ea, ec, rfl, hEv⟩ := evi_own hE
 rw [hlen] at hI ⊢
 exact ⟨a', c', ea, _, ec, M', rfl, ⟨hI, fun g hg => (hL.lt (g := g) (by
  cases a' with
  | none => cases hg
  | some x => exact hg)).1, fun k hk => (hL.bd k (by omega)).turn (fun g e => by cases e)⟩, hM', hEv, hB⟩
end Go.Proofs.Ytikjjpjekchcjaa
end
section
namespace TrkMath
open AltMath GrayMath AsgMath
theorem lim_bd {n lo hi : Int} (h : lo ≤ hi) : lo ≤ lim n lo hi ∧ lim n lo hi ≤ hi := by unfold lim; omega
theorem upX_ok {x : Rg} {r c : Int} (h : rgE x = 0) (hr : 0 ≤ r ∧ r ≤ 8192) (hc : 1 ≤ c ∧ c ≤ 16) : rgE (upX x r c) = 0 := by
 have hx := rgE_zero h
 have hE : upE x r c = 0 := by
  unfold upE
  rw [if_neg (fun e => e h), if_neg (by omega)]
 refine rgE_ok ?_
 unfold upX
 rw [if_pos hE]
 unfold rgBad
 dsimp only
 have h1 := lim_bd (n := (x.r + c * x.v) + rnd (2 * (2 * upN x - 1) * upD x r c) (upN x * (upN x + 1))) (lo := 0) (hi := 2097152) (by decide)
 have h2 := lim_bd (n := x.v + rnd (6 * upD x r c) (upN x * (upN x + 1) * c)) (lo := -16384) (hi := 16384) (by decide)
 omega
theorem ch_mea {lo hi : List Int} {l : Lv} (h : chB lo hi = 0) (hl : LvOk l) : chB (meaL lo hi l) (meaH lo hi l) = 0 := by
 by_cases h0 : 0 < l.2
 ·rw [(mea_yes h0).1, (mea_yes h0).2]
  exact ch_ma h (hl h0)
 ·rw [(mea_no h0).1, (mea_no h0).2]
  exact h
theorem TkOk.upd {p : Par} {t : Tk} {y : Pl} (h : TkOk p t) (hp : ParOk p) (hy : plE y = 0) (hc : 0 ≤ costV p t y (lvOf y)) : TkOk p (updT p t y (lvOf y)) := by
 have hb := (plE_zero hy).1
 unfold plBad at hb
 have hm := h.mis
 have hh := h.hits
 have hmost := hp.2.2.1
 refine ⟨?_, ?_, ?_, ?_, ?_, ch_mea h.ch (lvOf_ok hy), (costV_fit hc).2⟩
 ·have ha := h.addr
  show -1 ≤ (if t.addr < 0 then y.addr else t.addr) ∧ (if t.addr < 0 then y.addr else t.addr) ≤ 16777215
  split <;> omega
 ·exact upX_ok h.rg (by omega) (by omega)
 ·show 1 ≤ min (t.hits + 1) 1073741824 ∧ min (t.hits + 1) 1073741824 ≤ 1073741824
  omega
 ·show (0 : Int) ≤ 0 ∧ (0 : Int) ≤ p.most - 1
  omega
 ·show (t.firm || decide (p.need ≤ hit1 t)) = decide (p.need ≤ hit1 t)
  rw [h.firm]
  by_cases c : p.need ≤ t.hits
  ·rw [decide_eq_true c, decide_eq_true (show p.need ≤ hit1 t by unfold hit1; omega)]
   rfl
  ·rw [decide_eq_false c]
   rfl
theorem updT_id (p : Par) (t : Tk) (y : Pl) (l : Lv) : (updT p t y l).id = t.id := rfl
theorem TkOk.mist {p : Par} {t : Tk} (h : TkOk p t) (hm : ¬ p.most ≤ t.misses + 1) : TkOk p (misT t) :=
 ⟨h.addr, h.rg, h.hits, by have := h.mis; show 0 ≤ t.misses + 1 ∧ t.misses + 1 ≤ p.most - 1; omega, h.firm, h.ch, h.some⟩
/-! ### rising numbers -/
def Inc (L : List Tk) : Prop := L.Pairwise fun a b => a.id < b.id
theorem inc_add {L : List Tk} {t : Tk} (h : Inc L) (ht : ∀ a ∈ L, a.id < t.id) : Inc (L ++ [t]) :=
 List.pairwise_append.2 ⟨h, List.pairwise_singleton _ _, fun a ha b hb => by rw [List.mem_singleton.1 hb]; exact ht a ha⟩
theorem inc_get {L : List Tk} (h : Inc L) {j k : Nat} (hj : j < k) (hk : k < L.length) : (gk L j).id < (gk L k).id := by
 have := List.pairwise_iff_getElem.1 h j k (by omega) hk hj
 unfold gk
 rw [List.getElem?_eq_getElem hk, List.getElem?_eq_getElem (show j < L.length by omega), Option.getD_some, Option.getD_some]
 exact this
theorem inc_of {L : List Tk} (h : ∀ j k, j < k → k < L.length → (gk L j).id < (gk L k).id) : Inc L := by
 refine List.pairwise_iff_getElem.2 fun i j hi hj hij => ?_
 have := h i j hij hj
 unfold gk at this
 rw [List.getElem?_eq_getElem hi, List.getElem?_eq_getElem hj, Option.getD_some, Option.getD_some] at this
 exact this
theorem inc_uniq {L : List Tk} (h : Inc L) {a b : Tk} (ha : a ∈ L) (hb : b ∈ L) (he : a.id = b.id) : a = b := by
 obtain ⟨i, hi, rfl⟩ := List.getElem_of_mem ha
 obtain ⟨j, hj, rfl⟩ := List.getElem_of_mem hb
 rcases Nat.lt_trichotomy i j with c | c | c
 ·have := List.pairwise_iff_getElem.1 h i j hi hj c; omega
 ·subst c; rfl
 ·have := List.pairwise_iff_getElem.1 h j i hj hi c; omega
structure Vd (p : Par) (next : Int) (L : List Tk) : Prop where
 inc : Inc L
 id : ∀ t ∈ L, 0 ≤ t.id ∧ t.id < next
 ok : ∀ t ∈ L, TkOk p t
theorem Vd.of {p : Par} {next : Int} {L : List Tk} (h : ckL p next (-1) L = 0) : Vd p next L := by
 refine ⟨inc_of fun j k hj hk => (ckL_zero h k hk).2 j hj, fun t ht => ?_, ckL_mem h⟩
 obtain ⟨k, hk, rfl⟩ := List.getElem_of_mem ht
 have := (ckL_zero h k hk).1
 unfold gk at this
 rw [List.getElem?_eq_getElem hk, Option.getD_some] at this
 omega
theorem Vd.ck {p : Par} {next : Int} {L : List Tk} (h : Vd p next L) : ckL p next (-1) L = 0 :=
 ckL_of (fun k hk => ⟨by have := (h.id _ (gk_mem hk)).1; omega, (h.id _ (gk_mem hk)).2, h.ok _ (gk_mem hk)⟩) (fun _ _ hj hk => inc_get h.inc hj hk)
theorem stp_vd {p : Par} {next : Int} {L : List Tk} (h : Vd p next L) : ∀ {k : Nat}, k ≤ L.length → Vd p next (stpA p L k).1 ∧ ∀ t ∈ (stpA p L k).1, ∃ j, j < k ∧ t.id = (gk L j).id ∧ t.addr = (gk L j).addr := by
 intro k
 induction k with
 | zero => exact fun _ => ⟨⟨List.Pairwise.nil, fun t ht => (by cases ht), fun t ht => (by cases ht)⟩, fun t ht => (by cases ht)⟩
 | succ k ih =>
  intro hk
  obtain ⟨h1, h2⟩ := ih (by omega)
  cases he : emptyB (stpT p (gk L k)).lo (stpT p (gk L k)).hi with
  | true =>
   rw [stpA_none he]
   exact ⟨h1, fun t ht => by obtain ⟨j, a, b⟩ := h2 t ht; exact ⟨j, by omega, b⟩⟩
  | false =>
   rw [stpA_some he]
   have hm := gk_mem (show k < L.length by omega)
   refine ⟨⟨inc_add h1.inc fun a ha => ?_, fun t ht => ?_, fun t ht => ?_⟩, fun t ht => ?_⟩
   ·obtain ⟨j, hj, e, -⟩ := h2 a ha
    rw [e]
    exact inc_get h.inc hj (by omega)
   ·rcases List.mem_append.1 ht with ht | ht
    ·exact h1.id t ht
    ·rw [List.mem_singleton.1 ht]
     show 0 ≤ (gk L k).id ∧ (gk L k).id < next
     exact h.id _ hm
   ·rcases List.mem_append.1 ht with ht | ht
    ·exact h1.ok t ht
    ·rw [List.mem_singleton.1 ht]
     exact (h.ok _ hm).stp he
   ·rcases List.mem_append.1 ht with ht | ht
    ·obtain ⟨j, a, b⟩ := h2 t ht
     exact ⟨j, by omega, b⟩
    ·rw [List.mem_singleton.1 ht]
     exact ⟨k, by omega, rfl, rfl⟩
def Kept (P : List Pl) (a b : Tk) (k : Nat) : Prop := b.addr = (if a.addr < 0 then (gp P k).addr else a.addr) ∧ (0 ≤ a.addr → 0 ≤ (gp P k).addr → a.addr = (gp P k).addr)
theorem upd_vd {p : Par} {next : Int} {L : List Tk} {P : List Pl} {l : List (Nat × Nat)} (h : Vd p next L) (hp : ParOk p) (hP : plsE P = 0) (hl : PrOk p L P l) : ∀ {k : Nat}, k ≤ L.length → Vd p next (updA p P (ofF l) L k).1 ∧ ∀ t ∈ (updA p P (ofF l) L k).1, ∃ j, j < k ∧ t.id = (gk L j).id := by
 intro k
 induction k with
 | zero => exact fun _ => ⟨⟨List.Pairwise.nil, fun t ht => (by cases ht), fun t ht => (by cases ht)⟩, fun t ht => (by cases ht)⟩
 | succ k ih =>
  intro hk
  obtain ⟨h1, h2⟩ := ih (by omega)
  rw [updA_succ]
  have hm := gk_mem (show k < L.length by omega)
  have one : ∀ t, t.id = (gk L k).id → TkOk p t → Vd p next ((updA p P (ofF l) L k).1 ++ [t]) ∧ ∀ t' ∈ (updA p P (ofF l) L k).1 ++ [t], ∃ j, j < k + 1 ∧ t'.id = (gk L j).id := by
   intro t hid hok
   refine ⟨⟨inc_add h1.inc fun a ha => ?_, fun t' ht => ?_, fun t' ht => ?_⟩, fun t' ht => ?_⟩
   ·obtain ⟨j, hj, e⟩ := h2 a ha
    rw [e, hid]
    exact inc_get h.inc hj (by omega)
   ·rcases List.mem_append.1 ht with ht | ht
    ·exact h1.id t' ht
    ·rw [List.mem_singleton.1 ht, hid]
     exact h.id _ hm
   ·rcases List.mem_append.1 ht with ht | ht
    ·exact h1.ok t' ht
    ·rw [List.mem_singleton.1 ht]
     exact hok
   ·rcases List.mem_append.1 ht with ht | ht
    ·obtain ⟨j, a, b⟩ := h2 t' ht
     exact ⟨j, by omega, b⟩
    ·rw [List.mem_singleton.1 ht]
     exact ⟨k, by omega, hid⟩
  show Vd p next ((updA p P (ofF l) L k).1 ++ updT1 p P (gk L k) (ofF l k)) ∧ ∀ t ∈ (updA p P (ofF l) L k).1 ++ updT1 p P (gk L k) (ofF l k), ∃ j, j < k + 1 ∧ t.id = (gk L j).id
  cases ho : ofF l k with
  | none =>
   have e : updT1 p P (gk L k) none = if p.most ≤ (gk L k).misses + 1 then [] else [misT (gk L k)] := rfl
   rw [e]
   by_cases hmis : p.most ≤ (gk L k).misses + 1
   ·rw [if_pos hmis, List.append_nil]
    exact ⟨h1, fun t ht => by obtain ⟨j, a, b⟩ := h2 t ht; exact ⟨j, by omega, b⟩⟩
   ·rw [if_neg hmis]
    exact one (misT (gk L k)) rfl ((h.ok _ hm).mist hmis)
  | some y =>
   have hq := ofF_some ho
   have e : updT1 p P (gk L k) (some y) = [updT p (gk L k) (gp P y) (lvOf (gp P y))] := rfl
   have hy : plE (gp P y) = 0 := plsE_zero hP y (hl.col (k, y) hq)
   have hf := hl.fit (k, y) hq
   dsimp only at hf
   rw [e]
   exact one (updT p (gk L k) (gp P y) (lvOf (gp P y))) (updT_id _ _ _ _) ((h.ok _ hm).upd hp hy hf)
theorem upd_len {p : Par} {P : List Pl} {of : Nat → Option Nat} {L : List Tk} : ∀ k, (updA p P of L k).1.length ≤ k := by
 intro k
 induction k with
 | zero => exact Nat.le_refl _
 | succ k ih =>
  rw [updA_succ]
  show ((updA p P of L k).1 ++ updT1 p P (gk L k) (of k)).length ≤ k + 1
  have h : (updT1 p P (gk L k) (of k)).length ≤ 1 := by
   cases of k with
   | none =>
    show (if p.most ≤ (gk L k).misses + 1 then [] else [misT (gk L k)]).length ≤ 1
    split <;> simp
   | some y => exact Nat.le_refl 1
  rw [List.length_append]
  omega
theorem sta_vd {p : Par} {next : Int} {U : List Tk} {P : List Pl} {us : Nat → Bool} (h : Vd p next U) (hp : ParOk p) (hP : plsE P = 0) (hn : 0 ≤ next) (hl : U.length ≤ 16) : ∀ {k : Nat}, k ≤ P.length →
    Vd p (staA p P us U next k).next (staA p P us U next k).tk ∧ (∀ t ∈ (staA p P us U next k).tk, t ∈ U ∨ next ≤ t.id) ∧ (∀ t ∈ U, t ∈ (staA p P us U next k).tk) ∧ (staA p P us U next k).tk.length ≤ 16 ∧ next ≤ (staA p P us U next k).next ∧ (staA p P us U next k).next ≤ next + k := by
 intro k
 induction k with
 | zero => exact fun _ => ⟨h, fun t ht => Or.inl ht, fun t ht => ht, hl, Int.le_refl _, by show next ≤ next + ((0 : Nat) : Int); omega⟩
 | succ k ih =>
  intro hk
  obtain ⟨h1, h2, h3, h4, h5, h6⟩ := ih (by omega)
  by_cases hs : skipB us P (staA p P us U next k).tk.length k
  ·rw [staA_skip hs]
   exact ⟨h1, h2, h3, h4, h5, by omega⟩
  ·rw [staA_go hs]
   obtain ⟨R, hR⟩ : ∃ R, staA p P us U next k = R := ⟨_, rfl⟩
   rw [hR] at h1 h2 h3 h4 h5 h6 hs ⊢
   dsimp only
   unfold skipB at hs
   have hy : plE (gp P k) = 0 := plsE_zero hP k (by omega)
   have hl0 : 0 < (lvOf (gp P k)).2 := Decidable.not_not.1 fun e => hs (Or.inr (Or.inl e))
   have hl16 : ¬ 16 ≤ R.tk.length := fun e => hs (Or.inr (Or.inr e))
   have hok : TkOk p (newT p R.next (gp P k) (lvOf (gp P k))) := TkOk.new hp hy ((lvOf_pos hy).1 hl0)
   have hid : (newT p R.next (gp P k) (lvOf (gp P k))).id = R.next := rfl
   obtain ⟨T, hT⟩ : ∃ T, newT p R.next (gp P k) (lvOf (gp P k)) = T := ⟨_, rfl⟩
   rw [hT] at hok hid ⊢
   refine ⟨⟨inc_add h1.inc fun a ha => by rw [hid]; exact (h1.id a ha).2, fun t ht => ?_, fun t ht => ?_⟩, fun t ht => ?_, fun t ht => List.mem_append_left _ (h3 t ht), ?_, by omega, by omega⟩
   ·rcases List.mem_append.1 ht with ht | ht
    ·have := h1.id t ht; omega
    ·rw [List.mem_singleton.1 ht, hid]; omega
   ·rcases List.mem_append.1 ht with ht | ht
    ·exact h1.ok t ht
    ·rw [List.mem_singleton.1 ht]; exact hok
   ·rcases List.mem_append.1 ht with ht | ht
    ·exact h2 t ht
    ·rw [List.mem_singleton.1 ht, hid]; exact Or.inr h5
   ·rw [List.length_append, List.length_singleton]; omega
structure Cyc (p : Par) (now next : Int) (L : List Tk) (P : List Pl) : Prop where
 par : ParOk p
 bn : 0 ≤ now ∧ now < 1073741824
 bx : 0 ≤ next ∧ next ≤ 1073741808
 len : L.length ≤ 16
 plen : P.length ≤ 16
 pls : plsE P = 0
 vL : Vd p next L
 vS : Vd p next (cyS p L).1
 iS : ∀ t ∈ (cyS p L).1, ∃ a ∈ L, t.id = a.id ∧ t.addr = a.addr
 lS : (cyS p L).1.length ≤ 16
 pr : PrOk p (cyS p L).1 P (cyP p L P)
 vU : Vd p next (cyU p L P).1
 iU : ∀ t ∈ (cyU p L P).1, ∃ a ∈ L, t.id = a.id
 vT : Vd p (cyX p next L P) (cyT p next L P)
 iT : ∀ t ∈ cyT p next L P, t ∈ (cyU p L P).1 ∨ next ≤ t.id
 uT : ∀ t ∈ (cyU p L P).1, t ∈ cyT p next L P
 lT : (cyT p next L P).length ≤ 16
 X : next ≤ cyX p next L P ∧ cyX p next L P ≤ next + 16
theorem Cyc.of {p : Par} {now next : Int} {L : List Tk} {P : List Pl} (h : cyE p now next L P = 0) : Cyc p now next L P := by
 obtain ⟨h1, h2, h3, h4⟩ := cyE_zero h
 obtain ⟨c1, c2, c3⟩ := ckE_zero h1
 obtain ⟨hp, hn, hx⟩ := headOk c1
 have vL := Vd.of c3
 obtain ⟨vS, iS⟩ := stp_vd vL (Nat.le_refl L.length)
 have lS : (cyS p L).1.length ≤ 16 := Nat.le_trans (stpA_len L.length) c2
 have pr : PrOk p (cyS p L).1 P (cyP p L P) := prsV_ok p (cyS p L).1 P
 have vS' : Vd p next (cyS p L).1 := vS
 have iS' : ∀ t ∈ (cyS p L).1, ∃ a ∈ L, t.id = a.id ∧ t.addr = a.addr := fun t ht => by
  obtain ⟨j, hj, e⟩ := iS t ht
  exact ⟨gk L j, gk_mem hj, e⟩
 obtain ⟨vU, iU⟩ := upd_vd vS' hp h4 pr (Nat.le_refl (cyS p L).1.length)
 have vU' : Vd p next (cyU p L P).1 := vU
 have lU : (cyU p L P).1.length ≤ 16 := Nat.le_trans (upd_len (cyS p L).1.length) lS
 have iU' : ∀ t ∈ (cyU p L P).1, ∃ a ∈ L, t.id = a.id := fun t ht => by
  obtain ⟨j, hj, e⟩ := iU t ht
  obtain ⟨a, ha, e2, -⟩ := iS' (gk (cyS p L).1 j) (gk_mem hj)
  exact ⟨a, ha, e.trans e2⟩
 obtain ⟨t1, t2, t3, t4, t5, t6⟩ := sta_vd (us := usB (cyP p L P)) vU' hp h4 hx.1 lU (Nat.le_refl P.length)
 exact ⟨hp, by omega, by omega, c2, h3, h4, vL, vS', iS', lS, pr, vU', iU', t1, t2, t3, t4, t5, by have : (cyX p next L P) ≤ next + P.length := t6; omega⟩
theorem Cyc.ck {p : Par} {now next : Int} {L : List Tk} {P : List Pl} (h : Cyc p now next L P) : ckE p (now + 1) (cyX p next L P) (cyT p next L P) = 0 := by
 have hn := h.bn
 have hx := h.X
 have hx2 := h.bx
 rw [ckE_list (headNot ⟨h.par, by omega, by omega⟩) (by have := h.lT; omega)]
 exact h.vT.ck
theorem Cyc.ck0 {p : Par} {now next : Int} {L : List Tk} {P : List Pl} (h : Cyc p now next L P) : ckE p now next L = 0 := by
 have hn := h.bn
 have hx2 := h.bx
 rw [ckE_list (headNot ⟨h.par, by omega, by omega⟩) (by have := h.len; omega)]
 exact h.vL.ck
theorem Cyc.old {p : Par} {now next : Int} {L : List Tk} {P : List Pl} (h : Cyc p now next L P) {t : Tk} (ht : t ∈ cyT p next L P) : (∃ a ∈ L, a.id = t.id) ↔ t.id < next := by
 constructor
 ·rintro ⟨a, ha, e⟩
  have := (h.vL.id a ha).2
  omega
 ·intro hlt
  rcases h.iT t ht with hu | hn
  ·obtain ⟨a, ha, e⟩ := h.iU t hu
   exact ⟨a, ha, e.symm⟩
  ·omega
/-! ### events -/
structure EvOk (n : Nat) (e : Ev) : Prop where
 kind : 1 ≤ e.kind ∧ e.kind ≤ 5
 neg : e.plot < 0 ↔ (e.kind = 3 ∨ e.kind = 4)
 lo : -1 ≤ e.plot
 hi : e.plot < n
def hitB (y : Nat) (e : Ev) : Bool := (e.kind == 1 || e.kind == 5) && e.plot == (y : Int)
def cnt (V : List Ev) (y : Nat) : Nat := V.countP (hitB y)
theorem cnt_add (V W : List Ev) (y : Nat) : cnt (V ++ W) y = cnt V y + cnt W y := List.countP_append
theorem cnt_one (e : Ev) (y : Nat) : cnt [e] y = if hitB y e then 1 else 0 := by
 unfold cnt
 rw [List.countP_cons, List.countP_nil, Nat.zero_add]
theorem hitB_iff {y : Nat} {e : Ev} : hitB y e = true ↔ (e.kind = 1 ∨ e.kind = 5) ∧ e.plot = y := by
 unfold hitB
 simp
theorem PrOk.inj {p : Par} {L : List Tk} {P : List Pl} {l : List (Nat × Nat)} (h : PrOk p L P l) {i j y : Nat} (hi : (i, y) ∈ l) (hj : (j, y) ∈ l) : i = j := by
 obtain ⟨a, ha, ea⟩ := List.getElem_of_mem hi
 obtain ⟨b, hb, eb⟩ := List.getElem_of_mem hj
 by_cases c : a = b
 ·subst c
  rw [ea] at eb
  exact (Prod.mk.inj eb).1
 ·exact absurd (by rw [ea, eb]) (h.dis a b ha hb c)
theorem stp_evs {p : Par} {L : List Tk} : ∀ {k : Nat}, ∀ e ∈ (stpA p L k).2, e.kind = 4 ∧ e.plot = -1 := by
 intro k
 induction k with
 | zero => intro e he; cases he
 | succ k ih =>
  intro e he
  cases hb : emptyB (stpT p (gk L k)).lo (stpT p (gk L k)).hi with
  | true =>
   rw [stpA_none hb] at he
   rcases List.mem_append.1 he with h | h
   ·exact ih e h
   ·rw [List.mem_singleton.1 h]; exact ⟨rfl, rfl⟩
  | false =>
   rw [stpA_some hb] at he
   exact ih e he
theorem cnt_none {V : List Ev} {y : Nat} (h : ∀ e ∈ V, ¬ hitB y e = true) : cnt V y = 0 := List.countP_eq_zero.2 h
theorem stp_cnt {p : Par} {L : List Tk} {k y : Nat} : cnt (stpA p L k).2 y = 0 :=
 cnt_none fun e he hh => by
  have h1 := (stp_evs e he).1
  have h2 := (hitB_iff.1 hh).1
  omega
theorem updE1_none (p : Par) (t : Tk) : updE1 p t none = [⟨4, t.id, -1⟩] ∨ updE1 p t none = [⟨3, t.id, -1⟩] := by
 have e : updE1 p t none = (if p.most ≤ t.misses + 1 then [⟨4, t.id, -1⟩] else [⟨3, t.id, -1⟩]) := rfl
 rw [e]
 split
 ·exact Or.inl rfl
 ·exact Or.inr rfl
theorem updE1_some (p : Par) (t : Tk) (y : Nat) : updE1 p t (some y) = [⟨1, t.id, y⟩, ⟨2, t.id, y⟩] ∨ updE1 p t (some y) = [⟨1, t.id, y⟩] := by
 have e : updE1 p t (some y) = (if t.firm = false ∧ p.need ≤ hit1 t then [⟨1, t.id, (y : Int)⟩, ⟨2, t.id, (y : Int)⟩] else [⟨1, t.id, (y : Int)⟩]) := rfl
 rw [e]
 split
 ·exact Or.inl rfl
 ·exact Or.inr rfl
theorem upd_evs {p : Par} {P : List Pl} {of : Nat → Option Nat} {L : List Tk} : ∀ {k : Nat}, ∀ e ∈ (updA p P of L k).2, (∃ i, i < k ∧ of i = none ∧ (e.kind = 3 ∨ e.kind = 4) ∧ e.plot = -1) ∨ ∃ i y, i < k ∧ of i = some y ∧ e.id = (gk L i).id ∧ e.plot = y ∧ (e.kind = 1 ∨ e.kind = 2) := by
 intro k
 induction k with
 | zero => intro e he; cases he
 | succ k ih =>
  intro e he
  have he : e ∈ (updA p P of L k).2 ++ updE1 p (gk L k) (of k) := he
  rcases List.mem_append.1 he with h | h
  ·rcases ih e h with ⟨i, a, b⟩ | ⟨i, y, a, b⟩
   ·exact Or.inl ⟨i, by omega, b⟩
   ·exact Or.inr ⟨i, y, by omega, b⟩
  ·cases ho : of k with
   | none =>
    rw [ho] at h
    refine Or.inl ⟨k, by omega, ho, ?_⟩
    rcases updE1_none p (gk L k) with q | q <;> rw [q] at h <;> rw [List.mem_singleton.1 h]
    ·exact ⟨Or.inr rfl, rfl⟩
    ·exact ⟨Or.inl rfl, rfl⟩
   | some y =>
    rw [ho] at h
    refine Or.inr ⟨k, y, by omega, ho, ?_⟩
    rcases updE1_some p (gk L k) y with q | q <;> rw [q] at h
    ·rcases List.mem_cons.1 h with h | h
     ·rw [h]; exact ⟨rfl, rfl, Or.inl rfl⟩
     ·rw [List.mem_singleton.1 h]; exact ⟨rfl, rfl, Or.inr rfl⟩
    ·rw [List.mem_singleton.1 h]; exact ⟨rfl, rfl, Or.inl rfl⟩
theorem hit_k {y : Nat} {k i q : Int} (h : k ≠ 1 ∧ k ≠ 5) : hitB y ⟨k, i, q⟩ = false := by
 cases e : hitB y ⟨k, i, q⟩ with
 | false => rfl
 | true => have := (hitB_iff.1 e).1; dsimp only at this; omega
theorem updE1_cnt (p : Par) (t : Tk) (o : Option Nat) (y : Nat) : cnt (updE1 p t o) y = if o = some y then 1 else 0 := by
 cases o with
 | none =>
  rw [if_neg (by intro e; cases e)]
  rcases updE1_none p t with q | q <;> rw [q, cnt_one, hit_k (by decide)] <;> rfl
 | some z =>
  have h1 : hitB y ⟨1, t.id, z⟩ = decide (z = y) := by
   unfold hitB
   by_cases c : z = y
   ·subst c; simp
   ·have : ¬ (z : Int) = (y : Int) := by omega
    simp [c, this]
  have h2 : cnt [⟨1, t.id, (z : Int)⟩] y = if some z = some y then 1 else 0 := by
   rw [cnt_one, h1]
   by_cases c : z = y
   ·subst c; simp
   ·simp [c]
  rcases updE1_some p t z with q | q <;> rw [q]
  ·rw [show ([⟨1, t.id, (z : Int)⟩, ⟨2, t.id, (z : Int)⟩] : List Ev) = [⟨1, t.id, (z : Int)⟩] ++ [⟨2, t.id, (z : Int)⟩] from rfl, cnt_add, h2, cnt_one, hit_k (by decide)]
   simp
  ·exact h2
theorem upd_cnt {p : Par} {P : List Pl} {l : List (Nat × Nat)} {L L0 : List Tk} (hl : PrOk p L0 P l) {y : Nat} : ∀ k, cnt (updA p P (ofF l) L k).2 y = 0 ∨ (cnt (updA p P (ofF l) L k).2 y = 1 ∧ ∃ i, i < k ∧ ofF l i = some y) := by
 intro k
 induction k with
 | zero => exact Or.inl rfl
 | succ k ih =>
  have e : cnt (updA p P (ofF l) L (k + 1)).2 y = cnt (updA p P (ofF l) L k).2 y + if ofF l k = some y then 1 else 0 := by
   rw [updA_succ]
   show cnt ((updA p P (ofF l) L k).2 ++ updE1 p (gk L k) (ofF l k)) y = _
   rw [cnt_add, updE1_cnt]
  rw [e]
  by_cases c : ofF l k = some y
  ·rw [if_pos c]
   rcases ih with h | ⟨h, i, hi, hy⟩
   ·exact Or.inr ⟨by omega, k, by omega, c⟩
   ·have := hl.inj (ofF_some c) (ofF_some hy)
    omega
  ·rw [if_neg c]
   rcases ih with h | ⟨h, i, hi, hy⟩
   ·exact Or.inl (by omega)
   ·exact Or.inr ⟨by omega, i, by omega, hy⟩
theorem sta_evs {p : Par} {P : List Pl} {us : Nat → Bool} {L : List Tk} {next : Int} : ∀ {k : Nat}, ∀ e ∈ (staA p P us L next k).ev, e.kind = 5 ∧ ∃ y : Nat, y < k ∧ e.plot = y ∧ us y = false := by
 intro k
 induction k with
 | zero => intro e he; cases he
 | succ k ih =>
  intro e he
  by_cases hs : skipB us P (staA p P us L next k).tk.length k
  ·rw [staA_skip hs] at he
   obtain ⟨a, y, b, c⟩ := ih e he
   exact ⟨a, y, by omega, c⟩
  ·rw [staA_go hs] at he
   rcases List.mem_append.1 he with h | h
   ·obtain ⟨a, y, b, c⟩ := ih e h
    exact ⟨a, y, by omega, c⟩
   ·rw [List.mem_singleton.1 h]
    refine ⟨rfl, k, by omega, rfl, ?_⟩
    cases q : us k with
    | false => rfl
    | true => exact absurd (Or.inl q) hs
theorem sta_cnt {p : Par} {P : List Pl} {us : Nat → Bool} {L : List Tk} {next : Int} {y : Nat} : ∀ k, cnt (staA p P us L next k).ev y = 0 ∨ (cnt (staA p P us L next k).ev y = 1 ∧ y < k ∧ us y = false) := by
 intro k
 induction k with
 | zero => exact Or.inl rfl
 | succ k ih =>
  by_cases hs : skipB us P (staA p P us L next k).tk.length k
  ·rw [staA_skip hs]
   rcases ih with h | ⟨h, a, b⟩
   ·exact Or.inl h
   ·exact Or.inr ⟨h, by omega, b⟩
  ·rw [staA_go hs]
   show cnt ((staA p P us L next k).ev ++ [⟨5, (staA p P us L next k).next, (k : Int)⟩]) y = 0 ∨ (cnt ((staA p P us L next k).ev ++ [⟨5, (staA p P us L next k).next, (k : Int)⟩]) y = 1 ∧ y < k + 1 ∧ us y = false)
   rw [cnt_add, cnt_one]
   have hu : us k = false := by
    cases q : us k with
    | false => rfl
    | true => exact absurd (Or.inl q) hs
   cases c : hitB y ⟨5, (staA p P us L next k).next, (k : Int)⟩ with
   | true =>
    have := (hitB_iff.1 c).2
    have e : (k : Int) = y := this
    have e : k = y := by omega
    subst e
    rcases ih with h | ⟨h, a, b⟩
    ·exact Or.inr ⟨by rw [h]; rfl, by omega, hu⟩
    ·omega
   | false =>
    rcases ih with h | ⟨h, a, b⟩
    ·exact Or.inl (by rw [h]; rfl)
    ·exact Or.inr ⟨by rw [h]; rfl, by omega, b⟩
theorem Cyc.cnt {p : Par} {now next : Int} {L : List Tk} {P : List Pl} (h : Cyc p now next L P) (y : Nat) : cnt (cyV p next L P) y ≤ 1 := by
 have e : TrkMath.cnt (cyV p next L P) y = TrkMath.cnt (cyS p L).2 y + TrkMath.cnt (cyU p L P).2 y + TrkMath.cnt (cyN p next L P).ev y := by
  unfold cyV
  rw [cnt_add, cnt_add]
 have e1 : TrkMath.cnt (cyS p L).2 y = 0 := stp_cnt
 rw [e, e1]
 rcases upd_cnt (L := (cyS p L).1) h.pr (y := y) (cyS p L).1.length with a | ⟨a, i, -, hy⟩ <;> rcases sta_cnt (p := p) (P := P) (us := usB (cyP p L P)) (L := (cyU p L P).1) (next := next) (y := y) P.length with b | ⟨b, -, hn⟩
 ·have a : TrkMath.cnt (cyU p L P).2 y = 0 := a
  have b : TrkMath.cnt (cyN p next L P).ev y = 0 := b
  omega
 ·have a : TrkMath.cnt (cyU p L P).2 y = 0 := a
  have b : TrkMath.cnt (cyN p next L P).ev y = 1 := b
  omega
 ·have a : TrkMath.cnt (cyU p L P).2 y = 1 := a
  have b : TrkMath.cnt (cyN p next L P).ev y = 0 := b
  omega
 ·have := h.pr.us.2 ⟨i, hy⟩
  rw [hn] at this
  cases this
theorem Cyc.ev {p : Par} {now next : Int} {L : List Tk} {P : List Pl} (h : Cyc p now next L P) : ∀ e ∈ cyV p next L P, EvOk P.length e := by
 intro e he
 unfold cyV at he
 rcases List.mem_append.1 he with he | he
 ·rcases List.mem_append.1 he with he | he
  ·obtain ⟨a, b⟩ := stp_evs e he
   exact ⟨by omega, by omega, by omega, by omega⟩
  ·rcases upd_evs e he with ⟨i, -, -, a, b⟩ | ⟨i, y, -, hy, -, a, b⟩
   ·exact ⟨by omega, by omega, by omega, by omega⟩
   ·have := h.pr.col (i, y) (ofF_some hy)
    dsimp only at this
    exact ⟨by omega, by omega, by omega, by omega⟩
 ·obtain ⟨a, y, hy, b, -⟩ := sta_evs e he
  exact ⟨by omega, by omega, by omega, by omega⟩
theorem upd_mem {p : Par} {P : List Pl} {of : Nat → Option Nat} {L : List Tk} : ∀ {k i y : Nat}, i < k → of i = some y → updT p (gk L i) (gp P y) (lvOf (gp P y)) ∈ (updA p P of L k).1 := by
 intro k
 induction k with
 | zero => intro i y h; omega
 | succ k ih =>
  intro i y hi hy
  show _ ∈ (updA p P of L k).1 ++ updT1 p P (gk L k) (of k)
  by_cases c : i = k
  ·subst c
   rw [hy]
   exact List.mem_append_right _ (List.mem_singleton.2 rfl)
  ·exact List.mem_append_left _ (ih (by omega) hy)
structure Keeps (P : List Pl) (a b : Tk) (y : Nat) : Prop where
 lt : y < P.length
 addr : b.addr = if a.addr < 0 then (gp P y).addr else a.addr
 same : ¬ a.addr < 0 → (gp P y).addr < 0 ∨ (gp P y).addr = a.addr
theorem Cyc.keeps {p : Par} {now next : Int} {L : List Tk} {P : List Pl} (h : Cyc p now next L P) {e : Ev} (he : e ∈ cyV p next L P) (hk : e.kind = 1) : ∃ a ∈ L, ∃ b ∈ cyT p next L P, ∃ y : Nat, a.id = e.id ∧ b.id = e.id ∧ e.plot = y ∧ Keeps P a b y := by
 unfold cyV at he
 rcases List.mem_append.1 he with he | he
 ·rcases List.mem_append.1 he with he | he
  ·have := (stp_evs e he).1
   omega
  ·rcases upd_evs e he with ⟨i, -, -, a, b⟩ | ⟨i, y, hi, hy, hid, hpl, -⟩
   ·omega
   ·have hc := h.pr.col (i, y) (ofF_some hy)
    have hf := h.pr.fit (i, y) (ofF_some hy)
    dsimp only at hc hf
    have hfar := (costV_fit hf).1
    obtain ⟨s, hs⟩ : ∃ s, gk (cyS p L).1 i = s := ⟨_, rfl⟩
    obtain ⟨a, ha, e1, e2⟩ := h.iS s (by rw [← hs]; exact gk_mem hi)
    have hb := h.uT _ (upd_mem (p := p) (P := P) (of := ofF (cyP p L P)) (L := (cyS p L).1) hi hy)
    rw [hs] at hid hfar hb
    refine ⟨a, ha, _, hb, y, by rw [hid, e1], by rw [updT_id, hid], hpl, hc, ?_, ?_⟩
    ·show (if s.addr < 0 then (gp P y).addr else s.addr) = _
     rw [e2]
    ·intro hn
     unfold farB bothB at hfar
     rw [← e2] at hn ⊢
     rcases Int.lt_or_le (gp P y).addr 0 with c | c
     ·exact Or.inl c
     ·refine Or.inr ?_
      rcases Decidable.em (s.addr = (gp P y).addr) with d | d
      ·exact d.symm
      ·exact absurd (Or.inr ⟨⟨by omega, c⟩, d⟩) hfar
 ·have := (sta_evs e he).1
  omega
end TrkMath
end
