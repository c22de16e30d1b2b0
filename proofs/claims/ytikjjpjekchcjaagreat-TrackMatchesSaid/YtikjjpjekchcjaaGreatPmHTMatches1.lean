/-
  TrkMl
-/
import Derived.Test.YtikjjpjekchcjaaGreatPm47
import Derived.Test.YtikjjpjekchcjaaGreatPm48
set_option linter.all false
set_option maxRecDepth 100000
set_option maxHeartbeats 64000000
namespace Go.Proofs.YtikjjpjekchcjaaGreat
open Go.RowKit TrkMath MyHeap MyOwn MyCopy
theorem Kp.less {w W : World} {l l' : List (Nat × Obj)} (h : Kp w W l) (hl : ∀ x ∈ l', x ∈ l) : Kp w W l' := ⟨h.B, fun x hx => h.H x (hl x hx)⟩
theorem Kp.ef {S : Nat → Prop} {w W W' : World} {l : List (Nat × Obj)} (h : Kp w W l) (k : Ef S W W') (hs : ∀ j, S j → w.heap.size ≤ j) (hl : ∀ x ∈ l, ¬ S x.1) : Kp w W' l :=
 ⟨h.B.trans (k.below h.B.size hs), fun x hx => (k.keep x.1 (aB (h.H x hx)) (hl x hx)).trans (h.H x hx)⟩
def CyL (q : Par) (nw nx : Int) (LT : List Tk) (n' : Nat) (V : List Ev) (m' : Nat) (E : Int) (w : World) (e : Ending) (w' : World) : Prop :=
 ∃ (a' ea : Option Addr) (c' ec : Nat) (M' : List TB), e = .returned (.tuple #[.agg #[.int .i64 q.gate, .int .i64 q.need, .int .i64 q.most, .int .i64 q.pull, .int .i64 nw, .int .i64 nx, .slice a' n' c'], .slice ea m' ec, .int .i64 E]) ∧ Lf w.heap.size [(Value.slice ea m' ec).ownBlock] (.slice a' n' c') M' w' ∧ M'.length = n' ∧ fsts M' = LT ∧ EvI w' ea m' V ∧ Below w.heap.size w w'
theorem CyPost.L {ty : TypeId} {R : TbR} {V : List Ev} {E : Int} {w w' : World} {e : Ending} {q : Par} {nw nx : Int} {LT : List Tk} {n' m' : Nat} (h : CyPost ty R V E w e w') (hR : R = ⟨q, nw, nx, LT⟩) (hn : LT.length = n') (hm : V.length = m') (h1 : n' ≤ 1000) : CyL q nw nx LT n' V m' E w e w' := by
 subst hR hn hm
 obtain ⟨tV, eV, M', rfl, hL, hM', hE, hB⟩ := h
 simp only [] at hM'
 have hlen : M'.length = LT.length := by rw [← aY, hM']
 obtain ⟨a', c', rfl⟩ := aU hL.row
 obtain ⟨ea, ec, rfl, hEv⟩ := o9 hE
 rw [hlen] at hL ⊢
 exact ⟨a', ea, c', ec, M', rfl, hL, hlen, hM', hEv, hB⟩
theorem staA_len {p : Par} {P : List Pl} {us : Nat → Bool} {L : List Tk} {next : Int} (h : L.length ≤ 16) : ∀ k, (staA p P us L next k).tk.length ≤ 16 := by
 intro k
 induction k with
 | zero => exact h
 | succ k ih =>
  by_cases hs : skipB us P (staA p P us L next k).tk.length k
  ·rw [cZ hs]; exact ih
  rw [kD hs]
  have : ¬ 16 ≤ (staA p P us L next k).tk.length := fun e => hs (Or.inr (Or.inr e))
  show ((staA p P us L next k).tk ++ [_]).length ≤ 16
  rw [List.length_append, List.length_singleton]
  omega
theorem cyR_len (p : Par) (now next : Int) (L : List Tk) (P : List Pl) : (cyR p now next L P).tk.length ≤ 16 := by
 by_cases h : cyE p now next L P = 0
 ·rw [(jQ h).1]
  obtain ⟨hck, -⟩ := mP h
  obtain ⟨-, -, -, hl, -⟩ := pW hck
  refine staA_len ?_ _
  have h1 := j4 (p := p) (P := P) (of := ofF (cyP p L P)) (L := (cyS p L).1) (cyS p L).1.length
  have h2 := gG (p := p) (L := L) L.length
  show (cyU p L P).1.length ≤ 16
  unfold cyU
  exact Nat.le_trans h1 (Nat.le_trans h2 hl)
 rw [(eK h).1]
 exact Nat.zero_le _
theorem cyW_len (p : Par) (now next : Int) (L : List Tk) (P : List Pl) : (cyW p now next L P).length ≤ 100 := by
 by_cases h : cyE p now next L P = 0
 ·rw [(jQ h).2]
  obtain ⟨hck, -, hp, -⟩ := mP h
  obtain ⟨-, -, -, hl, -⟩ := pW hck
  have h1 := iP (p := p) (L := L) L.length
  have h2 := iM (p := p) (P := P) (of := ofF (cyP p L P)) (L := (cyS p L).1) (cyS p L).1.length
  have h3 := gG (p := p) (L := L) L.length
  have h4 := (oU (p := p) (P := P) (us := usB (cyP p L P)) (L := (cyU p L P).1) (next := next) P.length).2.2
  have e1 : (cyS p L).2.length ≤ L.length := h1
  have e2 : (cyU p L P).2.length ≤ 2 * (cyS p L).1.length := h2
  have e3 : (cyS p L).1.length ≤ L.length := h3
  have e4 : (cyN p next L P).ev.length ≤ P.length := h4
  show ((cyS p L).2 ++ (cyU p L P).2 ++ (cyN p next L P).ev).length ≤ 100
  rw [List.length_append, List.length_append]
  omega
 rw [(eK h).2]
 exact Nat.zero_le _
theorem oP (p : Par) (now next id : Int) (a pa : Option Addr) (n c pn pc : Nat) (M : List TB) (P : List Pl) (w : World) (hT : TbI w a n M) (hP : Pls w pa pn P) (hnil : pa = none → pn = 0 ∧ pc = 0) :
    Calls Tryz.prog 3 #[.agg #[.int .i64 p.gate, .int .i64 p.need, .int .i64 p.most, .int .i64 p.pull, .int .i64 now, .int .i64 next, .slice a n c], .slice pa pn pc, .int .i64 id] w (BoolB true w) := by
 have HT := qh hT
 have HP := qh (And.intro hP hnil)
 have K := qh ((Kp.nil w).alloc #[.int .i64 p.gate, .int .i64 p.need, .int .i64 p.most, .int .i64 p.pull, .int .i64 now, .int .i64 next, .slice a n c] 26)
 have hbn := hT.T.bound
 have hbp := hP.bound
 clear hT hP hnil
 go_enter Tryz.func3, Tryz.ntmps3
 go_upto_region 1 with fail
 obtain ⟨b3, hb3⟩ : ∃ b, b = w.heap.size := ⟨_, rfl⟩
 rw [← hb3] at K
 rw [← hb3]
 have Hb3 := qh hb3
 clear hb3
 generalize w.alloc (.cells #[.int .i64 p.gate, .int .i64 p.need, .int .i64 p.most, .int .i64 p.pull, .int .i64 now, .int .i64 next, .slice a n c] 26) = wa at *
 go_cut [39] from 21 to 39 (fun s39 wx => ∃ (b : Bool) (wz : World), s39 = .bool b ∧ wz = wx ∧ Kp w wz [(b3, Obj.cells #[.int .i64 p.gate, .int .i64 p.need, .int .i64 p.most, .int .i64 p.pull, .int .i64 now, .int .i64 next, .slice a n c] 26 (0, 0))] ∧ (b = false → n ≤ 20 ∧ pn ≤ 20 ∧ ∀ i, i < n → (gt M i).2.nL ≤ 210 ∧ (gt M i).2.nH ≤ 210))
 case first =>
  obtain ⟨t0, t1, t2, t3, t4, t5, t6⟩ := aK (K.out.H _ List.mem_cons_self)
  have tl := aB (K.out.H _ List.mem_cons_self)
  have hlg := longL_call p now next a pa n c pn pc M wa (HT.out.below K.out.B)
  go_wp2_with fail
  refine hlg.mono ?_; rintro e w1 ⟨b, rfl, hb, hlg2⟩
  replace K := qh (K.out.below hb)
  clear hb hlg
  clear t0 t1 t2 t3 t4 t5 t6 tl
  cases b with
  | true =>
   go_wp2_with fail
   go_meet
   exact ⟨true, _, rfl, rfl, K.out, fun e => (by cases e)⟩
  | false =>
   have HLg := qh (hlg2 rfl)
   clear hlg2
   obtain ⟨t0, t1, t2, t3, t4, t5, t6⟩ := aK (K.out.H _ List.mem_cons_self)
   have tl := aB (K.out.H _ List.mem_cons_self)
   by_cases h8 : 8 < pn
   ·have h8i : (8 : Int) < (pn : Int) := by omega
    by_cases h16 : pn ≤ 16
    ·have h16i : (pn : Int) ≤ 16 := by omega
     by_cases h1 : 1 < n
     ·have h1i : (1 : Int) < (n : Int) := by omega
      go_wp2_with fail
      go_meet
      exact ⟨true, _, rfl, rfl, K.out, fun e => (by cases e)⟩
     have h1i : ¬ (1 : Int) < (n : Int) := by omega
     go_wp2_with fail
     go_meet
     exact ⟨false, _, by rw [decide_eq_false (by omega)], rfl, K.out, fun _ => HLg.out⟩
    have h16i : ¬ (pn : Int) ≤ 16 := by omega
    go_wp2_with fail
    go_meet
    exact ⟨false, _, rfl, rfl, K.out, fun _ => HLg.out⟩
   have h8i : ¬ (8 : Int) < (pn : Int) := by omega
   go_wp2_with fail
   go_meet
   exact ⟨false, _, rfl, rfl, K.out, fun _ => HLg.out⟩
 case rest =>
  obtain ⟨b, wx, rfl, rfl, hK, hlg⟩ := hcut
  clear K
  have K := qh hK
  clear hK
  cases b with
  | true =>
   go_wp2_with fail
   refine (lR _).mono ?_; rintro e w99 ⟨rfl, hb⟩
   have HBf := qh (K.out.B.trans (hb.mono K.out.B.size))
   clear hb
   go_wp2_with fail
   go_ret
   exact ⟨rfl, HBf.out⟩
  | false =>
   have HLg := qh (hlg rfl)
   clear hlg
   obtain ⟨t0, t1, t2, t3, t4, t5, t6⟩ := aK (K.out.H _ List.mem_cons_self)
   have tl := aB (K.out.H _ List.mem_cons_self)
   have ho := own_call p now next a n c M wx (HT.out.below K.out.B) (by have := HLg.out.1; omega) (fun k hk => by have := HLg.out.2.2 k hk; omega)
   go_wp2_with fail
   refine ho.mono ?_; rintro e w1 ⟨a1, c1, M1, rfl, hJ, hM1, hb⟩
   have HM1 := qh hM1
   have HI1 := qh hJ.I
   replace K := qh (K.out.below hb)
   clear hb hJ hM1 ho
   clear t0 t1 t2 t3 t4 t5 t6 tl
   have hcp := k7 pa pn pc P w1 (HP.out.1.below K.out.B) (by have := HLg.out.2.1; omega) HP.out.2
   go_wp2_with fail
   refine hcp.mono ?_; rintro e w2 ⟨a2, c2, rfl, hP2, -, hb⟩
   replace K := qh (K.out.below hb)
   replace HI1 := qh (HI1.out.below hb)
   have HP2 := qh hP2
   clear hb hP2 hcp
   go_upto_region 4 with fail
   obtain ⟨b7, hb7⟩ : ∃ b, b = w2.heap.size := ⟨_, rfl⟩
   have KB := qh (show Kp w (w2.alloc (.cells #[.int .i64 p.gate, .int .i64 p.need, .int .i64 p.most, .int .i64 p.pull, .int .i64 now, .int .i64 next, .slice a1 n c1] 26)) [(b7, Obj.cells #[.int .i64 p.gate, .int .i64 p.need, .int .i64 p.most, .int .i64 p.pull, .int .i64 now, .int .i64 next, .slice a1 n c1] 26 (0, 0)), (b3, Obj.cells #[.int .i64 p.gate, .int .i64 p.need, .int .i64 p.most, .int .i64 p.pull, .int .i64 now, .int .i64 next, .slice a n c] 26 (0, 0))] from by rw [hb7]; exact K.out.alloc #[.int .i64 p.gate, .int .i64 p.need, .int .i64 p.most, .int .i64 p.pull, .int .i64 now, .int .i64 next, .slice a1 n c1] 26)
   have HA := qh (aC w2 (.cells #[.int .i64 p.gate, .int .i64 p.need, .int .i64 p.most, .int .i64 p.pull, .int .i64 now, .int .i64 next, .slice a1 n c1] 26))
   replace HI1 := qh (HI1.out.below HA.out)
   replace HP2 := qh (HP2.out.below HA.out)
   have HC := qh (show b7 < (w2.alloc (.cells #[.int .i64 p.gate, .int .i64 p.need, .int .i64 p.most, .int .i64 p.pull, .int .i64 now, .int .i64 next, .slice a1 n c1] 26)).heap.size from by rw [hb7]; simp)
   have Hb37 := qh (show b3 < b7 from by rw [hb7]; exact aB (K.out.H _ List.mem_cons_self))
   have Hb7 := qh hb7
   clear K
   have K := KB
   clear KB
   rw [← hb7]
   generalize w2.alloc (.cells #[.int .i64 p.gate, .int .i64 p.need, .int .i64 p.most, .int .i64 p.pull, .int .i64 now, .int .i64 next, .slice a1 n c1] 26) = w3 at *
   clear hb7 HA
   have K3 := qh (show w.heap.size ≤ w3.heap.size from K.out.B.size)
   obtain ⟨⟨q, nw, nx, LT⟩, hR⟩ : ∃ R, cyR p now next (fsts M) P = R := ⟨_, rfl⟩
   obtain ⟨E, hE⟩ : ∃ E, cyE p now next (fsts M) P = E := ⟨_, rfl⟩
   obtain ⟨V, hV⟩ : ∃ V, cyW p now next (fsts M) P = V := ⟨_, rfl⟩
   obtain ⟨m', hm'⟩ : ∃ k, V.length = k := ⟨_, rfl⟩
   obtain ⟨n', hn'⟩ : ∃ k, LT.length = k := ⟨_, rfl⟩
   have hlen : n' ≤ 1000 := by
    have := cyR_len p now next (fsts M) P
    rw [hR] at this
    simp only [] at this
    omega
   have HLen := qh hlen
   have HEb := qh (show m' ≤ 1000 from by
    have := cyW_len p now next (fsts M) P
    rw [hV, hm'] at this
    omega)
   have HC1 := qh (show Calls Tryz.prog 8 #[.agg #[.int .i64 p.gate, .int .i64 p.need, .int .i64 p.most, .int .i64 p.pull, .int .i64 now, .int .i64 next, .slice a1 n c1], .slice a2 pn c2] w3 (CyL q nw nx LT n' V m' E w3) from by
    have h := iC p now next a1 n c1 a2 pn c2 M1 P w3 HI1.out.T HI1.out.B HP2.out
    rw [HM1.out, hR, hE, hV] at h
    exact h.mono fun e w' hp => hp.L rfl hn' hm' hlen)
   have HC2 := qh (show ∀ W : World, Below w.heap.size w W → Calls Tryz.prog 9 #[.agg #[.int .i64 p.gate, .int .i64 p.need, .int .i64 p.most, .int .i64 p.pull, .int .i64 now, .int .i64 next, .slice a n c], .slice pa pn pc] W (CyL q nw nx LT n' V m' E W) from fun W hB => by
    have h := pI p now next a n c pa pn pc M P W (HT.out.T.below hB) (fun k hk => (HT.out.B k hk).below hB) (HP.out.1.below hB)
    rw [hR, hE, hV] at h
    exact h.mono fun e w' hp => hp.L rfl hn' hm' hlen)
   clear hR hE hV hm' hn' hlen
   obtain ⟨s0, s1, s2, s3, s4, s5, s6⟩ := aK (K.out.H _ List.mem_cons_self)
   have sl := aB (K.out.H _ List.mem_cons_self)
   go_wp2_with fail
   refine HC1.out.mono ?_; rintro e w4 ⟨a3, e3, c3, ec3, M3, rfl, hL, hl3, hM3, hEv, hb⟩
   have HLf := qh (And.intro hL (And.intro hl3 hM3))
   have HB34 := qh hb
   have HEv3 := qh hEv
   replace K := qh (K.out.below hb)
   clear hb hL hl3 hM3 hEv HC1
   clear s0 s1 s2 s3 s4 s5 s6 sl
   go_upto_region 5 with fail
   obtain ⟨b9, hb9⟩ : ∃ b, b = w4.heap.size := ⟨_, rfl⟩
   have KB := qh (show Kp w (w4.alloc (.cells #[.int .i64 q.gate, .int .i64 q.need, .int .i64 q.most, .int .i64 q.pull, .int .i64 nw, .int .i64 nx, .slice a3 n' c3] 26)) [(b9, Obj.cells #[.int .i64 q.gate, .int .i64 q.need, .int .i64 q.most, .int .i64 q.pull, .int .i64 nw, .int .i64 nx, .slice a3 n' c3] 26 (0, 0)), (b7, Obj.cells #[.int .i64 p.gate, .int .i64 p.need, .int .i64 p.most, .int .i64 p.pull, .int .i64 now, .int .i64 next, .slice a1 n c1] 26 (0, 0)), (b3, Obj.cells #[.int .i64 p.gate, .int .i64 p.need, .int .i64 p.most, .int .i64 p.pull, .int .i64 now, .int .i64 next, .slice a n c] 26 (0, 0))] from by rw [hb9]; exact K.out.alloc #[.int .i64 q.gate, .int .i64 q.need, .int .i64 q.most, .int .i64 q.pull, .int .i64 nw, .int .i64 nx, .slice a3 n' c3] 26)
   have HA := qh (aC w4 (.cells #[.int .i64 q.gate, .int .i64 q.need, .int .i64 q.most, .int .i64 q.pull, .int .i64 nw, .int .i64 nx, .slice a3 n' c3] 26))
   have HB45 := qh HA.out
   have Hb9 := qh hb9
   clear K
   have K := KB
   clear KB
   rw [← hb9]
   generalize w4.alloc (.cells #[.int .i64 q.gate, .int .i64 q.need, .int .i64 q.most, .int .i64 q.pull, .int .i64 nw, .int .i64 nx, .slice a3 n' c3] 26) = w5 at *
   clear hb9 HA
   obtain ⟨t0, t1, t2, t3, t4, t5, t6⟩ := aK (K.out.H _ (List.mem_cons_of_mem _ (List.mem_cons_of_mem _ List.mem_cons_self)))
   have tl := aB (K.out.H _ (List.mem_cons_of_mem _ (List.mem_cons_of_mem _ List.mem_cons_self)))
   go_wp2_with fail
   refine (fO p now next a n c _).mono ?_; rintro e w6 ⟨rfl, hb⟩
   replace K := qh (K.out.below hb)
   have HB46 := qh (HB45.out.trans (hb.mono HB45.out.size))
   clear hb
   clear t0 t1 t2 t3 t4 t5 t6 tl
   go_wp2_with fail
   refine (HC2.out _ K.out.B).mono ?_; rintro e w7 ⟨a4, e4, c4, ec4, M4, rfl, hL, hl4, hM4, hEv, hb⟩
   have HI4 := qh (show TbI w7 a4 n' M4 from (hL.tbJ hl4 HLen.out).I)
   have HM34 := qh (show fsts M3 = fsts M4 from HLf.out.2.2.trans hM4.symm)
   have HEv4 := qh hEv
   replace K := qh (K.out.below hb)
   have HB47 := qh (HB46.out.trans (hb.mono HB46.out.size))
   clear hb hL hl4 hM4 hEv HC2
   go_upto_region 6 with fail
   obtain ⟨b12, hb12⟩ : ∃ b, b = w7.heap.size := ⟨_, rfl⟩
   have KB := qh (show Kp w (w7.alloc (.cells #[.int .i64 q.gate, .int .i64 q.need, .int .i64 q.most, .int .i64 q.pull, .int .i64 nw, .int .i64 nx, .slice a4 n' c4] 38)) [(b12, Obj.cells #[.int .i64 q.gate, .int .i64 q.need, .int .i64 q.most, .int .i64 q.pull, .int .i64 nw, .int .i64 nx, .slice a4 n' c4] 38 (0, 0)), (b9, Obj.cells #[.int .i64 q.gate, .int .i64 q.need, .int .i64 q.most, .int .i64 q.pull, .int .i64 nw, .int .i64 nx, .slice a3 n' c3] 26 (0, 0)), (b7, Obj.cells #[.int .i64 p.gate, .int .i64 p.need, .int .i64 p.most, .int .i64 p.pull, .int .i64 now, .int .i64 next, .slice a1 n c1] 26 (0, 0)), (b3, Obj.cells #[.int .i64 p.gate, .int .i64 p.need, .int .i64 p.most, .int .i64 p.pull, .int .i64 now, .int .i64 next, .slice a n c] 26 (0, 0))] from by rw [hb12]; exact K.out.alloc #[.int .i64 q.gate, .int .i64 q.need, .int .i64 q.most, .int .i64 q.pull, .int .i64 nw, .int .i64 nx, .slice a4 n' c4] 38)
   have HA := qh (aC w7 (.cells #[.int .i64 q.gate, .int .i64 q.need, .int .i64 q.most, .int .i64 q.pull, .int .i64 nw, .int .i64 nx, .slice a4 n' c4] 38))
   replace HI4 := qh (HI4.out.below HA.out)
   replace HEv4 := qh (HEv4.out.below HA.out)
   have HB48 := qh (HB47.out.trans (HA.out.mono HB47.out.size))
   have Hb12 := qh hb12
   clear K
   have K := KB
   clear KB
   rw [← hb12]
   generalize w7.alloc (.cells #[.int .i64 q.gate, .int .i64 q.need, .int .i64 q.most, .int .i64 q.pull, .int .i64 nw, .int .i64 nx, .slice a4 n' c4] 38) = w8 at *
   clear hb12 HA
   have KD := qh (show Below w8.heap.size w8 w8.drew from aM (Below.refl _ _) 1)
   replace K := qh (K.out.below KD.out)
   replace HI4 := qh (HI4.out.below KD.out)
   replace HEv4 := qh (HEv4.out.below KD.out)
   replace HB48 := qh (HB48.out.trans (KD.out.mono HB48.out.size))
   clear KD
   obtain ⟨CK, hCK⟩ : ∃ x, ckE p now next (fsts M) = x := ⟨_, rfl⟩
   have HCK := qh hCK
   clear hCK
   have e1 : (CK != CK) = false := by simp
   have e2 : (E != E) = false := by simp
   have e3' : ((m' : Int) != (m' : Int)) = false := by simp
   refine MyHeldE.start (fun W => Kp w W [(b12, Obj.cells #[.int .i64 q.gate, .int .i64 q.need, .int .i64 q.most, .int .i64 q.pull, .int .i64 nw, .int .i64 nx, .slice a4 n' c4] 38 (0, 0)), (b9, Obj.cells #[.int .i64 q.gate, .int .i64 q.need, .int .i64 q.most, .int .i64 q.pull, .int .i64 nw, .int .i64 nx, .slice a3 n' c3] 26 (0, 0)), (b7, Obj.cells #[.int .i64 p.gate, .int .i64 p.need, .int .i64 p.most, .int .i64 p.pull, .int .i64 now, .int .i64 next, .slice a1 n c1] 26 (0, 0)), (b3, Obj.cells #[.int .i64 p.gate, .int .i64 p.need, .int .i64 p.most, .int .i64 p.pull, .int .i64 now, .int .i64 next, .slice a n c] 26 (0, 0))]) [] (by kernel_rfl) ?_
   have hHeld := K.out
   generalize w8.drew = wd at *
   refine MyHeldE.tk 0 (hy := fun w hSw => by obtain ⟨q0, q1, q2, q3, q4, q5, q6⟩ := aK (hSw.H _ (List.mem_cons_of_mem _ (List.mem_cons_of_mem _ List.mem_cons_self))); go_simp; (try with_reducible rfl)) ?_
   refine MyHeldE.tk 2 (hy := fun w hSw => by obtain ⟨q0, q1, q2, q3, q4, q5, q6⟩ := aK (hSw.H _ (List.mem_cons_of_mem _ (List.mem_cons_of_mem _ (List.mem_cons_of_mem _ List.mem_cons_self)))); go_simp; (try with_reducible rfl)) ?_
   refine MyHeldE.ready (rs := [1]) (by kernel_rfl) (by simp) ?_
   refine (MyHeldE.next 1 (MyHeld.at_rfl rfl) (fun Kq hKq => ?_) MyHeldE.All.nil)
   go_simp
   go_at_call 11
   have hck := gD p now next a1 n c1 M1 wd (HI1.out.below (HB34.out.trans (HB48.out.mono HB34.out.size))).T (HI1.out.below (HB34.out.trans (HB48.out.mono HB34.out.size))).B
   unfold tbV at hck
   rw [HM1.out, HCK.out] at hck
   refine hck.mono ?_; rintro e w9 ⟨rfl, hb⟩
   replace K := qh (K.out.below hb)
   replace HI4 := qh (HI4.out.below hb)
   replace HEv4 := qh (HEv4.out.below hb)
   replace HB48 := qh (HB48.out.trans (hb.mono HB48.out.size))
   clear hb hck
   refine hKq.out _ _ (fun _ => (K.out)) ?_
   clear hKq Kq hHeld
   have hHeld := (K.out)
   try simp only [Act.put, List.setIfInBounds_toArray, List.set_cons_zero, List.set_cons_succ]
   refine MyHeldE.ready (rs := [3]) (by kernel_rfl) (by simp) ?_
   refine (MyHeldE.next 3 (MyHeld.at_rfl rfl) (fun Kq hKq => ?_) MyHeldE.All.nil)
   go_simp
   go_at_call 10
   refine (fO p now next a n c _).mono ?_; rintro e w10 ⟨rfl, hb⟩
   replace K := qh (K.out.below hb)
   replace HI4 := qh (HI4.out.below hb)
   replace HEv4 := qh (HEv4.out.below hb)
   replace HB48 := qh (HB48.out.trans (hb.mono HB48.out.size))
   clear hb
   refine hKq.out _ _ (fun _ => (K.out)) ?_
   clear hKq Kq hHeld
   have hHeld := (K.out)
   try simp only [Act.put, List.setIfInBounds_toArray, List.set_cons_zero, List.set_cons_succ]
   refine MyHeldE.ready (rs := [4]) (by kernel_rfl) (by simp) ?_
   refine (MyHeldE.next 4 (MyHeld.at_rfl rfl) (fun Kq hKq => ?_) MyHeldE.All.nil)
   go_simp
   go_at_call 12
   have hck := gC p now next a n c M w10 (HT.out.T.below K.out.B) (fun k hk => (HT.out.B k hk).below K.out.B)
   unfold tbV at hck
   rw [HCK.out] at hck
   refine hck.mono ?_; rintro e w11 ⟨rfl, hb⟩
   replace K := qh (K.out.below hb)
   replace HI4 := qh (HI4.out.below hb)
   replace HEv4 := qh (HEv4.out.below hb)
   replace HB48 := qh (HB48.out.trans (hb.mono HB48.out.size))
   clear hb hck
   refine hKq.out _ _ (fun _ => (K.out)) ?_
   clear hKq Kq hHeld
   have hHeld := (K.out)
   try simp only [Act.put, List.setIfInBounds_toArray, List.set_cons_zero, List.set_cons_succ]
   refine MyHeldE.tk 5 ?_
   refine MyHeldE.tk 6 ?_
   refine MyHeldE.tk 7 ?_
   refine MyHeldE.tk 8 ?_
   refine MyHeldE.tk 9 ?_
   refine MyHeldE.tk 10 ?_
   refine MyHeldE.tk 11 ?_
   refine MyHeldE.tk 12 ?_
   refine MyHeldE.tk 13 ?_
   refine MyHeldE.tk 14 ?_
   refine MyHeldE.tk 15 ?_
   refine MyHeldE.tk 16 ?_
   refine MyHeldE.tk 17 ?_
   refine MyHeldE.tk 18 ?_
   refine MyHeldE.tk 19 (hy := fun w hSw => by obtain ⟨q0, q1, q2, q3, q4, q5, q6⟩ := aK (hSw.H _ (List.mem_cons_of_mem _ List.mem_cons_self)); go_simp; (try with_reducible rfl)) ?_
   refine MyHeldE.tk 20 (hy := fun w hSw => by obtain ⟨q0, q1, q2, q3, q4, q5, q6⟩ := aK (hSw.H _ List.mem_cons_self); go_simp; (try with_reducible rfl)) ?_
   refine MyHeldE.ready (rs := [21]) (by kernel_rfl) (by simp) ?_
   refine (MyHeldE.next 21 (MyHeld.at_rfl rfl) (fun Kq hKq => ?_) MyHeldE.All.nil)
   go_simp
   go_at_call 13
   have hs := nK q nw nx a3 a4 n' c3 c4 M3 M4 w11 ((HLf.out.1.tbJ HLf.out.2.1 HLen.out).I.below HB48.out) HI4.out HM34.out
   unfold tbV at hs
   refine hs.mono ?_; rintro e w12 ⟨rfl, hb⟩
   replace K := qh (K.out.below hb)
   replace HI4 := qh (HI4.out.below hb)
   replace HEv4 := qh (HEv4.out.below hb)
   replace HB48 := qh (HB48.out.trans (hb.mono HB48.out.size))
   clear hb hs
   refine hKq.out _ _ (fun _ => (K.out)) ?_
   clear hKq Kq hHeld
   have hHeld := (K.out)
   try simp only [Act.put, List.setIfInBounds_toArray, List.set_cons_zero, List.set_cons_succ]
   refine MyHeldE.tk 22 ?_
   refine MyHeldE.tk 23 ?_
   refine MyHeldE.done (by kernel_rfl) ?_ _
   clear hHeld e1 e2 e3'
   go_wp2_with fail
   go_loopw [15] (fun kv wr => ∃ k : Nat, k ≤ m' ∧ kv = .int .i64 k ∧ Below w12.heap.size w12 wr) (fun kv _ => m' - (intOf kv).toNat)
   case atStart => exact ⟨0, by omega, rfl, Below.refl _ _⟩
   case round =>
    obtain ⟨k, hk, rfl, hB⟩ := hrel
    have B := qh hB
    clear hB
    by_cases hlt : k < m'
    ·obtain ⟨d, od, rfl, x0, x1, x2⟩ := qD ((HEv3.out.below HB48.out).below B.out) hlt
     obtain ⟨f, of, rfl, y0, y1, y2⟩ := qD (HEv4.out.below B.out) hlt
     have xl := World.block_lt_of_cell? _ _ x0
     have yl := World.block_lt_of_cell? _ _ y0
     have hk0 : (0 : Int) ≤ (k : Int) := by omega
     have hk1 : (k : Int) < (m' : Int) := by omega
     have hkw : IntKind.i64.wrap ((k : Int) + 1) = ((k + 1 : Nat) : Int) := by have := HEb.out; rw [IntWalk.i64_in _ (by omega)]; omega
     have HLt := qh hlt
     obtain ⟨⟨ek, ei, ep⟩, he⟩ : ∃ x, ge V k = x := ⟨_, rfl⟩
     rw [he] at x0 x1 x2 y0 y1 y2
     simp only [] at x0 x1 x2 y0 y1 y2
     clear hlt he
     go_wp2_with fail
     go_quiet (fail)
     go_wp2_with fail
     refine ⟨⟨k + 1, HLt.out, by go_num, B.out.trans ((aM (Below.refl _ _) nq).mono B.out.size)⟩, by simp [intOf]; have := HLt.out; omega⟩
    obtain rfl : m' = k := by omega
    replace K := qh (K.out.below B.out)
    replace HB48 := qh (HB48.out.trans (B.out.mono HB48.out.size))
    clear hlt HEv3 HEv4 HI4 HM34 B
    have HB38 := qh (HB34.out.trans (HB48.out.mono HB34.out.size))
    obtain ⟨FE, hFE⟩ : ∃ x, fdE p now next (fsts M) id = x := ⟨_, rfl⟩
    obtain ⟨⟨ti, ta, ⟨g0, g1, g2⟩, tlo, thi, th, tm, tf⟩, hFT⟩ : ∃ x, fdT p now next (fsts M) id = x := ⟨_, rfl⟩
    have hf := lG p now next id a1 n c1 M1 wr (HI1.out.below HB38.out)
    rw [HM1.out, hFE, hFT] at hf
    unfold tbV at hf
    have HF2 := qh (show ∀ W : World, Below w.heap.size w W → Calls Tryz.prog 15 #[.agg #[.int .i64 p.gate, .int .i64 p.need, .int .i64 p.most, .int .i64 p.pull, .int .i64 now, .int .i64 next, .slice a n c], .int .i64 id] W (RfPost ⟨ti, ta, ⟨g0, g1, g2⟩, tlo, thi, th, tm, tf⟩ FE W) from fun W hB => by
     have h := rFind_call p now next id a n c M W (HT.out.below hB)
     rw [hFE, hFT] at h
     exact h)
    clear hFE hFT
    obtain ⟨s0, s1, s2, s3, s4, s5, s6⟩ := aK (K.out.H _ (List.mem_cons_of_mem _ (List.mem_cons_of_mem _ List.mem_cons_self)))
    have sl := aB (K.out.H _ (List.mem_cons_of_mem _ (List.mem_cons_of_mem _ List.mem_cons_self)))
    go_wp2_with fail
    refine hf.mono ?_; rintro e w13 ⟨⟨aL, nL, cL, aH, nH, cH⟩, rfl, hBd, hb⟩
    have HBd := qh hBd
    replace K := qh (K.out.below hb)
    have HSz13 := qh (show w3.heap.size ≤ wr.heap.size from HB38.out.size)
    replace HB48 := qh (HB48.out.trans (hb.mono HB48.out.size))
    clear hb hBd hf
    clear s0 s1 s2 s3 s4 s5 s6 sl
    unfold tkV tkC
    simp only []
    go_upto_region 14 with fail
    have HSX := qh (show w4.heap.size ≤ w13.heap.size from HB48.out.size)
    obtain ⟨b16, hb16⟩ : ∃ b, b = w13.heap.size := ⟨_, rfl⟩
    have KB := qh (show Kp w (w13.alloc (.cells #[.int .i64 ti, .int .i64 ta, .int .i64 g0, .int .i64 g1, .int .i64 g2, .slice aL nL cL, .slice aH nH cH, .int .i64 th, .int .i64 tm, .bool tf] 55)) [(b16, Obj.cells #[.int .i64 ti, .int .i64 ta, .int .i64 g0, .int .i64 g1, .int .i64 g2, .slice aL nL cL, .slice aH nH cH, .int .i64 th, .int .i64 tm, .bool tf] 55 (0, 0)), (b12, Obj.cells #[.int .i64 q.gate, .int .i64 q.need, .int .i64 q.most, .int .i64 q.pull, .int .i64 nw, .int .i64 nx, .slice a4 n' c4] 38 (0, 0)), (b9, Obj.cells #[.int .i64 q.gate, .int .i64 q.need, .int .i64 q.most, .int .i64 q.pull, .int .i64 nw, .int .i64 nx, .slice a3 n' c3] 26 (0, 0)), (b7, Obj.cells #[.int .i64 p.gate, .int .i64 p.need, .int .i64 p.most, .int .i64 p.pull, .int .i64 now, .int .i64 next, .slice a1 n c1] 26 (0, 0)), (b3, Obj.cells #[.int .i64 p.gate, .int .i64 p.need, .int .i64 p.most, .int .i64 p.pull, .int .i64 now, .int .i64 next, .slice a n c] 26 (0, 0))] from by rw [hb16]; exact K.out.alloc #[.int .i64 ti, .int .i64 ta, .int .i64 g0, .int .i64 g1, .int .i64 g2, .slice aL nL cL, .slice aH nH cH, .int .i64 th, .int .i64 tm, .bool tf] 55)
    have HA := qh (aC w13 (.cells #[.int .i64 ti, .int .i64 ta, .int .i64 g0, .int .i64 g1, .int .i64 g2, .slice aL nL cL, .slice aH nH cH, .int .i64 th, .int .i64 tm, .bool tf] 55))
    replace HBd := qh (HBd.out.outs (Outs.of_below HA.out))
    replace HB48 := qh (HB48.out.trans (HA.out.mono HB48.out.size))
    have HSz16 := qh (show w4.heap.size ≤ b16 ∧ w3.heap.size ≤ b16 from by rw [hb16]; exact ⟨HSX.out, Nat.le_trans HB34.out.size HSX.out⟩)
    have Hb16 := qh hb16
    clear K
    have K := KB
    clear KB
    rw [← hb16]
    generalize w13.alloc (.cells #[.int .i64 ti, .int .i64 ta, .int .i64 g0, .int .i64 g1, .int .i64 g2, .slice aL nL cL, .slice aH nH cH, .int .i64 th, .int .i64 tm, .bool tf] 55) = w14 at *
    clear hb16 HA
    obtain ⟨t0, t1, t2, t3, t4, t5, t6⟩ := aK (K.out.H _ (List.mem_cons_of_mem _ (List.mem_cons_of_mem _ (List.mem_cons_of_mem _ (List.mem_cons_of_mem _ List.mem_cons_self)))))
    have tl := aB (K.out.H _ (List.mem_cons_of_mem _ (List.mem_cons_of_mem _ (List.mem_cons_of_mem _ (List.mem_cons_of_mem _ List.mem_cons_self)))))
    go_wp2_with fail
    refine (fO p now next a n c _).mono ?_; rintro e w15 ⟨rfl, hb⟩
    replace K := qh (K.out.below hb)
    replace HBd := qh (HBd.out.outs (Outs.of_below hb))
    replace HB48 := qh (HB48.out.trans (hb.mono HB48.out.size))
    clear hb
    clear t0 t1 t2 t3 t4 t5 t6 tl
    go_wp2_with fail
    refine (HF2.out _ K.out.B).mono ?_; rintro e w16 ⟨⟨aL', nL', cL', aH', nH', cH'⟩, rfl, hBi, hb⟩
    have HBi := qh hBi
    replace K := qh (K.out.below hb)
    replace HBd := qh (HBd.out.outs (Outs.of_below hb))
    replace HB48 := qh (HB48.out.trans (hb.mono HB48.out.size))
    clear hb hBi HF2
    unfold tkV tkC
    simp only []
    go_upto_region 15 with fail
    obtain ⟨b18, hb18⟩ : ∃ b, b = w16.heap.size := ⟨_, rfl⟩
    have KB := qh (show Kp w (w16.alloc (.cells #[.int .i64 ti, .int .i64 ta, .int .i64 g0, .int .i64 g1, .int .i64 g2, .slice aL' nL' cL', .slice aH' nH' cH', .int .i64 th, .int .i64 tm, .bool tf] 55)) [(b18, Obj.cells #[.int .i64 ti, .int .i64 ta, .int .i64 g0, .int .i64 g1, .int .i64 g2, .slice aL' nL' cL', .slice aH' nH' cH', .int .i64 th, .int .i64 tm, .bool tf] 55 (0, 0)), (b16, Obj.cells #[.int .i64 ti, .int .i64 ta, .int .i64 g0, .int .i64 g1, .int .i64 g2, .slice aL nL cL, .slice aH nH cH, .int .i64 th, .int .i64 tm, .bool tf] 55 (0, 0)), (b12, Obj.cells #[.int .i64 q.gate, .int .i64 q.need, .int .i64 q.most, .int .i64 q.pull, .int .i64 nw, .int .i64 nx, .slice a4 n' c4] 38 (0, 0)), (b9, Obj.cells #[.int .i64 q.gate, .int .i64 q.need, .int .i64 q.most, .int .i64 q.pull, .int .i64 nw, .int .i64 nx, .slice a3 n' c3] 26 (0, 0)), (b7, Obj.cells #[.int .i64 p.gate, .int .i64 p.need, .int .i64 p.most, .int .i64 p.pull, .int .i64 now, .int .i64 next, .slice a1 n c1] 26 (0, 0)), (b3, Obj.cells #[.int .i64 p.gate, .int .i64 p.need, .int .i64 p.most, .int .i64 p.pull, .int .i64 now, .int .i64 next, .slice a n c] 26 (0, 0))] from by rw [hb18]; exact K.out.alloc #[.int .i64 ti, .int .i64 ta, .int .i64 g0, .int .i64 g1, .int .i64 g2, .slice aL' nL' cL', .slice aH' nH' cH', .int .i64 th, .int .i64 tm, .bool tf] 55)
    have HA := qh (aC w16 (.cells #[.int .i64 ti, .int .i64 ta, .int .i64 g0, .int .i64 g1, .int .i64 g2, .slice aL' nL' cL', .slice aH' nH' cH', .int .i64 th, .int .i64 tm, .bool tf] 55))
    replace HBd := qh (HBd.out.outs (Outs.of_below HA.out))
    replace HBi := qh (HBi.out.below HA.out)
    replace HB48 := qh (HB48.out.trans (HA.out.mono HB48.out.size))
    have Hb18 := qh hb18
    clear K
    have K := KB
    clear KB
    rw [← hb18]
    generalize w16.alloc (.cells #[.int .i64 ti, .int .i64 ta, .int .i64 g0, .int .i64 g1, .int .i64 g2, .slice aL' nL' cL', .slice aH' nH' cH', .int .i64 th, .int .i64 tm, .bool tf] 55) = w17 at *
    clear hb18 HA
    have e1 : (FE != FE) = false := by simp
    have hq := jX ⟨ti, ta, ⟨g0, g1, g2⟩, tlo, thi, th, tm, tf⟩ ⟨aL, nL, cL, aH, nH, cH⟩ ⟨aL', nL', cL', aH', nH', cH'⟩ w17 HBd.out.I HBi.out
    unfold tkV tkC at hq
    simp only [] at hq
    obtain ⟨x0, x1, x2, x3, x4, x5, x6, x7, x8, x9⟩ := cY (K.out.H _ (List.mem_cons_of_mem _ List.mem_cons_self))
    have xl := aB (K.out.H _ (List.mem_cons_of_mem _ List.mem_cons_self))
    obtain ⟨y0, y1, y2, y3, y4, y5, y6, y7, y8, y9⟩ := cY (K.out.H _ List.mem_cons_self)
    have yl := aB (K.out.H _ List.mem_cons_self)
    go_wp2_with fail
    refine hq.mono ?_; rintro e w18 ⟨rfl, hb⟩
    replace K := qh (K.out.below hb)
    replace HBd := qh (HBd.out.outs (Outs.of_below hb))
    replace HB48 := qh (HB48.out.trans (hb.mono HB48.out.size))
    clear hb hq e1 HBi
    clear x0 x1 x2 x3 x4 x5 x6 x7 x8 x9 xl
    clear y0 y1 y2 y3 y4 y5 y6 y7 y8 y9 yl
    obtain ⟨s0, s1, s2, s3, s4, s5, s6⟩ := aK (K.out.H _ (List.mem_cons_of_mem _ (List.mem_cons_of_mem _ (List.mem_cons_of_mem _ List.mem_cons_self))))
    have sl := aB (K.out.H _ (List.mem_cons_of_mem _ (List.mem_cons_of_mem _ (List.mem_cons_of_mem _ List.mem_cons_self))))
    go_wp2_with fail
    refine (overT_call w3.heap.size n' c3 _ a3 M3 w4 w18 HLf.out.1 HB48.out HLf.out.2.1 HLen.out).mono ?_; rintro e w19 ⟨rfl, hE⟩
    have HW3 := qh (show w.heap.size ≤ w3.heap.size from K3.out)
    replace K := qh (show Kp w w19 [(b16, Obj.cells #[.int .i64 ti, .int .i64 ta, .int .i64 g0, .int .i64 g1, .int .i64 g2, .slice aL nL cL, .slice aH nH cH, .int .i64 th, .int .i64 tm, .bool tf] 55 (0, 0)), (b7, Obj.cells #[.int .i64 p.gate, .int .i64 p.need, .int .i64 p.most, .int .i64 p.pull, .int .i64 now, .int .i64 next, .slice a1 n c1] 26 (0, 0)), (b3, Obj.cells #[.int .i64 p.gate, .int .i64 p.need, .int .i64 p.most, .int .i64 p.pull, .int .i64 now, .int .i64 next, .slice a n c] 26 (0, 0))] from (K.out.less (List.forall_mem_cons.2 ⟨(List.mem_cons_of_mem _ List.mem_cons_self), List.forall_mem_cons.2 ⟨(List.mem_cons_of_mem _ (List.mem_cons_of_mem _ (List.mem_cons_of_mem _ (List.mem_cons_of_mem _ List.mem_cons_self)))), List.forall_mem_cons.2 ⟨(List.mem_cons_of_mem _ (List.mem_cons_of_mem _ (List.mem_cons_of_mem _ (List.mem_cons_of_mem _ (List.mem_cons_of_mem _ List.mem_cons_self))))), fun _ e => (by cases e)⟩⟩⟩)).ef hE (fun k e => Nat.le_trans HW3.out e.1) (List.forall_mem_cons.2 ⟨fun e => by have := HSz16.out; omega, List.forall_mem_cons.2 ⟨fun e => by have := HC.out; omega, List.forall_mem_cons.2 ⟨fun e => by have := HC.out; have := Hb37.out; omega, fun _ e => (by cases e)⟩⟩⟩))
    have HR := qh (And.intro ((rw_of HBd.out.L (fun x e => (HBd.out.gL x e).2)).ef hE) ((rw_of HBd.out.H (fun x e => (HBd.out.gH x e).2)).ef hE))
    have HBN := qh (And.intro HBd.out.L.bound (And.intro HBd.out.H.bound (show ∀ x, blk aL = some x → x < w19.heap.size from fun x e => Nat.lt_of_lt_of_le (HBd.out.gL x e).2.lt hE.size)))
    have HGe := qh (show ∀ x, blk aL = some x ∨ blk aH = some x → w3.heap.size ≤ x from fun x e => e.elim (fun e => Nat.le_trans HSz13.out (HBd.out.gL x e).1.1) (fun e => Nat.le_trans HSz13.out (HBd.out.gH x e).1.1))
    have HB39 := qh (show Below w3.heap.size w3 w19 from (HB34.out.trans (HB48.out.mono HB34.out.size)).trans (hE.below (Nat.le_trans HB34.out.size HB48.out.size) (fun k e => e.1)))
    clear hE HBd HB48 HLf
    clear s0 s1 s2 s3 s4 s5 s6 sl
    obtain ⟨x0, x1, x2, x3, x4, x5, x6, x7, x8, x9⟩ := cY (K.out.H _ List.mem_cons_self)
    have xl := aB (K.out.H _ List.mem_cons_self)
    go_wp2_with fail
    refine (lJ aL aH nL nH cL cH _ HR.out.1 HR.out.2 HBN.out.1 HBN.out.2.1 HBN.out.2.2).mono ?_; rintro e w20 ⟨rfl, hE⟩
    replace K := qh (show Kp w w20 [(b7, Obj.cells #[.int .i64 p.gate, .int .i64 p.need, .int .i64 p.most, .int .i64 p.pull, .int .i64 now, .int .i64 next, .slice a1 n c1] 26 (0, 0)), (b3, Obj.cells #[.int .i64 p.gate, .int .i64 p.need, .int .i64 p.most, .int .i64 p.pull, .int .i64 now, .int .i64 next, .slice a n c] 26 (0, 0))] from (K.out.less (fun _ e => List.mem_cons_of_mem _ e)).ef hE (fun k e => Nat.le_trans HW3.out (HGe.out k e)) (List.forall_mem_cons.2 ⟨fun e => by have := HGe.out _ e; have := HC.out; omega, List.forall_mem_cons.2 ⟨fun e => by have := HGe.out _ e; have := HC.out; have := Hb37.out; omega, fun _ e => (by cases e)⟩⟩))
    replace HB39 := qh (HB39.out.trans (hE.below HB39.out.size (fun k e => HGe.out k e)))
    clear hE HR HBN HGe
    clear x0 x1 x2 x3 x4 x5 x6 x7 x8 x9 xl
    go_wp2_with fail
    go_loopw [20] (fun kv wr => ∃ k : Nat, k ≤ pn ∧ kv = .int .i64 k ∧ Below w20.heap.size w20 wr) (fun kv _ => pn - (intOf kv).toNat)
    case atStart => exact ⟨0, by omega, rfl, Below.refl _ _⟩
    case round =>
     obtain ⟨k, hk, rfl, hB⟩ := hrel
     have B := qh hB
     clear hB
     by_cases hlt : k < pn
     ·obtain ⟨d, od, rfl, x0, x1, x2⟩ := fS ((HP2.out.below HB39.out).below B.out) hlt
      obtain ⟨f, of, rfl, y0, y1, y2⟩ := fS ((HP.out.1.below K.out.B).below B.out) hlt
      have xl := World.block_lt_of_cell? _ _ x0
      have yl := World.block_lt_of_cell? _ _ y0
      have hk0 : (0 : Int) ≤ (k : Int) := by omega
      have hk1 : (k : Int) < (pn : Int) := by omega
      have hkw : IntKind.i64.wrap ((k : Int) + 1) = ((k + 1 : Nat) : Int) := by have := HLg.out.2.1; rw [IntWalk.i64_in _ (by omega)]; omega
      have HLt := qh hlt
      obtain ⟨⟨yr, yc, ya⟩, he⟩ : ∃ x, gp P k = x := ⟨_, rfl⟩
      rw [he] at x0 x1 x2 y0 y1 y2
      simp only [] at x0 x1 x2 y0 y1 y2
      clear hlt he
      go_wp2_with fail
      go_quiet (fail)
      go_wp2_with fail
      refine ⟨⟨k + 1, HLt.out, by go_num, B.out.trans ((aM (Below.refl _ _) nq).mono B.out.size)⟩, by simp [intOf]; have := HLt.out; omega⟩
     obtain rfl : pn = k := by omega
     replace K := qh (K.out.below B.out)
     have hq := equal_call p now next a1 a n c1 c M1 M wr ((HI1.out.below HB39.out).below B.out) (HT.out.below K.out.B) HM1.out
     clear hlt B
     obtain ⟨s0, s1, s2, s3, s4, s5, s6⟩ := aK (K.out.H _ List.mem_cons_self)
     have sl := aB (K.out.H _ List.mem_cons_self)
     obtain ⟨t0, t1, t2, t3, t4, t5, t6⟩ := aK (K.out.H _ (List.mem_cons_of_mem _ List.mem_cons_self))
     have tl := aB (K.out.H _ (List.mem_cons_of_mem _ List.mem_cons_self))
     go_wp2_with fail
     refine hq.mono ?_; rintro e w21 ⟨rfl, hb⟩
     replace K := qh (K.out.below hb)
     clear hb hq
     clear s0 s1 s2 s3 s4 s5 s6 sl
     clear t0 t1 t2 t3 t4 t5 t6 tl
     go_wp2_with fail
     refine (lR _).mono ?_; rintro e w99 ⟨rfl, hb⟩
     have HBf := qh (K.out.B.trans (hb.mono K.out.B.size))
     clear hb
     go_wp2_with fail
     go_ret
     exact ⟨rfl, HBf.out⟩
end Go.Proofs.YtikjjpjekchcjaaGreat
