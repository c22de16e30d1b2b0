/-
  TrkV
-/
import Derived.Test.YtikjjpjekchcjaaPb36
import Derived.Test.YtikjjpjekchcjaaPb35
namespace Go.Proofs.Ytikjjpjekchcjaa
open Go.RowKit TrkMath MyHeap MyOwn MyCopy
theorem cy_bad (p : Par) {now next : Int} {L : List Tk} {P : List Pl} (h0 : cyE p now next L P ≠ 0) (a : Option Addr) (n c : Nat) (pa : Option Addr) (pn pc : Nat) (M : List TB) (W : World) (hTb : TbI W a n M) (hM : fsts M = L) (hP : Pls W pa pn P) :
    Calls Try.prog 9 #[.agg #[.int .i64 p.gate, .int .i64 p.need, .int .i64 p.most, .int .i64 p.pull, .int .i64 now, .int .i64 next, .slice a n c], .slice pa pn pc] W (fun e w' => ∃ a' c' ea ec, e = .returned (.tuple #[.agg #[.int .i64 0, .int .i64 0, .int .i64 0, .int .i64 0, .int .i64 0, .int .i64 0, .slice a' 0 c'], .slice ea 0 ec, .int .i64 (cyE p now next L P)]) ∧ Below W.heap.size W w') := by
 have hc := pCycle_call p now next a n c pa pn pc M P W hTb.T hTb.B hP
 rw [hM, (cyR_bad h0).1, (cyR_bad h0).2] at hc
 refine hc.mono ?_
 intro e w' hpost
 obtain ⟨a', c', ea, ec, M', rfl, -, -, -, hb⟩ := hpost.N (n := 0) (m := 0) rfl rfl (by decide)
 exact ⟨a', c', ea, ec, rfl, hb⟩
def Us (W : World) (g n : Nat) (V : List Ev) : Prop := ∃ cs : Array Value, W.heap[g]? = some (.cells cs 3 (0, 0)) ∧ cs.size = n ∧ ∀ y, y < n → cs[y]? = some (.int .i64 (cnt V y))
theorem Us.cell {W : World} {g n y : Nat} {V : List Ev} (h : Us W g n V) (hy : y < n) : W.cell? ⟨g, y, none⟩ = some (.int .i64 (cnt V y)) ∧ W.frozen? ⟨g, y, none⟩ = false := by
 obtain ⟨cs, h1, h2, h3⟩ := h
 exact ⟨cell_of_block h1 (h3 y hy), free_of_block h1⟩
theorem Us.lt {W : World} {g n : Nat} {V : List Ev} (h : Us W g n V) : g < W.heap.size := by
 obtain ⟨cs, h1, -, -⟩ := h
 exact lt_of_block h1
theorem Us.below {W W' : World} {g n : Nat} {V : List Ev} (h : Us W g n V) (hb : Below W.heap.size W W') : Us W' g n V := by
 obtain ⟨cs, h1, h2⟩ := h
 exact ⟨cs, keepO hb h1, h2⟩
theorem Us.next {W : World} {g n : Nat} {V : List Ev} {e : Ev} (h : Us W g n V) (hn : ∀ y, y < n → ¬ hitB y e = true) : Us W g n (V ++ [e]) := by
 obtain ⟨cs, h1, h2, h3⟩ := h
 refine ⟨cs, h1, h2, fun y hy => ?_⟩
 rw [h3 y hy, cnt_add, cnt_one, if_neg (hn y hy)]
 rfl
theorem Us.hit {W : World} {g n y : Nat} {V : List Ev} {e : Ev} (h : Us W g n V) (hy : y < n) (hk : e.kind = 1 ∨ e.kind = 5) (hp : e.plot = y) : Us (W.setCell ⟨g, y, none⟩ (.int .i64 ((cnt V y : Int) + 1))) g n (V ++ [e]) := by
 obtain ⟨cs, h1, h2, h3⟩ := h
 refine ⟨_, block_setCell h1, by rw [Array.size_setIfInBounds]; exact h2, fun z hz => ?_⟩
 by_cases c : z = y
 ·subst c
  rw [Array.getElem?_setIfInBounds_self_of_lt (by omega), cnt_add, cnt_one, if_pos (hitB_iff.2 ⟨hk, hp⟩)]
  rfl
 ·rw [Array.getElem?_setIfInBounds_ne (fun q => c q.symm), h3 z hz, cnt_add, cnt_one, if_neg (fun q => c (by have := (hitB_iff.1 q).2; omega))]
  rfl
theorem keepB {B k : Nat} {W W' : World} {o : Obj} (hb : Below B W W') (hk : k < B) (h : W.heap[k]? = some o) : W'.heap[k]? = some o := (hb.block k hk).trans h
theorem keepC {B b i : Nat} {W W' : World} {v : Value} (hb : Below B W W') (hk : b < B) (h : W.cell? ⟨b, i, none⟩ = some v) : W'.cell? ⟨b, i, none⟩ = some v := (World.cell?_of_block (w := W) (hb.block b hk)).trans h
set_option maxRecDepth 100000 in
theorem us_made {W : World} {g n : Nat} (h : W.heap[g]? = some (.cells (madeCells #[.int .i64 0] n) 3 (0, 0))) : Us W g n [] := by
 have hl : (madeCells #[.int .i64 0] n).toList = List.replicate n (.int .i64 0) := toList_madeCells_one _ _
 refine ⟨_, h, by rw [← Array.length_toList, hl, List.length_replicate], fun u hu => ?_⟩
 rw [← Array.getElem?_toList, hl, List.getElem?_replicate, if_pos hu]
 rfl
theorem HK.sub {w W : World} {l l' : List (Nat × Obj)} (h : HK w W l) (hs : ∀ x ∈ l', x ∈ l) : HK w W l' := ⟨h.B, fun x hx => h.H x (hs x hx)⟩
theorem take_ge {V : List Ev} {i : Nat} (h : i < V.length) : V.take (i + 1) = V.take i ++ [ge V i] := by
 unfold ge
 rw [List.take_add_one, List.getElem?_eq_getElem h]
 rfl
theorem ge_mem {V : List Ev} {i : Nat} (h : i < V.length) : ge V i ∈ V := by
 unfold ge
 rw [List.getElem?_eq_getElem h, Option.getD_some]
 exact List.getElem_mem h
theorem cnt_take (V : List Ev) (i y : Nat) : cnt (V.take i) y ≤ cnt V y := by
 have h : cnt V y = cnt (V.take i) y + cnt (V.drop i) y := by rw [← cnt_add, List.take_append_drop]
 omega
structure VF (p : Par) (now next nx : Int) (L L2 : List Tk) (P : List Pl) (V : List Ev) : Prop where
 par : 0 ≤ now ∧ now < 1073741824
 bx : 0 ≤ next ∧ next ≤ nx ∧ nx ≤ 1073741824
 plen : P.length ≤ 16
 len : L2.length ≤ 16
 ck0 : ckE p now next L = 0
 ck : ckE p (now + 1) nx L2 = 0
 inc0 : Inc L
 inc : Inc L2
 ev : ∀ e ∈ V, EvOk P.length e
 cnt : ∀ y, cnt V y ≤ 1
 keeps : ∀ e ∈ V, e.kind = 1 → ∃ t ∈ L, ∃ u ∈ L2, ∃ y : Nat, t.id = e.id ∧ u.id = e.id ∧ e.plot = y ∧ Keeps P t u y
 old : ∀ t ∈ L2, (∃ u ∈ L, u.id = t.id) ↔ t.id < next
 vlen : V.length ≤ 64
theorem VF.of {p : Par} {now next : Int} {L : List Tk} {P : List Pl} (h : cyE p now next L P = 0) : VF p now next (cyX p next L P) L (cyT p next L P) P (cyV p next L P) := by
 have h := Cyc.of h
 have hx := h.bx
 have hX := h.X
 exact ⟨h.bn, ⟨hx.1, hX.1, by omega⟩, h.plen, h.lT, h.ck0, h.ck, h.vL.inc, h.vT.inc, h.ev, h.cnt, fun e he hk => h.keeps he hk, fun t ht => h.old ht, by
  have e1 : (cyS p L).2.length ≤ L.length := stpA_evs L.length
  have e2 : (cyU p L P).2.length ≤ 2 * (cyS p L).1.length := updA_evs (cyS p L).1.length
  have e3 : (cyN p next L P).ev.length ≤ P.length := (staA_bd P.length).2.2
  have l1 := h.len
  have l2 := h.lS
  have l3 := h.plen
  unfold cyV
  rw [List.length_append, List.length_append]
  omega⟩
set_option maxRecDepth 100000 in
set_option maxHeartbeats 32000000 in
theorem Valid_call (p : Par) (now next : Int) (a pa : Option Addr) (n c pn pc : Nat) (M : List TB) (P : List Pl) (w : World) (hT : TbI w a n M) (hP : Pls w pa pn P) :
    Calls Try.prog 3 #[.agg #[.int .i64 p.gate, .int .i64 p.need, .int .i64 p.most, .int .i64 p.pull, .int .i64 now, .int .i64 next, .slice a n c], .slice pa pn pc] w (BoolB true w) := by
 have K := Lib.hid ((HK.nil w).alloc #[.int .i64 p.gate, .int .i64 p.need, .int .i64 p.most, .int .i64 p.pull, .int .i64 now, .int .i64 next, .slice a n c] 26)
 have TT := Lib.hid (hT.below (below_alloc w (.cells #[.int .i64 p.gate, .int .i64 p.need, .int .i64 p.most, .int .i64 p.pull, .int .i64 now, .int .i64 next, .slice a n c] 26)))
 have HP := Lib.hid (hP.below (below_alloc w (.cells #[.int .i64 p.gate, .int .i64 p.need, .int .i64 p.most, .int .i64 p.pull, .int .i64 now, .int .i64 next, .slice a n c] 26)))
 clear hT hP
 obtain ⟨t0, t1, t2, t3, t4, t5, t6⟩ := seven_new (K.out.H _ List.mem_cons_self)
 have tl := lt_of_block (K.out.H _ List.mem_cons_self)
 go_enter Try.func3, Try.ntmps3
 go_wp2_with fail
 clear t0 t1 t2 t3 t4 t5 t6 tl
 obtain ⟨B0, hB0⟩ : ∃ b, b = w.heap.size := ⟨_, rfl⟩
 rw [← hB0] at K ⊢
 clear hB0
 generalize w.alloc (.cells #[.int .i64 p.gate, .int .i64 p.need, .int .i64 p.most, .int .i64 p.pull, .int .i64 now, .int .i64 next, .slice a n c] 26) = w1 at *
 refine (long_call p now next a pa n c pn pc M _ TT.out).mono ?_; rintro e w2 ⟨lb, rfl, hb⟩
 replace K := Lib.hid (K.out.below hb)
 replace TT := Lib.hid (TT.out.below hb)
 replace HP := Lib.hid (HP.out.below hb)
 clear hb
 cases lb with
 | true =>
  go_wp2_with fail
  refine (awake_call _).mono ?_; rintro e w3 ⟨rfl, hb⟩
  replace K := Lib.hid (K.out.below hb)
  clear hb
  go_wp2_with fail
  go_ret
  exact ⟨rfl, K.out.B⟩
 | false =>
  go_wp2_with fail
  refine (awake_call _).mono ?_; rintro e w3 ⟨rfl, hb⟩
  replace K := Lib.hid (K.out.below hb)
  replace TT := Lib.hid (TT.out.below hb)
  replace HP := Lib.hid (HP.out.below hb)
  clear hb
  obtain ⟨t0, t1, t2, t3, t4, t5, t6⟩ := seven_new (K.out.H _ List.mem_cons_self)
  have tl := lt_of_block (K.out.H _ List.mem_cons_self)
  go_wp2_with fail
  clear t0 t1 t2 t3 t4 t5 t6 tl
  by_cases hE : cyE p now next (fsts M) P = 0
  ·have hvf := VF.of hE
   have hcy := cy_call p hE rfl rfl (by have := hvf.len; omega) rfl a n c pa pn pc M w3 TT.out rfl HP.out
   obtain ⟨L2, hL2⟩ : ∃ x, cyT p next (fsts M) P = x := ⟨_, rfl⟩
   obtain ⟨nx, hnx⟩ : ∃ x, cyX p next (fsts M) P = x := ⟨_, rfl⟩
   obtain ⟨V, hV⟩ : ∃ x, cyV p next (fsts M) P = x := ⟨_, rfl⟩
   rw [hL2, hnx, hV] at hvf hcy
   have HF := Lib.hid hvf
   clear hL2 hnx hV hE hvf
   refine hcy.mono ?_; rintro e w4 ⟨a2, c2, ea, em, ec, M2, rfl, hJ, hM2, hEv, hb⟩
   clear hcy
   subst hM2
   have T2 := Lib.hid hJ.I
   have EV := Lib.hid hEv
   obtain ⟨n2, hn2⟩ : ∃ x, (fsts M2).length = x := ⟨_, rfl⟩
   rw [hn2] at T2 ⊢
   have hn16 := HF.out.len
   rw [hn2] at hn16
   clear hJ hEv hn2
   replace T2 := Lib.hid (T2.out.below (below_alloc w4 (.cells #[.int .i64 p.gate, .int .i64 p.need, .int .i64 p.most, .int .i64 p.pull, .int .i64 (now + 1), .int .i64 nx, .slice a2 n2 c2] 26)))
   replace EV := Lib.hid (EV.out.below (below_alloc w4 (.cells #[.int .i64 p.gate, .int .i64 p.need, .int .i64 p.most, .int .i64 p.pull, .int .i64 (now + 1), .int .i64 nx, .slice a2 n2 c2] 26)))
   replace TT := Lib.hid ((TT.out.below hb).below (below_alloc w4 (.cells #[.int .i64 p.gate, .int .i64 p.need, .int .i64 p.most, .int .i64 p.pull, .int .i64 (now + 1), .int .i64 nx, .slice a2 n2 c2] 26)))
   replace HP := Lib.hid ((HP.out.below hb).below (below_alloc w4 (.cells #[.int .i64 p.gate, .int .i64 p.need, .int .i64 p.most, .int .i64 p.pull, .int .i64 (now + 1), .int .i64 nx, .slice a2 n2 c2] 26)))
   replace K := Lib.hid ((K.out.below hb).alloc #[.int .i64 p.gate, .int .i64 p.need, .int .i64 p.most, .int .i64 p.pull, .int .i64 (now + 1), .int .i64 nx, .slice a2 n2 c2] 26)
   clear hb
   go_upto_region 4 with fail
   obtain ⟨XB, hXB⟩ : ∃ b, b = w4.heap.size := ⟨_, rfl⟩
   rw [← hXB] at K ⊢
   clear hXB
   generalize w4.alloc (.cells #[.int .i64 p.gate, .int .i64 p.need, .int .i64 p.most, .int .i64 p.pull, .int .i64 (now + 1), .int .i64 nx, .slice a2 n2 c2] 26) = w5 at *
   obtain ⟨t0, t1, t2, t3, t4, t5, t6⟩ := seven_new (K.out.H _ List.mem_cons_self)
   have tl := lt_of_block (K.out.H _ List.mem_cons_self)
   go_wp2_with fail
   clear t0 t1 t2 t3 t4 t5 t6 tl
   have hck := pCheckT_call p (now + 1) nx a2 n2 c2 M2 w5 T2.out.T T2.out.B
   rw [HF.out.ck] at hck
   unfold tbV at hck
   refine hck.mono ?_; rintro e w6 ⟨rfl, hb⟩
   replace T2 := Lib.hid (T2.out.below hb)
   replace EV := Lib.hid (EV.out.below hb)
   clear hck
   replace K := Lib.hid (K.out.below hb)
   replace TT := Lib.hid (TT.out.below hb)
   replace HP := Lib.hid (HP.out.below hb)
   clear hb
   obtain ⟨t0, t1, t2, t3, t4, t5, t6⟩ := seven_new (K.out.H _ List.mem_cons_self)
   have tl := lt_of_block (K.out.H _ List.mem_cons_self)
   obtain ⟨r0, r1, r2, r3, r4, r5, r6⟩ := seven_new (K.out.H _ (List.mem_cons_of_mem _ List.mem_cons_self))
   have rl := lt_of_block (K.out.H _ (List.mem_cons_of_mem _ List.mem_cons_self))
   have hpar := HF.out.par
   have hbx := HF.out.bx
   have hpl := HF.out.plen
   rw [HP.out.len] at hpl
   have wn : IntKind.i64.wrap (now + 1) = now + 1 := IntWalk.i64_in _ (by omega)
   have hnl : ¬ nx < next := by omega
   have mk := Asg.hmkI pn (by omega)
   go_wp2_with fail
   clear r0 r1 r2 r3 r4 r5 r6 rl mk wn hnl
   clear t0 t1 t2 t3 t4 t5 t6 tl
   obtain ⟨UB, hUB⟩ : ∃ b, b = w6.heap.size := ⟨_, rfl⟩
   have hU0 := us_made (block_new w6 (.cells (madeCells #[.int .i64 0] pn) 3 (0, 0)) rfl)
   have hB0 := below_alloc w6 (.cells (madeCells #[.int .i64 0] pn) 3)
   have HUB := Lib.hid hUB
   rw [← hUB] at hU0 ⊢
   clear hUB
   generalize w6.alloc (.cells (madeCells #[.int .i64 0] pn) 3) = w7 at *
   have hEl := EV.out.len
   have hEm : em ≤ 64 := by rw [← hEl]; exact HF.out.vlen
   have hPl := HP.out.len
   go_loopw [4, 9] (fun v4 kv wr => ∃ k : Nat, k ≤ em ∧ v4 = .bool false ∧ kv = .int .i64 k ∧ Below w6.heap.size w6 wr ∧ Us wr UB pn (V.take k)) (fun _ kv _ => em - (intOf kv).toNat)
   case atStart => exact ⟨0, by omega, rfl, rfl, hB0, hU0⟩
   case round =>
    clear hB0 hU0
    obtain ⟨k, hk, rfl, rfl, hB, hU⟩ := hrel
    have HB := Lib.hid hB
    have HU := Lib.hid hU
    clear hB hU
    by_cases hlt : k < em
    ·obtain ⟨be, oe, rfl, x0, x1, x2⟩ := evi_at EV.out hlt
     have HNe := Lib.hid (show be ≠ UB from fun q => by have h1 := World.block_lt_of_cell? _ _ x0; rw [q, HUB.out] at h1; exact Nat.lt_irrefl _ h1)
     replace x0 := keep1 HB.out x0
     replace x1 := keep1 HB.out x1
     replace x2 := keep1 HB.out x2
     have xl := World.block_lt_of_cell? _ _ x0
     have HLt := Lib.hid hlt
     have hk0 : (0 : Int) ≤ (k : Int) := by omega
     have hk1 : (k : Int) < (em : Int) := by omega
     have hkw : IntKind.i64.wrap ((k : Int) + 1) = ((k + 1 : Nat) : Int) := by rw [IntWalk.i64_in _ (by omega)]; omega
     have hmem := ge_mem (V := V) (i := k) (by omega)
     have HTk := Lib.hid (take_ge (V := V) (i := k) (by omega))
     have hok := HF.out.ev _ hmem
     have HKp := Lib.hid (HF.out.keeps _ hmem)
     obtain ⟨⟨ek, ei, ep⟩, he⟩ : ∃ x, ge V k = x := ⟨_, rfl⟩
     rw [he] at x0 x1 x2 hok HTk HKp
     simp only [] at x0 x1 x2
     obtain ⟨g1, g2, g3, g4⟩ := hok
     simp only [] at g1 g2 g3 g4
     clear he hmem hlt
     rw [hPl] at g4
     rcases (show ek = 1 ∨ ek = 2 ∨ ek = 3 ∨ ek = 4 ∨ ek = 5 by omega) with rfl | rfl | rfl | rfl | rfl
     ·obtain ⟨t, ht, u, hu, y, e1, e2, e3, hK⟩ := HKp.out rfl
      have HKt := Lib.hid (show t.id = ei from e1)
      have HKu := Lib.hid (show u.id = ei from e2)
      have e3 : ep = (y : Int) := e3
      subst e3
      have HMt := Lib.hid ht
      have HMu := Lib.hid hu
      have HKk := Lib.hid hK
      have hy : y < pn := by have := hK.lt; omega
      have hp0 : ¬ (y : Int) < 0 := by omega
      have hp1 : ¬ ((pn : Int) ≤ (y : Int)) := by omega
      have hy0 : (0 : Int) ≤ (y : Int) := by omega
      have hy1 : (y : Int) < (pn : Int) := by omega
      clear g1 g2 g3 g4 HKp e1 e2 ht hu hK
      have hcv := cnt_take V k y
      have hcv2 := HF.out.cnt y
      obtain ⟨u0, u1⟩ := HU.out.cell hy
      have ul := HU.out.lt
      have wc : IntKind.i64.wrap ((cnt (V.take k) y : Int) + 1) = (cnt (V.take k) y : Int) + 1 := IntWalk.i64_in _ (by omega)
      go_wp2_with fail
      go_quiet (fail)
      go_upto_region 16 with fail
      have hd := below_drewN (Below.refl wr.heap.size wr) nq
      have HO := Lib.hid ((Only.refl UB (wr.drewN nq)).setCell y (.int .i64 ((cnt (V.take k) y : Int) + 1)))
      replace HU := Lib.hid ((HU.out.below hd).hit (e := ⟨1, ei, (y : Int)⟩) hy (Or.inl rfl) rfl)
      rw [← HTk.out] at HU
      replace HB := Lib.hid ((HB.out.trans (hd.mono HB.out.size)).trans (HO.out.below (by rw [HUB.out]; exact Nat.le_refl _) (Nat.le_trans HB.out.size hd.size)))
      replace x0 := HO.out.cell (keep1 hd x0) HNe.out
      replace x1 := HO.out.cell (keep1 hd x1) HNe.out
      replace x2 := HO.out.cell (keep1 hd x2) HNe.out
      clear hd HO u0 u1 ul hcv hcv2 wc xl
      generalize (wr.drewN nq).setCell ⟨UB, y, none⟩ (.int .i64 ((cnt (V.take k) y : Int) + 1)) = wu at *
      have xl := World.block_lt_of_cell? _ _ x0
      obtain ⟨bp, op, rfl, p0, p1, p2⟩ := pls_at (HP.out.below HB.out) hy
      have KW := Lib.hid (K.out.below HB.out)
      have KD := Lib.hid (show Below wu.heap.size wu wu.drew from below_drewN (Below.refl _ _) 1)
      have HS := Lib.hid (show (wu.drew.heap[B0]? = some (.cells #[.int .i64 p.gate, .int .i64 p.need, .int .i64 p.most, .int .i64 p.pull, .int .i64 now, .int .i64 next, .slice a n c] 26 (0, 0)) ∧ wu.drew.heap[XB]? = some (.cells #[.int .i64 p.gate, .int .i64 p.need, .int .i64 p.most, .int .i64 p.pull, .int .i64 (now + 1), .int .i64 nx, .slice a2 n2 c2] 26 (0, 0)) ∧ wu.drew.cell? ⟨be, oe + k * 3, none⟩ = some (.int .u8 1) ∧ wu.drew.cell? ⟨be, oe + k * 3 + 1, none⟩ = some (.int .i64 ei) ∧ wu.drew.cell? ⟨be, oe + k * 3 + 2, none⟩ = some (.int .i64 (y : Int)) ∧ wu.drew.cell? ⟨bp, op + y * 3 + 2, none⟩ = some (.int .i64 (gp P y).addr)) from ⟨keepO KD.out (KW.out.H _ (List.mem_cons_of_mem _ List.mem_cons_self)), keepO KD.out (KW.out.H _ List.mem_cons_self), keep1 KD.out x0, keep1 KD.out x1, keep1 KD.out x2, keep1 KD.out p2⟩)
      have HBd := Lib.hid (HB.out.trans (KD.out.mono HB.out.size))
      replace HU := Lib.hid (HU.out.below KD.out)
      clear KW KD x0 x1 x2 xl p0 p1 p2
      obtain ⟨ya, hya⟩ : ∃ x, (gp P y).addr = x := ⟨_, rfl⟩
      have HYa := Lib.hid hya
      rw [hya] at HS
      clear hya
      refine MyHeldE.start (fun W => (W.heap[B0]? = some (.cells #[.int .i64 p.gate, .int .i64 p.need, .int .i64 p.most, .int .i64 p.pull, .int .i64 now, .int .i64 next, .slice a n c] 26 (0, 0)) ∧ W.heap[XB]? = some (.cells #[.int .i64 p.gate, .int .i64 p.need, .int .i64 p.most, .int .i64 p.pull, .int .i64 (now + 1), .int .i64 nx, .slice a2 n2 c2] 26 (0, 0)) ∧ W.cell? ⟨be, oe + k * 3, none⟩ = some (.int .u8 1) ∧ W.cell? ⟨be, oe + k * 3 + 1, none⟩ = some (.int .i64 ei) ∧ W.cell? ⟨be, oe + k * 3 + 2, none⟩ = some (.int .i64 (y : Int)) ∧ W.cell? ⟨bp, op + y * 3 + 2, none⟩ = some (.int .i64 ya))) [] (by kernel_rfl) ?_
      have hHeld := HS.out
      generalize wu.drew = wd at *
      refine MyHeldE.take 0 (v := ?_) .z (by kernel_rfl) (by kernel_rfl) (by kernel_rfl) (by kernel_rfl) (by kernel_rfl) (fun _ _ _ h => h) (by rfl) (by assumption) ?_ ?_
      rotate_left
      ·intro w hSw; go_simp; (try with_reducible rfl)
      try simp only [Act.put, List.setIfInBounds_toArray, List.set_cons_zero, List.set_cons_succ]
      refine MyHeldE.take 1 (v := ?_) (.s .z) (by kernel_rfl) (by kernel_rfl) (by kernel_rfl) (by kernel_rfl) (by kernel_rfl) (fun _ _ _ h => h) (by rfl) (by assumption) ?_ ?_
      rotate_left
      ·intro w hSw; go_simp; (try with_reducible rfl)
      try simp only [Act.put, List.setIfInBounds_toArray, List.set_cons_zero, List.set_cons_succ]
      refine MyHeldE.take 2 (v := ?_) (.s (.s .z)) (by kernel_rfl) (by kernel_rfl) (by kernel_rfl) (by kernel_rfl) (by kernel_rfl) (fun _ _ _ h => h) (by rfl) (by assumption) ?_ ?_
      rotate_left
      ·intro w hSw; go_simp; (try with_reducible rfl)
      try simp only [Act.put, List.setIfInBounds_toArray, List.set_cons_zero, List.set_cons_succ]
      refine MyHeldE.take 3 (v := ?_) (.s (.s (.s .z))) (by kernel_rfl) (by kernel_rfl) (by kernel_rfl) (by kernel_rfl) (by kernel_rfl) (fun _ _ _ h => h) (by rfl) (by assumption) ?_ ?_
      rotate_left
      ·intro w hSw; go_simp; (try with_reducible rfl)
      try simp only [Act.put, List.setIfInBounds_toArray, List.set_cons_zero, List.set_cons_succ]
      refine MyHeldE.take 4 (v := ?_) (.s (.s (.s (.s .z)))) (by kernel_rfl) (by kernel_rfl) (by kernel_rfl) (by kernel_rfl) (by kernel_rfl) (fun _ _ _ h => h) (by rfl) (by assumption) ?_ ?_
      rotate_left
      ·intro w hSw; obtain ⟨s0, s1, s2, s3, s4, s5⟩ := hSw; obtain ⟨q0, q1, q2, q3, q4, q5, q6⟩ := seven_new s0; obtain ⟨r0, r1, r2, r3, r4, r5, r6⟩ := seven_new s1; go_simp; (try with_reducible rfl)
      try simp only [Act.put, List.setIfInBounds_toArray, List.set_cons_zero, List.set_cons_succ]
      refine MyHeldE.take 5 (v := ?_) (.s (.s (.s (.s (.s .z))))) (by kernel_rfl) (by kernel_rfl) (by kernel_rfl) (by kernel_rfl) (by kernel_rfl) (fun _ _ _ h => h) (by rfl) (by assumption) ?_ ?_
      rotate_left
      ·intro w hSw; go_simp; (try with_reducible rfl)
      try simp only [Act.put, List.setIfInBounds_toArray, List.set_cons_zero, List.set_cons_succ]
      refine MyHeldE.take 6 (v := ?_) (.s (.s (.s (.s (.s (.s .z)))))) (by kernel_rfl) (by kernel_rfl) (by kernel_rfl) (by kernel_rfl) (by kernel_rfl) (fun _ _ _ h => h) (by rfl) (by assumption) ?_ ?_
      rotate_left
      ·intro w hSw; go_simp; (try with_reducible rfl)
      try simp only [Act.put, List.setIfInBounds_toArray, List.set_cons_zero, List.set_cons_succ]
      refine MyHeldE.take 7 (v := ?_) (.s (.s (.s (.s (.s (.s (.s .z))))))) (by kernel_rfl) (by kernel_rfl) (by kernel_rfl) (by kernel_rfl) (by kernel_rfl) (fun _ _ _ h => h) (by rfl) (by assumption) ?_ ?_
      rotate_left
      ·intro w hSw; obtain ⟨s0, s1, s2, s3, s4, s5⟩ := hSw; obtain ⟨q0, q1, q2, q3, q4, q5, q6⟩ := seven_new s0; obtain ⟨r0, r1, r2, r3, r4, r5, r6⟩ := seven_new s1; go_simp; (try with_reducible rfl)
      try simp only [Act.put, List.setIfInBounds_toArray, List.set_cons_zero, List.set_cons_succ]
      refine MyHeldE.take 8 (v := ?_) (.s (.s (.s (.s (.s (.s (.s (.s .z)))))))) (by kernel_rfl) (by kernel_rfl) (by kernel_rfl) (by kernel_rfl) (by kernel_rfl) (fun _ _ _ h => h) (by rfl) (by assumption) ?_ ?_
      rotate_left
      ·intro w hSw; obtain ⟨s0, s1, s2, s3, s4, s5⟩ := hSw; obtain ⟨q0, q1, q2, q3, q4, q5, q6⟩ := seven_new s0; obtain ⟨r0, r1, r2, r3, r4, r5, r6⟩ := seven_new s1; go_simp; (try with_reducible rfl)
      try simp only [Act.put, List.setIfInBounds_toArray, List.set_cons_zero, List.set_cons_succ]
      refine MyHeldE.take 9 (v := ?_) (.s (.s (.s (.s (.s (.s (.s (.s (.s .z))))))))) (by kernel_rfl) (by kernel_rfl) (by kernel_rfl) (by kernel_rfl) (by kernel_rfl) (fun _ _ _ h => h) (by rfl) (by assumption) ?_ ?_
      rotate_left
      ·intro w hSw; go_simp; (try with_reducible rfl)
      try simp only [Act.put, List.setIfInBounds_toArray, List.set_cons_zero, List.set_cons_succ]
      refine MyHeldE.take 10 (v := ?_) (.s (.s (.s (.s (.s (.s (.s (.s (.s (.s .z)))))))))) (by kernel_rfl) (by kernel_rfl) (by kernel_rfl) (by kernel_rfl) (by kernel_rfl) (fun _ _ _ h => h) (by rfl) (by assumption) ?_ ?_
      rotate_left
      ·intro w hSw; go_simp; (try with_reducible rfl)
      try simp only [Act.put, List.setIfInBounds_toArray, List.set_cons_zero, List.set_cons_succ]
      refine MyHeldE.take 11 (v := ?_) (.s (.s (.s (.s (.s (.s (.s (.s (.s (.s (.s .z))))))))))) (by kernel_rfl) (by kernel_rfl) (by kernel_rfl) (by kernel_rfl) (by kernel_rfl) (fun _ _ _ h => h) (by rfl) (by assumption) ?_ ?_
      rotate_left
      ·intro w hSw; go_simp; (try with_reducible rfl)
      try simp only [Act.put, List.setIfInBounds_toArray, List.set_cons_zero, List.set_cons_succ]
      refine MyHeldE.take 12 (v := ?_) (.s (.s (.s (.s (.s (.s (.s (.s (.s (.s (.s (.s .z)))))))))))) (by kernel_rfl) (by kernel_rfl) (by kernel_rfl) (by kernel_rfl) (by kernel_rfl) (fun _ _ _ h => h) (by rfl) (by assumption) ?_ ?_
      rotate_left
      ·intro w hSw; go_simp; (try with_reducible rfl)
      try simp only [Act.put, List.setIfInBounds_toArray, List.set_cons_zero, List.set_cons_succ]
      refine MyHeldE.take 13 (v := ?_) (.s (.s (.s (.s (.s (.s (.s (.s (.s (.s (.s (.s (.s .z))))))))))))) (by kernel_rfl) (by kernel_rfl) (by kernel_rfl) (by kernel_rfl) (by kernel_rfl) (fun _ _ _ h => h) (by rfl) (by assumption) ?_ ?_
      rotate_left
      ·intro w hSw; obtain ⟨s0, s1, s2, s3, s4, s5⟩ := hSw; obtain ⟨q0, q1, q2, q3, q4, q5, q6⟩ := seven_new s0; obtain ⟨r0, r1, r2, r3, r4, r5, r6⟩ := seven_new s1; go_simp; (try with_reducible rfl)
      try simp only [Act.put, List.setIfInBounds_toArray, List.set_cons_zero, List.set_cons_succ]
      refine MyHeldE.take 14 (v := ?_) (.s (.s (.s (.s (.s (.s (.s (.s (.s (.s (.s (.s (.s (.s .z)))))))))))))) (by kernel_rfl) (by kernel_rfl) (by kernel_rfl) (by kernel_rfl) (by kernel_rfl) (fun _ _ _ h => h) (by rfl) (by assumption) ?_ ?_
      rotate_left
      ·intro w hSw; go_simp; (try with_reducible rfl)
      try simp only [Act.put, List.setIfInBounds_toArray, List.set_cons_zero, List.set_cons_succ]
      refine MyHeldE.take 15 (v := ?_) (.s (.s (.s (.s (.s (.s (.s (.s (.s (.s (.s (.s (.s (.s (.s .z))))))))))))))) (by kernel_rfl) (by kernel_rfl) (by kernel_rfl) (by kernel_rfl) (by kernel_rfl) (fun _ _ _ h => h) (by rfl) (by assumption) ?_ ?_
      rotate_left
      ·intro w hSw; go_simp; (try with_reducible rfl)
      try simp only [Act.put, List.setIfInBounds_toArray, List.set_cons_zero, List.set_cons_succ]
      refine MyHeldE.take 16 (v := ?_) (.s (.s (.s (.s (.s (.s (.s (.s (.s (.s (.s (.s (.s (.s (.s (.s .z)))))))))))))))) (by kernel_rfl) (by kernel_rfl) (by kernel_rfl) (by kernel_rfl) (by kernel_rfl) (fun _ _ _ h => h) (by rfl) (by assumption) ?_ ?_
      rotate_left
      ·intro w hSw; go_simp; (try with_reducible rfl)
      try simp only [Act.put, List.setIfInBounds_toArray, List.set_cons_zero, List.set_cons_succ]
      refine MyHeldE.take 17 (v := ?_) (.s (.s (.s (.s (.s (.s (.s (.s (.s (.s (.s (.s (.s (.s (.s (.s (.s .z))))))))))))))))) (by kernel_rfl) (by kernel_rfl) (by kernel_rfl) (by kernel_rfl) (by kernel_rfl) (fun _ _ _ h => h) (by rfl) (by assumption) ?_ ?_
      rotate_left
      ·intro w hSw; go_simp; (try with_reducible rfl)
      try simp only [Act.put, List.setIfInBounds_toArray, List.set_cons_zero, List.set_cons_succ]
      refine MyHeldE.take 18 (v := ?_) (.s (.s (.s (.s (.s (.s (.s (.s (.s (.s (.s (.s (.s (.s (.s (.s (.s (.s .z)))))))))))))))))) (by kernel_rfl) (by kernel_rfl) (by kernel_rfl) (by kernel_rfl) (by kernel_rfl) (fun _ _ _ h => h) (by rfl) (by assumption) ?_ ?_
      rotate_left
      ·intro w hSw; go_simp; (try with_reducible rfl)
      try simp only [Act.put, List.setIfInBounds_toArray, List.set_cons_zero, List.set_cons_succ]
      refine MyHeldE.take 19 (v := ?_) (.s (.s (.s (.s (.s (.s (.s (.s (.s (.s (.s (.s (.s (.s (.s (.s (.s (.s (.s .z))))))))))))))))))) (by kernel_rfl) (by kernel_rfl) (by kernel_rfl) (by kernel_rfl) (by kernel_rfl) (fun _ _ _ h => h) (by rfl) (by assumption) ?_ ?_
      rotate_left
      ·intro w hSw; obtain ⟨s0, s1, s2, s3, s4, s5⟩ := hSw; obtain ⟨q0, q1, q2, q3, q4, q5, q6⟩ := seven_new s0; obtain ⟨r0, r1, r2, r3, r4, r5, r6⟩ := seven_new s1; go_simp; (try with_reducible rfl)
      try simp only [Act.put, List.setIfInBounds_toArray, List.set_cons_zero, List.set_cons_succ]
      refine MyHeldE.take 20 (v := ?_) (.s (.s (.s (.s (.s (.s (.s (.s (.s (.s (.s (.s (.s (.s (.s (.s (.s (.s (.s (.s .z)))))))))))))))))))) (by kernel_rfl) (by kernel_rfl) (by kernel_rfl) (by kernel_rfl) (by kernel_rfl) (fun _ _ _ h => h) (by rfl) (by assumption) ?_ ?_
      rotate_left
      ·intro w hSw; go_simp; (try with_reducible rfl)
      try simp only [Act.put, List.setIfInBounds_toArray, List.set_cons_zero, List.set_cons_succ]
      refine MyHeldE.take 21 (v := ?_) (.s (.s (.s (.s (.s (.s (.s (.s (.s (.s (.s (.s (.s (.s (.s (.s (.s (.s (.s (.s (.s .z))))))))))))))))))))) (by kernel_rfl) (by kernel_rfl) (by kernel_rfl) (by kernel_rfl) (by kernel_rfl) (fun _ _ _ h => h) (by rfl) (by assumption) ?_ ?_
      rotate_left
      ·intro w hSw; go_simp; (try with_reducible rfl)
      try simp only [Act.put, List.setIfInBounds_toArray, List.set_cons_zero, List.set_cons_succ]
      refine MyHeldE.take 22 (v := ?_) (.s (.s (.s (.s (.s (.s (.s (.s (.s (.s (.s (.s (.s (.s (.s (.s (.s (.s (.s (.s (.s (.s .z)))))))))))))))))))))) (by kernel_rfl) (by kernel_rfl) (by kernel_rfl) (by kernel_rfl) (by kernel_rfl) (fun _ _ _ h => h) (by rfl) (by assumption) ?_ ?_
      rotate_left
      ·intro w hSw; obtain ⟨s0, s1, s2, s3, s4, s5⟩ := hSw; obtain ⟨q0, q1, q2, q3, q4, q5, q6⟩ := seven_new s0; obtain ⟨r0, r1, r2, r3, r4, r5, r6⟩ := seven_new s1; go_simp; (try with_reducible rfl)
      try simp only [Act.put, List.setIfInBounds_toArray, List.set_cons_zero, List.set_cons_succ]
      refine MyHeldE.ready (rs := [23]) (by kernel_rfl) (by simp) ?_
      refine (MyHeldE.next 23 (.s (.s (.s (.s (.s (.s (.s (.s (.s (.s (.s (.s (.s (.s (.s (.s (.s (.s (.s (.s (.s (.s (.s .z))))))))))))))))))))))) (fun Kq hKq => ?_) MyHeldE.All.nil)
      go_simp
      go_at_call 11
      have hc := keeps_call p a a2 n c n2 c2 M M2 t u wd (TT.out.below HBd.out) (T2.out.below HBd.out) HF.out.ck0 HF.out.ck HF.out.inc0 HF.out.inc HMt.out HMu.out HKt.out HKu.out HKk.out.addr HKk.out.same
      rw [HYa.out] at hc
      refine hc.mono ?_; rintro e w2 ⟨rfl, hb⟩
      replace HBd := Lib.hid (HBd.out.trans (hb.mono HBd.out.size))
      replace HU := Lib.hid (HU.out.below hb)
      replace HS := Lib.hid (And.intro (keepO hb HS.out.1) (And.intro (keepO hb HS.out.2.1) (And.intro (keep1 hb HS.out.2.2.1) (And.intro (keep1 hb HS.out.2.2.2.1) (And.intro (keep1 hb HS.out.2.2.2.2.1) (keep1 hb HS.out.2.2.2.2.2))))))
      clear hb
      have hHeld2 := (HS.out)
      refine hKq.out _ _ (fun _ => hHeld2) ?_
      clear hKq Kq hHeld
      have hHeld := hHeld2
      clear hHeld2
      try simp only [Act.put, List.setIfInBounds_toArray, List.set_cons_zero, List.set_cons_succ]
      refine MyHeldE.take 24 (v := ?_) (.s (.s (.s (.s (.s (.s (.s (.s (.s (.s (.s (.s (.s (.s (.s (.s (.s (.s (.s (.s (.s (.s (.s (.s .z)))))))))))))))))))))))) (by kernel_rfl) (by kernel_rfl) (by kernel_rfl) (by kernel_rfl) (by kernel_rfl) (fun _ _ _ h => h) (by rfl) (by assumption) ?_ ?_
      rotate_left
      ·intro w hSw; go_simp; (try with_reducible rfl)
      try simp only [Act.put, List.setIfInBounds_toArray, List.set_cons_zero, List.set_cons_succ]
      refine MyHeldE.take 25 (v := ?_) (.s (.s (.s (.s (.s (.s (.s (.s (.s (.s (.s (.s (.s (.s (.s (.s (.s (.s (.s (.s (.s (.s (.s (.s (.s .z))))))))))))))))))))))))) (by kernel_rfl) (by kernel_rfl) (by kernel_rfl) (by kernel_rfl) (by kernel_rfl) (fun _ _ _ h => h) (by rfl) (by assumption) ?_ ?_
      rotate_left
      ·intro w hSw; go_simp; (try with_reducible rfl)
      try simp only [Act.put, List.setIfInBounds_toArray, List.set_cons_zero, List.set_cons_succ]
      refine MyHeldE.done (by kernel_rfl) ?_ _
      go_wp2_with fail
      refine ⟨⟨k + 1, HLt.out, rfl, by go_num, HBd.out, HU.out⟩, by simp [intOf]; have := HLt.out; omega⟩
     ·have hp0 : ¬ ep < 0 := fun q => absurd (g2.1 q) (by decide)
      have hp1 : ¬ ((pn : Int) ≤ ep) := by omega
      clear g1 g2 g3 g4 HKp
      have hnh : ∀ y, y < pn → ¬ hitB y ⟨2, ei, ep⟩ = true := fun y _ e => by rw [hit_k (by decide)] at e; cases e
      replace HU := Lib.hid (HU.out.next hnh)
      rw [← HTk.out] at HU
      clear hnh HTk
      go_wp2_with fail
      go_quiet (fail)
      go_wp2_with fail
      refine wp_region_held_drew (S := (fun w' => w'.cell? ⟨be, oe + k * 3, none⟩ = some (.int .u8 2))) (by kernel_rfl) (by simpa using x0) (fun hHeld => ?_)
      refine MyHeld.take 0 (v := ?_) .z (by kernel_rfl) (by kernel_rfl) (by kernel_rfl) (fun _ _ _ h => h) (by rfl) (by assumption) ?_ ?_
      rotate_left
      ·intro w hSw; (try dsimp only at hSw); go_simp; (try with_reducible rfl)
      try simp only [Act.put, List.setIfInBounds_toArray, List.set_cons_zero, List.set_cons_succ]
      refine MyHeld.take 1 (v := ?_) (.s .z) (by kernel_rfl) (by kernel_rfl) (by kernel_rfl) (fun _ _ _ h => h) (by rfl) (by assumption) ?_ ?_
      rotate_left
      ·intro w hSw; (try dsimp only at hSw); go_simp; (try with_reducible rfl)
      try simp only [Act.put, List.setIfInBounds_toArray, List.set_cons_zero, List.set_cons_succ]
      refine MyHeld.take 2 (v := ?_) (.s (.s .z)) (by kernel_rfl) (by kernel_rfl) (by kernel_rfl) (fun _ _ _ h => h) (by rfl) (by assumption) ?_ ?_
      rotate_left
      ·intro w hSw; (try dsimp only at hSw); go_simp; (try with_reducible rfl)
      try simp only [Act.put, List.setIfInBounds_toArray, List.set_cons_zero, List.set_cons_succ]
      refine MyHeld.take 3 (v := ?_) (.s (.s (.s .z))) (by kernel_rfl) (by kernel_rfl) (by kernel_rfl) (fun _ _ _ h => h) (by rfl) (by assumption) ?_ ?_
      rotate_left
      ·intro w hSw; (try dsimp only at hSw); go_simp; (try with_reducible rfl)
      try simp only [Act.put, List.setIfInBounds_toArray, List.set_cons_zero, List.set_cons_succ]
      refine MyHeld.take 4 (v := ?_) (.s (.s (.s (.s .z)))) (by kernel_rfl) (by kernel_rfl) (by kernel_rfl) (fun _ _ _ h => h) (by rfl) (by assumption) ?_ ?_
      rotate_left
      ·intro w hSw; (try dsimp only at hSw); go_simp; (try with_reducible rfl)
      try simp only [Act.put, List.setIfInBounds_toArray, List.set_cons_zero, List.set_cons_succ]
      refine MyHeld.take 5 (v := ?_) (.s (.s (.s (.s (.s .z))))) (by kernel_rfl) (by kernel_rfl) (by kernel_rfl) (fun _ _ _ h => h) (by rfl) (by assumption) ?_ ?_
      rotate_left
      ·intro w hSw; (try dsimp only at hSw); go_simp; (try with_reducible rfl)
      try simp only [Act.put, List.setIfInBounds_toArray, List.set_cons_zero, List.set_cons_succ]
      refine MyHeld.take 6 (v := ?_) (.s (.s (.s (.s (.s (.s .z)))))) (by kernel_rfl) (by kernel_rfl) (by kernel_rfl) (fun _ _ _ h => h) (by rfl) (by assumption) ?_ ?_
      rotate_left
      ·intro w hSw; (try dsimp only at hSw); go_simp; (try with_reducible rfl)
      try simp only [Act.put, List.setIfInBounds_toArray, List.set_cons_zero, List.set_cons_succ]
      refine MyHeld.skip 7 (.s (.s (.s (.s (.s (.s (.s .z))))))) (by kernel_rfl) (by kernel_rfl) (by kernel_rfl) (fun _ _ _ h => h) (by rfl) (by assumption) ?_
      try simp only [Act.put, List.setIfInBounds_toArray, List.set_cons_zero, List.set_cons_succ]
      refine MyHeld.skip 8 (.s (.s (.s (.s (.s (.s (.s (.s .z)))))))) (by kernel_rfl) (by kernel_rfl) (by kernel_rfl) (fun _ _ _ h => h) (by rfl) (by assumption) ?_
      try simp only [Act.put, List.setIfInBounds_toArray, List.set_cons_zero, List.set_cons_succ]
      refine MyHeld.skip 9 (.s (.s (.s (.s (.s (.s (.s (.s (.s .z))))))))) (by kernel_rfl) (by kernel_rfl) (by kernel_rfl) (fun _ _ _ h => h) (by rfl) (by assumption) ?_
      try simp only [Act.put, List.setIfInBounds_toArray, List.set_cons_zero, List.set_cons_succ]
      refine MyHeld.skip 10 (.s (.s (.s (.s (.s (.s (.s (.s (.s (.s .z)))))))))) (by kernel_rfl) (by kernel_rfl) (by kernel_rfl) (fun _ _ _ h => h) (by rfl) (by assumption) ?_
      try simp only [Act.put, List.setIfInBounds_toArray, List.set_cons_zero, List.set_cons_succ]
      refine MyHeld.skip 11 (.s (.s (.s (.s (.s (.s (.s (.s (.s (.s (.s .z))))))))))) (by kernel_rfl) (by kernel_rfl) (by kernel_rfl) (fun _ _ _ h => h) (by rfl) (by assumption) ?_
      try simp only [Act.put, List.setIfInBounds_toArray, List.set_cons_zero, List.set_cons_succ]
      refine MyHeld.skip 12 (.s (.s (.s (.s (.s (.s (.s (.s (.s (.s (.s (.s .z)))))))))))) (by kernel_rfl) (by kernel_rfl) (by kernel_rfl) (fun _ _ _ h => h) (by rfl) (by assumption) ?_
      try simp only [Act.put, List.setIfInBounds_toArray, List.set_cons_zero, List.set_cons_succ]
      refine MyHeld.skip 13 (.s (.s (.s (.s (.s (.s (.s (.s (.s (.s (.s (.s (.s .z))))))))))))) (by kernel_rfl) (by kernel_rfl) (by kernel_rfl) (fun _ _ _ h => h) (by rfl) (by assumption) ?_
      try simp only [Act.put, List.setIfInBounds_toArray, List.set_cons_zero, List.set_cons_succ]
      refine MyHeld.skip 14 (.s (.s (.s (.s (.s (.s (.s (.s (.s (.s (.s (.s (.s (.s .z)))))))))))))) (by kernel_rfl) (by kernel_rfl) (by kernel_rfl) (fun _ _ _ h => h) (by rfl) (by assumption) ?_
      try simp only [Act.put, List.setIfInBounds_toArray, List.set_cons_zero, List.set_cons_succ]
      refine MyHeld.skip 15 (.s (.s (.s (.s (.s (.s (.s (.s (.s (.s (.s (.s (.s (.s (.s .z))))))))))))))) (by kernel_rfl) (by kernel_rfl) (by kernel_rfl) (fun _ _ _ h => h) (by rfl) (by assumption) ?_
      try simp only [Act.put, List.setIfInBounds_toArray, List.set_cons_zero, List.set_cons_succ]
      refine MyHeld.skip 16 (.s (.s (.s (.s (.s (.s (.s (.s (.s (.s (.s (.s (.s (.s (.s (.s .z)))))))))))))))) (by kernel_rfl) (by kernel_rfl) (by kernel_rfl) (fun _ _ _ h => h) (by rfl) (by assumption) ?_
      try simp only [Act.put, List.setIfInBounds_toArray, List.set_cons_zero, List.set_cons_succ]
      refine MyHeld.skip 17 (.s (.s (.s (.s (.s (.s (.s (.s (.s (.s (.s (.s (.s (.s (.s (.s (.s .z))))))))))))))))) (by kernel_rfl) (by kernel_rfl) (by kernel_rfl) (fun _ _ _ h => h) (by rfl) (by assumption) ?_
      try simp only [Act.put, List.setIfInBounds_toArray, List.set_cons_zero, List.set_cons_succ]
      refine MyHeld.skip 18 (.s (.s (.s (.s (.s (.s (.s (.s (.s (.s (.s (.s (.s (.s (.s (.s (.s (.s .z)))))))))))))))))) (by kernel_rfl) (by kernel_rfl) (by kernel_rfl) (fun _ _ _ h => h) (by rfl) (by assumption) ?_
      try simp only [Act.put, List.setIfInBounds_toArray, List.set_cons_zero, List.set_cons_succ]
      refine MyHeld.skip 19 (.s (.s (.s (.s (.s (.s (.s (.s (.s (.s (.s (.s (.s (.s (.s (.s (.s (.s (.s .z))))))))))))))))))) (by kernel_rfl) (by kernel_rfl) (by kernel_rfl) (fun _ _ _ h => h) (by rfl) (by assumption) ?_
      try simp only [Act.put, List.setIfInBounds_toArray, List.set_cons_zero, List.set_cons_succ]
      refine MyHeld.skip 20 (.s (.s (.s (.s (.s (.s (.s (.s (.s (.s (.s (.s (.s (.s (.s (.s (.s (.s (.s (.s .z)))))))))))))))))))) (by kernel_rfl) (by kernel_rfl) (by kernel_rfl) (fun _ _ _ h => h) (by rfl) (by assumption) ?_
      try simp only [Act.put, List.setIfInBounds_toArray, List.set_cons_zero, List.set_cons_succ]
      refine MyHeld.skip 21 (.s (.s (.s (.s (.s (.s (.s (.s (.s (.s (.s (.s (.s (.s (.s (.s (.s (.s (.s (.s (.s .z))))))))))))))))))))) (by kernel_rfl) (by kernel_rfl) (by kernel_rfl) (fun _ _ _ h => h) (by rfl) (by assumption) ?_
      try simp only [Act.put, List.setIfInBounds_toArray, List.set_cons_zero, List.set_cons_succ]
      refine MyHeld.skip 22 (.s (.s (.s (.s (.s (.s (.s (.s (.s (.s (.s (.s (.s (.s (.s (.s (.s (.s (.s (.s (.s (.s .z)))))))))))))))))))))) (by kernel_rfl) (by kernel_rfl) (by kernel_rfl) (fun _ _ _ h => h) (by rfl) (by assumption) ?_
      try simp only [Act.put, List.setIfInBounds_toArray, List.set_cons_zero, List.set_cons_succ]
      refine MyHeld.skip 23 (.s (.s (.s (.s (.s (.s (.s (.s (.s (.s (.s (.s (.s (.s (.s (.s (.s (.s (.s (.s (.s (.s (.s .z))))))))))))))))))))))) (by kernel_rfl) (by kernel_rfl) (by kernel_rfl) (fun _ _ _ h => h) (by rfl) (by assumption) ?_
      try simp only [Act.put, List.setIfInBounds_toArray, List.set_cons_zero, List.set_cons_succ]
      refine MyHeld.skip 24 (.s (.s (.s (.s (.s (.s (.s (.s (.s (.s (.s (.s (.s (.s (.s (.s (.s (.s (.s (.s (.s (.s (.s (.s .z)))))))))))))))))))))))) (by kernel_rfl) (by kernel_rfl) (by kernel_rfl) (fun _ _ _ h => h) (by rfl) (by assumption) ?_
      try simp only [Act.put, List.setIfInBounds_toArray, List.set_cons_zero, List.set_cons_succ]
      refine MyHeld.take 25 (v := ?_) (.s (.s (.s (.s (.s (.s (.s (.s (.s (.s (.s (.s (.s (.s (.s (.s (.s (.s (.s (.s (.s (.s (.s (.s (.s .z))))))))))))))))))))))))) (by kernel_rfl) (by kernel_rfl) (by kernel_rfl) (fun _ _ _ h => h) (by rfl) (by assumption) ?_ ?_
      rotate_left
      ·intro w hSw; (try dsimp only at hSw); go_simp; (try with_reducible rfl)
      try simp only [Act.put, List.setIfInBounds_toArray, List.set_cons_zero, List.set_cons_succ]
      refine wpAnyH_done (by kernel_rfl) ?_ _
      go_wp2_with fail
      have hd := below_drewN (Below.refl wr.heap.size wr) (nq + 1)
      refine ⟨⟨k + 1, HLt.out, rfl, by go_num, HB.out.trans (hd.mono HB.out.size), HU.out.below hd⟩, by simp [intOf]; have := HLt.out; omega⟩
     ·obtain rfl : ep = -1 := by have := g2.2 (by decide); omega
      clear g1 g2 g3 g4 HKp
      have hp1 : ¬ ((pn : Int) ≤ -1) := by omega
      have hnh : ∀ y, y < pn → ¬ hitB y ⟨3, ei, -1⟩ = true := fun y _ e => by rw [hit_k (by decide)] at e; cases e
      replace HU := Lib.hid (HU.out.next hnh)
      rw [← HTk.out] at HU
      clear hnh HTk
      go_wp2_with fail
      go_quiet (fail)
      go_wp2_with fail
      refine wp_region_held_drew (S := (fun w' => w'.cell? ⟨be, oe + k * 3, none⟩ = some (.int .u8 3))) (by kernel_rfl) (by simpa using x0) (fun hHeld => ?_)
      refine MyHeld.take 0 (v := ?_) .z (by kernel_rfl) (by kernel_rfl) (by kernel_rfl) (fun _ _ _ h => h) (by rfl) (by assumption) ?_ ?_
      rotate_left
      ·intro w hSw; (try dsimp only at hSw); go_simp; (try with_reducible rfl)
      try simp only [Act.put, List.setIfInBounds_toArray, List.set_cons_zero, List.set_cons_succ]
      refine MyHeld.take 1 (v := ?_) (.s .z) (by kernel_rfl) (by kernel_rfl) (by kernel_rfl) (fun _ _ _ h => h) (by rfl) (by assumption) ?_ ?_
      rotate_left
      ·intro w hSw; (try dsimp only at hSw); go_simp; (try with_reducible rfl)
      try simp only [Act.put, List.setIfInBounds_toArray, List.set_cons_zero, List.set_cons_succ]
      refine MyHeld.take 2 (v := ?_) (.s (.s .z)) (by kernel_rfl) (by kernel_rfl) (by kernel_rfl) (fun _ _ _ h => h) (by rfl) (by assumption) ?_ ?_
      rotate_left
      ·intro w hSw; (try dsimp only at hSw); go_simp; (try with_reducible rfl)
      try simp only [Act.put, List.setIfInBounds_toArray, List.set_cons_zero, List.set_cons_succ]
      refine MyHeld.take 3 (v := ?_) (.s (.s (.s .z))) (by kernel_rfl) (by kernel_rfl) (by kernel_rfl) (fun _ _ _ h => h) (by rfl) (by assumption) ?_ ?_
      rotate_left
      ·intro w hSw; (try dsimp only at hSw); go_simp; (try with_reducible rfl)
      try simp only [Act.put, List.setIfInBounds_toArray, List.set_cons_zero, List.set_cons_succ]
      refine MyHeld.take 4 (v := ?_) (.s (.s (.s (.s .z)))) (by kernel_rfl) (by kernel_rfl) (by kernel_rfl) (fun _ _ _ h => h) (by rfl) (by assumption) ?_ ?_
      rotate_left
      ·intro w hSw; (try dsimp only at hSw); go_simp; (try with_reducible rfl)
      try simp only [Act.put, List.setIfInBounds_toArray, List.set_cons_zero, List.set_cons_succ]
      refine MyHeld.take 5 (v := ?_) (.s (.s (.s (.s (.s .z))))) (by kernel_rfl) (by kernel_rfl) (by kernel_rfl) (fun _ _ _ h => h) (by rfl) (by assumption) ?_ ?_
      rotate_left
      ·intro w hSw; (try dsimp only at hSw); go_simp; (try with_reducible rfl)
      try simp only [Act.put, List.setIfInBounds_toArray, List.set_cons_zero, List.set_cons_succ]
      refine MyHeld.take 6 (v := ?_) (.s (.s (.s (.s (.s (.s .z)))))) (by kernel_rfl) (by kernel_rfl) (by kernel_rfl) (fun _ _ _ h => h) (by rfl) (by assumption) ?_ ?_
      rotate_left
      ·intro w hSw; (try dsimp only at hSw); go_simp; (try with_reducible rfl)
      try simp only [Act.put, List.setIfInBounds_toArray, List.set_cons_zero, List.set_cons_succ]
      refine MyHeld.skip 7 (.s (.s (.s (.s (.s (.s (.s .z))))))) (by kernel_rfl) (by kernel_rfl) (by kernel_rfl) (fun _ _ _ h => h) (by rfl) (by assumption) ?_
      try simp only [Act.put, List.setIfInBounds_toArray, List.set_cons_zero, List.set_cons_succ]
      refine MyHeld.skip 8 (.s (.s (.s (.s (.s (.s (.s (.s .z)))))))) (by kernel_rfl) (by kernel_rfl) (by kernel_rfl) (fun _ _ _ h => h) (by rfl) (by assumption) ?_
      try simp only [Act.put, List.setIfInBounds_toArray, List.set_cons_zero, List.set_cons_succ]
      refine MyHeld.skip 9 (.s (.s (.s (.s (.s (.s (.s (.s (.s .z))))))))) (by kernel_rfl) (by kernel_rfl) (by kernel_rfl) (fun _ _ _ h => h) (by rfl) (by assumption) ?_
      try simp only [Act.put, List.setIfInBounds_toArray, List.set_cons_zero, List.set_cons_succ]
      refine MyHeld.skip 10 (.s (.s (.s (.s (.s (.s (.s (.s (.s (.s .z)))))))))) (by kernel_rfl) (by kernel_rfl) (by kernel_rfl) (fun _ _ _ h => h) (by rfl) (by assumption) ?_
      try simp only [Act.put, List.setIfInBounds_toArray, List.set_cons_zero, List.set_cons_succ]
      refine MyHeld.skip 11 (.s (.s (.s (.s (.s (.s (.s (.s (.s (.s (.s .z))))))))))) (by kernel_rfl) (by kernel_rfl) (by kernel_rfl) (fun _ _ _ h => h) (by rfl) (by assumption) ?_
      try simp only [Act.put, List.setIfInBounds_toArray, List.set_cons_zero, List.set_cons_succ]
      refine MyHeld.skip 12 (.s (.s (.s (.s (.s (.s (.s (.s (.s (.s (.s (.s .z)))))))))))) (by kernel_rfl) (by kernel_rfl) (by kernel_rfl) (fun _ _ _ h => h) (by rfl) (by assumption) ?_
      try simp only [Act.put, List.setIfInBounds_toArray, List.set_cons_zero, List.set_cons_succ]
      refine MyHeld.skip 13 (.s (.s (.s (.s (.s (.s (.s (.s (.s (.s (.s (.s (.s .z))))))))))))) (by kernel_rfl) (by kernel_rfl) (by kernel_rfl) (fun _ _ _ h => h) (by rfl) (by assumption) ?_
      try simp only [Act.put, List.setIfInBounds_toArray, List.set_cons_zero, List.set_cons_succ]
      refine MyHeld.skip 14 (.s (.s (.s (.s (.s (.s (.s (.s (.s (.s (.s (.s (.s (.s .z)))))))))))))) (by kernel_rfl) (by kernel_rfl) (by kernel_rfl) (fun _ _ _ h => h) (by rfl) (by assumption) ?_
      try simp only [Act.put, List.setIfInBounds_toArray, List.set_cons_zero, List.set_cons_succ]
      refine MyHeld.skip 15 (.s (.s (.s (.s (.s (.s (.s (.s (.s (.s (.s (.s (.s (.s (.s .z))))))))))))))) (by kernel_rfl) (by kernel_rfl) (by kernel_rfl) (fun _ _ _ h => h) (by rfl) (by assumption) ?_
      try simp only [Act.put, List.setIfInBounds_toArray, List.set_cons_zero, List.set_cons_succ]
      refine MyHeld.skip 16 (.s (.s (.s (.s (.s (.s (.s (.s (.s (.s (.s (.s (.s (.s (.s (.s .z)))))))))))))))) (by kernel_rfl) (by kernel_rfl) (by kernel_rfl) (fun _ _ _ h => h) (by rfl) (by assumption) ?_
      try simp only [Act.put, List.setIfInBounds_toArray, List.set_cons_zero, List.set_cons_succ]
      refine MyHeld.skip 17 (.s (.s (.s (.s (.s (.s (.s (.s (.s (.s (.s (.s (.s (.s (.s (.s (.s .z))))))))))))))))) (by kernel_rfl) (by kernel_rfl) (by kernel_rfl) (fun _ _ _ h => h) (by rfl) (by assumption) ?_
      try simp only [Act.put, List.setIfInBounds_toArray, List.set_cons_zero, List.set_cons_succ]
      refine MyHeld.skip 18 (.s (.s (.s (.s (.s (.s (.s (.s (.s (.s (.s (.s (.s (.s (.s (.s (.s (.s .z)))))))))))))))))) (by kernel_rfl) (by kernel_rfl) (by kernel_rfl) (fun _ _ _ h => h) (by rfl) (by assumption) ?_
      try simp only [Act.put, List.setIfInBounds_toArray, List.set_cons_zero, List.set_cons_succ]
      refine MyHeld.skip 19 (.s (.s (.s (.s (.s (.s (.s (.s (.s (.s (.s (.s (.s (.s (.s (.s (.s (.s (.s .z))))))))))))))))))) (by kernel_rfl) (by kernel_rfl) (by kernel_rfl) (fun _ _ _ h => h) (by rfl) (by assumption) ?_
      try simp only [Act.put, List.setIfInBounds_toArray, List.set_cons_zero, List.set_cons_succ]
      refine MyHeld.skip 20 (.s (.s (.s (.s (.s (.s (.s (.s (.s (.s (.s (.s (.s (.s (.s (.s (.s (.s (.s (.s .z)))))))))))))))))))) (by kernel_rfl) (by kernel_rfl) (by kernel_rfl) (fun _ _ _ h => h) (by rfl) (by assumption) ?_
      try simp only [Act.put, List.setIfInBounds_toArray, List.set_cons_zero, List.set_cons_succ]
      refine MyHeld.skip 21 (.s (.s (.s (.s (.s (.s (.s (.s (.s (.s (.s (.s (.s (.s (.s (.s (.s (.s (.s (.s (.s .z))))))))))))))))))))) (by kernel_rfl) (by kernel_rfl) (by kernel_rfl) (fun _ _ _ h => h) (by rfl) (by assumption) ?_
      try simp only [Act.put, List.setIfInBounds_toArray, List.set_cons_zero, List.set_cons_succ]
      refine MyHeld.skip 22 (.s (.s (.s (.s (.s (.s (.s (.s (.s (.s (.s (.s (.s (.s (.s (.s (.s (.s (.s (.s (.s (.s .z)))))))))))))))))))))) (by kernel_rfl) (by kernel_rfl) (by kernel_rfl) (fun _ _ _ h => h) (by rfl) (by assumption) ?_
      try simp only [Act.put, List.setIfInBounds_toArray, List.set_cons_zero, List.set_cons_succ]
      refine MyHeld.skip 23 (.s (.s (.s (.s (.s (.s (.s (.s (.s (.s (.s (.s (.s (.s (.s (.s (.s (.s (.s (.s (.s (.s (.s .z))))))))))))))))))))))) (by kernel_rfl) (by kernel_rfl) (by kernel_rfl) (fun _ _ _ h => h) (by rfl) (by assumption) ?_
      try simp only [Act.put, List.setIfInBounds_toArray, List.set_cons_zero, List.set_cons_succ]
      refine MyHeld.skip 24 (.s (.s (.s (.s (.s (.s (.s (.s (.s (.s (.s (.s (.s (.s (.s (.s (.s (.s (.s (.s (.s (.s (.s (.s .z)))))))))))))))))))))))) (by kernel_rfl) (by kernel_rfl) (by kernel_rfl) (fun _ _ _ h => h) (by rfl) (by assumption) ?_
      try simp only [Act.put, List.setIfInBounds_toArray, List.set_cons_zero, List.set_cons_succ]
      refine MyHeld.take 25 (v := ?_) (.s (.s (.s (.s (.s (.s (.s (.s (.s (.s (.s (.s (.s (.s (.s (.s (.s (.s (.s (.s (.s (.s (.s (.s (.s .z))))))))))))))))))))))))) (by kernel_rfl) (by kernel_rfl) (by kernel_rfl) (fun _ _ _ h => h) (by rfl) (by assumption) ?_ ?_
      rotate_left
      ·intro w hSw; (try dsimp only at hSw); go_simp; (try with_reducible rfl)
      try simp only [Act.put, List.setIfInBounds_toArray, List.set_cons_zero, List.set_cons_succ]
      refine wpAnyH_done (by kernel_rfl) ?_ _
      go_wp2_with fail
      have hd := below_drewN (Below.refl wr.heap.size wr) (nq + 1)
      refine ⟨⟨k + 1, HLt.out, rfl, by go_num, HB.out.trans (hd.mono HB.out.size), HU.out.below hd⟩, by simp [intOf]; have := HLt.out; omega⟩
     ·obtain rfl : ep = -1 := by have := g2.2 (by decide); omega
      clear g1 g2 g3 g4 HKp
      have hp1 : ¬ ((pn : Int) ≤ -1) := by omega
      have hnh : ∀ y, y < pn → ¬ hitB y ⟨4, ei, -1⟩ = true := fun y _ e => by rw [hit_k (by decide)] at e; cases e
      replace HU := Lib.hid (HU.out.next hnh)
      rw [← HTk.out] at HU
      clear hnh HTk
      go_wp2_with fail
      go_quiet (fail)
      go_wp2_with fail
      refine wp_region_held_drew (S := (fun w' => w'.cell? ⟨be, oe + k * 3, none⟩ = some (.int .u8 4))) (by kernel_rfl) (by simpa using x0) (fun hHeld => ?_)
      refine MyHeld.take 0 (v := ?_) .z (by kernel_rfl) (by kernel_rfl) (by kernel_rfl) (fun _ _ _ h => h) (by rfl) (by assumption) ?_ ?_
      rotate_left
      ·intro w hSw; (try dsimp only at hSw); go_simp; (try with_reducible rfl)
      try simp only [Act.put, List.setIfInBounds_toArray, List.set_cons_zero, List.set_cons_succ]
      refine MyHeld.take 1 (v := ?_) (.s .z) (by kernel_rfl) (by kernel_rfl) (by kernel_rfl) (fun _ _ _ h => h) (by rfl) (by assumption) ?_ ?_
      rotate_left
      ·intro w hSw; (try dsimp only at hSw); go_simp; (try with_reducible rfl)
      try simp only [Act.put, List.setIfInBounds_toArray, List.set_cons_zero, List.set_cons_succ]
      refine MyHeld.take 2 (v := ?_) (.s (.s .z)) (by kernel_rfl) (by kernel_rfl) (by kernel_rfl) (fun _ _ _ h => h) (by rfl) (by assumption) ?_ ?_
      rotate_left
      ·intro w hSw; (try dsimp only at hSw); go_simp; (try with_reducible rfl)
      try simp only [Act.put, List.setIfInBounds_toArray, List.set_cons_zero, List.set_cons_succ]
      refine MyHeld.take 3 (v := ?_) (.s (.s (.s .z))) (by kernel_rfl) (by kernel_rfl) (by kernel_rfl) (fun _ _ _ h => h) (by rfl) (by assumption) ?_ ?_
      rotate_left
      ·intro w hSw; (try dsimp only at hSw); go_simp; (try with_reducible rfl)
      try simp only [Act.put, List.setIfInBounds_toArray, List.set_cons_zero, List.set_cons_succ]
      refine MyHeld.take 4 (v := ?_) (.s (.s (.s (.s .z)))) (by kernel_rfl) (by kernel_rfl) (by kernel_rfl) (fun _ _ _ h => h) (by rfl) (by assumption) ?_ ?_
      rotate_left
      ·intro w hSw; (try dsimp only at hSw); go_simp; (try with_reducible rfl)
      try simp only [Act.put, List.setIfInBounds_toArray, List.set_cons_zero, List.set_cons_succ]
      refine MyHeld.take 5 (v := ?_) (.s (.s (.s (.s (.s .z))))) (by kernel_rfl) (by kernel_rfl) (by kernel_rfl) (fun _ _ _ h => h) (by rfl) (by assumption) ?_ ?_
      rotate_left
      ·intro w hSw; (try dsimp only at hSw); go_simp; (try with_reducible rfl)
      try simp only [Act.put, List.setIfInBounds_toArray, List.set_cons_zero, List.set_cons_succ]
      refine MyHeld.take 6 (v := ?_) (.s (.s (.s (.s (.s (.s .z)))))) (by kernel_rfl) (by kernel_rfl) (by kernel_rfl) (fun _ _ _ h => h) (by rfl) (by assumption) ?_ ?_
      rotate_left
      ·intro w hSw; (try dsimp only at hSw); go_simp; (try with_reducible rfl)
      try simp only [Act.put, List.setIfInBounds_toArray, List.set_cons_zero, List.set_cons_succ]
      refine MyHeld.skip 7 (.s (.s (.s (.s (.s (.s (.s .z))))))) (by kernel_rfl) (by kernel_rfl) (by kernel_rfl) (fun _ _ _ h => h) (by rfl) (by assumption) ?_
      try simp only [Act.put, List.setIfInBounds_toArray, List.set_cons_zero, List.set_cons_succ]
      refine MyHeld.skip 8 (.s (.s (.s (.s (.s (.s (.s (.s .z)))))))) (by kernel_rfl) (by kernel_rfl) (by kernel_rfl) (fun _ _ _ h => h) (by rfl) (by assumption) ?_
      try simp only [Act.put, List.setIfInBounds_toArray, List.set_cons_zero, List.set_cons_succ]
      refine MyHeld.skip 9 (.s (.s (.s (.s (.s (.s (.s (.s (.s .z))))))))) (by kernel_rfl) (by kernel_rfl) (by kernel_rfl) (fun _ _ _ h => h) (by rfl) (by assumption) ?_
      try simp only [Act.put, List.setIfInBounds_toArray, List.set_cons_zero, List.set_cons_succ]
      refine MyHeld.skip 10 (.s (.s (.s (.s (.s (.s (.s (.s (.s (.s .z)))))))))) (by kernel_rfl) (by kernel_rfl) (by kernel_rfl) (fun _ _ _ h => h) (by rfl) (by assumption) ?_
      try simp only [Act.put, List.setIfInBounds_toArray, List.set_cons_zero, List.set_cons_succ]
      refine MyHeld.skip 11 (.s (.s (.s (.s (.s (.s (.s (.s (.s (.s (.s .z))))))))))) (by kernel_rfl) (by kernel_rfl) (by kernel_rfl) (fun _ _ _ h => h) (by rfl) (by assumption) ?_
      try simp only [Act.put, List.setIfInBounds_toArray, List.set_cons_zero, List.set_cons_succ]
      refine MyHeld.skip 12 (.s (.s (.s (.s (.s (.s (.s (.s (.s (.s (.s (.s .z)))))))))))) (by kernel_rfl) (by kernel_rfl) (by kernel_rfl) (fun _ _ _ h => h) (by rfl) (by assumption) ?_
      try simp only [Act.put, List.setIfInBounds_toArray, List.set_cons_zero, List.set_cons_succ]
      refine MyHeld.skip 13 (.s (.s (.s (.s (.s (.s (.s (.s (.s (.s (.s (.s (.s .z))))))))))))) (by kernel_rfl) (by kernel_rfl) (by kernel_rfl) (fun _ _ _ h => h) (by rfl) (by assumption) ?_
      try simp only [Act.put, List.setIfInBounds_toArray, List.set_cons_zero, List.set_cons_succ]
      refine MyHeld.skip 14 (.s (.s (.s (.s (.s (.s (.s (.s (.s (.s (.s (.s (.s (.s .z)))))))))))))) (by kernel_rfl) (by kernel_rfl) (by kernel_rfl) (fun _ _ _ h => h) (by rfl) (by assumption) ?_
      try simp only [Act.put, List.setIfInBounds_toArray, List.set_cons_zero, List.set_cons_succ]
      refine MyHeld.skip 15 (.s (.s (.s (.s (.s (.s (.s (.s (.s (.s (.s (.s (.s (.s (.s .z))))))))))))))) (by kernel_rfl) (by kernel_rfl) (by kernel_rfl) (fun _ _ _ h => h) (by rfl) (by assumption) ?_
      try simp only [Act.put, List.setIfInBounds_toArray, List.set_cons_zero, List.set_cons_succ]
      refine MyHeld.skip 16 (.s (.s (.s (.s (.s (.s (.s (.s (.s (.s (.s (.s (.s (.s (.s (.s .z)))))))))))))))) (by kernel_rfl) (by kernel_rfl) (by kernel_rfl) (fun _ _ _ h => h) (by rfl) (by assumption) ?_
      try simp only [Act.put, List.setIfInBounds_toArray, List.set_cons_zero, List.set_cons_succ]
      refine MyHeld.skip 17 (.s (.s (.s (.s (.s (.s (.s (.s (.s (.s (.s (.s (.s (.s (.s (.s (.s .z))))))))))))))))) (by kernel_rfl) (by kernel_rfl) (by kernel_rfl) (fun _ _ _ h => h) (by rfl) (by assumption) ?_
      try simp only [Act.put, List.setIfInBounds_toArray, List.set_cons_zero, List.set_cons_succ]
      refine MyHeld.skip 18 (.s (.s (.s (.s (.s (.s (.s (.s (.s (.s (.s (.s (.s (.s (.s (.s (.s (.s .z)))))))))))))))))) (by kernel_rfl) (by kernel_rfl) (by kernel_rfl) (fun _ _ _ h => h) (by rfl) (by assumption) ?_
      try simp only [Act.put, List.setIfInBounds_toArray, List.set_cons_zero, List.set_cons_succ]
      refine MyHeld.skip 19 (.s (.s (.s (.s (.s (.s (.s (.s (.s (.s (.s (.s (.s (.s (.s (.s (.s (.s (.s .z))))))))))))))))))) (by kernel_rfl) (by kernel_rfl) (by kernel_rfl) (fun _ _ _ h => h) (by rfl) (by assumption) ?_
      try simp only [Act.put, List.setIfInBounds_toArray, List.set_cons_zero, List.set_cons_succ]
      refine MyHeld.skip 20 (.s (.s (.s (.s (.s (.s (.s (.s (.s (.s (.s (.s (.s (.s (.s (.s (.s (.s (.s (.s .z)))))))))))))))))))) (by kernel_rfl) (by kernel_rfl) (by kernel_rfl) (fun _ _ _ h => h) (by rfl) (by assumption) ?_
      try simp only [Act.put, List.setIfInBounds_toArray, List.set_cons_zero, List.set_cons_succ]
      refine MyHeld.skip 21 (.s (.s (.s (.s (.s (.s (.s (.s (.s (.s (.s (.s (.s (.s (.s (.s (.s (.s (.s (.s (.s .z))))))))))))))))))))) (by kernel_rfl) (by kernel_rfl) (by kernel_rfl) (fun _ _ _ h => h) (by rfl) (by assumption) ?_
      try simp only [Act.put, List.setIfInBounds_toArray, List.set_cons_zero, List.set_cons_succ]
      refine MyHeld.skip 22 (.s (.s (.s (.s (.s (.s (.s (.s (.s (.s (.s (.s (.s (.s (.s (.s (.s (.s (.s (.s (.s (.s .z)))))))))))))))))))))) (by kernel_rfl) (by kernel_rfl) (by kernel_rfl) (fun _ _ _ h => h) (by rfl) (by assumption) ?_
      try simp only [Act.put, List.setIfInBounds_toArray, List.set_cons_zero, List.set_cons_succ]
      refine MyHeld.skip 23 (.s (.s (.s (.s (.s (.s (.s (.s (.s (.s (.s (.s (.s (.s (.s (.s (.s (.s (.s (.s (.s (.s (.s .z))))))))))))))))))))))) (by kernel_rfl) (by kernel_rfl) (by kernel_rfl) (fun _ _ _ h => h) (by rfl) (by assumption) ?_
      try simp only [Act.put, List.setIfInBounds_toArray, List.set_cons_zero, List.set_cons_succ]
      refine MyHeld.skip 24 (.s (.s (.s (.s (.s (.s (.s (.s (.s (.s (.s (.s (.s (.s (.s (.s (.s (.s (.s (.s (.s (.s (.s (.s .z)))))))))))))))))))))))) (by kernel_rfl) (by kernel_rfl) (by kernel_rfl) (fun _ _ _ h => h) (by rfl) (by assumption) ?_
      try simp only [Act.put, List.setIfInBounds_toArray, List.set_cons_zero, List.set_cons_succ]
      refine MyHeld.take 25 (v := ?_) (.s (.s (.s (.s (.s (.s (.s (.s (.s (.s (.s (.s (.s (.s (.s (.s (.s (.s (.s (.s (.s (.s (.s (.s (.s .z))))))))))))))))))))))))) (by kernel_rfl) (by kernel_rfl) (by kernel_rfl) (fun _ _ _ h => h) (by rfl) (by assumption) ?_ ?_
      rotate_left
      ·intro w hSw; (try dsimp only at hSw); go_simp; (try with_reducible rfl)
      try simp only [Act.put, List.setIfInBounds_toArray, List.set_cons_zero, List.set_cons_succ]
      refine wpAnyH_done (by kernel_rfl) ?_ _
      go_wp2_with fail
      have hd := below_drewN (Below.refl wr.heap.size wr) (nq + 1)
      refine ⟨⟨k + 1, HLt.out, rfl, by go_num, HB.out.trans (hd.mono HB.out.size), HU.out.below hd⟩, by simp [intOf]; have := HLt.out; omega⟩
     ·have hp0 : ¬ ep < 0 := fun q => absurd (g2.1 q) (by decide)
      obtain ⟨y, rfl⟩ : ∃ y : Nat, ep = y := ⟨ep.toNat, by omega⟩
      have hy : y < pn := by omega
      have hp1 : ¬ ((pn : Int) ≤ (y : Int)) := by omega
      have hy0 : (0 : Int) ≤ (y : Int) := by omega
      have hy1 : (y : Int) < (pn : Int) := by omega
      clear g1 g2 g3 g4
      have hcv := cnt_take V k y
      have hcv2 := HF.out.cnt y
      obtain ⟨u0, u1⟩ := HU.out.cell hy
      have ul := HU.out.lt
      have wc : IntKind.i64.wrap ((cnt (V.take k) y : Int) + 1) = (cnt (V.take k) y : Int) + 1 := IntWalk.i64_in _ (by omega)
      go_wp2_with fail
      go_quiet (fail)
      go_upto_region 16 with fail
      have hd := below_drewN (Below.refl wr.heap.size wr) nq
      have HO := Lib.hid ((Only.refl UB (wr.drewN nq)).setCell y (.int .i64 ((cnt (V.take k) y : Int) + 1)))
      replace HU := Lib.hid ((HU.out.below hd).hit (e := ⟨5, ei, (y : Int)⟩) hy (Or.inr rfl) rfl)
      rw [← HTk.out] at HU
      replace HB := Lib.hid ((HB.out.trans (hd.mono HB.out.size)).trans (HO.out.below (by rw [HUB.out]; exact Nat.le_refl _) (Nat.le_trans HB.out.size hd.size)))
      replace x0 := HO.out.cell (keep1 hd x0) HNe.out
      replace x1 := HO.out.cell (keep1 hd x1) HNe.out
      replace x2 := HO.out.cell (keep1 hd x2) HNe.out
      clear hd HO u0 u1 ul hcv hcv2 wc xl
      generalize (wr.drewN nq).setCell ⟨UB, y, none⟩ (.int .i64 ((cnt (V.take k) y : Int) + 1)) = wu at *
      have xl := World.block_lt_of_cell? _ _ x0
      clear x1 x2
      refine wp_region_held_drew (S := (fun w' => w'.cell? ⟨be, oe + k * 3, none⟩ = some (.int .u8 5))) (by kernel_rfl) (by simpa using x0) (fun hHeld => ?_)
      refine MyHeld.take 0 (v := ?_) .z (by kernel_rfl) (by kernel_rfl) (by kernel_rfl) (fun _ _ _ h => h) (by rfl) (by assumption) ?_ ?_
      rotate_left
      ·intro w hSw; (try dsimp only at hSw); go_simp; (try with_reducible rfl)
      try simp only [Act.put, List.setIfInBounds_toArray, List.set_cons_zero, List.set_cons_succ]
      refine MyHeld.take 1 (v := ?_) (.s .z) (by kernel_rfl) (by kernel_rfl) (by kernel_rfl) (fun _ _ _ h => h) (by rfl) (by assumption) ?_ ?_
      rotate_left
      ·intro w hSw; (try dsimp only at hSw); go_simp; (try with_reducible rfl)
      try simp only [Act.put, List.setIfInBounds_toArray, List.set_cons_zero, List.set_cons_succ]
      refine MyHeld.take 2 (v := ?_) (.s (.s .z)) (by kernel_rfl) (by kernel_rfl) (by kernel_rfl) (fun _ _ _ h => h) (by rfl) (by assumption) ?_ ?_
      rotate_left
      ·intro w hSw; (try dsimp only at hSw); go_simp; (try with_reducible rfl)
      try simp only [Act.put, List.setIfInBounds_toArray, List.set_cons_zero, List.set_cons_succ]
      refine MyHeld.take 3 (v := ?_) (.s (.s (.s .z))) (by kernel_rfl) (by kernel_rfl) (by kernel_rfl) (fun _ _ _ h => h) (by rfl) (by assumption) ?_ ?_
      rotate_left
      ·intro w hSw; (try dsimp only at hSw); go_simp; (try with_reducible rfl)
      try simp only [Act.put, List.setIfInBounds_toArray, List.set_cons_zero, List.set_cons_succ]
      refine MyHeld.take 4 (v := ?_) (.s (.s (.s (.s .z)))) (by kernel_rfl) (by kernel_rfl) (by kernel_rfl) (fun _ _ _ h => h) (by rfl) (by assumption) ?_ ?_
      rotate_left
      ·intro w hSw; (try dsimp only at hSw); go_simp; (try with_reducible rfl)
      try simp only [Act.put, List.setIfInBounds_toArray, List.set_cons_zero, List.set_cons_succ]
      refine MyHeld.take 5 (v := ?_) (.s (.s (.s (.s (.s .z))))) (by kernel_rfl) (by kernel_rfl) (by kernel_rfl) (fun _ _ _ h => h) (by rfl) (by assumption) ?_ ?_
      rotate_left
      ·intro w hSw; (try dsimp only at hSw); go_simp; (try with_reducible rfl)
      try simp only [Act.put, List.setIfInBounds_toArray, List.set_cons_zero, List.set_cons_succ]
      refine MyHeld.take 6 (v := ?_) (.s (.s (.s (.s (.s (.s .z)))))) (by kernel_rfl) (by kernel_rfl) (by kernel_rfl) (fun _ _ _ h => h) (by rfl) (by assumption) ?_ ?_
      rotate_left
      ·intro w hSw; (try dsimp only at hSw); go_simp; (try with_reducible rfl)
      try simp only [Act.put, List.setIfInBounds_toArray, List.set_cons_zero, List.set_cons_succ]
      refine MyHeld.skip 7 (.s (.s (.s (.s (.s (.s (.s .z))))))) (by kernel_rfl) (by kernel_rfl) (by kernel_rfl) (fun _ _ _ h => h) (by rfl) (by assumption) ?_
      try simp only [Act.put, List.setIfInBounds_toArray, List.set_cons_zero, List.set_cons_succ]
      refine MyHeld.skip 8 (.s (.s (.s (.s (.s (.s (.s (.s .z)))))))) (by kernel_rfl) (by kernel_rfl) (by kernel_rfl) (fun _ _ _ h => h) (by rfl) (by assumption) ?_
      try simp only [Act.put, List.setIfInBounds_toArray, List.set_cons_zero, List.set_cons_succ]
      refine MyHeld.skip 9 (.s (.s (.s (.s (.s (.s (.s (.s (.s .z))))))))) (by kernel_rfl) (by kernel_rfl) (by kernel_rfl) (fun _ _ _ h => h) (by rfl) (by assumption) ?_
      try simp only [Act.put, List.setIfInBounds_toArray, List.set_cons_zero, List.set_cons_succ]
      refine MyHeld.skip 10 (.s (.s (.s (.s (.s (.s (.s (.s (.s (.s .z)))))))))) (by kernel_rfl) (by kernel_rfl) (by kernel_rfl) (fun _ _ _ h => h) (by rfl) (by assumption) ?_
      try simp only [Act.put, List.setIfInBounds_toArray, List.set_cons_zero, List.set_cons_succ]
      refine MyHeld.skip 11 (.s (.s (.s (.s (.s (.s (.s (.s (.s (.s (.s .z))))))))))) (by kernel_rfl) (by kernel_rfl) (by kernel_rfl) (fun _ _ _ h => h) (by rfl) (by assumption) ?_
      try simp only [Act.put, List.setIfInBounds_toArray, List.set_cons_zero, List.set_cons_succ]
      refine MyHeld.skip 12 (.s (.s (.s (.s (.s (.s (.s (.s (.s (.s (.s (.s .z)))))))))))) (by kernel_rfl) (by kernel_rfl) (by kernel_rfl) (fun _ _ _ h => h) (by rfl) (by assumption) ?_
      try simp only [Act.put, List.setIfInBounds_toArray, List.set_cons_zero, List.set_cons_succ]
      refine MyHeld.skip 13 (.s (.s (.s (.s (.s (.s (.s (.s (.s (.s (.s (.s (.s .z))))))))))))) (by kernel_rfl) (by kernel_rfl) (by kernel_rfl) (fun _ _ _ h => h) (by rfl) (by assumption) ?_
      try simp only [Act.put, List.setIfInBounds_toArray, List.set_cons_zero, List.set_cons_succ]
      refine MyHeld.skip 14 (.s (.s (.s (.s (.s (.s (.s (.s (.s (.s (.s (.s (.s (.s .z)))))))))))))) (by kernel_rfl) (by kernel_rfl) (by kernel_rfl) (fun _ _ _ h => h) (by rfl) (by assumption) ?_
      try simp only [Act.put, List.setIfInBounds_toArray, List.set_cons_zero, List.set_cons_succ]
      refine MyHeld.skip 15 (.s (.s (.s (.s (.s (.s (.s (.s (.s (.s (.s (.s (.s (.s (.s .z))))))))))))))) (by kernel_rfl) (by kernel_rfl) (by kernel_rfl) (fun _ _ _ h => h) (by rfl) (by assumption) ?_
      try simp only [Act.put, List.setIfInBounds_toArray, List.set_cons_zero, List.set_cons_succ]
      refine MyHeld.skip 16 (.s (.s (.s (.s (.s (.s (.s (.s (.s (.s (.s (.s (.s (.s (.s (.s .z)))))))))))))))) (by kernel_rfl) (by kernel_rfl) (by kernel_rfl) (fun _ _ _ h => h) (by rfl) (by assumption) ?_
      try simp only [Act.put, List.setIfInBounds_toArray, List.set_cons_zero, List.set_cons_succ]
      refine MyHeld.skip 17 (.s (.s (.s (.s (.s (.s (.s (.s (.s (.s (.s (.s (.s (.s (.s (.s (.s .z))))))))))))))))) (by kernel_rfl) (by kernel_rfl) (by kernel_rfl) (fun _ _ _ h => h) (by rfl) (by assumption) ?_
      try simp only [Act.put, List.setIfInBounds_toArray, List.set_cons_zero, List.set_cons_succ]
      refine MyHeld.skip 18 (.s (.s (.s (.s (.s (.s (.s (.s (.s (.s (.s (.s (.s (.s (.s (.s (.s (.s .z)))))))))))))))))) (by kernel_rfl) (by kernel_rfl) (by kernel_rfl) (fun _ _ _ h => h) (by rfl) (by assumption) ?_
      try simp only [Act.put, List.setIfInBounds_toArray, List.set_cons_zero, List.set_cons_succ]
      refine MyHeld.skip 19 (.s (.s (.s (.s (.s (.s (.s (.s (.s (.s (.s (.s (.s (.s (.s (.s (.s (.s (.s .z))))))))))))))))))) (by kernel_rfl) (by kernel_rfl) (by kernel_rfl) (fun _ _ _ h => h) (by rfl) (by assumption) ?_
      try simp only [Act.put, List.setIfInBounds_toArray, List.set_cons_zero, List.set_cons_succ]
      refine MyHeld.skip 20 (.s (.s (.s (.s (.s (.s (.s (.s (.s (.s (.s (.s (.s (.s (.s (.s (.s (.s (.s (.s .z)))))))))))))))))))) (by kernel_rfl) (by kernel_rfl) (by kernel_rfl) (fun _ _ _ h => h) (by rfl) (by assumption) ?_
      try simp only [Act.put, List.setIfInBounds_toArray, List.set_cons_zero, List.set_cons_succ]
      refine MyHeld.skip 21 (.s (.s (.s (.s (.s (.s (.s (.s (.s (.s (.s (.s (.s (.s (.s (.s (.s (.s (.s (.s (.s .z))))))))))))))))))))) (by kernel_rfl) (by kernel_rfl) (by kernel_rfl) (fun _ _ _ h => h) (by rfl) (by assumption) ?_
      try simp only [Act.put, List.setIfInBounds_toArray, List.set_cons_zero, List.set_cons_succ]
      refine MyHeld.skip 22 (.s (.s (.s (.s (.s (.s (.s (.s (.s (.s (.s (.s (.s (.s (.s (.s (.s (.s (.s (.s (.s (.s .z)))))))))))))))))))))) (by kernel_rfl) (by kernel_rfl) (by kernel_rfl) (fun _ _ _ h => h) (by rfl) (by assumption) ?_
      try simp only [Act.put, List.setIfInBounds_toArray, List.set_cons_zero, List.set_cons_succ]
      refine MyHeld.skip 23 (.s (.s (.s (.s (.s (.s (.s (.s (.s (.s (.s (.s (.s (.s (.s (.s (.s (.s (.s (.s (.s (.s (.s .z))))))))))))))))))))))) (by kernel_rfl) (by kernel_rfl) (by kernel_rfl) (fun _ _ _ h => h) (by rfl) (by assumption) ?_
      try simp only [Act.put, List.setIfInBounds_toArray, List.set_cons_zero, List.set_cons_succ]
      refine MyHeld.skip 24 (.s (.s (.s (.s (.s (.s (.s (.s (.s (.s (.s (.s (.s (.s (.s (.s (.s (.s (.s (.s (.s (.s (.s (.s .z)))))))))))))))))))))))) (by kernel_rfl) (by kernel_rfl) (by kernel_rfl) (fun _ _ _ h => h) (by rfl) (by assumption) ?_
      try simp only [Act.put, List.setIfInBounds_toArray, List.set_cons_zero, List.set_cons_succ]
      refine MyHeld.take 25 (v := ?_) (.s (.s (.s (.s (.s (.s (.s (.s (.s (.s (.s (.s (.s (.s (.s (.s (.s (.s (.s (.s (.s (.s (.s (.s (.s .z))))))))))))))))))))))))) (by kernel_rfl) (by kernel_rfl) (by kernel_rfl) (fun _ _ _ h => h) (by rfl) (by assumption) ?_ ?_
      rotate_left
      ·intro w hSw; (try dsimp only at hSw); go_simp; (try with_reducible rfl)
      try simp only [Act.put, List.setIfInBounds_toArray, List.set_cons_zero, List.set_cons_succ]
      refine wpAnyH_done (by kernel_rfl) ?_ _
      go_wp2_with fail
      have hd := below_drewN (Below.refl wu.heap.size wu) 1
      refine ⟨⟨k + 1, HLt.out, rfl, by go_num, HB.out.trans (hd.mono HB.out.size), HU.out.below hd⟩, by simp [intOf]; have := HLt.out; omega⟩
    ·obtain rfl : em = k := by omega
     rw [show V.take em = V from List.take_of_length_le (by omega)] at HU
     have HU2 := Lib.hid HU.out
     go_wp2_with fail
     go_loopw [4, 10] (fun v4 kv wx => ∃ k : Nat, k ≤ pn ∧ v4 = .bool false ∧ kv = .int .i64 k ∧ wx = wr) (fun _ kv _ => pn - (intOf kv).toNat)
     case atStart => exact ⟨0, by omega, rfl, rfl, rfl⟩
     case round =>
      obtain ⟨k, hk, rfl, rfl, rfl⟩ := hrel
      by_cases hlt : k < pn
      ·obtain ⟨u0, u1⟩ := HU2.out.cell hlt
       have ul := HU2.out.lt
       have hcv2 := HF.out.cnt k
       have hc1 : ¬ (1 : Int) < (cnt V k : Int) := by omega
       have HLt := Lib.hid hlt
       have hk0 : (0 : Int) ≤ (k : Int) := by omega
       have hk1 : (k : Int) < (pn : Int) := by omega
       have hkw : IntKind.i64.wrap ((k : Int) + 1) = ((k + 1 : Nat) : Int) := by rw [IntWalk.i64_in _ (by omega)]; omega
       clear hcv2 hlt
       go_wp2_with fail
       refine ⟨⟨k + 1, HLt.out, rfl, by go_num, trivial⟩, by simp [intOf]; have := HLt.out; omega⟩
      ·obtain rfl : pn = k := by omega
       clear HU HU2
       have KW := Lib.hid (K.out.below HB.out)
       obtain ⟨r0, r1, r2, r3, r4, r5, r6⟩ := seven_new (KW.out.H _ List.mem_cons_self)
       have rl := lt_of_block (KW.out.H _ List.mem_cons_self)
       go_wp2_with fail
       clear r0 r1 r2 r3 r4 r5 r6 rl KW
       go_loopw [4, 11] (fun v4 kv wx => ∃ k : Nat, k ≤ n2 ∧ v4 = .bool false ∧ kv = .int .i64 k ∧ Below w6.heap.size w6 wx) (fun _ kv _ => n2 - (intOf kv).toNat)
       case atStart => exact ⟨0, by omega, rfl, rfl, HB.out⟩
       case round =>
        clear HB
        obtain ⟨k, hk, rfl, rfl, hB⟩ := hrel
        have HB := Lib.hid hB
        clear hB
        have KW := Lib.hid (K.out.below HB.out)
        obtain ⟨r0, r1, r2, r3, r4, r5, r6⟩ := seven_new (KW.out.H _ List.mem_cons_self)
        have rl := lt_of_block (KW.out.H _ List.mem_cons_self)
        by_cases hlt : k < n2
        ·obtain ⟨bt, ot, rfl, hq⟩ := trs_at (T2.out.below HB.out).T hlt
         have x0 := hq.c0
         have HMu := Lib.hid (gk_mem (L := fsts M2) (k := k) (by rw [fsts_len, T2.out.T.len]; exact hlt))
         have hge : gk (fsts M2) k = (gt M2 k).1 := fsts_get M2 k
         obtain ⟨u, hu⟩ : ∃ u, gk (fsts M2) k = u := ⟨_, rfl⟩
         rw [hu] at HMu hge
         rw [← hge] at x0
         clear hge hu hq
         have HLt := Lib.hid hlt
         have hk0 : (0 : Int) ≤ (k : Int) := by omega
         have hk1 : (k : Int) < (n2 : Int) := by omega
         have hkw : IntKind.i64.wrap ((k : Int) + 1) = ((k + 1 : Nat) : Int) := by rw [IntWalk.i64_in _ (by omega)]; omega
         have xl := World.block_lt_of_cell? _ _ x0
         clear hlt
         have HOld := Lib.hid (HF.out.old u HMu.out)
         have HBt := Lib.hid (show bt < w6.heap.size from by
          obtain ⟨b', o', e', hq'⟩ := trs_at T2.out.T HLt.out
          cases e'
          exact World.block_lt_of_cell? _ _ hq'.c0)
         go_wp2_with fail
         clear r0 r1 r2 r3 r4 r5 r6 rl
         have KD := Lib.hid (show Below wr.heap.size wr wr.drew from below_drewN (Below.refl _ _) 1)
         have HS := Lib.hid (show (wr.drew.heap[B0]? = some (.cells #[.int .i64 p.gate, .int .i64 p.need, .int .i64 p.most, .int .i64 p.pull, .int .i64 now, .int .i64 next, .slice a n c] 26 (0, 0)) ∧ wr.drew.heap[XB]? = some (.cells #[.int .i64 p.gate, .int .i64 p.need, .int .i64 p.most, .int .i64 p.pull, .int .i64 (now + 1), .int .i64 nx, .slice (some ⟨bt, ot, none⟩) n2 c2] 26 (0, 0)) ∧ wr.drew.cell? ⟨bt, ot + k * 10, none⟩ = some (.int .i64 u.id)) from ⟨keepO KD.out (KW.out.H _ (List.mem_cons_of_mem _ List.mem_cons_self)), keepO KD.out (KW.out.H _ List.mem_cons_self), keep1 KD.out x0⟩)
         have HBd := Lib.hid (HB.out.trans (KD.out.mono HB.out.size))
         clear KW KD x0 xl HB
         by_cases hold : u.id < next
         ·refine MyHeldE.start (fun W => (W.heap[B0]? = some (.cells #[.int .i64 p.gate, .int .i64 p.need, .int .i64 p.most, .int .i64 p.pull, .int .i64 now, .int .i64 next, .slice a n c] 26 (0, 0)) ∧ W.heap[XB]? = some (.cells #[.int .i64 p.gate, .int .i64 p.need, .int .i64 p.most, .int .i64 p.pull, .int .i64 (now + 1), .int .i64 nx, .slice (some ⟨bt, ot, none⟩) n2 c2] 26 (0, 0)) ∧ W.cell? ⟨bt, ot + k * 10, none⟩ = some (.int .i64 u.id))) [12, 10, 13] (by kernel_rfl) ?_
          have hHeld := HS.out
          generalize wr.drew = wd at *
          refine MyHeldE.take 0 (v := ?_) .z (by kernel_rfl) (by kernel_rfl) (by kernel_rfl) (by kernel_rfl) (by kernel_rfl) (fun _ _ _ h => h) (by rfl) (by assumption) ?_ ?_
          rotate_left
          ·intro w hSw; obtain ⟨s0, s1, s2⟩ := hSw; obtain ⟨q0, q1, q2, q3, q4, q5, q6⟩ := seven_new s0; obtain ⟨r0, r1, r2, r3, r4, r5, r6⟩ := seven_new s1; go_simp; (try with_reducible rfl)
          try simp only [Act.put, List.setIfInBounds_toArray, List.set_cons_zero, List.set_cons_succ]
          refine MyHeldE.take 1 (v := ?_) (.s .z) (by kernel_rfl) (by kernel_rfl) (by kernel_rfl) (by kernel_rfl) (by kernel_rfl) (fun _ _ _ h => h) (by rfl) (by assumption) ?_ ?_
          rotate_left
          ·intro w hSw; go_simp; (try with_reducible rfl)
          try simp only [Act.put, List.setIfInBounds_toArray, List.set_cons_zero, List.set_cons_succ]
          refine MyHeldE.take 2 (v := ?_) (.s (.s .z)) (by kernel_rfl) (by kernel_rfl) (by kernel_rfl) (by kernel_rfl) (by kernel_rfl) (fun _ _ _ h => h) (by rfl) (by assumption) ?_ ?_
          rotate_left
          ·intro w hSw; obtain ⟨s0, s1, s2⟩ := hSw; obtain ⟨q0, q1, q2, q3, q4, q5, q6⟩ := seven_new s0; obtain ⟨r0, r1, r2, r3, r4, r5, r6⟩ := seven_new s1; go_simp; (try with_reducible rfl)
          try simp only [Act.put, List.setIfInBounds_toArray, List.set_cons_zero, List.set_cons_succ]
          refine MyHeldE.take 3 (v := ?_) (.s (.s (.s .z))) (by kernel_rfl) (by kernel_rfl) (by kernel_rfl) (by kernel_rfl) (by kernel_rfl) (fun _ _ _ h => h) (by rfl) (by assumption) ?_ ?_
          rotate_left
          ·intro w hSw; go_simp; (try with_reducible rfl)
          try simp only [Act.put, List.setIfInBounds_toArray, List.set_cons_zero, List.set_cons_succ]
          refine MyHeldE.take 4 (v := ?_) (.s (.s (.s (.s .z)))) (by kernel_rfl) (by kernel_rfl) (by kernel_rfl) (by kernel_rfl) (by kernel_rfl) (fun _ _ _ h => h) (by rfl) (by assumption) ?_ ?_
          rotate_left
          ·intro w hSw; go_simp; (try with_reducible rfl)
          try simp only [Act.put, List.setIfInBounds_toArray, List.set_cons_zero, List.set_cons_succ]
          refine MyHeldE.take 5 (v := ?_) (.s (.s (.s (.s (.s .z))))) (by kernel_rfl) (by kernel_rfl) (by kernel_rfl) (by kernel_rfl) (by kernel_rfl) (fun _ _ _ h => h) (by rfl) (by assumption) ?_ ?_
          rotate_left
          ·intro w hSw; go_simp; (try with_reducible rfl)
          try simp only [Act.put, List.setIfInBounds_toArray, List.set_cons_zero, List.set_cons_succ]
          refine MyHeldE.take 6 (v := ?_) (.s (.s (.s (.s (.s (.s .z)))))) (by kernel_rfl) (by kernel_rfl) (by kernel_rfl) (by kernel_rfl) (by kernel_rfl) (fun _ _ _ h => h) (by rfl) (by assumption) ?_ ?_
          rotate_left
          ·intro w hSw; obtain ⟨s0, s1, s2⟩ := hSw; obtain ⟨q0, q1, q2, q3, q4, q5, q6⟩ := seven_new s0; obtain ⟨r0, r1, r2, r3, r4, r5, r6⟩ := seven_new s1; go_simp; (try with_reducible rfl)
          try simp only [Act.put, List.setIfInBounds_toArray, List.set_cons_zero, List.set_cons_succ]
          refine MyHeldE.ready (rs := [7, 11]) (by kernel_rfl) (by simp) ?_
          refine (MyHeldE.next 7 (.s (.s (.s (.s (.s (.s (.s .z))))))) (fun Kq hKq => ?_) (MyHeldE.next 11 (.s (.s (.s (.s (.s (.s (.s (.s (.s (.s (.s .z))))))))))) (fun Kq hKq => ?_) MyHeldE.All.nil))
          ·go_simp
           go_at_call 12
           obtain ⟨t, htm, hte⟩ := HOld.out.2 hold
           have hc := find_yes p (now := now) (next := next) (id := u.id) a n c M t wd (TT.out.below HBd.out) HF.out.ck0 HF.out.inc0 htm hte
           clear htm hte
           refine hc.mono ?_; rintro e w2 ⟨sL, nsL, ksL, sH, nsH, ksH, rfl, hb⟩
           replace HBd := Lib.hid (HBd.out.trans (hb.mono HBd.out.size))
           replace HS := Lib.hid (And.intro (keepO hb HS.out.1) (And.intro (keepO hb HS.out.2.1) (keep1 hb HS.out.2.2)))
           clear hb hc
           have hHeld2 := HS.out
           refine hKq.out _ _ (fun _ => hHeld2) ?_
           clear hKq Kq hHeld
           have hHeld := hHeld2
           clear hHeld2
           try simp only [Act.put, List.setIfInBounds_toArray, List.set_cons_zero, List.set_cons_succ]
           refine MyHeldE.take2 8 (v := ?_) (.s (.s (.s (.s (.s (.s (.s (.s .z)))))))) (by kernel_rfl) (by kernel_rfl) (by kernel_rfl) (by kernel_rfl) (by kernel_rfl) (fun _ _ _ h => h) (by rfl) (by assumption) ?_ ?_
           rotate_left
           ·intro w hSw; go_simp; (try with_reducible rfl)
           try simp only [Act.put, List.setIfInBounds_toArray, List.set_cons_zero, List.set_cons_succ]
           refine MyHeldE.take0 10 (v := ?_) (.s (.s (.s (.s (.s (.s (.s (.s (.s (.s .z)))))))))) (by kernel_rfl) (by kernel_rfl) (by kernel_rfl) (by kernel_rfl) (fun _ _ _ h => h) (by rfl) ?_ ?_
           rotate_left
           ·intro w; go_simp; (try with_reducible rfl)
           try simp only [Act.put, List.setIfInBounds_toArray, List.set_cons_zero, List.set_cons_succ]
           refine MyHeldE.take2 9 (v := ?_) (.s (.s (.s (.s (.s (.s (.s (.s (.s .z))))))))) (by kernel_rfl) (by kernel_rfl) (by kernel_rfl) (by kernel_rfl) (by kernel_rfl) (fun _ _ _ h => h) (by rfl) (by assumption) ?_ ?_
           rotate_left
           ·intro w hSw; go_simp; (try with_reducible rfl)
           try simp only [Act.put, List.setIfInBounds_toArray, List.set_cons_zero, List.set_cons_succ]
           refine MyHeldE.ready (rs := [11]) (by kernel_rfl) (by simp) ?_
           refine (MyHeldE.next 11 (.s (.s (.s (.s (.s (.s (.s (.s (.s (.s (.s .z))))))))))) (fun Kq hKq => ?_) MyHeldE.All.nil)
           go_simp
           have hbz := below_alloc w2 (.cells (tkC (tk0, bs0)) 46)
           have HZ := Lib.hid (show (w2.alloc (.cells (tkC (tk0, bs0)) 46)).heap[w2.heap.size]? = some (.cells (tkC (tk0, bs0)) 46 (0, 0)) from block_new _ _ rfl)
           have HZl := Lib.hid (show w6.heap.size ≤ w2.heap.size from HBd.out.size)
           replace HBd := Lib.hid (HBd.out.trans (hbz.mono HBd.out.size))
           replace HS := Lib.hid (And.intro (keepO hbz HS.out.1) (And.intro (keepO hbz HS.out.2.1) (keep1 hbz HS.out.2.2)))
           clear hbz
           simp only [tkC, tk0, bs0, rg0] at HBd HS HZ
           have hHeld2 := HS.out
           refine hKq.out _ _ (fun _ => hHeld2) ?_
           clear hKq Kq hHeld
           have hHeld := hHeld2
           clear hHeld2
           obtain ⟨TB, hTB⟩ : ∃ b, b = w2.heap.size := ⟨_, rfl⟩
           rw [← hTB] at HZ HZl ⊢
           clear hTB
           generalize w2.alloc (.cells #[.int .i64 0, .int .i64 0, .int .i64 0, .int .i64 0, .int .i64 0, .slice none 0 0, .slice none 0 0, .int .i64 0, .int .i64 0, .bool false] 46) = wz at *
           try simp only [Act.put, List.setIfInBounds_toArray, List.set_cons_zero, List.set_cons_succ]
           obtain ⟨z0, z1, z2, z3, z4, z5, z6, z7, z8, z9⟩ := TkAt.block' (q := (tk0, bs0)) HZ.out
           simp only [tk0, bs0, rg0] at z0 z1 z2 z3 z4 z5 z6 z7 z8 z9
           obtain ⟨f0, f1, f2, f3, f4, f5, f6, f7, f8, f9⟩ := tk_free (q := (tk0, bs0)) HZ.out
           have zl := lt_of_block HZ.out
           refine MyHeldE.ready (rs := [12]) (by kernel_rfl) (by simp) ?_
           refine (MyHeldE.next 12 (.s (.s (.s (.s (.s (.s (.s (.s (.s (.s (.s (.s .z)))))))))))) (fun Kq hKq => ?_) MyHeldE.All.nil)
           go_simp
           refine hKq.out _ _ (fun e => by cases e) ?_
           clear hKq Kq
           try simp only [Act.put, List.setIfInBounds_toArray, List.set_cons_zero, List.set_cons_succ]
           refine MyHeldE.take0 13 (v := ?_) (.s (.s (.s (.s (.s (.s (.s (.s (.s (.s (.s (.s (.s .z))))))))))))) (by kernel_rfl) (by kernel_rfl) (by kernel_rfl) (by kernel_rfl) (fun _ _ _ h => h) (by rfl) ?_ ?_
           rotate_left
           ·intro w; go_simp; (try with_reducible rfl)
           try simp only [Act.put, List.setIfInBounds_toArray, List.set_cons_zero, List.set_cons_succ]
           refine MyHeldE.done (by kernel_rfl) ?_ _
           clear z0 z1 z2 z3 z4 z5 z6 z7 z8 z9 f0 f1 f2 f3 f4 f5 f6 f7 f8 f9 zl hHeld
           have KT := Lib.hid (tk_ten (q := (tk0, bs0)) HZ.out (.int .i64 t.id) (.int .i64 t.addr) (.int .i64 t.rg.r) (.int .i64 t.rg.v) (.int .i64 t.rg.n) (.slice sL nsL ksL) (.slice sH nsH ksH) (.int .i64 t.hits) (.int .i64 t.misses) (.bool t.firm))
           have HO := Lib.hid (show Below w6.heap.size wz _ from KT.out.1.below HZl.out HBd.out.size)
           have HNe := Lib.hid (show B0 < w6.heap.size ∧ XB < w6.heap.size ∧ bt < w6.heap.size from ⟨lt_of_block (K.out.H _ (List.mem_cons_of_mem _ List.mem_cons_self)), lt_of_block (K.out.H _ List.mem_cons_self), HBt.out⟩)
           replace HBd := Lib.hid (HBd.out.trans HO.out)
           replace HS := Lib.hid (And.intro (keepB HO.out HNe.out.1 HS.out.1) (And.intro (keepB HO.out HNe.out.2.1 HS.out.2.1) (keepC HO.out HNe.out.2.2 HS.out.2.2)))
           clear KT HO HZ HZl
           generalize ((((((((((wz.setCell ⟨TB, 0, none⟩ (.int .i64 t.id)).setCell ⟨TB, 1, none⟩ (.int .i64 t.addr)).setCell ⟨TB, 2, none⟩ (.int .i64 t.rg.r)).setCell ⟨TB, 3, none⟩ (.int .i64 t.rg.v)).setCell ⟨TB, 4, none⟩ (.int .i64 t.rg.n)).setCell ⟨TB, 5, none⟩ (.slice sL nsL ksL)).setCell ⟨TB, 6, none⟩ (.slice sH nsH ksH)).setCell ⟨TB, 7, none⟩ (.int .i64 t.hits)).setCell ⟨TB, 8, none⟩ (.int .i64 t.misses)).setCell ⟨TB, 9, none⟩ (.bool t.firm)) = wy at *
           obtain ⟨s0, s1, s2⟩ := HS.out
           obtain ⟨q0, q1, q2, q3, q4, q5, q6⟩ := seven_new s0
           obtain ⟨r0, r1, r2, r3, r4, r5, r6⟩ := seven_new s1
           have ql := lt_of_block s0
           have rl := lt_of_block s1
           have xl := World.block_lt_of_cell? _ _ s2
           clear s0 s1
           go_wp2_with fail
           go_quiet (fail)
           go_wp2_with fail
           have hd := below_drewN (Below.refl wy.heap.size wy) nq
           refine ⟨⟨k + 1, HLt.out, rfl, by go_num, HBd.out.trans (hd.mono HBd.out.size)⟩, by simp [intOf]; have := HLt.out; omega⟩
          ·go_simp
           have hbz := below_alloc wd (.cells (tkC (tk0, bs0)) 46)
           have HZ := Lib.hid (show (wd.alloc (.cells (tkC (tk0, bs0)) 46)).heap[wd.heap.size]? = some (.cells (tkC (tk0, bs0)) 46 (0, 0)) from block_new _ _ rfl)
           have HZl := Lib.hid (show w6.heap.size ≤ wd.heap.size from HBd.out.size)
           replace HBd := Lib.hid (HBd.out.trans (hbz.mono HBd.out.size))
           replace HS := Lib.hid (And.intro (keepO hbz HS.out.1) (And.intro (keepO hbz HS.out.2.1) (keep1 hbz HS.out.2.2)))
           clear hbz
           simp only [tkC, tk0, bs0, rg0] at HBd HS HZ
           have hHeld2 := HS.out
           refine hKq.out _ _ (fun _ => hHeld2) ?_
           clear hKq Kq hHeld
           have hHeld := hHeld2
           clear hHeld2
           obtain ⟨TB, hTB⟩ : ∃ b, b = wd.heap.size := ⟨_, rfl⟩
           rw [← hTB] at HZ HZl ⊢
           clear hTB
           generalize wd.alloc (.cells #[.int .i64 0, .int .i64 0, .int .i64 0, .int .i64 0, .int .i64 0, .slice none 0 0, .slice none 0 0, .int .i64 0, .int .i64 0, .bool false] 46) = wz at *
           try simp only [Act.put, List.setIfInBounds_toArray, List.set_cons_zero, List.set_cons_succ]
           refine MyHeldE.ready (rs := [7]) (by kernel_rfl) (by simp) ?_
           refine (MyHeldE.next 7 (.s (.s (.s (.s (.s (.s (.s .z))))))) (fun Kq hKq => ?_) MyHeldE.All.nil)
           go_simp
           go_at_call 12
           obtain ⟨t, htm, hte⟩ := HOld.out.2 hold
           have hc := find_yes p (now := now) (next := next) (id := u.id) a n c M t wz (TT.out.below HBd.out) HF.out.ck0 HF.out.inc0 htm hte
           clear htm hte
           refine hc.mono ?_; rintro e w2 ⟨sL, nsL, ksL, sH, nsH, ksH, rfl, hb⟩
           replace HBd := Lib.hid (HBd.out.trans (hb.mono HBd.out.size))
           replace HS := Lib.hid (And.intro (keepO hb HS.out.1) (And.intro (keepO hb HS.out.2.1) (keep1 hb HS.out.2.2)))
           replace HZ := Lib.hid (keepO hb HZ.out)
           clear hb hc
           have hHeld2 := HS.out
           refine hKq.out _ _ (fun _ => hHeld2) ?_
           clear hKq Kq hHeld
           have hHeld := hHeld2
           clear hHeld2
           try simp only [Act.put, List.setIfInBounds_toArray, List.set_cons_zero, List.set_cons_succ]
           refine MyHeldE.take2 8 (v := ?_) (.s (.s (.s (.s (.s (.s (.s (.s .z)))))))) (by kernel_rfl) (by kernel_rfl) (by kernel_rfl) (by kernel_rfl) (by kernel_rfl) (fun _ _ _ h => h) (by rfl) (by assumption) ?_ ?_
           rotate_left
           ·intro w hSw; go_simp; (try with_reducible rfl)
           try simp only [Act.put, List.setIfInBounds_toArray, List.set_cons_zero, List.set_cons_succ]
           refine MyHeldE.take0 10 (v := ?_) (.s (.s (.s (.s (.s (.s (.s (.s (.s (.s .z)))))))))) (by kernel_rfl) (by kernel_rfl) (by kernel_rfl) (by kernel_rfl) (fun _ _ _ h => h) (by rfl) ?_ ?_
           rotate_left
           ·intro w; go_simp; (try with_reducible rfl)
           try simp only [Act.put, List.setIfInBounds_toArray, List.set_cons_zero, List.set_cons_succ]
           refine MyHeldE.take2 9 (v := ?_) (.s (.s (.s (.s (.s (.s (.s (.s (.s .z))))))))) (by kernel_rfl) (by kernel_rfl) (by kernel_rfl) (by kernel_rfl) (by kernel_rfl) (fun _ _ _ h => h) (by rfl) (by assumption) ?_ ?_
           rotate_left
           ·intro w hSw; go_simp; (try with_reducible rfl)
           try simp only [Act.put, List.setIfInBounds_toArray, List.set_cons_zero, List.set_cons_succ]
           obtain ⟨z0, z1, z2, z3, z4, z5, z6, z7, z8, z9⟩ := TkAt.block' (q := (tk0, bs0)) HZ.out
           simp only [tk0, bs0, rg0] at z0 z1 z2 z3 z4 z5 z6 z7 z8 z9
           obtain ⟨f0, f1, f2, f3, f4, f5, f6, f7, f8, f9⟩ := tk_free (q := (tk0, bs0)) HZ.out
           have zl := lt_of_block HZ.out
           refine MyHeldE.ready (rs := [12]) (by kernel_rfl) (by simp) ?_
           refine (MyHeldE.next 12 (.s (.s (.s (.s (.s (.s (.s (.s (.s (.s (.s (.s .z)))))))))))) (fun Kq hKq => ?_) MyHeldE.All.nil)
           go_simp
           refine hKq.out _ _ (fun e => by cases e) ?_
           clear hKq Kq
           try simp only [Act.put, List.setIfInBounds_toArray, List.set_cons_zero, List.set_cons_succ]
           refine MyHeldE.take0 13 (v := ?_) (.s (.s (.s (.s (.s (.s (.s (.s (.s (.s (.s (.s (.s .z))))))))))))) (by kernel_rfl) (by kernel_rfl) (by kernel_rfl) (by kernel_rfl) (fun _ _ _ h => h) (by rfl) ?_ ?_
           rotate_left
           ·intro w; go_simp; (try with_reducible rfl)
           try simp only [Act.put, List.setIfInBounds_toArray, List.set_cons_zero, List.set_cons_succ]
           refine MyHeldE.done (by kernel_rfl) ?_ _
           clear z0 z1 z2 z3 z4 z5 z6 z7 z8 z9 f0 f1 f2 f3 f4 f5 f6 f7 f8 f9 zl hHeld
           have KT := Lib.hid (tk_ten (q := (tk0, bs0)) HZ.out (.int .i64 t.id) (.int .i64 t.addr) (.int .i64 t.rg.r) (.int .i64 t.rg.v) (.int .i64 t.rg.n) (.slice sL nsL ksL) (.slice sH nsH ksH) (.int .i64 t.hits) (.int .i64 t.misses) (.bool t.firm))
           have HO := Lib.hid (show Below w6.heap.size w2 _ from KT.out.1.below HZl.out HBd.out.size)
           have HNe := Lib.hid (show B0 < w6.heap.size ∧ XB < w6.heap.size ∧ bt < w6.heap.size from ⟨lt_of_block (K.out.H _ (List.mem_cons_of_mem _ List.mem_cons_self)), lt_of_block (K.out.H _ List.mem_cons_self), HBt.out⟩)
           replace HBd := Lib.hid (HBd.out.trans HO.out)
           replace HS := Lib.hid (And.intro (keepB HO.out HNe.out.1 HS.out.1) (And.intro (keepB HO.out HNe.out.2.1 HS.out.2.1) (keepC HO.out HNe.out.2.2 HS.out.2.2)))
           clear KT HO HZ HZl
           generalize ((((((((((w2.setCell ⟨TB, 0, none⟩ (.int .i64 t.id)).setCell ⟨TB, 1, none⟩ (.int .i64 t.addr)).setCell ⟨TB, 2, none⟩ (.int .i64 t.rg.r)).setCell ⟨TB, 3, none⟩ (.int .i64 t.rg.v)).setCell ⟨TB, 4, none⟩ (.int .i64 t.rg.n)).setCell ⟨TB, 5, none⟩ (.slice sL nsL ksL)).setCell ⟨TB, 6, none⟩ (.slice sH nsH ksH)).setCell ⟨TB, 7, none⟩ (.int .i64 t.hits)).setCell ⟨TB, 8, none⟩ (.int .i64 t.misses)).setCell ⟨TB, 9, none⟩ (.bool t.firm)) = wy at *
           obtain ⟨s0, s1, s2⟩ := HS.out
           obtain ⟨q0, q1, q2, q3, q4, q5, q6⟩ := seven_new s0
           obtain ⟨r0, r1, r2, r3, r4, r5, r6⟩ := seven_new s1
           have ql := lt_of_block s0
           have rl := lt_of_block s1
           have xl := World.block_lt_of_cell? _ _ s2
           clear s0 s1
           go_wp2_with fail
           go_quiet (fail)
           go_wp2_with fail
           have hd := below_drewN (Below.refl wy.heap.size wy) nq
           refine ⟨⟨k + 1, HLt.out, rfl, by go_num, HBd.out.trans (hd.mono HBd.out.size)⟩, by simp [intOf]; have := HLt.out; omega⟩
         ·refine MyHeldE.start (fun W => (W.heap[B0]? = some (.cells #[.int .i64 p.gate, .int .i64 p.need, .int .i64 p.most, .int .i64 p.pull, .int .i64 now, .int .i64 next, .slice a n c] 26 (0, 0)) ∧ W.heap[XB]? = some (.cells #[.int .i64 p.gate, .int .i64 p.need, .int .i64 p.most, .int .i64 p.pull, .int .i64 (now + 1), .int .i64 nx, .slice (some ⟨bt, ot, none⟩) n2 c2] 26 (0, 0)) ∧ W.cell? ⟨bt, ot + k * 10, none⟩ = some (.int .i64 u.id))) [12, 10, 13] (by kernel_rfl) ?_
          have hHeld := HS.out
          generalize wr.drew = wd at *
          refine MyHeldE.take 0 (v := ?_) .z (by kernel_rfl) (by kernel_rfl) (by kernel_rfl) (by kernel_rfl) (by kernel_rfl) (fun _ _ _ h => h) (by rfl) (by assumption) ?_ ?_
          rotate_left
          ·intro w hSw; obtain ⟨s0, s1, s2⟩ := hSw; obtain ⟨q0, q1, q2, q3, q4, q5, q6⟩ := seven_new s0; obtain ⟨r0, r1, r2, r3, r4, r5, r6⟩ := seven_new s1; go_simp; (try with_reducible rfl)
          try simp only [Act.put, List.setIfInBounds_toArray, List.set_cons_zero, List.set_cons_succ]
          refine MyHeldE.take 1 (v := ?_) (.s .z) (by kernel_rfl) (by kernel_rfl) (by kernel_rfl) (by kernel_rfl) (by kernel_rfl) (fun _ _ _ h => h) (by rfl) (by assumption) ?_ ?_
          rotate_left
          ·intro w hSw; go_simp; (try with_reducible rfl)
          try simp only [Act.put, List.setIfInBounds_toArray, List.set_cons_zero, List.set_cons_succ]
          refine MyHeldE.take 2 (v := ?_) (.s (.s .z)) (by kernel_rfl) (by kernel_rfl) (by kernel_rfl) (by kernel_rfl) (by kernel_rfl) (fun _ _ _ h => h) (by rfl) (by assumption) ?_ ?_
          rotate_left
          ·intro w hSw; obtain ⟨s0, s1, s2⟩ := hSw; obtain ⟨q0, q1, q2, q3, q4, q5, q6⟩ := seven_new s0; obtain ⟨r0, r1, r2, r3, r4, r5, r6⟩ := seven_new s1; go_simp; (try with_reducible rfl)
          try simp only [Act.put, List.setIfInBounds_toArray, List.set_cons_zero, List.set_cons_succ]
          refine MyHeldE.take 3 (v := ?_) (.s (.s (.s .z))) (by kernel_rfl) (by kernel_rfl) (by kernel_rfl) (by kernel_rfl) (by kernel_rfl) (fun _ _ _ h => h) (by rfl) (by assumption) ?_ ?_
          rotate_left
          ·intro w hSw; go_simp; (try with_reducible rfl)
          try simp only [Act.put, List.setIfInBounds_toArray, List.set_cons_zero, List.set_cons_succ]
          refine MyHeldE.take 4 (v := ?_) (.s (.s (.s (.s .z)))) (by kernel_rfl) (by kernel_rfl) (by kernel_rfl) (by kernel_rfl) (by kernel_rfl) (fun _ _ _ h => h) (by rfl) (by assumption) ?_ ?_
          rotate_left
          ·intro w hSw; go_simp; (try with_reducible rfl)
          try simp only [Act.put, List.setIfInBounds_toArray, List.set_cons_zero, List.set_cons_succ]
          refine MyHeldE.take 5 (v := ?_) (.s (.s (.s (.s (.s .z))))) (by kernel_rfl) (by kernel_rfl) (by kernel_rfl) (by kernel_rfl) (by kernel_rfl) (fun _ _ _ h => h) (by rfl) (by assumption) ?_ ?_
          rotate_left
          ·intro w hSw; go_simp; (try with_reducible rfl)
          try simp only [Act.put, List.setIfInBounds_toArray, List.set_cons_zero, List.set_cons_succ]
          refine MyHeldE.take 6 (v := ?_) (.s (.s (.s (.s (.s (.s .z)))))) (by kernel_rfl) (by kernel_rfl) (by kernel_rfl) (by kernel_rfl) (by kernel_rfl) (fun _ _ _ h => h) (by rfl) (by assumption) ?_ ?_
          rotate_left
          ·intro w hSw; obtain ⟨s0, s1, s2⟩ := hSw; obtain ⟨q0, q1, q2, q3, q4, q5, q6⟩ := seven_new s0; obtain ⟨r0, r1, r2, r3, r4, r5, r6⟩ := seven_new s1; go_simp; (try with_reducible rfl)
          try simp only [Act.put, List.setIfInBounds_toArray, List.set_cons_zero, List.set_cons_succ]
          refine MyHeldE.ready (rs := [7, 11]) (by kernel_rfl) (by simp) ?_
          refine (MyHeldE.next 7 (.s (.s (.s (.s (.s (.s (.s .z))))))) (fun Kq hKq => ?_) (MyHeldE.next 11 (.s (.s (.s (.s (.s (.s (.s (.s (.s (.s (.s .z))))))))))) (fun Kq hKq => ?_) MyHeldE.All.nil))
          ·go_simp
           go_at_call 12
           have hc := find_no p (now := now) (next := next) (id := u.id) a n c M wd (TT.out.below HBd.out) HF.out.ck0 (fun t htm hte => hold (HOld.out.1 ⟨t, htm, hte⟩))
           refine hc.mono ?_; rintro e w2 ⟨sL, nsL, ksL, sH, nsH, ksH, rfl, hb⟩
           replace HBd := Lib.hid (HBd.out.trans (hb.mono HBd.out.size))
           replace HS := Lib.hid (And.intro (keepO hb HS.out.1) (And.intro (keepO hb HS.out.2.1) (keep1 hb HS.out.2.2)))
           clear hb hc
           have hHeld2 := HS.out
           refine hKq.out _ _ (fun _ => hHeld2) ?_
           clear hKq Kq hHeld
           have hHeld := hHeld2
           clear hHeld2
           try simp only [Act.put, List.setIfInBounds_toArray, List.set_cons_zero, List.set_cons_succ]
           refine MyHeldE.take2 8 (v := ?_) (.s (.s (.s (.s (.s (.s (.s (.s .z)))))))) (by kernel_rfl) (by kernel_rfl) (by kernel_rfl) (by kernel_rfl) (by kernel_rfl) (fun _ _ _ h => h) (by rfl) (by assumption) ?_ ?_
           rotate_left
           ·intro w hSw; go_simp; (try with_reducible rfl)
           try simp only [Act.put, List.setIfInBounds_toArray, List.set_cons_zero, List.set_cons_succ]
           refine MyHeldE.take0 10 (v := ?_) (.s (.s (.s (.s (.s (.s (.s (.s (.s (.s .z)))))))))) (by kernel_rfl) (by kernel_rfl) (by kernel_rfl) (by kernel_rfl) (fun _ _ _ h => h) (by rfl) ?_ ?_
           rotate_left
           ·intro w; go_simp; (try with_reducible rfl)
           try simp only [Act.put, List.setIfInBounds_toArray, List.set_cons_zero, List.set_cons_succ]
           refine MyHeldE.take2 9 (v := ?_) (.s (.s (.s (.s (.s (.s (.s (.s (.s .z))))))))) (by kernel_rfl) (by kernel_rfl) (by kernel_rfl) (by kernel_rfl) (by kernel_rfl) (fun _ _ _ h => h) (by rfl) (by assumption) ?_ ?_
           rotate_left
           ·intro w hSw; go_simp; (try with_reducible rfl)
           try simp only [Act.put, List.setIfInBounds_toArray, List.set_cons_zero, List.set_cons_succ]
           refine MyHeldE.ready (rs := [11]) (by kernel_rfl) (by simp) ?_
           refine (MyHeldE.next 11 (.s (.s (.s (.s (.s (.s (.s (.s (.s (.s (.s .z))))))))))) (fun Kq hKq => ?_) MyHeldE.All.nil)
           go_simp
           have hbz := below_alloc w2 (.cells (tkC (tk0, bs0)) 46)
           have HZ := Lib.hid (show (w2.alloc (.cells (tkC (tk0, bs0)) 46)).heap[w2.heap.size]? = some (.cells (tkC (tk0, bs0)) 46 (0, 0)) from block_new _ _ rfl)
           have HZl := Lib.hid (show w6.heap.size ≤ w2.heap.size from HBd.out.size)
           replace HBd := Lib.hid (HBd.out.trans (hbz.mono HBd.out.size))
           replace HS := Lib.hid (And.intro (keepO hbz HS.out.1) (And.intro (keepO hbz HS.out.2.1) (keep1 hbz HS.out.2.2)))
           clear hbz
           simp only [tkC, tk0, bs0, rg0] at HBd HS HZ
           have hHeld2 := HS.out
           refine hKq.out _ _ (fun _ => hHeld2) ?_
           clear hKq Kq hHeld
           have hHeld := hHeld2
           clear hHeld2
           obtain ⟨TB, hTB⟩ : ∃ b, b = w2.heap.size := ⟨_, rfl⟩
           rw [← hTB] at HZ HZl ⊢
           clear hTB
           generalize w2.alloc (.cells #[.int .i64 0, .int .i64 0, .int .i64 0, .int .i64 0, .int .i64 0, .slice none 0 0, .slice none 0 0, .int .i64 0, .int .i64 0, .bool false] 46) = wz at *
           try simp only [Act.put, List.setIfInBounds_toArray, List.set_cons_zero, List.set_cons_succ]
           obtain ⟨z0, z1, z2, z3, z4, z5, z6, z7, z8, z9⟩ := TkAt.block' (q := (tk0, bs0)) HZ.out
           simp only [tk0, bs0, rg0] at z0 z1 z2 z3 z4 z5 z6 z7 z8 z9
           obtain ⟨f0, f1, f2, f3, f4, f5, f6, f7, f8, f9⟩ := tk_free (q := (tk0, bs0)) HZ.out
           have zl := lt_of_block HZ.out
           refine MyHeldE.ready (rs := [12]) (by kernel_rfl) (by simp) ?_
           refine (MyHeldE.next 12 (.s (.s (.s (.s (.s (.s (.s (.s (.s (.s (.s (.s .z)))))))))))) (fun Kq hKq => ?_) MyHeldE.All.nil)
           go_simp
           refine hKq.out _ _ (fun e => by cases e) ?_
           clear hKq Kq
           try simp only [Act.put, List.setIfInBounds_toArray, List.set_cons_zero, List.set_cons_succ]
           refine MyHeldE.take0 13 (v := ?_) (.s (.s (.s (.s (.s (.s (.s (.s (.s (.s (.s (.s (.s .z))))))))))))) (by kernel_rfl) (by kernel_rfl) (by kernel_rfl) (by kernel_rfl) (fun _ _ _ h => h) (by rfl) ?_ ?_
           rotate_left
           ·intro w; go_simp; (try with_reducible rfl)
           try simp only [Act.put, List.setIfInBounds_toArray, List.set_cons_zero, List.set_cons_succ]
           refine MyHeldE.done (by kernel_rfl) ?_ _
           clear z0 z1 z2 z3 z4 z5 z6 z7 z8 z9 f0 f1 f2 f3 f4 f5 f6 f7 f8 f9 zl hHeld
           have KT := Lib.hid (tk_ten (q := (tk0, bs0)) HZ.out (.int .i64 0) (.int .i64 0) (.int .i64 0) (.int .i64 0) (.int .i64 0) (.slice sL nsL ksL) (.slice sH nsH ksH) (.int .i64 0) (.int .i64 0) (.bool false))
           have HO := Lib.hid (show Below w6.heap.size wz _ from KT.out.1.below HZl.out HBd.out.size)
           have HNe := Lib.hid (show B0 < w6.heap.size ∧ XB < w6.heap.size ∧ bt < w6.heap.size from ⟨lt_of_block (K.out.H _ (List.mem_cons_of_mem _ List.mem_cons_self)), lt_of_block (K.out.H _ List.mem_cons_self), HBt.out⟩)
           replace HBd := Lib.hid (HBd.out.trans HO.out)
           replace HS := Lib.hid (And.intro (keepB HO.out HNe.out.1 HS.out.1) (And.intro (keepB HO.out HNe.out.2.1 HS.out.2.1) (keepC HO.out HNe.out.2.2 HS.out.2.2)))
           clear KT HO HZ HZl
           generalize ((((((((((wz.setCell ⟨TB, 0, none⟩ (.int .i64 0)).setCell ⟨TB, 1, none⟩ (.int .i64 0)).setCell ⟨TB, 2, none⟩ (.int .i64 0)).setCell ⟨TB, 3, none⟩ (.int .i64 0)).setCell ⟨TB, 4, none⟩ (.int .i64 0)).setCell ⟨TB, 5, none⟩ (.slice sL nsL ksL)).setCell ⟨TB, 6, none⟩ (.slice sH nsH ksH)).setCell ⟨TB, 7, none⟩ (.int .i64 0)).setCell ⟨TB, 8, none⟩ (.int .i64 0)).setCell ⟨TB, 9, none⟩ (.bool false)) = wy at *
           obtain ⟨s0, s1, s2⟩ := HS.out
           obtain ⟨q0, q1, q2, q3, q4, q5, q6⟩ := seven_new s0
           obtain ⟨r0, r1, r2, r3, r4, r5, r6⟩ := seven_new s1
           have ql := lt_of_block s0
           have rl := lt_of_block s1
           have xl := World.block_lt_of_cell? _ _ s2
           clear s0 s1
           go_wp2_with fail
           go_quiet (fail)
           go_wp2_with fail
           have hd := below_drewN (Below.refl wy.heap.size wy) nq
           refine ⟨⟨k + 1, HLt.out, rfl, by go_num, HBd.out.trans (hd.mono HBd.out.size)⟩, by simp [intOf]; have := HLt.out; omega⟩
          ·go_simp
           have hbz := below_alloc wd (.cells (tkC (tk0, bs0)) 46)
           have HZ := Lib.hid (show (wd.alloc (.cells (tkC (tk0, bs0)) 46)).heap[wd.heap.size]? = some (.cells (tkC (tk0, bs0)) 46 (0, 0)) from block_new _ _ rfl)
           have HZl := Lib.hid (show w6.heap.size ≤ wd.heap.size from HBd.out.size)
           replace HBd := Lib.hid (HBd.out.trans (hbz.mono HBd.out.size))
           replace HS := Lib.hid (And.intro (keepO hbz HS.out.1) (And.intro (keepO hbz HS.out.2.1) (keep1 hbz HS.out.2.2)))
           clear hbz
           simp only [tkC, tk0, bs0, rg0] at HBd HS HZ
           have hHeld2 := HS.out
           refine hKq.out _ _ (fun _ => hHeld2) ?_
           clear hKq Kq hHeld
           have hHeld := hHeld2
           clear hHeld2
           obtain ⟨TB, hTB⟩ : ∃ b, b = wd.heap.size := ⟨_, rfl⟩
           rw [← hTB] at HZ HZl ⊢
           clear hTB
           generalize wd.alloc (.cells #[.int .i64 0, .int .i64 0, .int .i64 0, .int .i64 0, .int .i64 0, .slice none 0 0, .slice none 0 0, .int .i64 0, .int .i64 0, .bool false] 46) = wz at *
           try simp only [Act.put, List.setIfInBounds_toArray, List.set_cons_zero, List.set_cons_succ]
           refine MyHeldE.ready (rs := [7]) (by kernel_rfl) (by simp) ?_
           refine (MyHeldE.next 7 (.s (.s (.s (.s (.s (.s (.s .z))))))) (fun Kq hKq => ?_) MyHeldE.All.nil)
           go_simp
           go_at_call 12
           have hc := find_no p (now := now) (next := next) (id := u.id) a n c M wz (TT.out.below HBd.out) HF.out.ck0 (fun t htm hte => hold (HOld.out.1 ⟨t, htm, hte⟩))
           refine hc.mono ?_; rintro e w2 ⟨sL, nsL, ksL, sH, nsH, ksH, rfl, hb⟩
           replace HBd := Lib.hid (HBd.out.trans (hb.mono HBd.out.size))
           replace HS := Lib.hid (And.intro (keepO hb HS.out.1) (And.intro (keepO hb HS.out.2.1) (keep1 hb HS.out.2.2)))
           replace HZ := Lib.hid (keepO hb HZ.out)
           clear hb hc
           have hHeld2 := HS.out
           refine hKq.out _ _ (fun _ => hHeld2) ?_
           clear hKq Kq hHeld
           have hHeld := hHeld2
           clear hHeld2
           try simp only [Act.put, List.setIfInBounds_toArray, List.set_cons_zero, List.set_cons_succ]
           refine MyHeldE.take2 8 (v := ?_) (.s (.s (.s (.s (.s (.s (.s (.s .z)))))))) (by kernel_rfl) (by kernel_rfl) (by kernel_rfl) (by kernel_rfl) (by kernel_rfl) (fun _ _ _ h => h) (by rfl) (by assumption) ?_ ?_
           rotate_left
           ·intro w hSw; go_simp; (try with_reducible rfl)
           try simp only [Act.put, List.setIfInBounds_toArray, List.set_cons_zero, List.set_cons_succ]
           refine MyHeldE.take0 10 (v := ?_) (.s (.s (.s (.s (.s (.s (.s (.s (.s (.s .z)))))))))) (by kernel_rfl) (by kernel_rfl) (by kernel_rfl) (by kernel_rfl) (fun _ _ _ h => h) (by rfl) ?_ ?_
           rotate_left
           ·intro w; go_simp; (try with_reducible rfl)
           try simp only [Act.put, List.setIfInBounds_toArray, List.set_cons_zero, List.set_cons_succ]
           refine MyHeldE.take2 9 (v := ?_) (.s (.s (.s (.s (.s (.s (.s (.s (.s .z))))))))) (by kernel_rfl) (by kernel_rfl) (by kernel_rfl) (by kernel_rfl) (by kernel_rfl) (fun _ _ _ h => h) (by rfl) (by assumption) ?_ ?_
           rotate_left
           ·intro w hSw; go_simp; (try with_reducible rfl)
           try simp only [Act.put, List.setIfInBounds_toArray, List.set_cons_zero, List.set_cons_succ]
           obtain ⟨z0, z1, z2, z3, z4, z5, z6, z7, z8, z9⟩ := TkAt.block' (q := (tk0, bs0)) HZ.out
           simp only [tk0, bs0, rg0] at z0 z1 z2 z3 z4 z5 z6 z7 z8 z9
           obtain ⟨f0, f1, f2, f3, f4, f5, f6, f7, f8, f9⟩ := tk_free (q := (tk0, bs0)) HZ.out
           have zl := lt_of_block HZ.out
           refine MyHeldE.ready (rs := [12]) (by kernel_rfl) (by simp) ?_
           refine (MyHeldE.next 12 (.s (.s (.s (.s (.s (.s (.s (.s (.s (.s (.s (.s .z)))))))))))) (fun Kq hKq => ?_) MyHeldE.All.nil)
           go_simp
           refine hKq.out _ _ (fun e => by cases e) ?_
           clear hKq Kq
           try simp only [Act.put, List.setIfInBounds_toArray, List.set_cons_zero, List.set_cons_succ]
           refine MyHeldE.take0 13 (v := ?_) (.s (.s (.s (.s (.s (.s (.s (.s (.s (.s (.s (.s (.s .z))))))))))))) (by kernel_rfl) (by kernel_rfl) (by kernel_rfl) (by kernel_rfl) (fun _ _ _ h => h) (by rfl) ?_ ?_
           rotate_left
           ·intro w; go_simp; (try with_reducible rfl)
           try simp only [Act.put, List.setIfInBounds_toArray, List.set_cons_zero, List.set_cons_succ]
           refine MyHeldE.done (by kernel_rfl) ?_ _
           clear z0 z1 z2 z3 z4 z5 z6 z7 z8 z9 f0 f1 f2 f3 f4 f5 f6 f7 f8 f9 zl hHeld
           have KT := Lib.hid (tk_ten (q := (tk0, bs0)) HZ.out (.int .i64 0) (.int .i64 0) (.int .i64 0) (.int .i64 0) (.int .i64 0) (.slice sL nsL ksL) (.slice sH nsH ksH) (.int .i64 0) (.int .i64 0) (.bool false))
           have HO := Lib.hid (show Below w6.heap.size w2 _ from KT.out.1.below HZl.out HBd.out.size)
           have HNe := Lib.hid (show B0 < w6.heap.size ∧ XB < w6.heap.size ∧ bt < w6.heap.size from ⟨lt_of_block (K.out.H _ (List.mem_cons_of_mem _ List.mem_cons_self)), lt_of_block (K.out.H _ List.mem_cons_self), HBt.out⟩)
           replace HBd := Lib.hid (HBd.out.trans HO.out)
           replace HS := Lib.hid (And.intro (keepB HO.out HNe.out.1 HS.out.1) (And.intro (keepB HO.out HNe.out.2.1 HS.out.2.1) (keepC HO.out HNe.out.2.2 HS.out.2.2)))
           clear KT HO HZ HZl
           generalize ((((((((((w2.setCell ⟨TB, 0, none⟩ (.int .i64 0)).setCell ⟨TB, 1, none⟩ (.int .i64 0)).setCell ⟨TB, 2, none⟩ (.int .i64 0)).setCell ⟨TB, 3, none⟩ (.int .i64 0)).setCell ⟨TB, 4, none⟩ (.int .i64 0)).setCell ⟨TB, 5, none⟩ (.slice sL nsL ksL)).setCell ⟨TB, 6, none⟩ (.slice sH nsH ksH)).setCell ⟨TB, 7, none⟩ (.int .i64 0)).setCell ⟨TB, 8, none⟩ (.int .i64 0)).setCell ⟨TB, 9, none⟩ (.bool false)) = wy at *
           obtain ⟨s0, s1, s2⟩ := HS.out
           obtain ⟨q0, q1, q2, q3, q4, q5, q6⟩ := seven_new s0
           obtain ⟨r0, r1, r2, r3, r4, r5, r6⟩ := seven_new s1
           have ql := lt_of_block s0
           have rl := lt_of_block s1
           have xl := World.block_lt_of_cell? _ _ s2
           clear s0 s1
           go_wp2_with fail
           go_quiet (fail)
           go_wp2_with fail
           have hd := below_drewN (Below.refl wy.heap.size wy) nq
           refine ⟨⟨k + 1, HLt.out, rfl, by go_num, HBd.out.trans (hd.mono HBd.out.size)⟩, by simp [intOf]; have := HLt.out; omega⟩
        ·obtain rfl : n2 = k := by omega
         go_wp2_with fail
         go_ret
         exact ⟨rfl, KW.out.B⟩
  ·have hc := cy_bad p hE a n c pa pn pc M w3 TT.out rfl HP.out
   obtain ⟨E, hE2⟩ : ∃ E, cyE p now next (fsts M) P = E := ⟨_, rfl⟩
   rw [hE2] at hc hE
   have hne : (E != 0) = true := by rw [bne_iff_ne]; exact hE
   clear hE2
   refine hc.mono ?_; rintro e w4 ⟨a', c', ea, ec, rfl, hb⟩
   replace K := Lib.hid ((K.out.below hb).alloc #[.int .i64 0, .int .i64 0, .int .i64 0, .int .i64 0, .int .i64 0, .int .i64 0, .slice a' 0 c'] 26)
   clear hb hc
   go_upto_region 5 with fail
   obtain ⟨B1, hB1⟩ : ∃ b, b = w4.heap.size := ⟨_, rfl⟩
   rw [← hB1] at K ⊢
   clear hB1
   generalize w4.alloc (.cells #[.int .i64 0, .int .i64 0, .int .i64 0, .int .i64 0, .int .i64 0, .int .i64 0, .slice a' 0 c'] 26) = w5 at *
   obtain ⟨t0, t1, t2, t3, t4, t5, t6⟩ := seven_new (K.out.H _ List.mem_cons_self)
   have tl := lt_of_block (K.out.H _ List.mem_cons_self)
   go_wp2_with fail
   go_ret
   exact ⟨rfl, K.out.B⟩
end Go.Proofs.Ytikjjpjekchcjaa
