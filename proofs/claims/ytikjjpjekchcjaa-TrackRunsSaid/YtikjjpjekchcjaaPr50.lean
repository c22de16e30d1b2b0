/-
  TrkRna
-/
import Derived.Test.YtikjjpjekchcjaaPr29
import Derived.Test.YtikjjpjekchcjaaPr49
import Derived.Test.YtikjjpjekchcjaaPr32
import Derived.Test.YtikjjpjekchcjaaPr1
set_option linter.all false
set_option maxRecDepth 100000
set_option maxHeartbeats 64000000
namespace Go.Proofs.Ytikjjpjekchcjaa
open Go.RowKit TrkMath MyHeap MyOwn MyCopy
theorem TbJ.below {B n : Nat} {W W' : World} {a : Option Addr} {M : List TB} (h : TbJ B W a n M) (hb : Below W.heap.size W W') : TbJ B W' a n M := ⟨h.I.below hb, h.t, fun k hk => (h.b k hk).outs (Outs.of_below hb)⟩
theorem TbJ.base {B B' n : Nat} {W : World} {a : Option Addr} {M : List TB} (h : TbJ B W a n M) (hb : B' ≤ B) : TbJ B' W a n M := ⟨h.I, fun g e => Nat.le_trans hb (h.t g e), fun k hk => (h.b k hk).base hb⟩
theorem TbJ.only2 {B T n : Nat} {W W' : World} {a : Option Addr} {M : List TB} (h : TbJ B W a n M) (hO : Only T W W') (hT : T < B) : TbJ B W' a n M := by
 refine ⟨h.only hO hT, h.t, fun k hk => ?_⟩
 have h1 := h.b k hk
 have h2 : BdX B [some T] W (gt M k) := ⟨h1.L, h1.H, fun x e => ⟨⟨(h1.gL x e).1.1, fun c => by have := (h1.gL x e).1.1; have := Option.some.inj (List.mem_singleton.1 c); omega⟩, (h1.gL x e).2⟩, fun x e => ⟨⟨(h1.gH x e).1.1, fun c => by have := (h1.gH x e).1.1; have := Option.some.inj (List.mem_singleton.1 c); omega⟩, (h1.gH x e).2⟩⟩
 exact (h2.outs (Outs.of_only (X := [some T]) hO (List.mem_singleton.2 rfl))).turn (fun _ e => by cases e)
theorem TbJ.nil (B : Nat) (W : World) : TbJ B W none 0 [] := ⟨TbI.nil _ _, fun _ e => (by cases e), fun _ hk => absurd hk (Nat.not_lt_zero _)⟩
def CyJ (q : Par) (nw nx : Int) (LT : List Tk) (n' m' : Nat) (E : Int) (w : World) (e : Ending) (w' : World) : Prop :=
 ∃ (a' ea : Option Addr) (c' ec : Nat) (M' : List TB), e = .returned (.tuple #[.agg #[.int .i64 q.gate, .int .i64 q.need, .int .i64 q.most, .int .i64 q.pull, .int .i64 nw, .int .i64 nx, .slice a' n' c'], .slice ea m' ec, .int .i64 E]) ∧ TbJ w.heap.size w' a' n' M' ∧ fsts M' = LT ∧ Below w.heap.size w w'
theorem CyPost.J {ty : TypeId} {R : TbR} {V : List Ev} {E : Int} {w w' : World} {e : Ending} {q : Par} {nw nx : Int} {LT : List Tk} {n' m' : Nat} (h : CyPost ty R V E w e w') (hR : R = ⟨q, nw, nx, LT⟩) (hn : LT.length = n') (hm : V.length = m') (h1 : n' ≤ 1000) : CyJ q nw nx LT n' m' E w e w' := by
 subst hR hn hm
 obtain ⟨tV, eV, M', rfl, hL, hM', hE, hB⟩ := h
 simp only [] at hM'
 have hlen : M'.length = LT.length := by rw [← fsts_len, hM']
 obtain ⟨a', c', rfl, hI⟩ := hL.tbI (by omega)
 obtain ⟨ea, ec, rfl, hEv⟩ := evi_own hE
 refine ⟨a', ea, c', ec, M', by rw [hlen]; rfl, ⟨by rw [← hlen]; exact hI, fun g hg => (hL.lt (g := g) (by
  cases a' with
  | none => cases hg
  | some x => exact hg)).1, fun k hk => (hL.bd k (by omega)).turn (fun g e => by cases e)⟩, hM', hB⟩
theorem seven_arr {x : Array Value} (h : x.size = 7) : ∃ q : Value × Value × Value × Value × Value × Value × Value, x = #[q.1, q.2.1, q.2.2.1, q.2.2.2.1, q.2.2.2.2.1, q.2.2.2.2.2.1, q.2.2.2.2.2.2] := by
 obtain ⟨l⟩ := x
 match l, h with
 | [c0, c1, c2, c3, c4, c5, c6], _ => exact ⟨(c0, c1, c2, c3, c4, c5, c6), rfl⟩
noncomputable def rr12C : Code := ((Try.f4.body.bind (cutR 12)).getD .skip)
theorem rr12 {u0 u2 u3 u4 u6 u7 u9 u10 u11 u12 u13 u14 u15 u16 u17 u18 u19 u20 u21 u22 u23 u24 u25 u26 u27 u28 u29 u30 u31 u32 u33 u34 u35 u36 u37 u38 u39 u40 u41 u42 u43 u44 u45 u46 u47 u48 u49 u50 u51 u52 u53 u54 u55 u56 u57 u58 u59 u60 u61 u62 u63 u64 u65 u66 u67 u68 u69 u70 u71 u72 u73 u74 u75 u76 u77 u78 u79 u80 u81 u82 u83 u84 u85 u86 u87 u88 u89 u90 u91 u92 u93 v0 v1 v2 v3 v4 v5 v6 : Value} (tb d off i ln lc pn pc n' m' : Nat) (pa : Option Addr) (q : Par) (nw nx E : Int) (LT : List Tk) (wc : World) (Q0 : Exit → Act → World → Prop) (hb : wc.heap[tb]? = some (.cells #[v0, v1, v2, v3, v4, v5, v6] 26 (0, 0)) ∧ wc.cell? ⟨d, off + i, none⟩ = some (.slice pa pn pc)) (hi : i < ln)
    (hcall : ∀ W : World, Below wc.heap.size wc W → Calls Try.prog 9 #[.agg #[v0, v1, v2, v3, v4, v5, v6], .slice pa pn pc] W (CyJ q nw nx LT n' m' E W)) (hpan : ∀ (c : List PanicEntry) (a : Act) d v (w : World), Q0 (.panic c) (a.put d v) w → Q0 (.panic c) a w)
    (hexit : ∀ (u53 u54 u55 u56 u57 u58 u59 u60 u61 u62 : Value) (b1 : Nat) (a' ea : Option Addr) (c' ec : Nat) (M' : List TB) (W' : World) (_ : Below wc.heap.size wc W' ∧ W'.heap[b1]? = some (.cells #[.int .i64 q.gate, .int .i64 q.need, .int .i64 q.most, .int .i64 q.pull, .int .i64 nw, .int .i64 nx, .slice a' n' c'] 26 (0, 0)) ∧ wc.heap.size ≤ b1 ∧ TbJ wc.heap.size W' a' n' M' ∧ fsts M' = LT), Q0 .normal ⟨#[u0, .slice (some ⟨d, off, none⟩) ln lc, u2, u3, u4, .pointer (some ⟨tb, 0, none⟩), u6, u7, .int .i64 (i : Int), .pointer (some ⟨b1, 0, none⟩), .slice ea m' ec, .int .i64 E, u12, u13, u14, u15, u16, u17, u18, u19, u20, u21, u22, u23, u24, u25, u26, u27, u28, u29, u30, u31, u32, u33, u34, u35, u36, u37, u38, u39, u40, u41, u42, u43, u44, u45, u46, u47, u48, u49, u50, u51, u52, u53, u54, u55, u56, u57, u58, u59, u60, u61, u62, u63, u64, u65, u66, u67, u68, u69, u70, u71, u72, u73, u74, u75, u76, u77, u78, u79, u80, u81, u82, u83, u84, u85, u86, u87, u88, u89, u90, u91, u92, u93], []⟩ W') :
    Code.wp Try.prog rr12C Q0 ⟨#[u0, .slice (some ⟨d, off, none⟩) ln lc, u2, u3, u4, .pointer (some ⟨tb, 0, none⟩), u6, u7, .int .i64 (i : Int), u9, u10, u11, u12, u13, u14, u15, u16, u17, u18, u19, u20, u21, u22, u23, u24, u25, u26, u27, u28, u29, u30, u31, u32, u33, u34, u35, u36, u37, u38, u39, u40, u41, u42, u43, u44, u45, u46, u47, u48, u49, u50, u51, u52, u53, u54, u55, u56, u57, u58, u59, u60, u61, u62, u63, u64, u65, u66, u67, u68, u69, u70, u71, u72, u73, u74, u75, u76, u77, u78, u79, u80, u81, u82, u83, u84, u85, u86, u87, u88, u89, u90, u91, u92, u93], []⟩ wc := by
 conv => arg 2; whnf
 try dsimp only
 have HQ := qh hexit
 have HCall := qh hcall
 have HPan := qh hpan
 have KD := qh (show Below wc.heap.size wc wc.drew from below_drewN (Below.refl _ _) 1)
 have HS := qh (And.intro (keepO KD.out hb.1) (keep1 KD.out hb.2))
 have HB := qh KD.out
 have hi0 : (0 : Int) ≤ (i : Int) := by omega
 have hi1 : (i : Int) < (ln : Int) := by omega
 clear hexit hcall hpan hb KD
 refine MyHeldE.start (fun W => W.heap[tb]? = some (.cells #[v0, v1, v2, v3, v4, v5, v6] 26 (0, 0)) ∧ W.cell? ⟨d, off + i, none⟩ = some (.slice pa pn pc)) [8, 9, 11, 12, 13] (by kernel_rfl) ?_
 have hHeld := HS.out
 generalize wc.drew = wd at *
 refine MyHeldE.tk 0 (hQ := (fun _ _ _ h => HPan.out _ _ _ _ _ h)) (hy := fun w hSw => by obtain ⟨q0, q1, q2, q3, q4, q5, q6⟩ := seven_new hSw.1; go_simp; (try with_reducible rfl)) ?_
 refine MyHeldE.tk 1 (hQ := (fun _ _ _ h => HPan.out _ _ _ _ _ h)) ?_
 refine MyHeldE.tk 2 (hQ := (fun _ _ _ h => HPan.out _ _ _ _ _ h)) ?_
 refine MyHeldE.tk 3 (hQ := (fun _ _ _ h => HPan.out _ _ _ _ _ h)) ?_
 refine MyHeldE.tk 4 (hQ := (fun _ _ _ h => HPan.out _ _ _ _ _ h)) (hy := fun w hSw => by have hSc := hSw.2; go_simp; (try with_reducible rfl)) ?_
 refine MyHeldE.ready (rs := [5, 10]) (by kernel_rfl) (by simp) ?_
 refine (MyHeldE.next 5 (MyHeld.at_rfl rfl) (fun Kq hKq => ?_) (MyHeldE.next 10 (MyHeld.at_rfl rfl) (fun Kq hKq => ?_) MyHeldE.All.nil))
 ·go_simp
  go_at_call 9
  have HLe := qh HB.out.size
  refine (HCall.out wd HB.out).mono ?_; rintro e w1 ⟨a', ea, c', ec, M', rfl, hJ, hMf, hb⟩
  have HJ := qh hJ
  have HMf := qh hMf
  replace HB := qh (HB.out.trans (hb.mono HB.out.size))
  replace HS := qh (And.intro (keepO hb HS.out.1) (keep1 hb HS.out.2))
  clear hb hJ hMf
  refine hKq.out _ _ (fun _ => HS.out) ?_
  clear hKq Kq hHeld
  have hHeld := HS.out
  try simp only [Act.put, List.setIfInBounds_toArray, List.set_cons_zero, List.set_cons_succ]
  refine MyHeldE.tk2 6 (hQ := (fun _ _ _ h => HPan.out _ _ _ _ _ h)) ?_
  refine MyHeldE.tk0 8 (hQ := (fun _ _ _ h => HPan.out _ _ _ _ _ h)) ?_
  refine MyHeldE.tk0 9 (hQ := (fun _ _ _ h => HPan.out _ _ _ _ _ h)) ?_
  refine MyHeldE.tk2 7 (hQ := (fun _ _ _ h => HPan.out _ _ _ _ _ h)) ?_
  refine MyHeldE.ready (rs := [10]) (by kernel_rfl) (by simp) ?_
  refine (MyHeldE.next 10 (MyHeld.at_rfl rfl) (fun Kq hKq => ?_) MyHeldE.All.nil)
  go_simp
  have hbz := below_alloc w1 (.cells #[.int .i64 0, .int .i64 0, .int .i64 0, .int .i64 0, .int .i64 0, .int .i64 0, .slice none 0 0] 26)
  have HZ := qh (show (w1.alloc (.cells #[.int .i64 0, .int .i64 0, .int .i64 0, .int .i64 0, .int .i64 0, .int .i64 0, .slice none 0 0] 26)).heap[w1.heap.size]? = some (.cells #[.int .i64 0, .int .i64 0, .int .i64 0, .int .i64 0, .int .i64 0, .int .i64 0, .slice none 0 0] 26 (0, 0)) from block_new _ _ rfl)
  have HZl := qh (show wc.heap.size ≤ w1.heap.size from HB.out.size)
  replace HB := qh (HB.out.trans (hbz.mono HB.out.size))
  replace HS := qh (And.intro (keepO hbz HS.out.1) (keep1 hbz HS.out.2))
  have HBz := qh hbz
  have HZs := qh (Nat.le_refl w1.heap.size)
  clear hbz
  refine hKq.out _ _ (fun _ => HS.out) ?_
  clear hKq Kq hHeld
  have hHeld := HS.out
  obtain ⟨b1, hb1⟩ : ∃ b, b = w1.heap.size := ⟨_, rfl⟩
  replace HZs := qh (show w1.heap.size ≤ b1 from by rw [hb1]; exact Nat.le_refl _)
  rw [← hb1] at HZ HZl ⊢
  clear hb1
  generalize w1.alloc (.cells #[.int .i64 0, .int .i64 0, .int .i64 0, .int .i64 0, .int .i64 0, .int .i64 0, .slice none 0 0] 26) = w2 at *
  try simp only [Act.put, List.setIfInBounds_toArray, List.set_cons_zero, List.set_cons_succ]
  obtain ⟨z0, z1, z2, z3, z4, z5, z6⟩ := seven_new HZ.out
  obtain ⟨f0, f1, f2, f3, f4, f5, f6⟩ := seven_free HZ.out
  have zl := lt_of_block HZ.out
  refine MyHeldE.ready (rs := [11]) (by kernel_rfl) (by simp) ?_
  refine (MyHeldE.next 11 (MyHeld.at_rfl rfl) (fun Kq hKq => ?_) MyHeldE.All.nil)
  go_simp
  refine hKq.out _ _ (fun e => by cases e) ?_
  clear hKq Kq
  try simp only [Act.put, List.setIfInBounds_toArray, List.set_cons_zero, List.set_cons_succ]
  refine MyHeldE.tk0 12 (hQ := (fun _ _ _ h => HPan.out _ _ _ _ _ h)) ?_
  refine MyHeldE.tk0 13 (hQ := (fun _ _ _ h => HPan.out _ _ _ _ _ h)) ?_
  refine MyHeldE.done (by kernel_rfl) ?_ _
  have KS := tb_stored HB.out HZ.out HZl.out (.int .i64 q.gate) (.int .i64 q.need) (.int .i64 q.most) (.int .i64 q.pull) (.int .i64 nw) (.int .i64 nx) (.slice a' n' c')
  have hJ2 := (HJ.out.below (HBz.out.trans ((tb_only w2 b1 (.int .i64 q.gate) (.int .i64 q.need) (.int .i64 q.most) (.int .i64 q.pull) (.int .i64 nw) (.int .i64 nx) (.slice a' n' c')).below HZs.out HBz.out.size))).base HLe.out
  exact HQ.out _ _ _ _ _ _ _ _ _ _ _ _ _ _ _ _ _ ⟨KS.1, KS.2, HZl.out, hJ2, HMf.out⟩
 go_simp
 have hbz := below_alloc wd (.cells #[.int .i64 0, .int .i64 0, .int .i64 0, .int .i64 0, .int .i64 0, .int .i64 0, .slice none 0 0] 26)
 have HZ := qh (show (wd.alloc (.cells #[.int .i64 0, .int .i64 0, .int .i64 0, .int .i64 0, .int .i64 0, .int .i64 0, .slice none 0 0] 26)).heap[wd.heap.size]? = some (.cells #[.int .i64 0, .int .i64 0, .int .i64 0, .int .i64 0, .int .i64 0, .int .i64 0, .slice none 0 0] 26 (0, 0)) from block_new _ _ rfl)
 have HZl := qh (show wc.heap.size ≤ wd.heap.size from HB.out.size)
 replace HB := qh (HB.out.trans (hbz.mono HB.out.size))
 replace HS := qh (And.intro (keepO hbz HS.out.1) (keep1 hbz HS.out.2))
 clear hbz
 refine hKq.out _ _ (fun _ => HS.out) ?_
 clear hKq Kq hHeld
 have hHeld := HS.out
 obtain ⟨b1, hb1⟩ : ∃ b, b = wd.heap.size := ⟨_, rfl⟩
 rw [← hb1] at HZ HZl ⊢
 clear hb1
 generalize wd.alloc (.cells #[.int .i64 0, .int .i64 0, .int .i64 0, .int .i64 0, .int .i64 0, .int .i64 0, .slice none 0 0] 26) = w1 at *
 try simp only [Act.put, List.setIfInBounds_toArray, List.set_cons_zero, List.set_cons_succ]
 refine MyHeldE.ready (rs := [5]) (by kernel_rfl) (by simp) ?_
 refine (MyHeldE.next 5 (MyHeld.at_rfl rfl) (fun Kq hKq => ?_) MyHeldE.All.nil)
 go_simp
 go_at_call 9
 have HZn := qh (lt_of_block HZ.out)
 have HLe := qh HB.out.size
 refine (HCall.out w1 HB.out).mono ?_; rintro e w2 ⟨a', ea, c', ec, M', rfl, hJ, hMf, hb⟩
 have HJ := qh hJ
 have HMf := qh hMf
 replace HB := qh (HB.out.trans (hb.mono HB.out.size))
 replace HS := qh (And.intro (keepO hb HS.out.1) (keep1 hb HS.out.2))
 replace HZ := qh (keepO hb HZ.out)
 clear hb hJ hMf
 refine hKq.out _ _ (fun _ => HS.out) ?_
 clear hKq Kq hHeld
 have hHeld := HS.out
 try simp only [Act.put, List.setIfInBounds_toArray, List.set_cons_zero, List.set_cons_succ]
 refine MyHeldE.tk2 6 (hQ := (fun _ _ _ h => HPan.out _ _ _ _ _ h)) ?_
 refine MyHeldE.tk0 8 (hQ := (fun _ _ _ h => HPan.out _ _ _ _ _ h)) ?_
 refine MyHeldE.tk0 9 (hQ := (fun _ _ _ h => HPan.out _ _ _ _ _ h)) ?_
 refine MyHeldE.tk2 7 (hQ := (fun _ _ _ h => HPan.out _ _ _ _ _ h)) ?_
 obtain ⟨z0, z1, z2, z3, z4, z5, z6⟩ := seven_new HZ.out
 obtain ⟨f0, f1, f2, f3, f4, f5, f6⟩ := seven_free HZ.out
 have zl := lt_of_block HZ.out
 refine MyHeldE.ready (rs := [11]) (by kernel_rfl) (by simp) ?_
 refine (MyHeldE.next 11 (MyHeld.at_rfl rfl) (fun Kq hKq => ?_) MyHeldE.All.nil)
 go_simp
 refine hKq.out _ _ (fun e => by cases e) ?_
 clear hKq Kq
 try simp only [Act.put, List.setIfInBounds_toArray, List.set_cons_zero, List.set_cons_succ]
 refine MyHeldE.tk0 12 (hQ := (fun _ _ _ h => HPan.out _ _ _ _ _ h)) ?_
 refine MyHeldE.tk0 13 (hQ := (fun _ _ _ h => HPan.out _ _ _ _ _ h)) ?_
 refine MyHeldE.done (by kernel_rfl) ?_ _
 have KS := tb_stored HB.out HZ.out HZl.out (.int .i64 q.gate) (.int .i64 q.need) (.int .i64 q.most) (.int .i64 q.pull) (.int .i64 nw) (.int .i64 nx) (.slice a' n' c')
 have hJ2 := ((HJ.out).only2 (tb_only w2 b1 (.int .i64 q.gate) (.int .i64 q.need) (.int .i64 q.most) (.int .i64 q.pull) (.int .i64 nw) (.int .i64 nx) (.slice a' n' c')) HZn.out).base HLe.out
 exact HQ.out _ _ _ _ _ _ _ _ _ _ _ _ _ _ _ _ _ ⟨KS.1, KS.2, HZl.out, hJ2, HMf.out⟩
noncomputable def rr13C : Code := ((Try.f4.body.bind (cutR 13)).getD .skip)
theorem rr13 {u0 u2 u3 u4 u5 u6 u9 u10 u11 u12 u13 u14 u15 u16 u17 u18 u19 u20 u21 u22 u23 u24 u25 u26 u27 u28 u29 u30 u31 u32 u33 u34 u35 u36 u37 u38 u39 u40 u41 u42 u43 u44 u45 u46 u47 u48 u49 u50 u51 u52 u53 u54 u55 u56 u57 u58 u59 u60 u61 u62 u63 u64 u65 u66 u67 u68 u69 u70 u71 u72 u73 u74 u75 u76 u77 u78 u79 u80 u81 u82 u83 u84 u85 u86 u87 u88 u89 u90 u91 u92 u93 v0 v1 v2 v3 v4 v5 v6 : Value} (tb d off i ln lc pn pc n' m' : Nat) (pa : Option Addr) (q : Par) (nw nx E : Int) (LT : List Tk) (wc : World) (Q0 : Exit → Act → World → Prop) (hb : wc.heap[tb]? = some (.cells #[v0, v1, v2, v3, v4, v5, v6] 55 (0, 0)) ∧ wc.cell? ⟨d, off + i, none⟩ = some (.slice pa pn pc)) (hi : i < ln)
    (hcall : ∀ W : World, Below wc.heap.size wc W → Calls Try.prog 15 #[.agg #[v0, v1, v2, v3, v4, v5, v6], .slice pa pn pc] W (CyJ q nw nx LT n' m' E W)) (hpan : ∀ (c : List PanicEntry) (a : Act) d v (w : World), Q0 (.panic c) (a.put d v) w → Q0 (.panic c) a w)
    (hexit : ∀ (u63 u64 u65 u66 u67 u68 u69 u70 u71 u72 : Value) (b1 : Nat) (a' ea : Option Addr) (c' ec : Nat) (M' : List TB) (W' : World) (_ : Below wc.heap.size wc W' ∧ W'.heap[b1]? = some (.cells #[.int .i64 q.gate, .int .i64 q.need, .int .i64 q.most, .int .i64 q.pull, .int .i64 nw, .int .i64 nx, .slice a' n' c'] 55 (0, 0)) ∧ wc.heap.size ≤ b1 ∧ TbJ wc.heap.size W' a' n' M' ∧ fsts M' = LT), Q0 .normal ⟨#[u0, .slice (some ⟨d, off, none⟩) ln lc, u2, u3, u4, u5, u6, .pointer (some ⟨tb, 0, none⟩), .int .i64 (i : Int), u9, u10, u11, .pointer (some ⟨b1, 0, none⟩), .slice ea m' ec, .int .i64 E, u15, u16, u17, u18, u19, u20, u21, u22, u23, u24, u25, u26, u27, u28, u29, u30, u31, u32, u33, u34, u35, u36, u37, u38, u39, u40, u41, u42, u43, u44, u45, u46, u47, u48, u49, u50, u51, u52, u53, u54, u55, u56, u57, u58, u59, u60, u61, u62, u63, u64, u65, u66, u67, u68, u69, u70, u71, u72, u73, u74, u75, u76, u77, u78, u79, u80, u81, u82, u83, u84, u85, u86, u87, u88, u89, u90, u91, u92, u93], []⟩ W') :
    Code.wp Try.prog rr13C Q0 ⟨#[u0, .slice (some ⟨d, off, none⟩) ln lc, u2, u3, u4, u5, u6, .pointer (some ⟨tb, 0, none⟩), .int .i64 (i : Int), u9, u10, u11, u12, u13, u14, u15, u16, u17, u18, u19, u20, u21, u22, u23, u24, u25, u26, u27, u28, u29, u30, u31, u32, u33, u34, u35, u36, u37, u38, u39, u40, u41, u42, u43, u44, u45, u46, u47, u48, u49, u50, u51, u52, u53, u54, u55, u56, u57, u58, u59, u60, u61, u62, u63, u64, u65, u66, u67, u68, u69, u70, u71, u72, u73, u74, u75, u76, u77, u78, u79, u80, u81, u82, u83, u84, u85, u86, u87, u88, u89, u90, u91, u92, u93], []⟩ wc := by
 conv => arg 2; whnf
 try dsimp only
 have HQ := qh hexit
 have HCall := qh hcall
 have HPan := qh hpan
 have KD := qh (show Below wc.heap.size wc wc.drew from below_drewN (Below.refl _ _) 1)
 have HS := qh (And.intro (keepO KD.out hb.1) (keep1 KD.out hb.2))
 have HB := qh KD.out
 have hi0 : (0 : Int) ≤ (i : Int) := by omega
 have hi1 : (i : Int) < (ln : Int) := by omega
 clear hexit hcall hpan hb KD
 refine MyHeldE.start (fun W => W.heap[tb]? = some (.cells #[v0, v1, v2, v3, v4, v5, v6] 55 (0, 0)) ∧ W.cell? ⟨d, off + i, none⟩ = some (.slice pa pn pc)) [8, 9, 11, 12, 13] (by kernel_rfl) ?_
 have hHeld := HS.out
 generalize wc.drew = wd at *
 refine MyHeldE.tk 0 (hQ := (fun _ _ _ h => HPan.out _ _ _ _ _ h)) (hy := fun w hSw => by obtain ⟨q0, q1, q2, q3, q4, q5, q6⟩ := seven_new hSw.1; go_simp; (try with_reducible rfl)) ?_
 refine MyHeldE.tk 1 (hQ := (fun _ _ _ h => HPan.out _ _ _ _ _ h)) ?_
 refine MyHeldE.tk 2 (hQ := (fun _ _ _ h => HPan.out _ _ _ _ _ h)) ?_
 refine MyHeldE.tk 3 (hQ := (fun _ _ _ h => HPan.out _ _ _ _ _ h)) ?_
 refine MyHeldE.tk 4 (hQ := (fun _ _ _ h => HPan.out _ _ _ _ _ h)) (hy := fun w hSw => by have hSc := hSw.2; go_simp; (try with_reducible rfl)) ?_
 refine MyHeldE.ready (rs := [5, 10]) (by kernel_rfl) (by simp) ?_
 refine (MyHeldE.next 5 (MyHeld.at_rfl rfl) (fun Kq hKq => ?_) (MyHeldE.next 10 (MyHeld.at_rfl rfl) (fun Kq hKq => ?_) MyHeldE.All.nil))
 ·go_simp
  go_at_call 15
  have HLe := qh HB.out.size
  refine (HCall.out wd HB.out).mono ?_; rintro e w1 ⟨a', ea, c', ec, M', rfl, hJ, hMf, hb⟩
  have HJ := qh hJ
  have HMf := qh hMf
  replace HB := qh (HB.out.trans (hb.mono HB.out.size))
  replace HS := qh (And.intro (keepO hb HS.out.1) (keep1 hb HS.out.2))
  clear hb hJ hMf
  refine hKq.out _ _ (fun _ => HS.out) ?_
  clear hKq Kq hHeld
  have hHeld := HS.out
  try simp only [Act.put, List.setIfInBounds_toArray, List.set_cons_zero, List.set_cons_succ]
  refine MyHeldE.tk2 6 (hQ := (fun _ _ _ h => HPan.out _ _ _ _ _ h)) ?_
  refine MyHeldE.tk0 8 (hQ := (fun _ _ _ h => HPan.out _ _ _ _ _ h)) ?_
  refine MyHeldE.tk0 9 (hQ := (fun _ _ _ h => HPan.out _ _ _ _ _ h)) ?_
  refine MyHeldE.tk2 7 (hQ := (fun _ _ _ h => HPan.out _ _ _ _ _ h)) ?_
  refine MyHeldE.ready (rs := [10]) (by kernel_rfl) (by simp) ?_
  refine (MyHeldE.next 10 (MyHeld.at_rfl rfl) (fun Kq hKq => ?_) MyHeldE.All.nil)
  go_simp
  have hbz := below_alloc w1 (.cells #[.int .i64 0, .int .i64 0, .int .i64 0, .int .i64 0, .int .i64 0, .int .i64 0, .slice none 0 0] 55)
  have HZ := qh (show (w1.alloc (.cells #[.int .i64 0, .int .i64 0, .int .i64 0, .int .i64 0, .int .i64 0, .int .i64 0, .slice none 0 0] 55)).heap[w1.heap.size]? = some (.cells #[.int .i64 0, .int .i64 0, .int .i64 0, .int .i64 0, .int .i64 0, .int .i64 0, .slice none 0 0] 55 (0, 0)) from block_new _ _ rfl)
  have HZl := qh (show wc.heap.size ≤ w1.heap.size from HB.out.size)
  replace HB := qh (HB.out.trans (hbz.mono HB.out.size))
  replace HS := qh (And.intro (keepO hbz HS.out.1) (keep1 hbz HS.out.2))
  have HBz := qh hbz
  have HZs := qh (Nat.le_refl w1.heap.size)
  clear hbz
  refine hKq.out _ _ (fun _ => HS.out) ?_
  clear hKq Kq hHeld
  have hHeld := HS.out
  obtain ⟨b1, hb1⟩ : ∃ b, b = w1.heap.size := ⟨_, rfl⟩
  replace HZs := qh (show w1.heap.size ≤ b1 from by rw [hb1]; exact Nat.le_refl _)
  rw [← hb1] at HZ HZl ⊢
  clear hb1
  generalize w1.alloc (.cells #[.int .i64 0, .int .i64 0, .int .i64 0, .int .i64 0, .int .i64 0, .int .i64 0, .slice none 0 0] 55) = w2 at *
  try simp only [Act.put, List.setIfInBounds_toArray, List.set_cons_zero, List.set_cons_succ]
  obtain ⟨z0, z1, z2, z3, z4, z5, z6⟩ := seven_new HZ.out
  obtain ⟨f0, f1, f2, f3, f4, f5, f6⟩ := seven_free HZ.out
  have zl := lt_of_block HZ.out
  refine MyHeldE.ready (rs := [11]) (by kernel_rfl) (by simp) ?_
  refine (MyHeldE.next 11 (MyHeld.at_rfl rfl) (fun Kq hKq => ?_) MyHeldE.All.nil)
  go_simp
  refine hKq.out _ _ (fun e => by cases e) ?_
  clear hKq Kq
  try simp only [Act.put, List.setIfInBounds_toArray, List.set_cons_zero, List.set_cons_succ]
  refine MyHeldE.tk0 12 (hQ := (fun _ _ _ h => HPan.out _ _ _ _ _ h)) ?_
  refine MyHeldE.tk0 13 (hQ := (fun _ _ _ h => HPan.out _ _ _ _ _ h)) ?_
  refine MyHeldE.done (by kernel_rfl) ?_ _
  have KS := tb_stored HB.out HZ.out HZl.out (.int .i64 q.gate) (.int .i64 q.need) (.int .i64 q.most) (.int .i64 q.pull) (.int .i64 nw) (.int .i64 nx) (.slice a' n' c')
  have hJ2 := (HJ.out.below (HBz.out.trans ((tb_only w2 b1 (.int .i64 q.gate) (.int .i64 q.need) (.int .i64 q.most) (.int .i64 q.pull) (.int .i64 nw) (.int .i64 nx) (.slice a' n' c')).below HZs.out HBz.out.size))).base HLe.out
  exact HQ.out _ _ _ _ _ _ _ _ _ _ _ _ _ _ _ _ _ ⟨KS.1, KS.2, HZl.out, hJ2, HMf.out⟩
 go_simp
 have hbz := below_alloc wd (.cells #[.int .i64 0, .int .i64 0, .int .i64 0, .int .i64 0, .int .i64 0, .int .i64 0, .slice none 0 0] 55)
 have HZ := qh (show (wd.alloc (.cells #[.int .i64 0, .int .i64 0, .int .i64 0, .int .i64 0, .int .i64 0, .int .i64 0, .slice none 0 0] 55)).heap[wd.heap.size]? = some (.cells #[.int .i64 0, .int .i64 0, .int .i64 0, .int .i64 0, .int .i64 0, .int .i64 0, .slice none 0 0] 55 (0, 0)) from block_new _ _ rfl)
 have HZl := qh (show wc.heap.size ≤ wd.heap.size from HB.out.size)
 replace HB := qh (HB.out.trans (hbz.mono HB.out.size))
 replace HS := qh (And.intro (keepO hbz HS.out.1) (keep1 hbz HS.out.2))
 clear hbz
 refine hKq.out _ _ (fun _ => HS.out) ?_
 clear hKq Kq hHeld
 have hHeld := HS.out
 obtain ⟨b1, hb1⟩ : ∃ b, b = wd.heap.size := ⟨_, rfl⟩
 rw [← hb1] at HZ HZl ⊢
 clear hb1
 generalize wd.alloc (.cells #[.int .i64 0, .int .i64 0, .int .i64 0, .int .i64 0, .int .i64 0, .int .i64 0, .slice none 0 0] 55) = w1 at *
 try simp only [Act.put, List.setIfInBounds_toArray, List.set_cons_zero, List.set_cons_succ]
 refine MyHeldE.ready (rs := [5]) (by kernel_rfl) (by simp) ?_
 refine (MyHeldE.next 5 (MyHeld.at_rfl rfl) (fun Kq hKq => ?_) MyHeldE.All.nil)
 go_simp
 go_at_call 15
 have HZn := qh (lt_of_block HZ.out)
 have HLe := qh HB.out.size
 refine (HCall.out w1 HB.out).mono ?_; rintro e w2 ⟨a', ea, c', ec, M', rfl, hJ, hMf, hb⟩
 have HJ := qh hJ
 have HMf := qh hMf
 replace HB := qh (HB.out.trans (hb.mono HB.out.size))
 replace HS := qh (And.intro (keepO hb HS.out.1) (keep1 hb HS.out.2))
 replace HZ := qh (keepO hb HZ.out)
 clear hb hJ hMf
 refine hKq.out _ _ (fun _ => HS.out) ?_
 clear hKq Kq hHeld
 have hHeld := HS.out
 try simp only [Act.put, List.setIfInBounds_toArray, List.set_cons_zero, List.set_cons_succ]
 refine MyHeldE.tk2 6 (hQ := (fun _ _ _ h => HPan.out _ _ _ _ _ h)) ?_
 refine MyHeldE.tk0 8 (hQ := (fun _ _ _ h => HPan.out _ _ _ _ _ h)) ?_
 refine MyHeldE.tk0 9 (hQ := (fun _ _ _ h => HPan.out _ _ _ _ _ h)) ?_
 refine MyHeldE.tk2 7 (hQ := (fun _ _ _ h => HPan.out _ _ _ _ _ h)) ?_
 obtain ⟨z0, z1, z2, z3, z4, z5, z6⟩ := seven_new HZ.out
 obtain ⟨f0, f1, f2, f3, f4, f5, f6⟩ := seven_free HZ.out
 have zl := lt_of_block HZ.out
 refine MyHeldE.ready (rs := [11]) (by kernel_rfl) (by simp) ?_
 refine (MyHeldE.next 11 (MyHeld.at_rfl rfl) (fun Kq hKq => ?_) MyHeldE.All.nil)
 go_simp
 refine hKq.out _ _ (fun e => by cases e) ?_
 clear hKq Kq
 try simp only [Act.put, List.setIfInBounds_toArray, List.set_cons_zero, List.set_cons_succ]
 refine MyHeldE.tk0 12 (hQ := (fun _ _ _ h => HPan.out _ _ _ _ _ h)) ?_
 refine MyHeldE.tk0 13 (hQ := (fun _ _ _ h => HPan.out _ _ _ _ _ h)) ?_
 refine MyHeldE.done (by kernel_rfl) ?_ _
 have KS := tb_stored HB.out HZ.out HZl.out (.int .i64 q.gate) (.int .i64 q.need) (.int .i64 q.most) (.int .i64 q.pull) (.int .i64 nw) (.int .i64 nx) (.slice a' n' c')
 have hJ2 := ((HJ.out).only2 (tb_only w2 b1 (.int .i64 q.gate) (.int .i64 q.need) (.int .i64 q.most) (.int .i64 q.pull) (.int .i64 nw) (.int .i64 nx) (.slice a' n' c')) HZn.out).base HLe.out
 exact HQ.out _ _ _ _ _ _ _ _ _ _ _ _ _ _ _ _ _ ⟨KS.1, KS.2, HZl.out, hJ2, HMf.out⟩
noncomputable def rr17C : Code := ((Try.f4.body.bind (cutR 17)).getD .skip)
theorem rr17 {u0 u1 u2 u3 u4 u6 u8 u10 u11 u13 u14 u15 u16 u17 u18 u19 u20 u21 u22 u23 u24 u25 u26 u27 u28 u29 u30 u31 u32 u33 u34 u35 u36 u37 u38 u39 u40 u41 u42 u43 u44 u45 u46 u47 u48 u49 u50 u51 u52 u53 u54 u55 u56 u57 u58 u59 u60 u61 u62 u63 u64 u65 u66 u67 u68 u69 u70 u71 u72 u73 u74 u75 u76 u77 u78 u79 u80 u81 u82 u83 u84 u85 u86 u87 u88 u89 u90 u91 u92 u93 : Value} (b5 b7 b9 b12 B0 n c c' : Nat) (a a' : Option Addr) (q : Par) (nw nx : Int) (M M' : List TB) (x5 x7 : Array Value) (w wc : World) (Q0 : Exit → Act → World → Prop) (h5 : wc.heap[b5]? = some (.cells x5 26 (0, 0))) (h7 : wc.heap[b7]? = some (.cells x7 55 (0, 0))) (h9 : wc.heap[b9]? = some (.cells #[.int .i64 q.gate, .int .i64 q.need, .int .i64 q.most, .int .i64 q.pull, .int .i64 nw, .int .i64 nx, .slice a n c] 26 (0, 0))) (h12 : wc.heap[b12]? = some (.cells #[.int .i64 q.gate, .int .i64 q.need, .int .i64 q.most, .int .i64 q.pull, .int .i64 nw, .int .i64 nx, .slice a' n c'] 55 (0, 0))) (s5 : x5.size = 7) (s7 : x7.size = 7) (l5 : b5 < B0) (l7 : b7 < B0) (g5 : w.heap.size ≤ b5) (g7 : w.heap.size ≤ b7) (hB : Below w.heap.size w wc) (hne : b5 ≠ b7) (n9 : b9 ≠ b5) (n12 : b12 ≠ b5) (hJ : TbJ B0 wc a n M) (hJ' : TbJ B0 wc a' n M') (hpan : ∀ (c : List PanicEntry) (a : Act) d v (w : World), Q0 (.panic c) (a.put d v) w → Q0 (.panic c) a w)
    (hexit : ∀ (u91 u92 : Value) (W' : World) (_ : Below w.heap.size w W' ∧ W'.heap[b5]? = some (.cells #[.int .i64 q.gate, .int .i64 q.need, .int .i64 q.most, .int .i64 q.pull, .int .i64 nw, .int .i64 nx, .slice a n c] 26 (0, 0)) ∧ W'.heap[b7]? = some (.cells #[.int .i64 q.gate, .int .i64 q.need, .int .i64 q.most, .int .i64 q.pull, .int .i64 nw, .int .i64 nx, .slice a' n c'] 55 (0, 0)) ∧ TbJ B0 W' a n M ∧ TbJ B0 W' a' n M'), Q0 .normal ⟨#[u0, u1, u2, u3, u4, .pointer (some ⟨b5, 0, none⟩), u6, .pointer (some ⟨b7, 0, none⟩), u8, .pointer (some ⟨b9, 0, none⟩), u10, u11, .pointer (some ⟨b12, 0, none⟩), u13, u14, u15, u16, u17, u18, u19, u20, u21, u22, u23, u24, u25, u26, u27, u28, u29, u30, u31, u32, u33, u34, u35, u36, u37, u38, u39, u40, u41, u42, u43, u44, u45, u46, u47, u48, u49, u50, u51, u52, u53, u54, u55, u56, u57, u58, u59, u60, u61, u62, u63, u64, u65, u66, u67, u68, u69, u70, u71, u72, u73, u74, u75, u76, u77, u78, u79, u80, u81, u82, u83, u84, u85, u86, u87, u88, u89, u90, u91, u92, u93], []⟩ W') :
    Code.wp Try.prog rr17C Q0 ⟨#[u0, u1, u2, u3, u4, .pointer (some ⟨b5, 0, none⟩), u6, .pointer (some ⟨b7, 0, none⟩), u8, .pointer (some ⟨b9, 0, none⟩), u10, u11, .pointer (some ⟨b12, 0, none⟩), u13, u14, u15, u16, u17, u18, u19, u20, u21, u22, u23, u24, u25, u26, u27, u28, u29, u30, u31, u32, u33, u34, u35, u36, u37, u38, u39, u40, u41, u42, u43, u44, u45, u46, u47, u48, u49, u50, u51, u52, u53, u54, u55, u56, u57, u58, u59, u60, u61, u62, u63, u64, u65, u66, u67, u68, u69, u70, u71, u72, u73, u74, u75, u76, u77, u78, u79, u80, u81, u82, u83, u84, u85, u86, u87, u88, u89, u90, u91, u92, u93], []⟩ wc := by
 conv => arg 2; whnf
 try dsimp only
 have HQ := qh hexit
 have HPan := qh hpan
 have KD := qh (show Below wc.heap.size wc wc.drew from below_drewN (Below.refl _ _) 1)
 have HS := qh (And.intro (keepO KD.out h9) (keepO KD.out h12))
 have H57 := qh (And.intro (keepO KD.out h5) (keepO KD.out h7))
 have HB := qh (hB.trans (KD.out.mono hB.size))
 have HJ := qh (And.intro (hJ.below KD.out) (hJ'.below KD.out))
 have HL := qh (And.intro l5 (And.intro l7 (And.intro g5 (And.intro g7 (And.intro hne (And.intro n9 n12))))))
 clear hexit hpan h5 h7 h9 h12 hB hJ hJ' l5 l7 g5 g7 KD
 obtain ⟨⟨e0, e1, e2, e3, e4, e5, e6⟩, hx5⟩ : ∃ q : Value × Value × Value × Value × Value × Value × Value, x5 = #[q.1, q.2.1, q.2.2.1, q.2.2.2.1, q.2.2.2.2.1, q.2.2.2.2.2.1, q.2.2.2.2.2.2] := seven_arr s5
 obtain ⟨⟨d0, d1, d2, d3, d4, d5, d6⟩, hx7⟩ : ∃ q : Value × Value × Value × Value × Value × Value × Value, x7 = #[q.1, q.2.1, q.2.2.1, q.2.2.2.1, q.2.2.2.2.1, q.2.2.2.2.2.1, q.2.2.2.2.2.2] := seven_arr s7
 subst hx5
 subst hx7
 clear s5 s7
 simp only [] at H57
 refine MyHeldE.start (fun W => W.heap[b9]? = some (.cells #[.int .i64 q.gate, .int .i64 q.need, .int .i64 q.most, .int .i64 q.pull, .int .i64 nw, .int .i64 nx, .slice a n c] 26 (0, 0)) ∧ W.heap[b12]? = some (.cells #[.int .i64 q.gate, .int .i64 q.need, .int .i64 q.most, .int .i64 q.pull, .int .i64 nw, .int .i64 nx, .slice a' n c'] 55 (0, 0))) [0, 1, 2, 3] (by kernel_rfl) ?_
 have hHeld := HS.out
 generalize wc.drew = wd at *
 clear hHeld
 refine MyHeldE.ready (rs := [0, 1]) (by kernel_rfl) (by simp) ?_
 refine (MyHeldE.next 0 (MyHeld.at_rfl rfl) (fun Kq hKq => ?_) (MyHeldE.next 1 (MyHeld.at_rfl rfl) (fun Kq hKq => ?_) MyHeldE.All.nil))
 ·obtain ⟨z0, z1, z2, z3, z4, z5, z6⟩ := seven_new HS.out.1
  have zl := lt_of_block HS.out.1
  go_simp
  refine hKq.out _ _ (fun e => by cases e) ?_
  clear hKq Kq
  try simp only [Act.put, List.setIfInBounds_toArray, List.set_cons_zero, List.set_cons_succ]
  clear z0 z1 z2 z3 z4 z5 z6 zl
  refine MyHeldE.ready (rs := [1, 2]) (by kernel_rfl) (by simp) ?_
  refine (MyHeldE.next 1 (MyHeld.at_rfl rfl) (fun Kq hKq => ?_) (MyHeldE.next 2 (MyHeld.at_rfl rfl) (fun Kq hKq => ?_) MyHeldE.All.nil))
  ·obtain ⟨z0, z1, z2, z3, z4, z5, z6⟩ := seven_new HS.out.2
   have zl := lt_of_block HS.out.2
   go_simp
   refine hKq.out _ _ (fun e => by cases e) ?_
   clear hKq Kq
   try simp only [Act.put, List.setIfInBounds_toArray, List.set_cons_zero, List.set_cons_succ]
   clear z0 z1 z2 z3 z4 z5 z6 zl
   refine MyHeldE.ready (rs := [2]) (by kernel_rfl) (by simp) ?_
   refine (MyHeldE.next 2 (MyHeld.at_rfl rfl) (fun Kq hKq => ?_) MyHeldE.All.nil)
   obtain ⟨z0, z1, z2, z3, z4, z5, z6⟩ := seven_new H57.out.1
   obtain ⟨f0, f1, f2, f3, f4, f5, f6⟩ := seven_free H57.out.1
   have zl := lt_of_block H57.out.1
   go_simp
   refine hKq.out _ _ (fun e => by cases e) ?_
   clear hKq Kq
   try simp only [Act.put, List.setIfInBounds_toArray, List.set_cons_zero, List.set_cons_succ]
   clear z0 z1 z2 z3 z4 z5 z6 f0 f1 f2 f3 f4 f5 f6 zl
   have hO := tb_only wd b5 (.int .i64 q.gate) (.int .i64 q.need) (.int .i64 q.most) (.int .i64 q.pull) (.int .i64 nw) (.int .i64 nx) (.slice a n c)
   have KS := tb_stored HB.out H57.out.1 HL.out.2.2.1 (.int .i64 q.gate) (.int .i64 q.need) (.int .i64 q.most) (.int .i64 q.pull) (.int .i64 nw) (.int .i64 nx) (.slice a n c)
   replace H57 := qh (show _ ∧ _ from ⟨KS.2, hO.keeps H57.out.2 HL.out.2.2.2.2.1.symm⟩)
   replace HS := qh (show _ ∧ _ from ⟨hO.keeps HS.out.1 HL.out.2.2.2.2.2.1, hO.keeps HS.out.2 HL.out.2.2.2.2.2.2⟩)
   replace HB := qh KS.1
   replace HJ := qh (And.intro (HJ.out.1.only2 hO HL.out.1) (HJ.out.2.only2 hO HL.out.1))
   clear KS hO
   generalize ((((((wd.setCell ⟨b5, 0, none⟩ (.int .i64 q.gate)).setCell ⟨b5, 1, none⟩ (.int .i64 q.need)).setCell ⟨b5, 2, none⟩ (.int .i64 q.most)).setCell ⟨b5, 3, none⟩ (.int .i64 q.pull)).setCell ⟨b5, 4, none⟩ (.int .i64 nw)).setCell ⟨b5, 5, none⟩ (.int .i64 nx)).setCell ⟨b5, 6, none⟩ (.slice a n c) = w1 at *
   refine MyHeldE.ready (rs := [3]) (by kernel_rfl) (by simp) ?_
   refine (MyHeldE.next 3 (MyHeld.at_rfl rfl) (fun Kq hKq => ?_) MyHeldE.All.nil)
   obtain ⟨z0, z1, z2, z3, z4, z5, z6⟩ := seven_new H57.out.2
   obtain ⟨f0, f1, f2, f3, f4, f5, f6⟩ := seven_free H57.out.2
   have zl := lt_of_block H57.out.2
   go_simp
   refine hKq.out _ _ (fun e => by cases e) ?_
   clear hKq Kq
   try simp only [Act.put, List.setIfInBounds_toArray, List.set_cons_zero, List.set_cons_succ]
   clear z0 z1 z2 z3 z4 z5 z6 f0 f1 f2 f3 f4 f5 f6 zl
   refine MyHeldE.done (by kernel_rfl) ?_ _
   have hO := tb_only w1 b7 (.int .i64 q.gate) (.int .i64 q.need) (.int .i64 q.most) (.int .i64 q.pull) (.int .i64 nw) (.int .i64 nx) (.slice a' n c')
   have KS := tb_stored HB.out H57.out.2 HL.out.2.2.2.1 (.int .i64 q.gate) (.int .i64 q.need) (.int .i64 q.most) (.int .i64 q.pull) (.int .i64 nw) (.int .i64 nx) (.slice a' n c')
   exact HQ.out _ _ _ ⟨KS.1, hO.keeps H57.out.1 HL.out.2.2.2.2.1, KS.2, HJ.out.1.only2 hO HL.out.2.1, HJ.out.2.only2 hO HL.out.2.1⟩
  obtain ⟨z0, z1, z2, z3, z4, z5, z6⟩ := seven_new H57.out.1
  obtain ⟨f0, f1, f2, f3, f4, f5, f6⟩ := seven_free H57.out.1
  have zl := lt_of_block H57.out.1
  go_simp
  refine hKq.out _ _ (fun e => by cases e) ?_
  clear hKq Kq
  try simp only [Act.put, List.setIfInBounds_toArray, List.set_cons_zero, List.set_cons_succ]
  clear z0 z1 z2 z3 z4 z5 z6 f0 f1 f2 f3 f4 f5 f6 zl
  have hO := tb_only wd b5 (.int .i64 q.gate) (.int .i64 q.need) (.int .i64 q.most) (.int .i64 q.pull) (.int .i64 nw) (.int .i64 nx) (.slice a n c)
  have KS := tb_stored HB.out H57.out.1 HL.out.2.2.1 (.int .i64 q.gate) (.int .i64 q.need) (.int .i64 q.most) (.int .i64 q.pull) (.int .i64 nw) (.int .i64 nx) (.slice a n c)
  replace H57 := qh (show _ ∧ _ from ⟨KS.2, hO.keeps H57.out.2 HL.out.2.2.2.2.1.symm⟩)
  replace HS := qh (show _ ∧ _ from ⟨hO.keeps HS.out.1 HL.out.2.2.2.2.2.1, hO.keeps HS.out.2 HL.out.2.2.2.2.2.2⟩)
  replace HB := qh KS.1
  replace HJ := qh (And.intro (HJ.out.1.only2 hO HL.out.1) (HJ.out.2.only2 hO HL.out.1))
  clear KS hO
  generalize ((((((wd.setCell ⟨b5, 0, none⟩ (.int .i64 q.gate)).setCell ⟨b5, 1, none⟩ (.int .i64 q.need)).setCell ⟨b5, 2, none⟩ (.int .i64 q.most)).setCell ⟨b5, 3, none⟩ (.int .i64 q.pull)).setCell ⟨b5, 4, none⟩ (.int .i64 nw)).setCell ⟨b5, 5, none⟩ (.int .i64 nx)).setCell ⟨b5, 6, none⟩ (.slice a n c) = w1 at *
  refine MyHeldE.ready (rs := [1]) (by kernel_rfl) (by simp) ?_
  refine (MyHeldE.next 1 (MyHeld.at_rfl rfl) (fun Kq hKq => ?_) MyHeldE.All.nil)
  obtain ⟨z0, z1, z2, z3, z4, z5, z6⟩ := seven_new HS.out.2
  have zl := lt_of_block HS.out.2
  go_simp
  refine hKq.out _ _ (fun e => by cases e) ?_
  clear hKq Kq
  try simp only [Act.put, List.setIfInBounds_toArray, List.set_cons_zero, List.set_cons_succ]
  clear z0 z1 z2 z3 z4 z5 z6 zl
  refine MyHeldE.ready (rs := [3]) (by kernel_rfl) (by simp) ?_
  refine (MyHeldE.next 3 (MyHeld.at_rfl rfl) (fun Kq hKq => ?_) MyHeldE.All.nil)
  obtain ⟨z0, z1, z2, z3, z4, z5, z6⟩ := seven_new H57.out.2
  obtain ⟨f0, f1, f2, f3, f4, f5, f6⟩ := seven_free H57.out.2
  have zl := lt_of_block H57.out.2
  go_simp
  refine hKq.out _ _ (fun e => by cases e) ?_
  clear hKq Kq
  try simp only [Act.put, List.setIfInBounds_toArray, List.set_cons_zero, List.set_cons_succ]
  clear z0 z1 z2 z3 z4 z5 z6 f0 f1 f2 f3 f4 f5 f6 zl
  refine MyHeldE.done (by kernel_rfl) ?_ _
  have hO := tb_only w1 b7 (.int .i64 q.gate) (.int .i64 q.need) (.int .i64 q.most) (.int .i64 q.pull) (.int .i64 nw) (.int .i64 nx) (.slice a' n c')
  have KS := tb_stored HB.out H57.out.2 HL.out.2.2.2.1 (.int .i64 q.gate) (.int .i64 q.need) (.int .i64 q.most) (.int .i64 q.pull) (.int .i64 nw) (.int .i64 nx) (.slice a' n c')
  exact HQ.out _ _ _ ⟨KS.1, hO.keeps H57.out.1 HL.out.2.2.2.2.1, KS.2, HJ.out.1.only2 hO HL.out.2.1, HJ.out.2.only2 hO HL.out.2.1⟩
 obtain ⟨z0, z1, z2, z3, z4, z5, z6⟩ := seven_new HS.out.2
 have zl := lt_of_block HS.out.2
 go_simp
 refine hKq.out _ _ (fun e => by cases e) ?_
 clear hKq Kq
 try simp only [Act.put, List.setIfInBounds_toArray, List.set_cons_zero, List.set_cons_succ]
 clear z0 z1 z2 z3 z4 z5 z6 zl
 refine MyHeldE.ready (rs := [0]) (by kernel_rfl) (by simp) ?_
 refine (MyHeldE.next 0 (MyHeld.at_rfl rfl) (fun Kq hKq => ?_) MyHeldE.All.nil)
 obtain ⟨z0, z1, z2, z3, z4, z5, z6⟩ := seven_new HS.out.1
 have zl := lt_of_block HS.out.1
 go_simp
 refine hKq.out _ _ (fun e => by cases e) ?_
 clear hKq Kq
 try simp only [Act.put, List.setIfInBounds_toArray, List.set_cons_zero, List.set_cons_succ]
 clear z0 z1 z2 z3 z4 z5 z6 zl
 refine MyHeldE.ready (rs := [2]) (by kernel_rfl) (by simp) ?_
 refine (MyHeldE.next 2 (MyHeld.at_rfl rfl) (fun Kq hKq => ?_) MyHeldE.All.nil)
 obtain ⟨z0, z1, z2, z3, z4, z5, z6⟩ := seven_new H57.out.1
 obtain ⟨f0, f1, f2, f3, f4, f5, f6⟩ := seven_free H57.out.1
 have zl := lt_of_block H57.out.1
 go_simp
 refine hKq.out _ _ (fun e => by cases e) ?_
 clear hKq Kq
 try simp only [Act.put, List.setIfInBounds_toArray, List.set_cons_zero, List.set_cons_succ]
 clear z0 z1 z2 z3 z4 z5 z6 f0 f1 f2 f3 f4 f5 f6 zl
 have hO := tb_only wd b5 (.int .i64 q.gate) (.int .i64 q.need) (.int .i64 q.most) (.int .i64 q.pull) (.int .i64 nw) (.int .i64 nx) (.slice a n c)
 have KS := tb_stored HB.out H57.out.1 HL.out.2.2.1 (.int .i64 q.gate) (.int .i64 q.need) (.int .i64 q.most) (.int .i64 q.pull) (.int .i64 nw) (.int .i64 nx) (.slice a n c)
 replace H57 := qh (show _ ∧ _ from ⟨KS.2, hO.keeps H57.out.2 HL.out.2.2.2.2.1.symm⟩)
 replace HS := qh (show _ ∧ _ from ⟨hO.keeps HS.out.1 HL.out.2.2.2.2.2.1, hO.keeps HS.out.2 HL.out.2.2.2.2.2.2⟩)
 replace HB := qh KS.1
 replace HJ := qh (And.intro (HJ.out.1.only2 hO HL.out.1) (HJ.out.2.only2 hO HL.out.1))
 clear KS hO
 generalize ((((((wd.setCell ⟨b5, 0, none⟩ (.int .i64 q.gate)).setCell ⟨b5, 1, none⟩ (.int .i64 q.need)).setCell ⟨b5, 2, none⟩ (.int .i64 q.most)).setCell ⟨b5, 3, none⟩ (.int .i64 q.pull)).setCell ⟨b5, 4, none⟩ (.int .i64 nw)).setCell ⟨b5, 5, none⟩ (.int .i64 nx)).setCell ⟨b5, 6, none⟩ (.slice a n c) = w1 at *
 refine MyHeldE.ready (rs := [3]) (by kernel_rfl) (by simp) ?_
 refine (MyHeldE.next 3 (MyHeld.at_rfl rfl) (fun Kq hKq => ?_) MyHeldE.All.nil)
 obtain ⟨z0, z1, z2, z3, z4, z5, z6⟩ := seven_new H57.out.2
 obtain ⟨f0, f1, f2, f3, f4, f5, f6⟩ := seven_free H57.out.2
 have zl := lt_of_block H57.out.2
 go_simp
 refine hKq.out _ _ (fun e => by cases e) ?_
 clear hKq Kq
 try simp only [Act.put, List.setIfInBounds_toArray, List.set_cons_zero, List.set_cons_succ]
 clear z0 z1 z2 z3 z4 z5 z6 f0 f1 f2 f3 f4 f5 f6 zl
 refine MyHeldE.done (by kernel_rfl) ?_ _
 have hO := tb_only w1 b7 (.int .i64 q.gate) (.int .i64 q.need) (.int .i64 q.most) (.int .i64 q.pull) (.int .i64 nw) (.int .i64 nx) (.slice a' n c')
 have KS := tb_stored HB.out H57.out.2 HL.out.2.2.2.1 (.int .i64 q.gate) (.int .i64 q.need) (.int .i64 q.most) (.int .i64 q.pull) (.int .i64 nw) (.int .i64 nx) (.slice a' n c')
 exact HQ.out _ _ _ ⟨KS.1, hO.keeps H57.out.1 HL.out.2.2.2.2.1, KS.2, HJ.out.1.only2 hO HL.out.2.1, HJ.out.2.only2 hO HL.out.2.1⟩
end Go.Proofs.Ytikjjpjekchcjaa
