/-
  TrkP
-/
import Derived.Test.YtikjjpjekchcjaaGreatPm36
set_option linter.all false
set_option maxRecDepth 100000
set_option maxHeartbeats 64000000
namespace Go.Proofs.YtikjjpjekchcjaaGreat
open Go.RowKit TrkMath MyHeap MyOwn MyCopy
theorem RnK.note {base r g : Nat} {p : Par} {now next : Int} {tV pV lV eV : Value} {LV : List Lv} {E : List Ev} {w0 W W' : World} {x : Ev} {e : Ending} (h : RnK base r g p now next tV pV lV eV LV E w0 W) (hn : NotePost r base p now next tV pV lV eV E x W e W') :
    ∃ eV', e = .returned (.tuple #[]) ∧ RnK base r g p now next tV pV lV eV' LV (E ++ [x]) w0 W' ∧ Outs [some r, eV.ownBlock] W W' ∧ ∀ (v' : Value) (M' : List TB), Lf base (XR r g eV) v' M' W → Lf base (XR r g eV') v' M' W' := by
 obtain ⟨eV', rfl, hR, hE, ha, hO⟩ := hn
 have hmem : ∀ x ∈ [some r, eV.ownBlock], x ∈ XR r g eV := fun x hx => by
  rcases List.mem_cons.1 hx with e | hx
  ·rw [e]; unfold XR; simp
  rw [List.mem_singleton.1 hx]; unfold XR; simp
 have hY : ∀ k, some k ∈ XR r g eV' → some k ∈ XR r g eV ∨ W.heap.size ≤ k := fun k hk => by
  rcases List.mem_cons.1 hk with e | hk
  ·exact Or.inl (by rw [e]; unfold XR; simp)
  rcases List.mem_cons.1 hk with e | hk
  ·exact Or.inl (by rw [e]; unfold XR; simp)
  have e := List.mem_singleton.1 hk
  rcases ha with c | ⟨g', c, hg'⟩
  ·exact Or.inl (by rw [e, c]; unfold XR; simp)
  rw [c] at e
  have := Option.some.inj e
  exact Or.inr (by omega)
 have hne : ∀ k, (eV.ownBlock ≠ some k) → k < W.heap.size → eV'.ownBlock ≠ some k := fun k hk hl e => by
  rcases ha with c | ⟨g', c, hg'⟩
  ·exact hk (by rw [← c]; exact e)
  rw [c] at e
  have := Option.some.inj e
  omega
 have gl : g < W.heap.size := (h.xr g (by unfold XR; simp)).2
 have hbl : ∀ k, some k ∈ [some r, eV.ownBlock] → base ≤ k := fun k hk => by
  rcases List.mem_cons.1 hk with e | hk
  ·cases e; exact h.rb
  exact (h.E.lt k (List.mem_singleton.1 hk).symm).1
 refine ⟨eV', rfl, ⟨h.B.trans (hO.below (Nat.le_trans h.bb h.B.size) hbl), hR, h.V.outs hO (fun e => ?_), hE, h.rb, h.gb, h.rg, hne r h.er h.R.lt, hne g h.eg gl, h.bb⟩, hO, fun v' M' hL => hL.next (hO.mono hmem) hY⟩
 rcases List.mem_cons.1 e with e | e
 ·exact h.rg (Option.some.inj e).symm
 exact h.eg (List.mem_singleton.1 e).symm
theorem lvOf_two {y : Pl} (h : plE y = 0) : 0 ≤ (lvOf y).2 := by
 by_cases hc : 0 ≤ y.code
 ·rw [gI hc]
  have h1 := mD ((fL h).2 hc)
  dsimp only
  omega
 rw [jI hc]
 exact Int.le_refl _
structure UsI (l : List (Nat × Nat)) (S : Int → Bool) (left : Lit → Bool) : Prop where
 a : ∀ q ∈ l, left (.int .i64 (q.1 : Int)) = true ∨ S (q.2 : Int) = true
 b : ∀ x, S x = true → ∃ q ∈ l, (q.2 : Int) = x
theorem UsI.done {l : List (Nat × Nat)} {S : Int → Bool} {left : Lit → Bool} (h : UsI l S left) (hl : ∀ kl, left kl = false) (k : Nat) : S (k : Int) = usB l k := by
 cases hu : usB l k with
 | true =>
  obtain ⟨i, hi⟩ := oS.1 hu
  rcases h.a _ hi with c | c
  ·rw [hl] at c; cases c
  exact c
 | false =>
  cases hs : S (k : Int) with
  | false => rfl
  | true =>
   obtain ⟨q, hq, e⟩ := h.b _ hs
   have : usB l k = true := oS.2 ⟨q.1, by
    have : q.2 = k := by omega
    rw [← this]
    exact hq⟩
   rw [hu] at this
   cases this
theorem UsI.next {p : Par} {L : List Tk} {P : List Pl} {l : List (Nat × Nat)} {S : Int → Bool} {left : Lit → Bool} {D : DataW Unit} (h : UsI l S left) (hl : PrOk p L P l)
    (h3 : ∀ (x : Int) (z : DataW Unit), (Lit.int .i64 x).wf = true → D.atKey (.int .i64 x) z = match l.find? (fun q => (q.1 : Int) == x) with | none => z | some q => .lit (.int .i64 (q.2 : Int)))
    {x c : Int} (hw : (Lit.int .i64 x).wf = true) (hat : ∀ zd : DataW Unit, D.atKey (.int .i64 x) zd = .lit (.int .i64 c)) : UsI l (fun y => S y || y == c) (fun z => left z && !z.sameKey (.int .i64 x)) ∧ ∃ q ∈ l, (q.2 : Int) = c := by
 have hq : ∃ q ∈ l, (q.1 : Int) = x ∧ (q.2 : Int) = c := by
  cases hf : l.find? (fun q => (q.1 : Int) == x) with
  | none =>
   have h1 := hat .nil
   rw [h3 x _ hw, hf] at h1
   cases h1
  | some q =>
   have h1 := hat .nil
   rw [h3 x _ hw, hf] at h1
   injection h1 with h1
   injection h1 with _ h1
   have h2 := List.find?_some hf
   exact ⟨q, List.mem_of_find?_eq_some hf, by simpa using h2, h1⟩
 obtain ⟨q, hq, e1, e2⟩ := hq
 refine ⟨⟨fun q' hq' => ?_, fun y hy => ?_⟩, q, hq, e2⟩
 ·by_cases e : q'.1 = q.1
  ·have := hl.uniq hq' hq e
   subst this
   right
   simp [e2]
  rcases h.a q' hq' with c1 | c1
  ·left
   rw [c1, Maps.sameKey_ne (fun e' => e (by injection e' with _ e'; omega))]
   rfl
  right
  simp [c1]
 rw [Bool.or_eq_true] at hy
 rcases hy with hy | hy
 ·exact h.b y hy
 exact ⟨q, hq, by rw [e2]; exact (by simpa using hy : y = c).symm⟩
theorem UsI.start {p : Par} {L : List Tk} {P : List Pl} {l : List (Nat × Nat)} {D : DataW Unit} (hl : PrOk p L P l) (hb : ∀ q ∈ l, q.1 ≤ 1000)
    (h3 : ∀ (x : Int) (z : DataW Unit), (Lit.int .i64 x).wf = true → D.atKey (.int .i64 x) z = match l.find? (fun q => (q.1 : Int) == x) with | none => z | some q => .lit (.int .i64 (q.2 : Int))) : UsI l (fun _ => false) (Maps.has D) := by
 refine ⟨fun q hq => Or.inl ?_, fun _ e => by cases e⟩
 have := hb q hq
 have hw := wf64 (x := (q.1 : Int)) (by omega) (by omega)
 have ho := hl.of hq
 rw [rC] at ho
 obtain ⟨q', hq', -⟩ := Option.map_eq_some_iff.1 ho
 exact Maps.has_true_of_atKey (y := .lit (.int .i64 (q'.2 : Int))) fun z => by rw [h3 _ _ hw, hq']
theorem MapB.obj {b n : Nat} {S : Int → Bool} {w : World} (h : MapB b n S w) : ∃ es clock, w.heap[b]? = some (.map es clock) := by
 obtain ⟨D, ⟨es, clock, h0, -⟩, -, -⟩ := h
 exact ⟨es, clock, h0⟩
theorem MapB.off {b n : Nat} {S : Int → Bool} {w : World} (h : MapB b n S w) {k : Nat} {cs : Array Value} {T : TypeId} (hk : w.heap[k]? = some (.cells cs T (0, 0))) : b ≠ k := by
 rintro rfl
 obtain ⟨es, clock, h0⟩ := h.obj
 rw [h0] at hk
 cases hk
theorem MapB.row {b m : Nat} {S : Int → Bool} {w : World} (h : MapB b m S w) {base : Nat} {e : TypeId} {s : Nat} {u : Value} {n : Nat} {xs : List Value} (hr : w.ownsRow base e s u n xs) : u.ownBlock ≠ some b := fun c => by
 obtain ⟨cs, h1⟩ := eS hr c
 exact h.off h1 rfl
theorem tk_tenP {w : World} {T : Nat} {q : TB} (h : w.heap[T]? = some (.cells (tkC q) 55 (0, 0))) (v0 v1 v2 v3 v4 v5 v6 v7 v8 v9 : Value) :
    Only T w ((((((((((w.setCell ⟨T, 0, none⟩ v0).setCell ⟨T, 1, none⟩ v1).setCell ⟨T, 2, none⟩ v2).setCell ⟨T, 3, none⟩ v3).setCell ⟨T, 4, none⟩ v4).setCell ⟨T, 5, none⟩ v5).setCell ⟨T, 6, none⟩ v6).setCell ⟨T, 7, none⟩ v7).setCell ⟨T, 8, none⟩ v8).setCell ⟨T, 9, none⟩ v9) ∧
    ((((((((((w.setCell ⟨T, 0, none⟩ v0).setCell ⟨T, 1, none⟩ v1).setCell ⟨T, 2, none⟩ v2).setCell ⟨T, 3, none⟩ v3).setCell ⟨T, 4, none⟩ v4).setCell ⟨T, 5, none⟩ v5).setCell ⟨T, 6, none⟩ v6).setCell ⟨T, 7, none⟩ v7).setCell ⟨T, 8, none⟩ v8).setCell ⟨T, 9, none⟩ v9).heap[T]? = some (.cells #[v0, v1, v2, v3, v4, v5, v6, v7, v8, v9] 55 (0, 0)) := by
 refine ⟨((((((((((Only.refl _ _).setCell _ _).setCell _ _).setCell _ _).setCell _ _).setCell _ _).setCell _ _).setCell _ _).setCell _ _).setCell _ _).setCell _ _, ?_⟩
 have := aD (i := 9) (v := v9) (aD (i := 8) (v := v8) (aD (i := 7) (v := v7) (aD (i := 6) (v := v6) (aD (i := 5) (v := v5) (aD (i := 4) (v := v4) (aD (i := 3) (v := v3) (aD (i := 2) (v := v2) (aD (i := 1) (v := v1) (aD (i := 0) (v := v0) h)))))))))
 simpa [tkC] using this
theorem oU {p : Par} {P : List Pl} {us : Nat → Bool} {L : List Tk} {next : Int} : ∀ k, next ≤ (staA p P us L next k).next ∧ (staA p P us L next k).next ≤ next + k ∧ (staA p P us L next k).ev.length ≤ k := by
 intro k
 induction k with
 | zero => exact ⟨Int.le_refl _, by show next ≤ next + 0; omega, Nat.le_refl _⟩
 | succ k ih =>
  by_cases h : skipB us P (staA p P us L next k).tk.length k
  ·rw [cZ h]
   omega
  rw [kD h]
  simp only [List.length_append, List.length_singleton]
  omega
def SaPost (base r g : Nat) (p : Par) (now : Int) (pV lV : Value) (LV : List Lv) (R : StR) (E : List Ev) (w0 : World) (e : Ending) (w' : World) : Prop :=
 e = .returned (.tuple #[]) ∧ ∃ tV eV M, RnK base r g p now R.next tV pV lV eV LV (E ++ R.ev) w0 w' ∧ Lf base (XR r g eV) tV M w' ∧ fsts M = R.tk
theorem start_call (r g mb : Nat) (p : Par) (now next : Int) (tV : Value) (pa : Option Addr) (pn pc gc : Nat) (eV : Value) (P : List Pl) (E : List Ev) (L : List Tk) (M : List TB) (l : List (Nat × Nat)) (w0 w : World)
    (hK : RnK w0.heap.size r g p now next tV (.slice pa pn pc) (.slice (some ⟨g, 0, none⟩) pn gc) eV (P.map lvOf) E w0 w) (hL : Lf w0.heap.size (XR r g eV) tV M w) (hM : MapI mb l w) (hP : Pls w0 pa pn P)
    (hl : PrOk p L P l) (hL16 : L.length ≤ 16) (hpar : ParOk p) (p16 : pn ≤ 16) (hpl : ∀ k, k < pn → plE (gp P k) = 0) (hE : E.length ≤ 400) (hMl : M.length ≤ 16) (hnx : 0 ≤ next ∧ next ≤ 1073741824) :
    Calls Tryz.prog 29 #[.pointer (some ⟨r, 0, none⟩), .map (some mb), noteV r] w (SaPost w0.heap.size r g p now (.slice pa pn pc) (.slice (some ⟨g, 0, none⟩) pn gc) (P.map lvOf) (staA p P (usB l) (fsts M) next pn) E w0) := by
 obtain ⟨D, hDo, hDm, hDr⟩ := hM
 have HU0 := qh (UsI.start hl (fun q hq => by have := hl.row q hq; omega) hDr)
 have HD := qh (And.intro hDm hDr)
 have hll := PrOk.len hl rfl
 have HLl := qh (show l.length ≤ 16 from by omega)
 have HDs := qh hDo.size_le
 have HMb := qh hDo.lt
 have HP := qh hP
 have HO := qh (And.intro hpar (And.intro hpl (And.intro hE (And.intro hMl hnx))))
 have HFit := qh hl
 have HN := qh p16
 have HLn := qh hP.len
 have K := qh (And.intro hK hL)
 have hmm := @run_makeMap Tryz.prog
 have HUb := qh (MapB.made w)
 have HB0 := qh (aC w (.map #[] 0))
 have hDo1 := hDo.alloc (.map #[] 0)
 obtain ⟨i0, hi0, hz0, hs0, hb0⟩ := b6 kB
 have HF := qh (And.intro hi0 (And.intro hz0 (And.intro hs0 hb0)))
 clear hK hL hDo hDm hDr hP hl hll hpar p16 hpl hE hMl hnx hi0 hz0 hs0 hb0
 unfold noteV
 go_enter Tryz.func29, Tryz.ntmps29
 go_wp2_with (at_range; refine wpList_range_own _ rfl _ 81 rfl 3 3 keyI Tryz.underlying81 _ mb _ D rfl hDo1 ?_; intro wq hrg0 hg0 hs0)
 obtain ⟨ub, hub⟩ : ∃ ub, ub = w.heap.size := ⟨_, rfl⟩
 obtain ⟨rb, hrb⟩ : ∃ rb, rb = (w.alloc (.map #[] 0)).heap.size := ⟨_, rfl⟩
 have HRB := qh (And.intro hub hrb)
 have HQ0 := qh (show wq.ranges Tryz.prog 3 (plainElem Tryz.prog 3) mb rb l.length D (Maps.has D) (Maps.size D) from by rw [hrb]; exact hrg0)
 have HQ1 := qh (show Below w.heap.size w wq from HB0.out.trans ⟨hg0.os, hg0.tape, hg0.output, hg0.size, fun k hk => hg0.block k (by have := HB0.out.size; omega) (by simp)⟩)
 have HQ2 := qh (show MapB ub 0 (fun _ => false) wq from by
  rw [hub]
  exact HUb.out.outs (X := []) (Outs.of_grown hg0 (fun _ e => by cases e)) (by simp))
 try rw [← hub]
 try rw [← hrb]
 have hrb2 : w.heap.size + 1 = rb := by rw [hrb]; simp
 try rw [hrb2]
 clear hub hrb hrb2 hrg0 hg0 hs0 hDo1 HUb HB0
 go_frame
 go_loopw [8] (fun _ wr => ∃ (S : Int → Bool) (left : Lit → Bool) (cnt m : Nat), wr.ranges Tryz.prog 3 (plainElem Tryz.prog 3) mb rb l.length D left cnt ∧ MapB ub m S wr ∧ UsI l S left ∧ m + cnt ≤ 16 ∧ Below w.heap.size w wr) (fun _ wr => wr.rangeLeft mb rb)
 case atStart => exact ⟨_, _, _, 0, HQ0.out, HQ2.out, HU0.out, by have := HLl.out; have := HDs.out; omega, HQ1.out⟩
 case round =>
  clear HQ0 HQ1 HQ2 HU0
  obtain ⟨S, left, cnt, m, hrg, hS, hU, hm, hB⟩ := hrel
  have HR := qh hrg
  have HS := qh hS
  have HU := qh hU
  have HMm := qh hm
  have HB := qh hB
  clear hrg hS hU hm hB
  go_wp2_with (at_next; refine wpList_next_ranges_ii _ rfl _ rfl 3 3 .i64 .i64 keyI Tryz.underlying3 Tryz.underlying3 mb rb _ D left cnt rfl HR.out ?_ ?_)
  ·intro hc0 hl0
   have HLz := qh hl0
   clear hc0 hl0
   have K2 := qh (And.intro (K.out.1.below HB.out) (K.out.2.below HB.out))
   have HUs := qh (fun k => HU.out.done HLz.out k)
   obtain ⟨r0, r1, r2, r3, r4, r5, r6, r7, r8, r9⟩ := K2.out.1.R.cells
   have rl := K2.out.1.R.lt
   have HS0 := qh HS.out
   clear HR HU HMm HLz K HS
   go_wp2_with fail
   clear r0 r1 r2 r3 r4 r5 r6 r7 r8 r9 rl
   go_loopw [27] (fun kv wr => ∃ (k : Nat) (tW eW : Value) (N : List TB), k ≤ pn ∧ kv = .int .i64 k ∧ RnK w0.heap.size r g p now (staA p P (usB l) (fsts M) next k).next tW (.slice pa pn pc) (.slice (some ⟨g, 0, none⟩) pn gc) eW (P.map lvOf) (E ++ (staA p P (usB l) (fsts M) next k).ev) w0 wr ∧ Lf w0.heap.size (XR r g eW) tW N wr ∧ fsts N = (staA p P (usB l) (fsts M) next k).tk ∧ MapB ub m S wr) (fun kv _ => pn - (intOf kv).toNat)
   case atStart => exact ⟨0, tV, eV, M, by omega, rfl, by rw [show E ++ (staA p P (usB l) (fsts M) next 0).ev = E from List.append_nil E]; exact K2.out.1, K2.out.2, rfl, HS0.out⟩
   case round =>
    clear K2 HS0 HB
    obtain ⟨k, tW, eW, N, hk, rfl, hK, hL, hN, hS⟩ := hrel
    obtain ⟨aW, cW, rfl⟩ := aU hL.row
    have K := qh hK
    have HL := qh hL
    have HNe := qh hN
    have HS := qh hS
    clear hK hL hN hS
    by_cases hlt : k < pn
    ·have HLt := qh hlt
     obtain ⟨b2, off2, rfl, p0, p1, p2⟩ := fS (HP.out.below K.out.B) hlt
     have pl := World.block_lt_of_cell? _ _ p0
     obtain ⟨l0, l1⟩ := K.out.V.at (k := k) (by rw [List.length_map, HLn.out]; exact hlt)
     have gl2 := World.block_lt_of_cell? _ _ l0
     rw [gl_map P (by rw [HLn.out]; exact hlt)] at l0 l1
     have HPk := qh (HO.out.2.1 k hlt)
     obtain ⟨⟨yr, yc, ya⟩, hY⟩ : ∃ y, gp P k = y := ⟨_, rfl⟩
     obtain ⟨⟨A, Sz⟩, hA⟩ : ∃ x, lvOf (gp P k) = x := ⟨_, rfl⟩
     rw [hA] at l0 l1
     rw [hY] at p0 p1 p2
     simp only [] at p0 p1 p2 l0 l1
     have HSz := qh (show Sz = 0 ∨ (0 < Sz ∧ AltMath.meE A Sz = 0) from by
      have h1 := jH (y := gp P k) HPk.out
      rw [hA] at h1
      by_cases hz : 0 < Sz
      ·exact Or.inr ⟨hz, h1 hz⟩
      left
      have h2 := lvOf_two (y := gp P k) HPk.out
      rw [hA] at h2
      simp only [] at h2
      omega)
     have HY := qh hY
     have HA := qh hA
     have hk0 : (0 : Int) ≤ (k : Int) := by omega
     have hk1 : (k : Int) < (pn : Int) := by omega
     have hkw : IntKind.i64.wrap ((k : Int) + 1) = ((k + 1 : Nat) : Int) := by have := HN.out; rw [IntWalk.i64_in _ (by omega)]; omega
     obtain ⟨⟨tks, evs, nx⟩, hst⟩ : ∃ s, staA p P (usB l) (fsts M) next k = s := ⟨_, rfl⟩
     rw [hst] at K HNe
     simp only [] at K HNe
     have HST := qh hst
     have HNl := qh (show N.length = tks.length from by rw [← HNe.out, aY])
     have hns := HUs.out k
     have KA := qh ((K.out.below (aC wr (.cells #[.int .i64 yr, .int .i64 yc, .int .i64 ya] 63))).below (aC (wr.alloc (.cells #[.int .i64 yr, .int .i64 yc, .int .i64 ya] 63)) (.cells #[.int .i64 A, .int .i64 Sz] 78)))
     have LA := qh ((HL.out.below (aC wr (.cells #[.int .i64 yr, .int .i64 yc, .int .i64 ya] 63))).below (aC (wr.alloc (.cells #[.int .i64 yr, .int .i64 yc, .int .i64 ya] 63)) (.cells #[.int .i64 A, .int .i64 Sz] 78)))
     have SA := qh ((HS.out.below (aC wr (.cells #[.int .i64 yr, .int .i64 yc, .int .i64 ya] 63))).below (aC (wr.alloc (.cells #[.int .i64 yr, .int .i64 yc, .int .i64 ya] 63)) (.cells #[.int .i64 A, .int .i64 Sz] 78)))
     have BA := qh (And.intro (aG (o' := (.cells #[.int .i64 A, .int .i64 Sz] 78 (0, 0))) (aI wr (.cells #[.int .i64 yr, .int .i64 yc, .int .i64 ya] 63 (0, 0)) rfl)) (aI (wr.alloc (.cells #[.int .i64 yr, .int .i64 yc, .int .i64 ya] 63)) (.cells #[.int .i64 A, .int .i64 Sz] 78 (0, 0)) (n := wr.heap.size + 1) (by simp)))
     have hlk := SA.out.look (x := (k : Int)) (by omega) (by have := HN.out; omega)
     rw [hns] at hlk
     obtain ⟨r0, r1, r2, r3, r4, r5, r6, r7, r8, r9⟩ := K.out.R.cells
     have rl := K.out.R.lt
     clear hns hY hA hst hlt K HL HS
     cases hus : usB l k with
     | true =>
      rw [hus] at hlk
      have HSk := qh (cZ (p := p) (P := P) (us := usB l) (L := fsts M) (next := next) (k := k) (by rw [HST.out]; exact Or.inl hus))
      go_wp2_with fail
      refine ⟨⟨k + 1, _, eW, N, HLt.out, by go_num, ?_, LA.out, ?_, SA.out⟩, by simp [intOf]; have := HLt.out; omega⟩
      ·rw [HSk.out, HST.out]
       exact KA.out
      rw [HSk.out, HST.out]
      exact HNe.out
     | false =>
      rw [hus] at hlk
      by_cases hz : Sz = 0
      ·subst hz
       have HSk := qh (cZ (p := p) (P := P) (us := usB l) (L := fsts M) (next := next) (k := k) (by rw [HST.out]; exact Or.inr (Or.inl (by rw [HA.out]; exact fun e => absurd e (Int.lt_irrefl 0)))))
       go_wp2_with fail
       refine ⟨⟨k + 1, _, eW, N, HLt.out, by go_num, ?_, LA.out, ?_, SA.out⟩, by simp [intOf]; have := HLt.out; omega⟩
       ·rw [HSk.out, HST.out]
        exact KA.out
       rw [HSk.out, HST.out]
       exact HNe.out
      have hzb : (Sz == 0) = false := beq_eq_false_iff_ne.2 hz
      by_cases h16 : 16 ≤ N.length
      ·have h16i : (16 : Int) ≤ (N.length : Int) := by omega
       have HSk := qh (cZ (p := p) (P := P) (us := usB l) (L := fsts M) (next := next) (k := k) (by rw [HST.out]; exact Or.inr (Or.inr (by rw [← HNl.out]; exact h16))))
       go_wp2_with fail
       refine ⟨⟨k + 1, _, eW, N, HLt.out, by go_num, ?_, LA.out, ?_, SA.out⟩, by simp [intOf]; have := HLt.out; omega⟩
       ·rw [HSk.out, HST.out]
        exact KA.out
       rw [HSk.out, HST.out]
       exact HNe.out
      have h16i : ¬ (16 : Int) ≤ (N.length : Int) := by omega
      go_wp2_with fail
      clear p0 p1 p2 pl l0 l1 gl2 r0 r1 r2 r3 r4 r5 r6 r7 r8 r9 rl hlk
      obtain ⟨B1, hB1⟩ : ∃ B1, B1 = wr.heap.size := ⟨_, rfl⟩
      rw [← hB1] at BA ⊢
      generalize (((wr.alloc (.cells #[.int .i64 yr, .int .i64 yc, .int .i64 ya] 63)).alloc (.cells #[.int .i64 A, .int .i64 Sz] 78))) = wb at *
      clear hB1
      have KD := qh (show Below wb.heap.size wb wb.drew from aM (Below.refl _ _) 1)
      replace KA := qh (KA.out.below KD.out)
      replace LA := qh (LA.out.below KD.out)
      replace SA := qh (SA.out.below KD.out)
      replace BA := qh (And.intro (aN KD.out BA.out.1) (aN KD.out BA.out.2))
      have BA0 := qh (aB BA.out.2)
      have HS := qh (show wb.drew.cell? ⟨r, 5, none⟩ = some (.int .i64 nx) ∧ wb.drew.cell? ⟨B1, 2, none⟩ = some (.int .i64 ya) ∧ wb.drew.cell? ⟨r, 1, none⟩ = some (.int .i64 p.need) from ⟨KA.out.R.cells.2.2.2.2.2.1, aA BA.out.1 rfl, KA.out.R.cells.2.1⟩)
      refine MyHeldE.start (fun W => W.cell? ⟨r, 5, none⟩ = some (.int .i64 nx) ∧ W.cell? ⟨B1, 2, none⟩ = some (.int .i64 ya) ∧ W.cell? ⟨r, 1, none⟩ = some (.int .i64 p.need)) [16] (by kernel_rfl) ?_
      have hHeld := HS.out
      refine MyHeldE.tk 0 ?_
      refine MyHeldE.tk 1 ?_
      refine MyHeldE.tk 2 ?_
      refine MyHeldE.tk 3 ?_
      refine MyHeldE.tk 4 ?_
      refine MyHeldE.tk 5 ?_
      refine MyHeldE.tk 6 ?_
      refine MyHeldE.tk 7 ?_
      refine MyHeldE.tk 8 ?_
      refine MyHeldE.tk 9 ?_
      refine MyHeldE.tk 10 ?_
      refine MyHeldE.tk 11 ?_
      refine MyHeldE.tk 12 ?_
      refine MyHeldE.tk 13 ?_
      refine MyHeldE.tk 14 ?_
      refine MyHeldE.ready (rs := [15]) (by kernel_rfl) (by simp) ?_
      refine (MyHeldE.next 15 (MyHeld.at_rfl rfl) (fun Kq hKq => ?_) MyHeldE.All.nil)
      go_simp
      have HS2 := qh (And.intro (aS (aC wb.drew (.cells #[.int .i64 0, .int .i64 0, .int .i64 0, .int .i64 0, .int .i64 0, .slice none 0 0, .slice none 0 0, .int .i64 0, .int .i64 0, .bool false] 55)) HS.out.1) (And.intro (aS (aC wb.drew (.cells #[.int .i64 0, .int .i64 0, .int .i64 0, .int .i64 0, .int .i64 0, .slice none 0 0, .slice none 0 0, .int .i64 0, .int .i64 0, .bool false] 55)) HS.out.2.1) (aS (aC wb.drew (.cells #[.int .i64 0, .int .i64 0, .int .i64 0, .int .i64 0, .int .i64 0, .slice none 0 0, .slice none 0 0, .int .i64 0, .int .i64 0, .bool false] 55)) HS.out.2.2)))
      have KR := qh (show RoK w0.heap.size r g wb.heap.size p now nx _ _ _ _ _ _ (tk0, bs0) _ N w0 (wb.alloc (.cells #[.int .i64 0, .int .i64 0, .int .i64 0, .int .i64 0, .int .i64 0, .slice none 0 0, .slice none 0 0, .int .i64 0, .int .i64 0, .bool false] 55)).drew from RoK.new (tk0, bs0) KA.out LA.out)
      replace SA := qh (show MapB ub m S (wb.alloc (.cells #[.int .i64 0, .int .i64 0, .int .i64 0, .int .i64 0, .int .i64 0, .slice none 0 0, .slice none 0 0, .int .i64 0, .int .i64 0, .bool false] 55)).drew from SA.out.below (aC wb.drew (.cells #[.int .i64 0, .int .i64 0, .int .i64 0, .int .i64 0, .int .i64 0, .slice none 0 0, .slice none 0 0, .int .i64 0, .int .i64 0, .bool false] 55)))
      replace BA := qh (show (wb.alloc (.cells #[.int .i64 0, .int .i64 0, .int .i64 0, .int .i64 0, .int .i64 0, .slice none 0 0, .slice none 0 0, .int .i64 0, .int .i64 0, .bool false] 55)).drew.heap[B1]? = some (.cells #[.int .i64 yr, .int .i64 yc, .int .i64 ya] 63 (0, 0)) ∧ (wb.alloc (.cells #[.int .i64 0, .int .i64 0, .int .i64 0, .int .i64 0, .int .i64 0, .slice none 0 0, .slice none 0 0, .int .i64 0, .int .i64 0, .bool false] 55)).drew.heap[B1 + 1]? = some (.cells #[.int .i64 A, .int .i64 Sz] 78 (0, 0)) from ⟨aN (aC wb.drew (.cells #[.int .i64 0, .int .i64 0, .int .i64 0, .int .i64 0, .int .i64 0, .slice none 0 0, .slice none 0 0, .int .i64 0, .int .i64 0, .bool false] 55)) BA.out.1, aN (aC wb.drew (.cells #[.int .i64 0, .int .i64 0, .int .i64 0, .int .i64 0, .int .i64 0, .slice none 0 0, .slice none 0 0, .int .i64 0, .int .i64 0, .bool false] 55)) BA.out.2⟩)
      have HBT := qh (show B1 + 1 < wb.heap.size from BA0.out)
      have hHeld2 : (wb.alloc (.cells #[.int .i64 0, .int .i64 0, .int .i64 0, .int .i64 0, .int .i64 0, .slice none 0 0, .slice none 0 0, .int .i64 0, .int .i64 0, .bool false] 55)).drew.cell? ⟨r, 5, none⟩ = some (.int .i64 nx) ∧ (wb.alloc (.cells #[.int .i64 0, .int .i64 0, .int .i64 0, .int .i64 0, .int .i64 0, .slice none 0 0, .slice none 0 0, .int .i64 0, .int .i64 0, .bool false] 55)).drew.cell? ⟨B1, 2, none⟩ = some (.int .i64 ya) ∧ (wb.alloc (.cells #[.int .i64 0, .int .i64 0, .int .i64 0, .int .i64 0, .int .i64 0, .slice none 0 0, .slice none 0 0, .int .i64 0, .int .i64 0, .bool false] 55)).drew.cell? ⟨r, 1, none⟩ = some (.int .i64 p.need) := HS2.out
      refine hKq.out _ _ (fun _ => hHeld2) ?_
      clear hKq Kq hHeld HS2 HS KA LA KD
      have hHeld := hHeld2
      clear hHeld2
      generalize (wb.alloc (.cells #[.int .i64 0, .int .i64 0, .int .i64 0, .int .i64 0, .int .i64 0, .slice none 0 0, .slice none 0 0, .int .i64 0, .int .i64 0, .bool false] 55)).drew = wz at *
      obtain ⟨T, hT⟩ : ∃ T, T = wb.heap.size := ⟨_, rfl⟩
      rw [← hT] at KR HBT ⊢
      clear hT
      try simp only [Act.put, List.setIfInBounds_toArray, List.set_cons_zero, List.set_cons_succ]
      obtain ⟨f0, f1, f2, f3, f4, f5, f6, f7, f8, f9⟩ := aX (q := (tk0, bs0)) KR.out.X
      have tl := aB KR.out.X
      obtain ⟨z0, z1, z2, z3, z4, z5, z6, z7, z8, z9⟩ := TkAt.block' (q := (tk0, bs0)) KR.out.X
      simp only [tk0, bs0, rg0] at z0 z1 z2 z3 z4 z5 z6 z7 z8 z9
      refine MyHeldE.ready (rs := [16]) (by kernel_rfl) (by simp) ?_
      refine (MyHeldE.next 16 (MyHeld.at_rfl rfl) (fun Kq hKq => ?_) MyHeldE.All.nil)
      go_simp
      refine hKq.out _ _ (fun e => by cases e) ?_
      clear hKq Kq
      try simp only [Act.put, List.setIfInBounds_toArray, List.set_cons_zero, List.set_cons_succ]
      refine MyHeldE.done (by kernel_rfl) ?_ _
      clear f0 f1 f2 f3 f4 f5 f6 f7 f8 f9 tl z0 z1 z2 z3 z4 z5 z6 z7 z8 z9 hHeld
      have KW := qh (tk_tenP KR.out.X (.int .i64 nx) (.int .i64 ya) (.int .i64 0) (.int .i64 0) (.int .i64 0) (.slice none 0 0) (.slice none 0 0) (.int .i64 1) (.int .i64 0) (.bool (p.need == 1)))
      replace SA := qh (SA.out.outs (X := [some T]) (Outs.of_only KW.out.1 (List.mem_singleton.2 rfl)) (fun e => SA.out.off KR.out.X (Option.some.inj (List.mem_singleton.1 e))))
      replace BA := qh (And.intro (KW.out.1.keeps BA.out.1 (by have := HBT.out; omega)) (KW.out.1.keeps BA.out.2 (by have := HBT.out; omega)))
      replace KR := qh (KR.out.store (q' := (⟨nx, ya, rg0, [], [], 1, 0, p.need == 1⟩, bs0)) KW.out.1 KW.out.2)
      clear KW
      generalize (((((((((wz.setCell ⟨T, 0, none⟩ (.int .i64 nx)).setCell ⟨T, 1, none⟩ (.int .i64 ya)).setCell ⟨T, 2, none⟩ (.int .i64 0)).setCell ⟨T, 3, none⟩ (.int .i64 0)).setCell ⟨T, 4, none⟩ (.int .i64 0)).setCell ⟨T, 5, none⟩ (.slice none 0 0)).setCell ⟨T, 6, none⟩ (.slice none 0 0)).setCell ⟨T, 7, none⟩ (.int .i64 1)).setCell ⟨T, 8, none⟩ (.int .i64 0)).setCell ⟨T, 9, none⟩ (.bool (p.need == 1)) = w1 at *
      obtain ⟨y0, y1, y2⟩ := cB BA.out.1
      have yl := aB BA.out.1
      obtain ⟨⟨g1, g2, g3⟩, hg⟩ : ∃ x, nwX yr = x := ⟨_, rfl⟩
      obtain ⟨EN, hEN⟩ : ∃ x, nwE yr = x := ⟨_, rfl⟩
      have HG := qh hg
      have HNC := qh (show ∀ W : World, Calls Tryz.prog 59 #[.int .i64 yr] W (fun e w' => e = .returned (.tuple #[.agg #[.int .i64 g1, .int .i64 g2, .int .i64 g3], .int .i64 EN]) ∧ Below W.heap.size W w') from fun W => by
       have h := pNw_call yr W
       rw [hg, hEN] at h
       exact h)
      obtain ⟨lo', hlo⟩ : ∃ x, AltMath.loK (AltMath.neF A Sz) 201 = x := ⟨_, rfl⟩
      obtain ⟨hi', hhi⟩ : ∃ x, AltMath.hiK (AltMath.neF A Sz) 201 = x := ⟨_, rfl⟩
      have HLn2 := qh (show lo'.length = 201 ∧ hi'.length = 201 from ⟨by rw [← hlo]; exact AltMath.loK_len _ _, by rw [← hhi]; exact AltMath.hiK_len _ _⟩)
      have HLH := qh (And.intro hlo hhi)
      have HAC := qh (show ∀ W : World, Calls Tryz.prog 60 #[.int .i64 A, .int .i64 Sz] W (Alt.BOPost 0 lo' hi' W) from fun W => by
       have h := Alt.pNew_call A Sz W
       have h0 : AltMath.meE A Sz = 0 := by
        rcases HSz.out with e | e
        ·exact absurd e hz
        exact e.2
       rw [hlo, hhi, h0] at h
       exact h)
      clear hg hEN hlo hhi
      go_wp2_with fail
      refine (HNC.out _).mono ?_; rintro e w2 ⟨rfl, hb⟩
      replace KR := qh (KR.out.below hb)
      replace SA := qh (SA.out.below hb)
      replace BA := qh (And.intro (aN hb BA.out.1) (aN hb BA.out.2))
      clear hb y0 y1 y2 yl
      obtain ⟨z0, z1, z2, z3, z4, z5, z6, z7, z8, z9⟩ := TkAt.block' (q := (⟨nx, ya, rg0, [], [], 1, 0, p.need == 1⟩, bs0)) KR.out.X
      simp only [bs0] at z0 z1 z2 z3 z4 z5 z6 z7 z8 z9
      try simp only [rg0] at z0 z1 z2 z3 z4 z5 z6 z7 z8 z9
      obtain ⟨f0, f1, f2, f3, f4, f5, f6, f7, f8, f9⟩ := aX (q := (⟨nx, ya, rg0, [], [], 1, 0, p.need == 1⟩, bs0)) KR.out.X
      have zl := aB KR.out.X
      go_upto_region 12 with fail
      clear z0 z1 z2 z3 z4 z5 z6 z7 z8 z9 f0 f1 f2 f3 f4 f5 f6 f7 f8 f9 zl
      have KW := qh (And.intro (j5 KR.out.X g1 g2 g3).2 (j5 KR.out.X g1 g2 g3).1)
      replace SA := qh (SA.out.outs (X := [some T]) (Outs.of_only KW.out.1 (List.mem_singleton.2 rfl)) (fun e => SA.out.off KR.out.X (Option.some.inj (List.mem_singleton.1 e))))
      replace BA := qh (And.intro (KW.out.1.keeps BA.out.1 (by have := HBT.out; omega)) (KW.out.1.keeps BA.out.2 (by have := HBT.out; omega)))
      replace KR := qh (KR.out.store (q' := (⟨nx, ya, ⟨g1, g2, g3⟩, [], [], 1, 0, p.need == 1⟩, bs0)) KW.out.1 KW.out.2)
      clear KW
      generalize ((w2.setCell ⟨T, 2, none⟩ (.int .i64 g1)).setCell ⟨T, 3, none⟩ (.int .i64 g2)).setCell ⟨T, 4, none⟩ (.int .i64 g3) = w3 at *
      obtain ⟨y0, y1, -, -⟩ := Alt.two_facts BA.out.2
      have yl := aB BA.out.2
      have HLs := qh KR.out.lts
      go_wp2_with fail
      refine (HAC.out _).mono ?_; rintro e w4 ⟨vL, vH, rfl, hT2, -, hb⟩
      replace hT2 := hT2 rfl
      obtain ⟨a1, c1, rfl⟩ := aU (HLn2.out.1 ▸ hT2.L)
      obtain ⟨a2, c2, rfl⟩ := aU (HLn2.out.2 ▸ hT2.H)
      have HBn := qh (kA (t := ⟨nx, ya, ⟨g1, g2, g3⟩, [], [], 1, 0, p.need == 1⟩) hT2 (Nat.le_refl _) HLn2.out.1 HLn2.out.2 w0.heap.size _ KR.out.K.B.size HLs.out)
      replace KR := qh (KR.out.below hb)
      replace SA := qh (SA.out.below hb)
      replace BA := qh (And.intro (aN hb BA.out.1) (aN hb BA.out.2))
      clear hb hT2 y0 y1 yl HLs
      obtain ⟨z0, z1, z2, z3, z4, z5, z6, z7, z8, z9⟩ := TkAt.block' (q := (⟨nx, ya, ⟨g1, g2, g3⟩, [], [], 1, 0, p.need == 1⟩, bs0)) KR.out.X
      simp only [bs0] at z0 z1 z2 z3 z4 z5 z6 z7 z8 z9
      try simp only [rg0] at z0 z1 z2 z3 z4 z5 z6 z7 z8 z9
      obtain ⟨f0, f1, f2, f3, f4, f5, f6, f7, f8, f9⟩ := aX (q := (⟨nx, ya, ⟨g1, g2, g3⟩, [], [], 1, 0, p.need == 1⟩, bs0)) KR.out.X
      have zl := aB KR.out.X
      go_upto_region 13 with fail
      clear z0 z1 z2 z3 z4 z5 z6 z7 z8 z9 f0 f1 f2 f3 f4 f5 f6 f7 f8 f9 zl
      replace HBn := qh (HBn.out.outs (Outs.of_only (iJ (t := ⟨nx, ya, ⟨g1, g2, g3⟩, [], [], 1, 0, p.need == 1⟩) KR.out.X lo' hi' a1 a2 201 c1 201 c2).2 (List.mem_cons_of_mem _ List.mem_cons_self)))
      have KW := qh (And.intro (iJ (t := ⟨nx, ya, ⟨g1, g2, g3⟩, [], [], 1, 0, p.need == 1⟩) KR.out.X lo' hi' a1 a2 201 c1 201 c2).2 (iJ (t := ⟨nx, ya, ⟨g1, g2, g3⟩, [], [], 1, 0, p.need == 1⟩) KR.out.X lo' hi' a1 a2 201 c1 201 c2).1)
      replace SA := qh (SA.out.outs (X := [some T]) (Outs.of_only KW.out.1 (List.mem_singleton.2 rfl)) (fun e => SA.out.off KR.out.X (Option.some.inj (List.mem_singleton.1 e))))
      replace BA := qh (And.intro (KW.out.1.keeps BA.out.1 (by have := HBT.out; omega)) (KW.out.1.keeps BA.out.2 (by have := HBT.out; omega)))
      replace KR := qh (KR.out.store (q' := (⟨nx, ya, ⟨g1, g2, g3⟩, lo', hi', 1, 0, p.need == 1⟩, ⟨a1, 201, c1, a2, 201, c2⟩)) KW.out.1 KW.out.2)
      clear KW
      generalize (w4.setCell ⟨T, 5, none⟩ (.slice a1 201 c1)).setCell ⟨T, 6, none⟩ (.slice a2 201 c2) = w5 at *
      have KD := qh (show Below w5.heap.size w5 w5.drew from aM (Below.refl _ _) 1)
      replace KR := qh (KR.out.below KD.out)
      replace SA := qh (SA.out.below KD.out)
      replace HBn := qh (HBn.out.outs (Outs.of_below KD.out))
      have HS := qh (show w5.drew.cell? ⟨r, 6, none⟩ = some (.slice aW N.length cW) ∧ w5.drew.heap[T]? = some (.cells #[.int .i64 nx, .int .i64 ya, .int .i64 g1, .int .i64 g2, .int .i64 g3, .slice a1 201 c1, .slice a2 201 c2, .int .i64 1, .int .i64 0, .bool (p.need == 1)] 55 (0, 0)) from ⟨KR.out.K.R.cells.2.2.2.2.2.2.1, KR.out.X⟩)
      refine MyHeldE.start (fun W => W.cell? ⟨r, 6, none⟩ = some (.slice aW N.length cW) ∧ W.heap[T]? = some (.cells #[.int .i64 nx, .int .i64 ya, .int .i64 g1, .int .i64 g2, .int .i64 g3, .slice a1 201 c1, .slice a2 201 c2, .int .i64 1, .int .i64 0, .bool (p.need == 1)] 55 (0, 0))) [12] (by kernel_rfl) ?_
      have hHeld := HS.out
      refine MyHeldE.tk 0 ?_
      refine MyHeldE.tk 1 ?_
      refine MyHeldE.tk 2 ?_
      refine MyHeldE.tk 3 ?_
      refine MyHeldE.tk 4 ?_
      refine MyHeldE.tk 5 (hy := fun w hSw => by have hSc := hSw.1; go_simp; (try with_reducible rfl)) ?_
      refine MyHeldE.tk 6 (hy := fun w hSw => by obtain ⟨z0, z1, z2, z3, z4, z5, z6, z7, z8, z9⟩ := TkAt.block' (q := (⟨nx, ya, ⟨g1, g2, g3⟩, lo', hi', 1, 0, p.need == 1⟩, ⟨a1, 201, c1, a2, 201, c2⟩)) hSw.2; simp only [] at z0 z1 z2 z3 z4 z5 z6 z7 z8 z9; go_simp; (try with_reducible rfl)) ?_
      refine MyHeldE.ready (rs := [7]) (by kernel_rfl) (by simp) ?_
      refine (MyHeldE.next 7 (MyHeld.at_rfl rfl) (fun Kq hKq => ?_) MyHeldE.All.nil)
      go_simp
      have KB := qh (show RoK w0.heap.size r g T p now nx _ _ _ _ _ _ (⟨nx, ya, ⟨g1, g2, g3⟩, lo', hi', 1, 0, p.need == 1⟩, ⟨a1, 201, c1, a2, 201, c2⟩) _ N w0 (w5.alloc (.cells #[.int .i64 nx, .int .i64 ya, .int .i64 g1, .int .i64 g2, .int .i64 g3, .slice a1 201 c1, .slice a2 201 c2, .int .i64 1, .int .i64 0, .bool (p.need == 1)] 55)).drew from KR.out.below (aC w5.drew (.cells #[.int .i64 nx, .int .i64 ya, .int .i64 g1, .int .i64 g2, .int .i64 g3, .slice a1 201 c1, .slice a2 201 c2, .int .i64 1, .int .i64 0, .bool (p.need == 1)] 55)))
      have HBm := qh (show BdX _ _ (w5.alloc (.cells #[.int .i64 nx, .int .i64 ya, .int .i64 g1, .int .i64 g2, .int .i64 g3, .slice a1 201 c1, .slice a2 201 c2, .int .i64 1, .int .i64 0, .bool (p.need == 1)] 55)).drew (⟨nx, ya, ⟨g1, g2, g3⟩, lo', hi', 1, 0, p.need == 1⟩, ⟨a1, 201, c1, a2, 201, c2⟩) from HBn.out.outs (Outs.of_below (aC w5.drew (.cells #[.int .i64 nx, .int .i64 ya, .int .i64 g1, .int .i64 g2, .int .i64 g3, .slice a1 201 c1, .slice a2 201 c2, .int .i64 1, .int .i64 0, .bool (p.need == 1)] 55))))
      replace SA := qh (show MapB ub m S (w5.alloc (.cells #[.int .i64 nx, .int .i64 ya, .int .i64 g1, .int .i64 g2, .int .i64 g3, .slice a1 201 c1, .slice a2 201 c2, .int .i64 1, .int .i64 0, .bool (p.need == 1)] 55)).drew from SA.out.below (aC w5.drew (.cells #[.int .i64 nx, .int .i64 ya, .int .i64 g1, .int .i64 g2, .int .i64 g3, .slice a1 201 c1, .slice a2 201 c2, .int .i64 1, .int .i64 0, .bool (p.need == 1)] 55)))
      have HCN := qh (show ∀ (j : Nat) (u : Value), ([.int .i64 nx, .int .i64 ya, .int .i64 g1, .int .i64 g2, .int .i64 g3, .slice a1 201 c1, .slice a2 201 c2, .int .i64 1, .int .i64 0, .bool (p.need == 1)] : List Value)[j]? = some u → (w5.alloc (.cells #[.int .i64 nx, .int .i64 ya, .int .i64 g1, .int .i64 g2, .int .i64 g3, .slice a1 201 c1, .slice a2 201 c2, .int .i64 1, .int .i64 0, .bool (p.need == 1)] 55)).drew.cell? ((⟨w5.heap.size, 0, none⟩ : Addr).add j) = some u from bA (w := w5.drew) rfl)
      have hHeld2 : (w5.alloc (.cells #[.int .i64 nx, .int .i64 ya, .int .i64 g1, .int .i64 g2, .int .i64 g3, .slice a1 201 c1, .slice a2 201 c2, .int .i64 1, .int .i64 0, .bool (p.need == 1)] 55)).drew.cell? ⟨r, 6, none⟩ = some (.slice aW N.length cW) ∧ (w5.alloc (.cells #[.int .i64 nx, .int .i64 ya, .int .i64 g1, .int .i64 g2, .int .i64 g3, .slice a1 201 c1, .slice a2 201 c2, .int .i64 1, .int .i64 0, .bool (p.need == 1)] 55)).drew.heap[T]? = some (.cells #[.int .i64 nx, .int .i64 ya, .int .i64 g1, .int .i64 g2, .int .i64 g3, .slice a1 201 c1, .slice a2 201 c2, .int .i64 1, .int .i64 0, .bool (p.need == 1)] 55 (0, 0)) := ⟨KB.out.K.R.cells.2.2.2.2.2.2.1, KB.out.X⟩
      refine hKq.out _ _ (fun _ => hHeld2) ?_
      clear hKq Kq hHeld KR HBn HS KD
      have hHeld := hHeld2
      clear hHeld2
      generalize (w5.alloc (.cells #[.int .i64 nx, .int .i64 ya, .int .i64 g1, .int .i64 g2, .int .i64 g3, .slice a1 201 c1, .slice a2 201 c2, .int .i64 1, .int .i64 0, .bool (p.need == 1)] 55)).drew = w6 at *
      try simp only [Act.put, List.setIfInBounds_toArray, List.set_cons_zero, List.set_cons_succ]
      refine MyHeldE.ready (rs := [8]) (by kernel_rfl) (by simp) ?_
      refine (MyHeldE.next 8 (MyHeld.at_rfl rfl) (fun Kq hKq => ?_) MyHeldE.All.nil)
      refine bC (by rfl) (.tmp 92) (.tmp 94) 24 (by rfl) w0.heap.size 55 i0 _ 10 112 Tryz.underlying24 HF.out.1 HF.out.2.1 HF.out.2.2.1 HF.out.2.2.2 (by rfl) (by decide) _ N.length _ (by rfl) KB.out.L.row ⟨w5.heap.size, 0, none⟩ 1 1 [.int .i64 nx, .int .i64 ya, .int .i64 g1, .int .i64 g2, .int .i64 g3, .slice a1 201 c1, .slice a2 201 c2, .int .i64 1, .int .i64 0, .bool (p.need == 1)] (by rfl) (by rfl) HCN.out (by intro u hu; simp at hu; rcases hu with rfl | rfl | rfl | rfl | rfl | rfl | rfl | rfl | rfl | rfl <;> rfl) (by unfold maxLen; omega) (by omega) KB.out.K.B.size ?_
      intro v9 w9 hown9 hg9 hat9
      obtain ⟨a9, c9, rfl⟩ := aU hown9
      have KC := qh (RoK.app (q := (⟨nx, ya, ⟨g1, g2, g3⟩, lo', hi', 1, 0, p.need == 1⟩, ⟨a1, 201, c1, a2, 201, c2⟩)) KB.out HBm.out hown9 hg9 hat9)
      have hnT : (Value.slice aW N.length cW).ownBlock ≠ some T := fun e => KB.out.L.ne T e List.mem_cons_self
      have hX9 := gO hg9 hnT KB.out.X
      replace SA := qh (SA.out.outs (Outs.of_grown (X := [(Value.slice aW N.length cW).ownBlock]) hg9 (fun _ e => by rw [← e]; exact List.mem_singleton.2 rfl)) (fun c => SA.out.row KB.out.L.row (List.mem_singleton.1 c).symm))
      have hO9 : Only r w9 (w9.setCell ⟨r, 6, none⟩ (.slice a9 (N.length + 1) c9)) := (Only.refl _ _).setCell _ _
      have KS := qh (And.intro (KC.out.1.setT (.slice a9 (N.length + 1) c9) hO9) (KC.out.2.outs (Outs.of_only hO9 (by unfold XR; simp))))
      have SS := qh (SA.out.outs (X := [some r]) (Outs.of_only hO9 (List.mem_singleton.2 rfl)) (fun e => SA.out.off KC.out.1.R (Option.some.inj (List.mem_singleton.1 e))))
      have XT := qh (hO9.keeps hX9 KB.out.tr)
      have f6 : w9.frozen? ⟨r, 6, none⟩ = false := KC.out.1.R.free
      have rl := KC.out.1.R.lt
      have hHeld2 : w9.cell? ⟨r, 6, none⟩ = some (.slice aW N.length cW) ∧ w9.heap[T]? = some (.cells #[.int .i64 nx, .int .i64 ya, .int .i64 g1, .int .i64 g2, .int .i64 g3, .slice a1 201 c1, .slice a2 201 c2, .int .i64 1, .int .i64 0, .bool (p.need == 1)] 55 (0, 0)) := ⟨KC.out.1.R.cells.2.2.2.2.2.2.1, hX9⟩
      clear hown9 hg9 hat9 hnT hX9 hO9
      refine hKq.out _ _ (fun _ => hHeld2) ?_
      clear hKq Kq hHeld
      have hHeld := hHeld2
      clear hHeld2
      try simp only [Act.put, List.setIfInBounds_toArray, List.set_cons_zero, List.set_cons_succ]
      refine MyHeldE.tk 9 ?_
      refine MyHeldE.tk 10 ?_
      refine MyHeldE.tk 11 ?_
      refine MyHeldE.ready (rs := [12]) (by kernel_rfl) (by simp) ?_
      refine (MyHeldE.next 12 (MyHeld.at_rfl rfl) (fun Kq hKq => ?_) MyHeldE.All.nil)
      go_simp
      refine hKq.out _ _ (fun e => by cases e) ?_
      clear hKq Kq
      try simp only [Act.put, List.setIfInBounds_toArray, List.set_cons_zero, List.set_cons_succ]
      refine MyHeldE.done (by kernel_rfl) ?_ _
      clear f6 rl hHeld KB HBm SA KC HCN
      generalize w9.setCell ⟨r, 6, none⟩ (.slice a9 (N.length + 1) c9) = w10 at *
      have z0 : w10.cell? ⟨T, 0, none⟩ = some (.int .i64 nx) := aA XT.out rfl
      have zl := aB XT.out
      have HB2 := qh (oU (p := p) (P := P) (us := usB l) (L := fsts M) (next := next) k)
      have HSg := qh (kD (p := p) (P := P) (us := usB l) (L := fsts M) (next := next) (k := k) (by
       rw [HST.out]
       rintro (e | e | e)
       ·rw [hus] at e; cases e
       ·rw [HA.out] at e
        rcases HSz.out with c | c
        ·exact hz c
        exact e c.1
       rw [← HNl.out] at e; exact h16 e))
      rw [HST.out] at HSg HB2
      simp only [] at HSg HB2
      have hnw : IntKind.i64.wrap (nx + 1) = nx + 1 := by have := HB2.out; have := HO.out.2.2.2.2; have := HLt.out; have := HN.out; exact IntWalk.i64_in _ (by omega)
      go_wp2_with fail
      refine (cG r w0.heap.size p now nx _ _ _ _ _ ⟨5, nx, (k : Int)⟩ _ KS.out.1.R KS.out.1.E KS.out.1.er KS.out.1.B.size (by have := HB2.out; have := HO.out.2.2.1; have := HLt.out; have := HN.out; rw [List.length_append]; omega)).mono ?_; intro e w11 hn
      obtain ⟨eX, rfl, KN, hO, hLf⟩ := KS.out.1.note hn
      have HKN := qh (And.intro KN (hLf _ _ KS.out.2))
      have HSN := qh (SS.out.outs hO (fun c => by
       rcases List.mem_cons.1 c with c | c
       ·exact SS.out.off KS.out.1.R (Option.some.inj c)
       exact SS.out.row KS.out.1.E (List.mem_singleton.1 c).symm))
      have f5 : w11.frozen? ⟨r, 5, none⟩ = false := KN.R.free
      obtain ⟨r0, r1, r2, r3, r4, r5, r6, r7, r8, r9⟩ := KN.R.cells
      have rl := KN.R.lt
      clear hn KN hO hLf z0 zl KS SS XT
      go_wp2_with fail
      have hO5 : Only r w11 (w11.setCell ⟨r, 5, none⟩ (.int .i64 (nx + 1))) := (Only.refl _ _).setCell _ _
      refine ⟨⟨k + 1, .slice a9 (N.length + 1) c9, eX, N ++ [(⟨nx, ya, ⟨g1, g2, g3⟩, lo', hi', 1, 0, p.need == 1⟩, ⟨a1, 201, c1, a2, 201, c2⟩)], HLt.out, by go_num, ?_, HKN.out.2.outs (Outs.of_only hO5 (by unfold XR; simp)), ?_, HSN.out.outs (X := [some r]) (Outs.of_only hO5 (List.mem_singleton.2 rfl)) (fun e => HSN.out.off HKN.out.1.R (Option.some.inj (List.mem_singleton.1 e)))⟩, by simp [intOf]; have := HLt.out; omega⟩
      ·rw [HSg.out, ← List.append_assoc]
       exact HKN.out.1.turn hO5 (HKN.out.1.R.setNext (nx + 1))
      rw [HSg.out, bK, HNe.out, HA.out, HY.out]
      show _ ++ [_] = _ ++ [newT p nx ⟨yr, yc, ya⟩ (A, Sz)]
      unfold newT
      dsimp only
      rw [HG.out, HLH.out.1, HLH.out.2]
      rfl
    obtain rfl : pn = k := by omega
    go_wp2_with fail
    exact bodyPost_ret (v := .tuple #[]) (by simp [results, Tryz.f29, go_sem]) rfl ⟨rfl, _, eW, N, K.out, HL.out, HNe.out⟩
  intro x c wx cnt' hwx hwc hlx hat hrx hlt hgx hsx hen
  have hnx := HU.out.next HFit.out HD.out.2 hwx hat
  have HUx := qh hnx.1
  have HCb := qh (show 0 ≤ c ∧ c ≤ 1000 from by
   obtain ⟨q, hq, e⟩ := hnx.2
   have := HFit.out.col q hq
   rw [HLn.out] at this
   have := HN.out
   omega)
  have HRx := qh (And.intro hrx hlt)
  have HSx := qh (HS.out.outs (X := [some rb]) (Outs.of_grown hgx (fun _ e => by cases e; simp)) (by have h := HRB.out; simp at h ⊢; omega))
  have HBx := qh (HB.out.trans (⟨hgx.os, hgx.tape, hgx.output, hgx.size, fun k hk => hgx.block k (by have := HB.out.size; omega) (fun e => by have h := HRB.out; simp at h; have := Option.some.inj e; omega)⟩ : Below w.heap.size wr wx))
  obtain ⟨D2, hD2, hD2m, hD2r⟩ := HSx.out
  have HD2 := qh (And.intro hD2m hD2r)
  clear hnx hwx hwc hlx hat hrx hlt hgx hsx hD2m hD2r
  go_wp2_with (at_mapUpdate; refine wpList_mapUpdate_own _ rfl _ _ _ 122 rfl 3 4 keyI Tryz.underlying122 _ ub m D2 rfl hD2 (by have := HMm.out; unfold maxLen; omega) _ _ (.int .i64 c) rfl rfl (qB (by have := HCb.out; omega) (by have := HCb.out; omega)) (.lit (.bool true)) [] (plainElem_bool Tryz.underlying4 true) ?_; intro w9 hown9 hg9; have M9 := qh (MapB.put HD2.out.1 HD2.out.2 hown9); have R9 := qh (HRx.out.1.kept hg9 (fun e => by have h := HRB.out.1; have := HMb.out; have := Option.some.inj e; omega) (by have h := HRB.out; simp at h ⊢; omega)); have B9 := qh (HBx.out.trans (jW hg9 HRB.out.1 HBx.out.size)); clear hown9 hg9)
  exact ⟨⟨_, _, _, _, _, _, _, ⟨_, _, cnt', m + 1, R9.out, M9.out, HUx.out, by have := HMm.out; have := HRx.out.2; omega, B9.out⟩, rfl⟩, by rw [R9.out.left_eq, HR.out.left_eq]; exact HRx.out.2⟩
end Go.Proofs.YtikjjpjekchcjaaGreat
