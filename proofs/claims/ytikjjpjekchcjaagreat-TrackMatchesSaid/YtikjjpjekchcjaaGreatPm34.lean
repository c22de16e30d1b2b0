/-
  TrkRc
-/
import Derived.Test.YtikjjpjekchcjaaGreatPm33
set_option linter.all false
set_option maxRecDepth 100000
set_option maxHeartbeats 64000000
namespace Go.Proofs.YtikjjpjekchcjaaGreat
open Go.RowKit TrkMath MyHeap MyOwn
structure Uk (w : World) (l : List (Nat × Obj)) (x r : Nat) (cx cr : Array Value) (W : World) : Prop where
 K : Kp w W l
 X : W.heap[x]? = some (.cells cx 55 (0, 0))
 R : W.heap[r]? = some (.cells cr 55 (0, 0))
 off : ∀ y ∈ l, y.1 ≠ x ∧ y.1 ≠ r
 ne : x ≠ r
 hx : w.heap.size ≤ x
 hr : w.heap.size ≤ r
theorem Uk.below {w W W' : World} {l : List (Nat × Obj)} {x r : Nat} {cx cr : Array Value} (h : Uk w l x r cx cr W) (hb : Below W.heap.size W W') : Uk w l x r cx cr W' := ⟨h.K.below hb, aN hb h.X, aN hb h.R, h.off, h.ne, h.hx, h.hr⟩
theorem Uk.put {w W : World} {l : List (Nat × Obj)} {x r : Nat} {cx cr : Array Value} (h : Uk w l x r cx cr W) (i : Nat) (v : Value) : Uk w l x r (cx.setIfInBounds i v) cr (W.setCell ⟨x, i, none⟩ v) := by
 have hO := (Only.refl x W).setCell i v
 exact ⟨⟨h.K.B.trans (hO.below h.hx h.K.B.size), fun y hy => hO.keeps (h.K.H y hy) (h.off y hy).1⟩, aD h.X, hO.keeps h.R (fun e => h.ne e.symm), h.off, h.ne, h.hx, h.hr⟩
theorem cY {W : World} {b : Nat} {T : TypeId} {c0 c1 c2 c3 c4 c5 c6 c7 c8 c9 : Value} {fr : Nat × Nat} (h : W.heap[b]? = some (.cells #[c0, c1, c2, c3, c4, c5, c6, c7, c8, c9] T fr)) : W.cell? ⟨b, 0, none⟩ = some c0 ∧ W.cell? ⟨b, 1, none⟩ = some c1 ∧ W.cell? ⟨b, 2, none⟩ = some c2 ∧ W.cell? ⟨b, 3, none⟩ = some c3 ∧ W.cell? ⟨b, 4, none⟩ = some c4 ∧ W.cell? ⟨b, 5, none⟩ = some c5 ∧ W.cell? ⟨b, 6, none⟩ = some c6 ∧ W.cell? ⟨b, 7, none⟩ = some c7 ∧ W.cell? ⟨b, 8, none⟩ = some c8 ∧ W.cell? ⟨b, 9, none⟩ = some c9 :=
 ⟨aA h rfl, aA h rfl, aA h rfl, aA h rfl, aA h rfl, aA h rfl, aA h rfl, aA h rfl, aA h rfl, aA h rfl⟩
theorem dZ {W : World} {b : Nat} {T : TypeId} {cs : Array Value} (h : W.heap[b]? = some (.cells cs T (0, 0))) : W.frozen? ⟨b, 0, none⟩ = false ∧ W.frozen? ⟨b, 1, none⟩ = false ∧ W.frozen? ⟨b, 2, none⟩ = false ∧ W.frozen? ⟨b, 3, none⟩ = false ∧ W.frozen? ⟨b, 4, none⟩ = false ∧ W.frozen? ⟨b, 5, none⟩ = false ∧ W.frozen? ⟨b, 6, none⟩ = false ∧ W.frozen? ⟨b, 7, none⟩ = false ∧ W.frozen? ⟨b, 8, none⟩ = false ∧ W.frozen? ⟨b, 9, none⟩ = false :=
 ⟨aF h, aF h, aF h, aF h, aF h, aF h, aF h, aF h, aF h, aF h⟩
def UdPost (t t' : Tk) (s : Bs) (w : World) (e : Ending) (w' : World) : Prop :=
 ∃ s' : Bs, e = .returned (tkV (t', s')) ∧ Below w.heap.size w w' ∧
  ∀ (B : Nat) (X : List (Option Nat)), B ≤ w.heap.size → (∀ g, some g ∈ X → g < w.heap.size) → BdX B X w (t, s) → BdX B X w' (t', s')
theorem nG {B : Nat} {X : List (Option Nat)} {W : World} {t t' : Tk} {s : Bs} (h : BdX B X W (t, s)) (h1 : t'.lo = t.lo) (h2 : t'.hi = t.hi) : BdX B X W (t', s) :=
 ⟨by show Alt.Ints W s.aL s.nL t'.lo; rw [h1]; exact h.L, by show Alt.Ints W s.aH s.nH t'.hi; rw [h2]; exact h.H, h.gL, h.gH⟩
theorem fU {w : World} {T : Nat} {cs : Array Value} (h : w.heap[T]? = some (.cells cs 55 (0, 0))) (hs : cs.size = 10) (v0 v1 v2 v3 v4 v5 v6 v7 v8 v9 : Value) :
    Only T w ((((((((((w.setCell ⟨T, 0, none⟩ v0).setCell ⟨T, 1, none⟩ v1).setCell ⟨T, 2, none⟩ v2).setCell ⟨T, 3, none⟩ v3).setCell ⟨T, 4, none⟩ v4).setCell ⟨T, 5, none⟩ v5).setCell ⟨T, 6, none⟩ v6).setCell ⟨T, 7, none⟩ v7).setCell ⟨T, 8, none⟩ v8).setCell ⟨T, 9, none⟩ v9) ∧
    ((((((((((w.setCell ⟨T, 0, none⟩ v0).setCell ⟨T, 1, none⟩ v1).setCell ⟨T, 2, none⟩ v2).setCell ⟨T, 3, none⟩ v3).setCell ⟨T, 4, none⟩ v4).setCell ⟨T, 5, none⟩ v5).setCell ⟨T, 6, none⟩ v6).setCell ⟨T, 7, none⟩ v7).setCell ⟨T, 8, none⟩ v8).setCell ⟨T, 9, none⟩ v9).heap[T]? = some (.cells #[v0, v1, v2, v3, v4, v5, v6, v7, v8, v9] 55 (0, 0)) := by
 refine ⟨((((((((((Only.refl _ _).setCell _ _).setCell _ _).setCell _ _).setCell _ _).setCell _ _).setCell _ _).setCell _ _).setCell _ _).setCell _ _).setCell _ _, ?_⟩
 obtain ⟨l⟩ := cs
 match l, hs with
 | [c0, c1, c2, c3, c4, c5, c6, c7, c8, c9], _ =>
  have := aD (i := 9) (v := v9) (aD (i := 8) (v := v8) (aD (i := 7) (v := v7) (aD (i := 6) (v := v6) (aD (i := 5) (v := v5) (aD (i := 4) (v := v4) (aD (i := 3) (v := v3) (aD (i := 2) (v := v2) (aD (i := 1) (v := v1) (aD (i := 0) (v := v0) h)))))))))
  simpa using this
theorem lS {p : Par} {t : Tk} {y : Pl} {l : Lv} {HH ad : Int} {q : Rg} (h1 : upX t.rg y.r (t.misses + 1) = q) (h2 : hit1 t = HH) (h3 : (t.firm || decide (p.need ≤ hit1 t)) = decide (p.need ≤ hit1 t)) (h4 : (if t.addr < 0 then y.addr else t.addr) = ad) :
    updT p t y l = ⟨t.id, ad, q, meaL t.lo t.hi l, meaH t.lo t.hi l, HH, 0, decide (p.need ≤ HH)⟩ := by
 subst h1 h2 h4
 unfold updT
 rw [h3]
theorem mX (p : Par) (t : Tk) (s : Bs) (y : Pl) (w : World) (hP : ParOk p) (hT : TkOk p t) (hy : plE y = 0) (hI : BdI w (t, s)) :
    Calls Tryz.prog 35 #[parV p, tkV (t, s), plV y] w (UdPost t (updT p t y (lvOf y)) s w) := by
 obtain ⟨yr, yc, ya⟩ := y
 have hhit := hT.hits
 have hmis := hT.mis
 have hmost := hP.2.2.1
 have HFm := qh (show (updT p t ⟨yr, yc, ya⟩ (lvOf ⟨yr, yc, ya⟩)).firm = decide (p.need ≤ hit1 t) from by
  show (t.firm || decide (p.need ≤ hit1 t)) = decide (p.need ≤ hit1 t)
  rw [hT.firm]
  by_cases c : p.need ≤ t.hits
  ·rw [decide_eq_true c, decide_eq_true (show p.need ≤ hit1 t by unfold hit1; omega)]
   rfl
  rw [decide_eq_false c]
  rfl)
 have w1' : IntKind.i64.wrap (t.misses + 1) = t.misses + 1 := IntWalk.i64_in _ (by omega)
 have w2' : IntKind.i64.wrap (t.hits + 1) = t.hits + 1 := IntWalk.i64_in _ (by omega)
 obtain ⟨HH, hHH⟩ : ∃ x, hit1 t = x := ⟨_, rfl⟩
 have hmn : (1073741824 < t.hits + 1 → HH = 1073741824) ∧ (¬ 1073741824 < t.hits + 1 → HH = t.hits + 1) := by unfold hit1 at hHH; omega
 have HI := qh hI
 have HY := qh hy
 have HCh := qh hT.ch
 have HHH := qh hHH
 clear hP hT hy hI hHH hhit hmis hmost
 obtain ⟨id, addr, ⟨g0, g1, g2⟩, lo, hi, hits, misses, firm⟩ := t
 obtain ⟨aL, nL, cL, aH, nH, cH⟩ := s
 obtain ⟨⟨q0, q1, q2⟩, hq⟩ : ∃ x, upX ⟨g0, g1, g2⟩ yr (misses + 1) = x := ⟨_, rfl⟩
 have HQ := qh hq
 clear hq
 have hcR := oK ⟨g0, g1, g2⟩ yr (misses + 1)
 rw [HQ.out] at hcR
 have HCR := qh hcR
 clear hcR
 have K := qh (((((Kp.nil w).alloc #[.int .i64 p.gate, .int .i64 p.need, .int .i64 p.most, .int .i64 p.pull] 36).alloc #[.int .i64 id, .int .i64 addr, .int .i64 g0, .int .i64 g1, .int .i64 g2, .slice aL nL cL, .slice aH nH cH, .int .i64 hits, .int .i64 misses, .bool firm] 55).alloc #[.int .i64 yr, .int .i64 yc, .int .i64 ya] 63).alloc #[.int .i64 0, .int .i64 0, .int .i64 0, .int .i64 0, .int .i64 0, .slice none 0 0, .slice none 0 0, .int .i64 0, .int .i64 0, .bool false] 55)
 unfold tkV tkC plV parV
 simp only [] at HCh HHH w1' w2' hmn HFm ⊢
 go_enter Tryz.func35, Tryz.ntmps35
 go_wp2_with fail
 obtain ⟨b0, hb0⟩ : ∃ b, b = w.heap.size := ⟨_, rfl⟩
 obtain ⟨b1, hb1⟩ : ∃ b, b = w.heap.size + 1 := ⟨_, rfl⟩
 obtain ⟨b2, hb2⟩ : ∃ b, b = w.heap.size + 1 + 1 := ⟨_, rfl⟩
 obtain ⟨b3, hb3⟩ : ∃ b, b = w.heap.size + 1 + 1 + 1 := ⟨_, rfl⟩
 have U := qh (show Uk w [(b2, .cells #[.int .i64 yr, .int .i64 yc, .int .i64 ya] 63 (0, 0)), (b0, .cells #[.int .i64 p.gate, .int .i64 p.need, .int .i64 p.most, .int .i64 p.pull] 36 (0, 0))] b1 b3 #[.int .i64 id, .int .i64 addr, .int .i64 g0, .int .i64 g1, .int .i64 g2, .slice aL nL cL, .slice aH nH cH, .int .i64 hits, .int .i64 misses, .bool firm] #[.int .i64 0, .int .i64 0, .int .i64 0, .int .i64 0, .int .i64 0, .slice none 0 0, .slice none 0 0, .int .i64 0, .int .i64 0, .bool false] ((((w.alloc (.cells #[.int .i64 p.gate, .int .i64 p.need, .int .i64 p.most, .int .i64 p.pull] 36)).alloc (.cells #[.int .i64 id, .int .i64 addr, .int .i64 g0, .int .i64 g1, .int .i64 g2, .slice aL nL cL, .slice aH nH cH, .int .i64 hits, .int .i64 misses, .bool firm] 55)).alloc (.cells #[.int .i64 yr, .int .i64 yc, .int .i64 ya] 63)).alloc (.cells #[.int .i64 0, .int .i64 0, .int .i64 0, .int .i64 0, .int .i64 0, .slice none 0 0, .slice none 0 0, .int .i64 0, .int .i64 0, .bool false] 55)) from by
  have h := K.out
  simp only [World.size_alloc] at h
  rw [← hb3, ← hb2, ← hb1, ← hb0] at h
  exact ⟨⟨h.B, fun x hx => h.H x (by
   rcases List.mem_cons.1 hx with e | hx
   ·subst e; exact List.mem_cons_of_mem _ List.mem_cons_self
   ·cases List.mem_singleton.1 hx; exact List.mem_cons_of_mem _ (List.mem_cons_of_mem _ (List.mem_cons_of_mem _ List.mem_cons_self)))⟩, h.H _ (List.mem_cons_of_mem _ (List.mem_cons_of_mem _ List.mem_cons_self)), h.H _ List.mem_cons_self, (fun x hx => by
   rcases List.mem_cons.1 hx with e | hx
   ·subst e; dsimp only; omega
   cases List.mem_singleton.1 hx; dsimp only; omega), by omega, by omega, by omega⟩)
 rw [← hb3, ← hb2, ← hb1, ← hb0]
 clear K hb0 hb1 hb2 hb3
 generalize ((((w.alloc (.cells #[.int .i64 p.gate, .int .i64 p.need, .int .i64 p.most, .int .i64 p.pull] 36)).alloc (.cells #[.int .i64 id, .int .i64 addr, .int .i64 g0, .int .i64 g1, .int .i64 g2, .slice aL nL cL, .slice aH nH cH, .int .i64 hits, .int .i64 misses, .bool firm] 55)).alloc (.cells #[.int .i64 yr, .int .i64 yc, .int .i64 ya] 63)).alloc (.cells #[.int .i64 0, .int .i64 0, .int .i64 0, .int .i64 0, .int .i64 0, .slice none 0 0, .slice none 0 0, .int .i64 0, .int .i64 0, .bool false] 55)) = wa at *
 refine (HCR.out _).mono ?_; rintro e w1 ⟨rfl, hb⟩
 replace U := qh (U.out.below hb)
 clear hb
 obtain ⟨z0, z1, z2, z3, z4, z5, z6, z7, z8, z9⟩ := cY U.out.X
 obtain ⟨f0, f1, f2, f3, f4, f5, f6, f7, f8, f9⟩ := dZ U.out.X
 have zl := aB U.out.X
 obtain ⟨y0, y1, y2⟩ := cJ (U.out.K.H _ List.mem_cons_self)
 have yl := aB (U.out.K.H _ List.mem_cons_self)
 obtain ⟨p0, p1, p2, p3⟩ := eP (U.out.K.H _ (List.mem_cons_of_mem _ List.mem_cons_self))
 have pl := aB (U.out.K.H _ (List.mem_cons_of_mem _ List.mem_cons_self))
 unfold rgV
 simp only []
 go_upto_region 2 with fail
 clear z0 z1 z2 z3 z4 z5 z6 z7 z8 z9 f0 f1 f2 f3 f4 f5 f6 f7 f8 f9 zl y0 y1 y2 yl p0 p1 p2 p3 pl
 replace U := qh (U.out.put 2 (.int .i64 q0))
 replace U := qh (U.out.put 3 (.int .i64 q1))
 replace U := qh (U.out.put 4 (.int .i64 q2))
 have U2 : Uk w [(b2, .cells #[.int .i64 yr, .int .i64 yc, .int .i64 ya] 63 (0, 0)), (b0, .cells #[.int .i64 p.gate, .int .i64 p.need, .int .i64 p.most, .int .i64 p.pull] 36 (0, 0))] b1 b3 #[.int .i64 id, .int .i64 addr, .int .i64 q0, .int .i64 q1, .int .i64 q2, .slice aL nL cL, .slice aH nH cH, .int .i64 hits, .int .i64 misses, .bool firm] #[.int .i64 0, .int .i64 0, .int .i64 0, .int .i64 0, .int .i64 0, .slice none 0 0, .slice none 0 0, .int .i64 0, .int .i64 0, .bool false] (((w1.setCell ⟨b1, 2, none⟩ (.int .i64 q0)).setCell ⟨b1, 3, none⟩ (.int .i64 q1)).setCell ⟨b1, 4, none⟩ (.int .i64 q2)) := U.out
 clear U
 have U := qh U2
 clear U2
 generalize (((w1.setCell ⟨b1, 2, none⟩ (.int .i64 q0)).setCell ⟨b1, 3, none⟩ (.int .i64 q1)).setCell ⟨b1, 4, none⟩ (.int .i64 q2)) = w2 at *
 obtain ⟨z0, z1, z2, z3, z4, z5, z6, z7, z8, z9⟩ := cY U.out.X
 obtain ⟨f0, f1, f2, f3, f4, f5, f6, f7, f8, f9⟩ := dZ U.out.X
 have zl := aB U.out.X
 obtain ⟨y0, y1, y2⟩ := cJ (U.out.K.H _ List.mem_cons_self)
 have yl := aB (U.out.K.H _ List.mem_cons_self)
 obtain ⟨p0, p1, p2, p3⟩ := eP (U.out.K.H _ (List.mem_cons_of_mem _ List.mem_cons_self))
 have pl := aB (U.out.K.H _ (List.mem_cons_of_mem _ List.mem_cons_self))
 go_wp2_with fail
 clear z0 z1 z2 z3 z4 z5 z6 z7 z8 z9 f0 f1 f2 f3 f4 f5 f6 f7 f8 f9 zl y0 y1 y2 yl p0 p1 p2 p3 pl
 refine (bF ⟨id, addr, ⟨g0, g1, g2⟩, lo, hi, hits, misses, firm⟩ ⟨aL, nL, cL, aH, nH, cH⟩ ⟨yr, yc, ya⟩ w2 HY.out HCh.out (HI.out.below U.out.K.B)).mono ?_; rintro e w3 ⟨⟨a1, n1, c1, a2, n2, c2⟩, rfl, hb, -, hX⟩
 have HX := qh hX
 have HO := qh (Outs.refl [some b1, some b3] w3)
 have HW2 := qh (And.intro U.out.K.B (And.intro (aB U.out.X) (aB U.out.R)))
 replace U := qh (U.out.below hb)
 clear hb hX
 obtain ⟨z0, z1, z2, z3, z4, z5, z6, z7, z8, z9⟩ := cY U.out.X
 obtain ⟨f0, f1, f2, f3, f4, f5, f6, f7, f8, f9⟩ := dZ U.out.X
 have zl := aB U.out.X
 obtain ⟨y0, y1, y2⟩ := cJ (U.out.K.H _ List.mem_cons_self)
 have yl := aB (U.out.K.H _ List.mem_cons_self)
 obtain ⟨p0, p1, p2, p3⟩ := eP (U.out.K.H _ (List.mem_cons_of_mem _ List.mem_cons_self))
 have pl := aB (U.out.K.H _ (List.mem_cons_of_mem _ List.mem_cons_self))
 unfold bdV'
 simp only []
 go_upto_region 3 with fail
 clear z0 z1 z2 z3 z4 z5 z6 z7 z8 z9 f0 f1 f2 f3 f4 f5 f6 f7 f8 f9 zl y0 y1 y2 yl p0 p1 p2 p3 pl
 replace U := qh (U.out.put 5 (.slice a1 n1 c1))
 replace HO := qh (HO.out.trans (Outs.of_only ((Only.refl b1 w3).setCell 5 (.slice a1 n1 c1)) List.mem_cons_self))
 replace U := qh (U.out.put 6 (.slice a2 n2 c2))
 replace HO := qh (HO.out.trans (Outs.of_only ((Only.refl b1 (w3.setCell ⟨b1, 5, none⟩ (.slice a1 n1 c1))).setCell 6 (.slice a2 n2 c2)) List.mem_cons_self))
 have U2 : Uk w [(b2, .cells #[.int .i64 yr, .int .i64 yc, .int .i64 ya] 63 (0, 0)), (b0, .cells #[.int .i64 p.gate, .int .i64 p.need, .int .i64 p.most, .int .i64 p.pull] 36 (0, 0))] b1 b3 #[.int .i64 id, .int .i64 addr, .int .i64 q0, .int .i64 q1, .int .i64 q2, .slice a1 n1 c1, .slice a2 n2 c2, .int .i64 hits, .int .i64 misses, .bool firm] #[.int .i64 0, .int .i64 0, .int .i64 0, .int .i64 0, .int .i64 0, .slice none 0 0, .slice none 0 0, .int .i64 0, .int .i64 0, .bool false] ((w3.setCell ⟨b1, 5, none⟩ (.slice a1 n1 c1)).setCell ⟨b1, 6, none⟩ (.slice a2 n2 c2)) := U.out
 clear U
 have U := qh U2
 clear U2
 generalize ((w3.setCell ⟨b1, 5, none⟩ (.slice a1 n1 c1)).setCell ⟨b1, 6, none⟩ (.slice a2 n2 c2)) = w4 at *
 by_cases ha : addr < 0
 ·obtain ⟨z0, z1, z2, z3, z4, z5, z6, z7, z8, z9⟩ := cY U.out.X
  obtain ⟨f0, f1, f2, f3, f4, f5, f6, f7, f8, f9⟩ := dZ U.out.X
  have zl := aB U.out.X
  obtain ⟨y0, y1, y2⟩ := cJ (U.out.K.H _ List.mem_cons_self)
  have yl := aB (U.out.K.H _ List.mem_cons_self)
  obtain ⟨p0, p1, p2, p3⟩ := eP (U.out.K.H _ (List.mem_cons_of_mem _ List.mem_cons_self))
  have pl := aB (U.out.K.H _ (List.mem_cons_of_mem _ List.mem_cons_self))
  go_upto_region 5 with fail
  clear z0 z1 z2 z3 z4 z5 z6 z7 z8 z9 f0 f1 f2 f3 f4 f5 f6 f7 f8 f9 zl y0 y1 y2 yl p0 p1 p2 p3 pl
  replace U := qh (U.out.put 1 (.int .i64 ya))
  replace HO := qh (HO.out.trans (Outs.of_only ((Only.refl b1 w4).setCell 1 (.int .i64 ya)) List.mem_cons_self))
  have U2 : Uk w [(b2, .cells #[.int .i64 yr, .int .i64 yc, .int .i64 ya] 63 (0, 0)), (b0, .cells #[.int .i64 p.gate, .int .i64 p.need, .int .i64 p.most, .int .i64 p.pull] 36 (0, 0))] b1 b3 #[.int .i64 id, .int .i64 ya, .int .i64 q0, .int .i64 q1, .int .i64 q2, .slice a1 n1 c1, .slice a2 n2 c2, .int .i64 hits, .int .i64 misses, .bool firm] #[.int .i64 0, .int .i64 0, .int .i64 0, .int .i64 0, .int .i64 0, .slice none 0 0, .slice none 0 0, .int .i64 0, .int .i64 0, .bool false] (w4.setCell ⟨b1, 1, none⟩ (.int .i64 ya)) := U.out
  clear U
  have U := qh U2
  clear U2
  generalize (w4.setCell ⟨b1, 1, none⟩ (.int .i64 ya)) = w5 at *
  by_cases hs : 1073741824 < hits + 1
  ·obtain rfl := hmn.1 (by omega)
   clear hmn
   obtain ⟨z0, z1, z2, z3, z4, z5, z6, z7, z8, z9⟩ := cY U.out.X
   obtain ⟨f0, f1, f2, f3, f4, f5, f6, f7, f8, f9⟩ := dZ U.out.X
   have zl := aB U.out.X
   obtain ⟨y0, y1, y2⟩ := cJ (U.out.K.H _ List.mem_cons_self)
   have yl := aB (U.out.K.H _ List.mem_cons_self)
   obtain ⟨p0, p1, p2, p3⟩ := eP (U.out.K.H _ (List.mem_cons_of_mem _ List.mem_cons_self))
   have pl := aB (U.out.K.H _ (List.mem_cons_of_mem _ List.mem_cons_self))
   go_upto_region 8 with fail
   clear z0 z1 z2 z3 z4 z5 z6 z7 z8 z9 f0 f1 f2 f3 f4 f5 f6 f7 f8 f9 zl y0 y1 y2 yl p0 p1 p2 p3 pl
   replace U := qh (U.out.put 7 (.int .i64 1073741824))
   replace HO := qh (HO.out.trans (Outs.of_only ((Only.refl b1 w5).setCell 7 (.int .i64 1073741824)) List.mem_cons_self))
   replace U := qh (U.out.put 8 (.int .i64 0))
   replace HO := qh (HO.out.trans (Outs.of_only ((Only.refl b1 (w5.setCell ⟨b1, 7, none⟩ (.int .i64 1073741824))).setCell 8 (.int .i64 0)) List.mem_cons_self))
   replace U := qh (U.out.put 9 (.bool (decide (p.need ≤ 1073741824))))
   replace HO := qh (HO.out.trans (Outs.of_only ((Only.refl b1 ((w5.setCell ⟨b1, 7, none⟩ (.int .i64 1073741824)).setCell ⟨b1, 8, none⟩ (.int .i64 0))).setCell 9 (.bool (decide (p.need ≤ 1073741824)))) List.mem_cons_self))
   have U2 : Uk w [(b2, .cells #[.int .i64 yr, .int .i64 yc, .int .i64 ya] 63 (0, 0)), (b0, .cells #[.int .i64 p.gate, .int .i64 p.need, .int .i64 p.most, .int .i64 p.pull] 36 (0, 0))] b1 b3 #[.int .i64 id, .int .i64 ya, .int .i64 q0, .int .i64 q1, .int .i64 q2, .slice a1 n1 c1, .slice a2 n2 c2, .int .i64 1073741824, .int .i64 0, .bool (decide (p.need ≤ 1073741824))] #[.int .i64 0, .int .i64 0, .int .i64 0, .int .i64 0, .int .i64 0, .slice none 0 0, .slice none 0 0, .int .i64 0, .int .i64 0, .bool false] (((w5.setCell ⟨b1, 7, none⟩ (.int .i64 1073741824)).setCell ⟨b1, 8, none⟩ (.int .i64 0)).setCell ⟨b1, 9, none⟩ (.bool (decide (p.need ≤ 1073741824)))) := U.out
   clear U
   have U := qh U2
   clear U2
   generalize (((w5.setCell ⟨b1, 7, none⟩ (.int .i64 1073741824)).setCell ⟨b1, 8, none⟩ (.int .i64 0)).setCell ⟨b1, 9, none⟩ (.bool (decide (p.need ≤ 1073741824)))) = w6 at *
   obtain ⟨z0, z1, z2, z3, z4, z5, z6, z7, z8, z9⟩ := cY U.out.X
   obtain ⟨f0, f1, f2, f3, f4, f5, f6, f7, f8, f9⟩ := dZ U.out.X
   have zl := aB U.out.X
   obtain ⟨y0, y1, y2⟩ := cJ (U.out.K.H _ List.mem_cons_self)
   have yl := aB (U.out.K.H _ List.mem_cons_self)
   obtain ⟨p0, p1, p2, p3⟩ := eP (U.out.K.H _ (List.mem_cons_of_mem _ List.mem_cons_self))
   have pl := aB (U.out.K.H _ (List.mem_cons_of_mem _ List.mem_cons_self))
   obtain ⟨r0, r1, r2, r3, r4, r5, r6, r7, r8, r9⟩ := dZ U.out.R
   obtain ⟨m0, m1, m2, m3, m4, m5, m6, m7, m8, m9⟩ := cY U.out.R
   have rl := aB U.out.R
   go_wp2_with fail
   have KS := fU U.out.R rfl (.int .i64 id) (.int .i64 ya) (.int .i64 q0) (.int .i64 q1) (.int .i64 q2) (.slice a1 n1 c1) (.slice a2 n2 c2) (.int .i64 1073741824) (.int .i64 0) (.bool (decide (p.need ≤ 1073741824)))
   obtain ⟨s0, s1, s2, s3, s4, s5, s6, s7, s8, s9⟩ := cY KS.2
   have hfm : (firm || decide (p.need ≤ hit1 ⟨id, addr, ⟨g0, g1, g2⟩, lo, hi, hits, misses, firm⟩)) = decide (p.need ≤ hit1 ⟨id, addr, ⟨g0, g1, g2⟩, lo, hi, hits, misses, firm⟩) := HFm.out
   have hU := lS (p := p) (t := ⟨id, addr, ⟨g0, g1, g2⟩, lo, hi, hits, misses, firm⟩) (y := ⟨yr, yc, ya⟩) (l := lvOf ⟨yr, yc, ya⟩) HQ.out HHH.out hfm (if_pos (by dsimp only; omega))
   refine bodyPost_ret (v := .agg #[.int .i64 id, .int .i64 ya, .int .i64 q0, .int .i64 q1, .int .i64 q2, .slice a1 n1 c1, .slice a2 n2 c2, .int .i64 1073741824, .int .i64 0, .bool (decide (p.need ≤ 1073741824))]) ?_ rfl ?_
   ·simp [results, Tryz.f35, go_sem, s0, s1, s2, s3, s4, s5, s6, s7, s8, s9]
   rw [hU]
   have hB := U.out.K.B.trans (KS.1.below U.out.hr U.out.K.B.size)
   refine ⟨⟨a1, n1, c1, a2, n2, c2⟩, rfl, hB, fun B X hB2 hX hq => ?_⟩
   have hx1 := U.out.hx
   have hx3 := U.out.hr
   have q1 := hq.next (Y := some b1 :: some b3 :: X) (Outs.of_below HW2.out.1) (fun g hg => by
    rcases List.mem_cons.1 hg with e | hg
    ·cases e; exact Or.inr hx1
    rcases List.mem_cons.1 hg with e | hg
    ·cases e; exact Or.inr hx3
    exact Or.inl hg)
   have q2 := HX.out B (some b1 :: some b3 :: X) (Nat.le_trans hB2 HW2.out.1.size) (fun g hg => by
    rcases List.mem_cons.1 hg with e | hg
    ·cases e; exact HW2.out.2.1
    rcases List.mem_cons.1 hg with e | hg
    ·cases e; exact HW2.out.2.2
    exact Nat.lt_of_lt_of_le (hX g hg) HW2.out.1.size) q1
   have hO := (HO.out.trans (Outs.of_only KS.1 (List.mem_cons_of_mem _ List.mem_cons_self))).mono (Y := some b1 :: some b3 :: X) (fun z hz => by
    rcases List.mem_cons.1 hz with e | hz
    ·rw [e]; exact List.mem_cons_self
    rw [List.mem_singleton.1 hz]; exact List.mem_cons_of_mem _ List.mem_cons_self)
   exact nG ((q2.outs hO).turn (fun g hg => Or.inl (List.mem_cons_of_mem _ (List.mem_cons_of_mem _ hg)))) rfl rfl
  obtain rfl := hmn.2 (by omega)
  clear hmn
  obtain ⟨z0, z1, z2, z3, z4, z5, z6, z7, z8, z9⟩ := cY U.out.X
  obtain ⟨f0, f1, f2, f3, f4, f5, f6, f7, f8, f9⟩ := dZ U.out.X
  have zl := aB U.out.X
  obtain ⟨y0, y1, y2⟩ := cJ (U.out.K.H _ List.mem_cons_self)
  have yl := aB (U.out.K.H _ List.mem_cons_self)
  obtain ⟨p0, p1, p2, p3⟩ := eP (U.out.K.H _ (List.mem_cons_of_mem _ List.mem_cons_self))
  have pl := aB (U.out.K.H _ (List.mem_cons_of_mem _ List.mem_cons_self))
  go_upto_region 8 with fail
  clear z0 z1 z2 z3 z4 z5 z6 z7 z8 z9 f0 f1 f2 f3 f4 f5 f6 f7 f8 f9 zl y0 y1 y2 yl p0 p1 p2 p3 pl
  replace U := qh (U.out.put 7 (.int .i64 (hits + 1)))
  replace HO := qh (HO.out.trans (Outs.of_only ((Only.refl b1 w5).setCell 7 (.int .i64 (hits + 1))) List.mem_cons_self))
  replace U := qh (U.out.put 8 (.int .i64 0))
  replace HO := qh (HO.out.trans (Outs.of_only ((Only.refl b1 (w5.setCell ⟨b1, 7, none⟩ (.int .i64 (hits + 1)))).setCell 8 (.int .i64 0)) List.mem_cons_self))
  replace U := qh (U.out.put 9 (.bool (decide (p.need ≤ hits + 1))))
  replace HO := qh (HO.out.trans (Outs.of_only ((Only.refl b1 ((w5.setCell ⟨b1, 7, none⟩ (.int .i64 (hits + 1))).setCell ⟨b1, 8, none⟩ (.int .i64 0))).setCell 9 (.bool (decide (p.need ≤ hits + 1)))) List.mem_cons_self))
  have U2 : Uk w [(b2, .cells #[.int .i64 yr, .int .i64 yc, .int .i64 ya] 63 (0, 0)), (b0, .cells #[.int .i64 p.gate, .int .i64 p.need, .int .i64 p.most, .int .i64 p.pull] 36 (0, 0))] b1 b3 #[.int .i64 id, .int .i64 ya, .int .i64 q0, .int .i64 q1, .int .i64 q2, .slice a1 n1 c1, .slice a2 n2 c2, .int .i64 (hits + 1), .int .i64 0, .bool (decide (p.need ≤ hits + 1))] #[.int .i64 0, .int .i64 0, .int .i64 0, .int .i64 0, .int .i64 0, .slice none 0 0, .slice none 0 0, .int .i64 0, .int .i64 0, .bool false] (((w5.setCell ⟨b1, 7, none⟩ (.int .i64 (hits + 1))).setCell ⟨b1, 8, none⟩ (.int .i64 0)).setCell ⟨b1, 9, none⟩ (.bool (decide (p.need ≤ hits + 1)))) := U.out
  clear U
  have U := qh U2
  clear U2
  generalize (((w5.setCell ⟨b1, 7, none⟩ (.int .i64 (hits + 1))).setCell ⟨b1, 8, none⟩ (.int .i64 0)).setCell ⟨b1, 9, none⟩ (.bool (decide (p.need ≤ hits + 1)))) = w6 at *
  obtain ⟨z0, z1, z2, z3, z4, z5, z6, z7, z8, z9⟩ := cY U.out.X
  obtain ⟨f0, f1, f2, f3, f4, f5, f6, f7, f8, f9⟩ := dZ U.out.X
  have zl := aB U.out.X
  obtain ⟨y0, y1, y2⟩ := cJ (U.out.K.H _ List.mem_cons_self)
  have yl := aB (U.out.K.H _ List.mem_cons_self)
  obtain ⟨p0, p1, p2, p3⟩ := eP (U.out.K.H _ (List.mem_cons_of_mem _ List.mem_cons_self))
  have pl := aB (U.out.K.H _ (List.mem_cons_of_mem _ List.mem_cons_self))
  obtain ⟨r0, r1, r2, r3, r4, r5, r6, r7, r8, r9⟩ := dZ U.out.R
  obtain ⟨m0, m1, m2, m3, m4, m5, m6, m7, m8, m9⟩ := cY U.out.R
  have rl := aB U.out.R
  go_wp2_with fail
  have KS := fU U.out.R rfl (.int .i64 id) (.int .i64 ya) (.int .i64 q0) (.int .i64 q1) (.int .i64 q2) (.slice a1 n1 c1) (.slice a2 n2 c2) (.int .i64 (hits + 1)) (.int .i64 0) (.bool (decide (p.need ≤ hits + 1)))
  obtain ⟨s0, s1, s2, s3, s4, s5, s6, s7, s8, s9⟩ := cY KS.2
  have hfm : (firm || decide (p.need ≤ hit1 ⟨id, addr, ⟨g0, g1, g2⟩, lo, hi, hits, misses, firm⟩)) = decide (p.need ≤ hit1 ⟨id, addr, ⟨g0, g1, g2⟩, lo, hi, hits, misses, firm⟩) := HFm.out
  have hU := lS (p := p) (t := ⟨id, addr, ⟨g0, g1, g2⟩, lo, hi, hits, misses, firm⟩) (y := ⟨yr, yc, ya⟩) (l := lvOf ⟨yr, yc, ya⟩) HQ.out HHH.out hfm (if_pos (by dsimp only; omega))
  refine bodyPost_ret (v := .agg #[.int .i64 id, .int .i64 ya, .int .i64 q0, .int .i64 q1, .int .i64 q2, .slice a1 n1 c1, .slice a2 n2 c2, .int .i64 (hits + 1), .int .i64 0, .bool (decide (p.need ≤ hits + 1))]) ?_ rfl ?_
  ·simp [results, Tryz.f35, go_sem, s0, s1, s2, s3, s4, s5, s6, s7, s8, s9]
  rw [hU]
  have hB := U.out.K.B.trans (KS.1.below U.out.hr U.out.K.B.size)
  refine ⟨⟨a1, n1, c1, a2, n2, c2⟩, rfl, hB, fun B X hB2 hX hq => ?_⟩
  have hx1 := U.out.hx
  have hx3 := U.out.hr
  have q1 := hq.next (Y := some b1 :: some b3 :: X) (Outs.of_below HW2.out.1) (fun g hg => by
   rcases List.mem_cons.1 hg with e | hg
   ·cases e; exact Or.inr hx1
   rcases List.mem_cons.1 hg with e | hg
   ·cases e; exact Or.inr hx3
   exact Or.inl hg)
  have q2 := HX.out B (some b1 :: some b3 :: X) (Nat.le_trans hB2 HW2.out.1.size) (fun g hg => by
   rcases List.mem_cons.1 hg with e | hg
   ·cases e; exact HW2.out.2.1
   rcases List.mem_cons.1 hg with e | hg
   ·cases e; exact HW2.out.2.2
   exact Nat.lt_of_lt_of_le (hX g hg) HW2.out.1.size) q1
  have hO := (HO.out.trans (Outs.of_only KS.1 (List.mem_cons_of_mem _ List.mem_cons_self))).mono (Y := some b1 :: some b3 :: X) (fun z hz => by
   rcases List.mem_cons.1 hz with e | hz
   ·rw [e]; exact List.mem_cons_self
   rw [List.mem_singleton.1 hz]; exact List.mem_cons_of_mem _ List.mem_cons_self)
  exact nG ((q2.outs hO).turn (fun g hg => Or.inl (List.mem_cons_of_mem _ (List.mem_cons_of_mem _ hg)))) rfl rfl
 obtain ⟨z0, z1, z2, z3, z4, z5, z6, z7, z8, z9⟩ := cY U.out.X
 obtain ⟨f0, f1, f2, f3, f4, f5, f6, f7, f8, f9⟩ := dZ U.out.X
 have zl := aB U.out.X
 obtain ⟨y0, y1, y2⟩ := cJ (U.out.K.H _ List.mem_cons_self)
 have yl := aB (U.out.K.H _ List.mem_cons_self)
 obtain ⟨p0, p1, p2, p3⟩ := eP (U.out.K.H _ (List.mem_cons_of_mem _ List.mem_cons_self))
 have pl := aB (U.out.K.H _ (List.mem_cons_of_mem _ List.mem_cons_self))
 go_upto_region 5 with fail
 clear z0 z1 z2 z3 z4 z5 z6 z7 z8 z9 f0 f1 f2 f3 f4 f5 f6 f7 f8 f9 zl y0 y1 y2 yl p0 p1 p2 p3 pl
 by_cases hs : 1073741824 < hits + 1
 ·obtain rfl := hmn.1 (by omega)
  clear hmn
  obtain ⟨z0, z1, z2, z3, z4, z5, z6, z7, z8, z9⟩ := cY U.out.X
  obtain ⟨f0, f1, f2, f3, f4, f5, f6, f7, f8, f9⟩ := dZ U.out.X
  have zl := aB U.out.X
  obtain ⟨y0, y1, y2⟩ := cJ (U.out.K.H _ List.mem_cons_self)
  have yl := aB (U.out.K.H _ List.mem_cons_self)
  obtain ⟨p0, p1, p2, p3⟩ := eP (U.out.K.H _ (List.mem_cons_of_mem _ List.mem_cons_self))
  have pl := aB (U.out.K.H _ (List.mem_cons_of_mem _ List.mem_cons_self))
  go_upto_region 8 with fail
  clear z0 z1 z2 z3 z4 z5 z6 z7 z8 z9 f0 f1 f2 f3 f4 f5 f6 f7 f8 f9 zl y0 y1 y2 yl p0 p1 p2 p3 pl
  replace U := qh (U.out.put 7 (.int .i64 1073741824))
  replace HO := qh (HO.out.trans (Outs.of_only ((Only.refl b1 w4).setCell 7 (.int .i64 1073741824)) List.mem_cons_self))
  replace U := qh (U.out.put 8 (.int .i64 0))
  replace HO := qh (HO.out.trans (Outs.of_only ((Only.refl b1 (w4.setCell ⟨b1, 7, none⟩ (.int .i64 1073741824))).setCell 8 (.int .i64 0)) List.mem_cons_self))
  replace U := qh (U.out.put 9 (.bool (decide (p.need ≤ 1073741824))))
  replace HO := qh (HO.out.trans (Outs.of_only ((Only.refl b1 ((w4.setCell ⟨b1, 7, none⟩ (.int .i64 1073741824)).setCell ⟨b1, 8, none⟩ (.int .i64 0))).setCell 9 (.bool (decide (p.need ≤ 1073741824)))) List.mem_cons_self))
  have U2 : Uk w [(b2, .cells #[.int .i64 yr, .int .i64 yc, .int .i64 ya] 63 (0, 0)), (b0, .cells #[.int .i64 p.gate, .int .i64 p.need, .int .i64 p.most, .int .i64 p.pull] 36 (0, 0))] b1 b3 #[.int .i64 id, .int .i64 addr, .int .i64 q0, .int .i64 q1, .int .i64 q2, .slice a1 n1 c1, .slice a2 n2 c2, .int .i64 1073741824, .int .i64 0, .bool (decide (p.need ≤ 1073741824))] #[.int .i64 0, .int .i64 0, .int .i64 0, .int .i64 0, .int .i64 0, .slice none 0 0, .slice none 0 0, .int .i64 0, .int .i64 0, .bool false] (((w4.setCell ⟨b1, 7, none⟩ (.int .i64 1073741824)).setCell ⟨b1, 8, none⟩ (.int .i64 0)).setCell ⟨b1, 9, none⟩ (.bool (decide (p.need ≤ 1073741824)))) := U.out
  clear U
  have U := qh U2
  clear U2
  generalize (((w4.setCell ⟨b1, 7, none⟩ (.int .i64 1073741824)).setCell ⟨b1, 8, none⟩ (.int .i64 0)).setCell ⟨b1, 9, none⟩ (.bool (decide (p.need ≤ 1073741824)))) = w6 at *
  obtain ⟨z0, z1, z2, z3, z4, z5, z6, z7, z8, z9⟩ := cY U.out.X
  obtain ⟨f0, f1, f2, f3, f4, f5, f6, f7, f8, f9⟩ := dZ U.out.X
  have zl := aB U.out.X
  obtain ⟨y0, y1, y2⟩ := cJ (U.out.K.H _ List.mem_cons_self)
  have yl := aB (U.out.K.H _ List.mem_cons_self)
  obtain ⟨p0, p1, p2, p3⟩ := eP (U.out.K.H _ (List.mem_cons_of_mem _ List.mem_cons_self))
  have pl := aB (U.out.K.H _ (List.mem_cons_of_mem _ List.mem_cons_self))
  obtain ⟨r0, r1, r2, r3, r4, r5, r6, r7, r8, r9⟩ := dZ U.out.R
  obtain ⟨m0, m1, m2, m3, m4, m5, m6, m7, m8, m9⟩ := cY U.out.R
  have rl := aB U.out.R
  go_wp2_with fail
  have KS := fU U.out.R rfl (.int .i64 id) (.int .i64 addr) (.int .i64 q0) (.int .i64 q1) (.int .i64 q2) (.slice a1 n1 c1) (.slice a2 n2 c2) (.int .i64 1073741824) (.int .i64 0) (.bool (decide (p.need ≤ 1073741824)))
  obtain ⟨s0, s1, s2, s3, s4, s5, s6, s7, s8, s9⟩ := cY KS.2
  have hfm : (firm || decide (p.need ≤ hit1 ⟨id, addr, ⟨g0, g1, g2⟩, lo, hi, hits, misses, firm⟩)) = decide (p.need ≤ hit1 ⟨id, addr, ⟨g0, g1, g2⟩, lo, hi, hits, misses, firm⟩) := HFm.out
  have hU := lS (p := p) (t := ⟨id, addr, ⟨g0, g1, g2⟩, lo, hi, hits, misses, firm⟩) (y := ⟨yr, yc, ya⟩) (l := lvOf ⟨yr, yc, ya⟩) HQ.out HHH.out hfm (if_neg (by dsimp only; omega))
  refine bodyPost_ret (v := .agg #[.int .i64 id, .int .i64 addr, .int .i64 q0, .int .i64 q1, .int .i64 q2, .slice a1 n1 c1, .slice a2 n2 c2, .int .i64 1073741824, .int .i64 0, .bool (decide (p.need ≤ 1073741824))]) ?_ rfl ?_
  ·simp [results, Tryz.f35, go_sem, s0, s1, s2, s3, s4, s5, s6, s7, s8, s9]
  rw [hU]
  have hB := U.out.K.B.trans (KS.1.below U.out.hr U.out.K.B.size)
  refine ⟨⟨a1, n1, c1, a2, n2, c2⟩, rfl, hB, fun B X hB2 hX hq => ?_⟩
  have hx1 := U.out.hx
  have hx3 := U.out.hr
  have q1 := hq.next (Y := some b1 :: some b3 :: X) (Outs.of_below HW2.out.1) (fun g hg => by
   rcases List.mem_cons.1 hg with e | hg
   ·cases e; exact Or.inr hx1
   rcases List.mem_cons.1 hg with e | hg
   ·cases e; exact Or.inr hx3
   exact Or.inl hg)
  have q2 := HX.out B (some b1 :: some b3 :: X) (Nat.le_trans hB2 HW2.out.1.size) (fun g hg => by
   rcases List.mem_cons.1 hg with e | hg
   ·cases e; exact HW2.out.2.1
   rcases List.mem_cons.1 hg with e | hg
   ·cases e; exact HW2.out.2.2
   exact Nat.lt_of_lt_of_le (hX g hg) HW2.out.1.size) q1
  have hO := (HO.out.trans (Outs.of_only KS.1 (List.mem_cons_of_mem _ List.mem_cons_self))).mono (Y := some b1 :: some b3 :: X) (fun z hz => by
   rcases List.mem_cons.1 hz with e | hz
   ·rw [e]; exact List.mem_cons_self
   rw [List.mem_singleton.1 hz]; exact List.mem_cons_of_mem _ List.mem_cons_self)
  exact nG ((q2.outs hO).turn (fun g hg => Or.inl (List.mem_cons_of_mem _ (List.mem_cons_of_mem _ hg)))) rfl rfl
 obtain rfl := hmn.2 (by omega)
 clear hmn
 obtain ⟨z0, z1, z2, z3, z4, z5, z6, z7, z8, z9⟩ := cY U.out.X
 obtain ⟨f0, f1, f2, f3, f4, f5, f6, f7, f8, f9⟩ := dZ U.out.X
 have zl := aB U.out.X
 obtain ⟨y0, y1, y2⟩ := cJ (U.out.K.H _ List.mem_cons_self)
 have yl := aB (U.out.K.H _ List.mem_cons_self)
 obtain ⟨p0, p1, p2, p3⟩ := eP (U.out.K.H _ (List.mem_cons_of_mem _ List.mem_cons_self))
 have pl := aB (U.out.K.H _ (List.mem_cons_of_mem _ List.mem_cons_self))
 go_upto_region 8 with fail
 clear z0 z1 z2 z3 z4 z5 z6 z7 z8 z9 f0 f1 f2 f3 f4 f5 f6 f7 f8 f9 zl y0 y1 y2 yl p0 p1 p2 p3 pl
 replace U := qh (U.out.put 7 (.int .i64 (hits + 1)))
 replace HO := qh (HO.out.trans (Outs.of_only ((Only.refl b1 w4).setCell 7 (.int .i64 (hits + 1))) List.mem_cons_self))
 replace U := qh (U.out.put 8 (.int .i64 0))
 replace HO := qh (HO.out.trans (Outs.of_only ((Only.refl b1 (w4.setCell ⟨b1, 7, none⟩ (.int .i64 (hits + 1)))).setCell 8 (.int .i64 0)) List.mem_cons_self))
 replace U := qh (U.out.put 9 (.bool (decide (p.need ≤ hits + 1))))
 replace HO := qh (HO.out.trans (Outs.of_only ((Only.refl b1 ((w4.setCell ⟨b1, 7, none⟩ (.int .i64 (hits + 1))).setCell ⟨b1, 8, none⟩ (.int .i64 0))).setCell 9 (.bool (decide (p.need ≤ hits + 1)))) List.mem_cons_self))
 have U2 : Uk w [(b2, .cells #[.int .i64 yr, .int .i64 yc, .int .i64 ya] 63 (0, 0)), (b0, .cells #[.int .i64 p.gate, .int .i64 p.need, .int .i64 p.most, .int .i64 p.pull] 36 (0, 0))] b1 b3 #[.int .i64 id, .int .i64 addr, .int .i64 q0, .int .i64 q1, .int .i64 q2, .slice a1 n1 c1, .slice a2 n2 c2, .int .i64 (hits + 1), .int .i64 0, .bool (decide (p.need ≤ hits + 1))] #[.int .i64 0, .int .i64 0, .int .i64 0, .int .i64 0, .int .i64 0, .slice none 0 0, .slice none 0 0, .int .i64 0, .int .i64 0, .bool false] (((w4.setCell ⟨b1, 7, none⟩ (.int .i64 (hits + 1))).setCell ⟨b1, 8, none⟩ (.int .i64 0)).setCell ⟨b1, 9, none⟩ (.bool (decide (p.need ≤ hits + 1)))) := U.out
 clear U
 have U := qh U2
 clear U2
 generalize (((w4.setCell ⟨b1, 7, none⟩ (.int .i64 (hits + 1))).setCell ⟨b1, 8, none⟩ (.int .i64 0)).setCell ⟨b1, 9, none⟩ (.bool (decide (p.need ≤ hits + 1)))) = w6 at *
 obtain ⟨z0, z1, z2, z3, z4, z5, z6, z7, z8, z9⟩ := cY U.out.X
 obtain ⟨f0, f1, f2, f3, f4, f5, f6, f7, f8, f9⟩ := dZ U.out.X
 have zl := aB U.out.X
 obtain ⟨y0, y1, y2⟩ := cJ (U.out.K.H _ List.mem_cons_self)
 have yl := aB (U.out.K.H _ List.mem_cons_self)
 obtain ⟨p0, p1, p2, p3⟩ := eP (U.out.K.H _ (List.mem_cons_of_mem _ List.mem_cons_self))
 have pl := aB (U.out.K.H _ (List.mem_cons_of_mem _ List.mem_cons_self))
 obtain ⟨r0, r1, r2, r3, r4, r5, r6, r7, r8, r9⟩ := dZ U.out.R
 obtain ⟨m0, m1, m2, m3, m4, m5, m6, m7, m8, m9⟩ := cY U.out.R
 have rl := aB U.out.R
 go_wp2_with fail
 have KS := fU U.out.R rfl (.int .i64 id) (.int .i64 addr) (.int .i64 q0) (.int .i64 q1) (.int .i64 q2) (.slice a1 n1 c1) (.slice a2 n2 c2) (.int .i64 (hits + 1)) (.int .i64 0) (.bool (decide (p.need ≤ hits + 1)))
 obtain ⟨s0, s1, s2, s3, s4, s5, s6, s7, s8, s9⟩ := cY KS.2
 have hfm : (firm || decide (p.need ≤ hit1 ⟨id, addr, ⟨g0, g1, g2⟩, lo, hi, hits, misses, firm⟩)) = decide (p.need ≤ hit1 ⟨id, addr, ⟨g0, g1, g2⟩, lo, hi, hits, misses, firm⟩) := HFm.out
 have hU := lS (p := p) (t := ⟨id, addr, ⟨g0, g1, g2⟩, lo, hi, hits, misses, firm⟩) (y := ⟨yr, yc, ya⟩) (l := lvOf ⟨yr, yc, ya⟩) HQ.out HHH.out hfm (if_neg (by dsimp only; omega))
 refine bodyPost_ret (v := .agg #[.int .i64 id, .int .i64 addr, .int .i64 q0, .int .i64 q1, .int .i64 q2, .slice a1 n1 c1, .slice a2 n2 c2, .int .i64 (hits + 1), .int .i64 0, .bool (decide (p.need ≤ hits + 1))]) ?_ rfl ?_
 ·simp [results, Tryz.f35, go_sem, s0, s1, s2, s3, s4, s5, s6, s7, s8, s9]
 rw [hU]
 have hB := U.out.K.B.trans (KS.1.below U.out.hr U.out.K.B.size)
 refine ⟨⟨a1, n1, c1, a2, n2, c2⟩, rfl, hB, fun B X hB2 hX hq => ?_⟩
 have hx1 := U.out.hx
 have hx3 := U.out.hr
 have q1 := hq.next (Y := some b1 :: some b3 :: X) (Outs.of_below HW2.out.1) (fun g hg => by
  rcases List.mem_cons.1 hg with e | hg
  ·cases e; exact Or.inr hx1
  rcases List.mem_cons.1 hg with e | hg
  ·cases e; exact Or.inr hx3
  exact Or.inl hg)
 have q2 := HX.out B (some b1 :: some b3 :: X) (Nat.le_trans hB2 HW2.out.1.size) (fun g hg => by
  rcases List.mem_cons.1 hg with e | hg
  ·cases e; exact HW2.out.2.1
  rcases List.mem_cons.1 hg with e | hg
  ·cases e; exact HW2.out.2.2
  exact Nat.lt_of_lt_of_le (hX g hg) HW2.out.1.size) q1
 have hO := (HO.out.trans (Outs.of_only KS.1 (List.mem_cons_of_mem _ List.mem_cons_self))).mono (Y := some b1 :: some b3 :: X) (fun z hz => by
  rcases List.mem_cons.1 hz with e | hz
  ·rw [e]; exact List.mem_cons_self
  rw [List.mem_singleton.1 hz]; exact List.mem_cons_of_mem _ List.mem_cons_self)
 exact nG ((q2.outs hO).turn (fun g hg => Or.inl (List.mem_cons_of_mem _ (List.mem_cons_of_mem _ hg)))) rfl rfl
end Go.Proofs.YtikjjpjekchcjaaGreat
