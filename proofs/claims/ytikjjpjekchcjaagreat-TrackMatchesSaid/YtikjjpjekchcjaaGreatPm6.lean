/-
  PtAltE
-/
import Derived.Test.YtikjjpjekchcjaaGreatPm4
import Derived.Test.YtikjjpjekchcjaaGreatPm5
set_option linter.all false
set_option maxRecDepth 100000
set_option maxHeartbeats 64000000
namespace Go.Proofs.YtikjjpjekchcjaaGreat.Alt
open Go.RowKit AltMath MyHeap MyCopy MyOwn
theorem iK {E E' : Int} {lo hi : List Int} {w w' : World} (hE : E' = E) (h0 : E ≠ 0) (hB : Below w.heap.size w w') : BOPost E' lo hi w (.returned (.tuple #[.agg #[.slice none 0 0, .slice none 0 0], .int .i64 E])) w' := by
 subst hE
 exact ⟨_, _, rfl, fun e => absurd e h0, fun _ => ⟨rfl, rfl⟩, hB⟩
theorem maE_ch {lo hi : List Int} {alt size : Int} (h : chB lo hi ≠ 0) : maE lo hi alt size = chB lo hi := if_pos h
theorem nF {lo hi : List Int} {alt size : Int} (h : chB lo hi = 0) : maE lo hi alt size = meE alt size := if_neg (fun e => e h)
theorem rMea_ch (aL aH : Option Addr) (nL nH cL cH : Nat) (lo hi : List Int) (alt size : Int) (w : World) (hL : Ints w aL nL lo) (hH : Ints w aH nH hi) (hE : chB lo hi ≠ 0) :
    Calls Tryz.prog 97 #[bdV aL nL cL aH nH cH, .int .i64 alt, .int .i64 size] w (BOPost (maE lo hi alt size) (loK (maF lo hi alt size) 201) (hiK (maF lo hi alt size) 201) w) := by
 have d1 : (chB lo hi != 0) = true := bne_iff_ne.2 hE
 have HE := qh hE
 have H := qh (And.intro hL hH)
 have B := qh ((aC w (.cells (bdC aL nL cL aH nH cH) 53)).alloc (by simp) (.cells #[.slice none 0 0, .slice none 0 0] 53))
 have R := qh (aI (w.alloc (.cells (bdC aL nL cL aH nH cH) 53)) (.cells #[.slice none 0 0, .slice none 0 0] 53) (n := w.heap.size + 1) (by simp))
 clear hL hH hE
 unfold bdV
 unfold bdC at *
 go_enter Tryz.func97, Tryz.ntmps97
 go_wp2_with fail
 refine (bY aL aH nL nH cL cH lo hi _ (H.out.1.below B.out) (H.out.2.below B.out)).mono ?_; rintro e w1 ⟨rfl, hb⟩
 obtain ⟨c0, c1, f0, f1⟩ := two_facts (aN hb R.out)
 replace B := qh (B.out.trans (hb.mono B.out.size))
 replace R := qh (aN hb R.out)
 clear hb
 go_wp2_with fail
 have hx := aD (i := 1) (v := .slice none 0 0) (aD (i := 0) (v := .slice none 0 0) R.out)
 have hO : Only (w.heap.size + 1) w1 ((w1.setCell ⟨w.heap.size + 1, 0, none⟩ (.slice none 0 0)).setCell ⟨w.heap.size + 1, 1, none⟩ (.slice none 0 0)) := ((Only.refl _ _).setCell 0 _).setCell 1 _
 have r0 := aA (i := 0) (v := .slice none 0 0) hx rfl
 have r1 := aA (i := 1) (v := .slice none 0 0) hx rfl
 refine bodyPost_ret (v := .tuple #[.agg #[.slice none 0 0, .slice none 0 0], .int .i64 (chB lo hi)]) ?_ rfl (iK (maE_ch HE.out) HE.out (B.out.trans (hO.below (by omega) B.out.size)))
 simp [results, Tryz.f97, go_sem, r0, r1]
theorem rMea_me (aL aH : Option Addr) (nL nH cL cH : Nat) (lo hi : List Int) (alt size : Int) (w : World) (hL : Ints w aL nL lo) (hH : Ints w aH nH hi) (hE : chB lo hi = 0) (hM : meE alt size = 1) :
    Calls Tryz.prog 97 #[bdV aL nL cL aH nH cH, .int .i64 alt, .int .i64 size] w (BOPost (maE lo hi alt size) (loK (maF lo hi alt size) 201) (hiK (maF lo hi alt size) 201) w) := by
 have HE := qh (And.intro hE hM)
 have H := qh (And.intro hL hH)
 have B := qh ((aC w (.cells (bdC aL nL cL aH nH cH) 53)).alloc (by simp) (.cells #[.slice none 0 0, .slice none 0 0] 53))
 have R := qh (aI (w.alloc (.cells (bdC aL nL cL aH nH cH) 53)) (.cells #[.slice none 0 0, .slice none 0 0] 53) (n := w.heap.size + 1) (by simp))
 clear hL hH hE hM
 unfold bdV
 unfold bdC at *
 go_enter Tryz.func97, Tryz.ntmps97
 go_wp2_with fail
 refine (bY aL aH nL nH cL cH lo hi _ (H.out.1.below B.out) (H.out.2.below B.out)).mono ?_; rintro e w1 ⟨rfl, hb⟩
 obtain ⟨c0, c1, f0, f1⟩ := two_facts (aN hb R.out)
 replace B := qh (B.out.trans (hb.mono B.out.size))
 replace R := qh (aN hb R.out)
 rw [HE.out.1]
 clear hb
 go_wp2_with fail
 refine (gK alt size _).mono ?_; rintro e w2 ⟨rfl, rfl⟩
 rw [HE.out.2]
 go_wp2_with fail
 have hx := aD (i := 1) (v := .slice none 0 0) (aD (i := 0) (v := .slice none 0 0) R.out)
 have hO : Only (w.heap.size + 1) w1 ((w1.setCell ⟨w.heap.size + 1, 0, none⟩ (.slice none 0 0)).setCell ⟨w.heap.size + 1, 1, none⟩ (.slice none 0 0)) := ((Only.refl _ _).setCell 0 _).setCell 1 _
 have r0 := aA (i := 0) (v := .slice none 0 0) hx rfl
 have r1 := aA (i := 1) (v := .slice none 0 0) hx rfl
 refine bodyPost_ret (v := .tuple #[.agg #[.slice none 0 0, .slice none 0 0], .int .i64 1]) ?_ rfl (iK ((nF HE.out.1).trans HE.out.2) (by decide) (B.out.trans (hO.below (by omega) B.out.size)))
 simp [results, Tryz.f97, go_sem, r0, r1]
def RmK (w0 : World) (O : Nat) (aL : Option Addr) (cL : Nat) (aH : Option Addr) (cH : Nat) (f : Nat → Int × Int) (k : Nat) (W : World) : Prop := RfK w0 (w0.heap.size + 1) O f k W ∧ W.heap[w0.heap.size]? = some (.cells #[.slice aL 201 cL, .slice aH 201 cH] 53 (0, 0))
theorem qU {w0 W : World} {b1 o1 b2 o2 cL cH k : Nat} {X Y : Int} (hk : W.heap[w0.heap.size]? = some (.cells #[.slice (some ⟨b1, o1, none⟩) 201 cL, .slice (some ⟨b2, o2, none⟩) 201 cH] 53 (0, 0))) (hB : Below w0.heap.size w0 W) (x0 : w0.cell? ⟨b1, o1 + k, none⟩ = some (.int .i64 X)) (y0 : w0.cell? ⟨b2, o2 + k, none⟩ = some (.int .i64 Y)) :
    (W.cell? ⟨w0.heap.size, 0, none⟩ = some (.slice (some ⟨b1, o1, none⟩) 201 cL) ∧ W.cell? ⟨w0.heap.size, 1, none⟩ = some (.slice (some ⟨b2, o2, none⟩) 201 cH)) ∧ W.cell? ⟨b1, o1 + k, none⟩ = some (.int .i64 X) ∧ W.cell? ⟨b2, o2 + k, none⟩ = some (.int .i64 Y) :=
 ⟨⟨aA hk rfl, aA hk rfl⟩, aS hB x0, aS hB y0⟩
theorem rm_stored {w0 W : World} {O : Nat} {cs : Array Value} {T : TypeId} {x y : Value} (hO : w0.heap.size < O) (hk : W.heap[w0.heap.size]? = some (.cells cs T (0, 0))) (hB : Below w0.heap.size w0 W) :
    ((W.setCell ⟨O, 0, none⟩ x).setCell ⟨O, 1, none⟩ y).heap[w0.heap.size]? = some (.cells cs T (0, 0)) ∧ Below w0.heap.size w0 ((W.setCell ⟨O, 0, none⟩ x).setCell ⟨O, 1, none⟩ y) :=
 have h : Only O W ((W.setCell ⟨O, 0, none⟩ x).setCell ⟨O, 1, none⟩ y) := ((Only.refl _ _).setCell 0 _).setCell 1 _
 ⟨h.keeps hk (by omega), hB.trans (h.below (by omega) hB.size)⟩
theorem ma_ifs (X Y : Int) {alt size : Int} (h1 : -1000 ≤ alt) (h2 : alt ≤ 50000) (h3 : 25 ≤ size) (h4 : size ≤ 100) : (max X alt, min Y (alt + size - 1)) = (if X < alt then alt else X, if IntKind.i64.wrap (IntKind.i64.wrap (alt + size) - 1) < Y then IntKind.i64.wrap (IntKind.i64.wrap (alt + size) - 1) else Y) := by
 rw [IntWalk.i64_in (alt + size) (by omega), IntWalk.i64_in (alt + size - 1) (by omega)]
 congr 1
 ·split <;> omega
 split <;> omega
theorem nm_ma {p : Int × Int} {a b : Int} (h : p = (a, b)) : nm (a, b) = nm p := by rw [h]
theorem rMea_ok (aL aH : Option Addr) (cL cH : Nat) (lo hi : List Int) (alt size : Int) (w : World) (hL : Ints w aL 201 lo) (hH : Ints w aH 201 hi) (hE : chB lo hi = 0) (hM : meE alt size = 0) :
    Calls Tryz.prog 97 #[bdV aL 201 cL aH 201 cH, .int .i64 alt, .int .i64 size] w (BOPost (maE lo hi alt size) (loK (maF lo hi alt size) 201) (hiK (maF lo hi alt size) 201) w) := by
 obtain ⟨h1, h2, h3⟩ := qA hM
 have hs : 25 ≤ size ∧ size ≤ 100 := by omega
 obtain ⟨hs1, hs2⟩ := hs
 have HE := qh (And.intro hE hM)
 have HV := qh (chB_ok hE).2.2
 obtain ⟨b1, o1, rfl, -⟩ := ints_at hL (k := 0) (by decide)
 obtain ⟨b2, o2, rfl, -⟩ := ints_at hH (k := 0) (by decide)
 have H := qh (And.intro hL hH)
 have B := qh ((aC w (.cells (bdC (some ⟨b1, o1, none⟩) 201 cL (some ⟨b2, o2, none⟩) 201 cH) 53)).alloc (by simp) (.cells #[.slice none 0 0, .slice none 0 0] 53))
 have R := qh (And.intro (aI (w.alloc (.cells (bdC (some ⟨b1, o1, none⟩) 201 cL (some ⟨b2, o2, none⟩) 201 cH) 53)) (.cells #[.slice none 0 0, .slice none 0 0] 53) (n := w.heap.size + 1) (by simp)) (aG (o' := .cells #[.slice none 0 0, .slice none 0 0] 53) (aI w (.cells (bdC (some ⟨b1, o1, none⟩) 201 cL (some ⟨b2, o2, none⟩) 201 cH) 53) rfl)))
 clear hL hH hE hM h3
 unfold bdV
 unfold bdC at *
 go_enter Tryz.func97, Tryz.ntmps97
 go_wp2_with fail
 refine (bY (some ⟨b1, o1, none⟩) (some ⟨b2, o2, none⟩) 201 201 cL cH lo hi _ (H.out.1.below B.out) (H.out.2.below B.out)).mono ?_; rintro e w1 ⟨rfl, hb⟩
 replace B := qh (B.out.trans (hb.mono B.out.size))
 replace R := qh (And.intro (aN hb R.out.1) (aN hb R.out.2))
 rw [HE.out.1]
 clear hb
 go_wp2_with fail
 refine (gK alt size _).mono ?_; rintro e w2 ⟨rfl, rfl⟩
 rw [HE.out.2]
 go_wp2_with fail
 have hO1 : w.heap.size + 1 < w1.heap.size := aB R.out.1
 obtain ⟨O, hO⟩ : ∃ O, w1.heap.size = O := ⟨_, rfl⟩
 have K := qh (show RmK w O (some ⟨b1, o1, none⟩) cL (some ⟨b2, o2, none⟩) cH (maF lo hi alt size) 0 (w1.alloc (.cells #[.slice none 0 0, .slice none 0 0] 53)) from ⟨⟨none, 0, 0, none, 0, 0, aG R.out.1, aI _ _ hO.symm, TwoOwn.nil _ _, B.out.alloc B.out.size _, by omega, by omega⟩, aG R.out.2⟩)
 rw [hO] at hO1 ⊢
 clear B R hO
 go_loopw [11] (fun kv wr => ∃ k : Nat, k ≤ 201 ∧ kv = .int .i64 k ∧ RmK w O (some ⟨b1, o1, none⟩) cL (some ⟨b2, o2, none⟩) cH (maF lo hi alt size) k wr) (fun kv _ => 201 - (intOf kv).toNat)
 case atStart => exact ⟨0, Nat.zero_le _, rfl, K.out⟩
 case round =>
  clear K
  obtain ⟨k, hk, rfl, ⟨aP, nP, cP, aQ, nQ, cQ, hR, hOb, hT, hB, _, _⟩, hBx⟩ := hrel
  by_cases hlt : k < 201
  ·have hk0 : (0 : Int) ≤ (k : Int) := by omega
   have hk1 : (k : Int) < 201 := by omega
   obtain ⟨_, _, e1, x0⟩ := ints_at H.out.1 hlt
   obtain ⟨_, _, e2, y0⟩ := ints_at H.out.2 hlt
   cases e1; cases e2
   obtain ⟨k0, k1⟩ := bW hBx
   have G := qh (And.intro (And.intro hR (And.intro hOb hBx)) (And.intro hT hB))
   have HX := qh (And.intro x0 y0)
   clear hR hOb hBx hT hB x0 y0
   go_wp2_with fail
   refine (iS (some ⟨b1, o1, none⟩) (some ⟨b2, o2, none⟩) 201 201 cL cH lo hi k _ (H.out.1.below G.out.2.2) (H.out.2.below G.out.2.2) hlt hlt).mono ?_; rintro e w3 ⟨rfl, hb⟩
   replace G := qh (And.intro (And.intro (aN hb G.out.1.1) (And.intro (aN hb G.out.1.2.1) (aN hb G.out.1.2.2))) (And.intro (G.out.2.1.below hb) (G.out.2.2.trans (hb.mono G.out.2.2.size))))
   clear hb k0 k1
   by_cases hn : nonAt lo hi k
   ·have hd : decide (gi lo k ≤ gi hi k) = false := decide_eq_false (fun e => (fI HV.out hlt).1 e hn)
    have HF := qh (show maF lo hi alt size k = (1, 0) from if_pos hn)
    rw [hd]
    obtain ⟨c0, c1, f0, f1⟩ := two_facts G.out.1.2.1
    clear hn hd
    go_wp2_with fail
    refine (dM (O + 1) _ _ (loK (maF lo hi alt size) k) (hiK (maF lo hi alt size) k) 1 0 _ G.out.2.1 (aB G.out.1.2.1) (by rw [loK_len]; omega) (by rw [hiK_len]; omega)).mono ?_
    rintro e w4 ⟨vL, vH, rfl, hT, hB⟩
    rw [← HF.out] at hT
    obtain ⟨aL', nL', cL', rfl⟩ := aZ hT.L
    obtain ⟨aH', nH', cH', rfl⟩ := aZ hT.H
    have hK2 := RfK.next (f := maF lo hi alt size) (k := k) (by omega) hO1 G.out.1.1 G.out.1.2.1 G.out.2.2 hT hB
    have hBx := (hB.block w.heap.size (by omega)).trans G.out.1.2.2
    obtain ⟨d0, d1, g0, g1⟩ := two_facts ((hB.block O (by omega)).trans G.out.1.2.1)
    have K := qh (And.intro hK2 hBx)
    clear c0 c1 f0 f1 hT hB hK2 G hBx
    go_wp2_with fail
    go_roundw
    case rel => exact ⟨k + 1, by omega, by go_num, K.out.1, (((Only.refl O w4).setCell 0 _).setCell 1 _).keeps K.out.2 (by omega)⟩
    case measure => simp [intOf]; omega
   have hd : decide (gi lo k ≤ gi hi k) = true := decide_eq_true ((fI HV.out hlt).2 hn)
   have HF := qh (show maF lo hi alt size k = (max (gi lo k) alt, min (gi hi k) (alt + size - 1)) from if_neg hn)
   rw [hd]
   clear hn hd
   go_wp2_with fail
   replace G : Hid ((w3.drew.heap[w.heap.size + 1]? = some (.cells #[.slice none 0 0, .slice none 0 0] 53 (0, 0)) ∧ w3.drew.heap[O]? = some (.cells #[.slice aP nP cP, .slice aQ nQ cQ] 53 (0, 0)) ∧ w3.drew.heap[w.heap.size]? = some (.cells #[.slice (some ⟨b1, o1, none⟩) 201 cL, .slice (some ⟨b2, o2, none⟩) 201 cH] 53 (0, 0))) ∧ TwoOwn (O + 1) (.slice aP nP cP) (.slice aQ nQ cQ) (loK (maF lo hi alt size) k) (hiK (maF lo hi alt size) k) w3.drew ∧ Below w.heap.size w w3.drew) := qh ⟨G.out.1, G.out.2.1.below ⟨rfl, rfl, rfl, Nat.le_refl _, fun _ _ => rfl⟩, G.out.2.2.drew⟩
   obtain ⟨c0, c1, -, -⟩ := two_facts G.out.1.2.1
   obtain ⟨X, hX⟩ : ∃ X, gi lo k = X := ⟨_, rfl⟩
   obtain ⟨Y, hY⟩ : ∃ Y, gi hi k = Y := ⟨_, rfl⟩
   rw [hX, hY] at HX HF
   clear hX hY
   replace HF := qh (HF.out.trans (ma_ifs X Y h1 h2 hs1 hs2))
   have HHS := qh (show ((w3.drew.cell? ⟨w.heap.size, 0, none⟩ = some (.slice (some ⟨b1, o1, none⟩) 201 cL) ∧ w3.drew.cell? ⟨w.heap.size, 1, none⟩ = some (.slice (some ⟨b2, o2, none⟩) 201 cH)) ∧ w3.drew.cell? ⟨b1, o1 + k, none⟩ = some (.int .i64 X) ∧ w3.drew.cell? ⟨b2, o2 + k, none⟩ = some (.int .i64 Y)) ∧ w3.drew.cell? ⟨O, 0, none⟩ = some (.slice aP nP cP) ∧ w3.drew.cell? ⟨O, 1, none⟩ = some (.slice aQ nQ cQ) from ⟨qU G.out.1.2.2 G.out.2.2 HX.out.1 HX.out.2, c0, c1⟩)
   clear c0 c1
   refine MyHeldE.start (fun W => ((W.cell? ⟨w.heap.size, 0, none⟩ = some (.slice (some ⟨b1, o1, none⟩) 201 cL) ∧ W.cell? ⟨w.heap.size, 1, none⟩ = some (.slice (some ⟨b2, o2, none⟩) 201 cH)) ∧ W.cell? ⟨b1, o1 + k, none⟩ = some (.int .i64 X) ∧ W.cell? ⟨b2, o2 + k, none⟩ = some (.int .i64 Y)) ∧ W.cell? ⟨O, 0, none⟩ = some (.slice aP nP cP) ∧ W.cell? ⟨O, 1, none⟩ = some (.slice aQ nQ cQ)) [19] (by kernel_rfl) ?_
   have hHeld := HHS.out
   generalize w3.drew = wd at *
   refine MyHeldE.tk 0 (hy := fun w hSw => by obtain ⟨⟨⟨k0, k1⟩, x0, y0⟩, c0, c1⟩ := hSw; go_simp; (try with_reducible rfl)) ?_
   refine MyHeldE.tk 1 ?_
   refine MyHeldE.tk 2 (hy := fun w hSw => by obtain ⟨⟨⟨k0, k1⟩, x0, y0⟩, c0, c1⟩ := hSw; go_simp; (try with_reducible rfl)) ?_
   refine MyHeldE.tk 3 ?_
   refine MyHeldE.tk 4 (hy := fun w hSw => by obtain ⟨⟨⟨k0, k1⟩, x0, y0⟩, c0, c1⟩ := hSw; go_simp; (try with_reducible rfl)) ?_
   refine MyHeldE.tk 5 (hy := fun w hSw => by obtain ⟨⟨⟨k0, k1⟩, x0, y0⟩, c0, c1⟩ := hSw; go_simp; (try with_reducible rfl)) ?_
   refine MyHeldE.tk 6 ?_
   refine MyHeldE.tk 7 ?_
   refine MyHeldE.tk 8 ?_
   refine MyHeldE.tk 9 (hy := fun w hSw => by obtain ⟨⟨⟨k0, k1⟩, x0, y0⟩, c0, c1⟩ := hSw; go_simp; (try with_reducible rfl)) ?_
   refine MyHeldE.tk 10 ?_
   refine MyHeldE.tk 11 (hy := fun w hSw => by obtain ⟨⟨⟨k0, k1⟩, x0, y0⟩, c0, c1⟩ := hSw; go_simp; (try with_reducible rfl)) ?_
   refine MyHeldE.tk 12 (hy := fun w hSw => by obtain ⟨⟨⟨k0, k1⟩, x0, y0⟩, c0, c1⟩ := hSw; go_simp; (try with_reducible rfl)) ?_
   refine MyHeldE.tk 13 ?_
   refine MyHeldE.tk 14 ?_
   refine MyHeldE.tk 15 ?_
   refine MyHeldE.tk 16 ?_
   refine MyHeldE.tk 17 ?_
   refine MyHeldE.ready (rs := [18]) (by kernel_rfl) (by simp) ?_
   refine (MyHeldE.next 18 (MyHeld.at_rfl rfl) (fun Kq hKq => ?_) MyHeldE.All.nil)
   go_simp
   go_at_call 64
   refine (dM (O + 1) _ _ (loK (maF lo hi alt size) k) (hiK (maF lo hi alt size) k) _ _ _ G.out.2.1 (aB G.out.1.2.1) (by rw [loK_len]; omega) (by rw [hiK_len]; omega)).mono ?_; rintro e w4 ⟨vL, vH, rfl, hT, hB⟩
   rw [nm_ma HF.out] at hT
   obtain ⟨aL', nL', cL', rfl⟩ := aZ hT.L
   obtain ⟨aH', nH', cH', rfl⟩ := aZ hT.H
   have hK2 := RfK.next (f := maF lo hi alt size) (k := k) (by omega) hO1 G.out.1.1 G.out.1.2.1 G.out.2.2 hT hB
   have hBx := (hB.block w.heap.size (by omega)).trans G.out.1.2.2
   have HO4 := qh ((hB.block O (by omega)).trans G.out.1.2.1)
   have hB4 := G.out.2.2.trans (hB.mono (by omega))
   have KC := qh (rm_stored (x := .slice aL' nL' cL') (y := .slice aH' nH' cH') (show w.heap.size < O by omega) hBx hB4)
   have K := qh hK2
   have HHS2 := qh (show ((w4.cell? ⟨w.heap.size, 0, none⟩ = some (.slice (some ⟨b1, o1, none⟩) 201 cL) ∧ w4.cell? ⟨w.heap.size, 1, none⟩ = some (.slice (some ⟨b2, o2, none⟩) 201 cH)) ∧ w4.cell? ⟨b1, o1 + k, none⟩ = some (.int .i64 X) ∧ w4.cell? ⟨b2, o2 + k, none⟩ = some (.int .i64 Y)) ∧ w4.cell? ⟨O, 0, none⟩ = some (.slice aP nP cP) ∧ w4.cell? ⟨O, 1, none⟩ = some (.slice aQ nQ cQ) from ⟨qU hBx hB4 HX.out.1 HX.out.2, aA HO4.out rfl, aA HO4.out rfl⟩)
   clear hT hB hK2 hBx hB4
   refine hKq.out _ _ (fun _ => (HHS2.out)) ?_
   clear hKq Kq hHeld
   have hHeld := (HHS2.out)
   try simp only [Act.put, List.setIfInBounds_toArray, List.set_cons_zero, List.set_cons_succ]
   obtain ⟨d0, d1, g0, g1⟩ := two_facts HO4.out
   have ol := aB HO4.out
   refine MyHeldE.ready (rs := [19]) (by kernel_rfl) (by simp) ?_
   refine (MyHeldE.next 19 (MyHeld.at_rfl rfl) (fun Kq hKq => ?_) MyHeldE.All.nil)
   go_simp
   refine hKq.out _ _ (fun e => by cases e) ?_
   clear hKq Kq
   try simp only [Act.put, List.setIfInBounds_toArray, List.set_cons_zero, List.set_cons_succ]
   refine MyHeldE.done (by kernel_rfl) ?_ _
   clear d0 d1 g0 g1 ol hHeld
   go_wp2_with fail
   go_roundw
   case rel => exact ⟨k + 1, by omega, by go_num, K.out, KC.out.1⟩
   case measure => simp [intOf]; omega
  obtain rfl : k = 201 := by omega
  obtain ⟨c0, c1, f0, f1⟩ := two_facts hOb
  obtain ⟨d0, d1, g0, g1⟩ := two_facts hR
  have G := qh (And.intro hR (And.intro hOb (And.intro hT hB)))
  clear hR hOb hT hB hk hlt hBx
  go_wp2_with fail
  obtain ⟨hT9, hB9, r0, r1⟩ := RfK.done (by omega) (show w.heap.size + 1 < O + 1 by omega) G.out.1 G.out.2.2.2 G.out.2.2.1
  refine bodyPost_ret (v := .tuple #[.agg #[.slice aP nP cP, .slice aQ nQ cQ], .int .i64 0]) ?_ rfl ⟨_, _, by rw [nF HE.out.1, HE.out.2], fun _ => hT9, fun e => absurd ((nF HE.out.1).trans HE.out.2) e, hB9⟩
  simp [results, Tryz.f97, go_sem, r0, r1]
theorem rMea_call (aL aH : Option Addr) (nL nH cL cH : Nat) (lo hi : List Int) (alt size : Int) (w : World) (hL : Ints w aL nL lo) (hH : Ints w aH nH hi) :
    Calls Tryz.prog 97 #[bdV aL nL cL aH nH cH, .int .i64 alt, .int .i64 size] w (BOPost (maE lo hi alt size) (loK (maF lo hi alt size) 201) (hiK (maF lo hi alt size) 201) w) := by
 by_cases hE : chB lo hi = 0
 ·rcases p9 alt size with hM | hM
  ·obtain ⟨e1, e2, -⟩ := chB_ok hE
   obtain rfl : nL = 201 := by rw [← hL.len]; exact e1
   obtain rfl : nH = 201 := by rw [← hH.len]; exact e2
   exact rMea_ok aL aH cL cH lo hi alt size w hL hH hE hM
  exact rMea_me aL aH nL nH cL cH lo hi alt size w hL hH hE hM
 exact rMea_ch aL aH nL nH cL cH lo hi alt size w hL hH hE
end Go.Proofs.YtikjjpjekchcjaaGreat.Alt
