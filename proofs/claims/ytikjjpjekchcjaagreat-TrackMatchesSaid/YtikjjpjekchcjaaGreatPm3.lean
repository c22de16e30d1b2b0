/-
  PtAltB, AppAt, StoreLib
-/
import Derived.Test.YtikjjpjekchcjaaGreatPm2
import Derived.Maps.AppendAt
import Derived.Laws.OwnMore
import Derived.Laws.Tables
set_option linter.all false
set_option maxRecDepth 100000
set_option maxHeartbeats 64000000
section
namespace Go.Proofs.YtikjjpjekchcjaaGreat.Alt
open Go.RowKit AltMath MyHeap
theorem kV {lo hi : List Int} {i : Nat} (h1 : gi lo i = 1) (h2 : gi hi i = 0) : ¬ badAt lo hi i := fun h => h.1 ⟨h1, h2⟩
theorem nS {lo hi : List Int} {i : Nat} (h1 : ¬ gi lo i < -1000) (h2 : ¬ gi hi i < gi lo i) (h3 : ¬ 50000 < gi hi i) : ¬ badAt lo hi i := fun h => by have := h.2; omega
theorem bad_of {lo hi : List Int} {i : Nat} (h0 : gi lo i ≠ 1 ∨ gi hi i ≠ 0) (h : gi lo i < -1000 ∨ gi hi i < gi lo i ∨ 50000 < gi hi i) : badAt lo hi i := ⟨fun e => by unfold nonAt at e; omega, h⟩
def OkTo (lo hi : List Int) (k : Nat) : Prop := ∀ i, i < k → ¬ badAt lo hi i
theorem fZ {lo hi : List Int} {k : Nat} (h : OkTo lo hi k) (h1 : ¬ badAt lo hi k) : OkTo lo hi (k + 1) := fun i hi' => by
 rcases Nat.lt_succ_iff_lt_or_eq.1 hi' with h2 | rfl
 ·exact h i h2
 exact h1
theorem bW {w : World} {b : Nat} {aL aH : Option Addr} {nL cL nH cH : Nat} {T : TypeId} (h : w.heap[b]? = some (.cells (bdC aL nL cL aH nH cH) T (0, 0))) : w.cell? ⟨b, 0, none⟩ = some (.slice aL nL cL) ∧ w.cell? ⟨b, 1, none⟩ = some (.slice aH nH cH) := ⟨aA h rfl, aA h rfl⟩
def CkK (w0 : World) (b : Nat) (aL : Option Addr) (nL cL : Nat) (aH : Option Addr) (nH cH : Nat) (lo hi : List Int) (W : World) : Prop := Below w0.heap.size w0 W ∧ W.heap[b]? = some (.cells (bdC aL nL cL aH nH cH) 53 (0, 0)) ∧ Ints W aL nL lo ∧ Ints W aH nH hi
theorem CkK.keep {w0 W W' : World} {b : Nat} {aL aH : Option Addr} {nL cL nH cH : Nat} {lo hi : List Int} (h : CkK w0 b aL nL cL aH nH cH lo hi W) (hb : Below W.heap.size W W') : CkK w0 b aL nL cL aH nH cH lo hi W' := ⟨h.1.trans (hb.mono h.1.size), aN hb h.2.1, h.2.2.1.below hb, h.2.2.2.below hb⟩
theorem CkK.drewN {w0 W : World} {b : Nat} {aL aH : Option Addr} {nL cL nH cH : Nat} {lo hi : List Int} (h : CkK w0 b aL nL cL aH nH cH lo hi W) (n : Nat) : CkK w0 b aL nL cL aH nH cH lo hi (W.drewN n) := h.keep ⟨rfl, rfl, rfl, Nat.le_refl _, fun _ _ => rfl⟩
theorem CkK.new {w0 : World} {aL aH : Option Addr} {nL cL nH cH : Nat} {lo hi : List Int} (hL : Ints w0 aL nL lo) (hH : Ints w0 aH nH hi) : CkK w0 w0.heap.size aL nL cL aH nH cH lo hi (w0.alloc (.cells (bdC aL nL cL aH nH cH) 53)) := ⟨aC _ _, aI _ _ rfl, hL.below (aC _ _), hH.below (aC _ _)⟩
theorem pK (aL aH : Option Addr) (nL nH cL cH : Nat) (lo hi : List Int) (w : World) (hL : Ints w aL nL lo) (hH : Ints w aH nH hi) (h : ¬ (nL = 201 ∧ nH = 201)) :
    Calls Tryz.prog 83 #[bdV aL nL cL aH nH cH] w (NPost (chB lo hi) w) := by
 have HE := qh (chB_form (lo := lo) (hi := hi) (by rw [hL.len, hH.len]; exact h))
 have HB := qh (aC w (.cells (bdC aL nL cL aH nH cH) 53))
 clear hL hH
 unfold bdV
 unfold bdC at HB
 by_cases h1 : nL = 201
 ·subst h1
  have h2 : ((nH : Int) != 201) = true := bne_iff_ne.2 (by omega)
  clear h
  go_enter Tryz.func83, Tryz.ntmps83
  go_wp2_with fail
  go_ret
  exact aJ HE.out.symm HB.out
 have h2 : ((nL : Int) != 201) = true := bne_iff_ne.2 (by omega)
 clear h h1
 go_enter Tryz.func83, Tryz.ntmps83
 go_wp2_with fail
 go_ret
 exact aJ HE.out.symm HB.out
theorem pJ (aL aH : Option Addr) (nL nH cL cH : Nat) (lo hi : List Int) (w : World) (hL : Ints w aL nL lo) (hH : Ints w aH nH hi) (h : ¬ (nL = 201 ∧ nH = 201)) :
    Calls Tryz.prog 62 #[bdV aL nL cL aH nH cH] w (NPost (chB lo hi) w) := by
 have HE := qh (chB_form (lo := lo) (hi := hi) (by rw [hL.len, hH.len]; exact h))
 have HB := qh (aC w (.cells (bdC aL nL cL aH nH cH) 53))
 clear hL hH
 unfold bdV
 unfold bdC at HB
 by_cases h1 : nL = 201
 ·subst h1
  have h2 : ((nH : Int) != 201) = true := bne_iff_ne.2 (by omega)
  clear h
  go_enter Tryz.func62, Tryz.ntmps62
  go_wp2_with fail
  go_ret
  exact aJ HE.out.symm HB.out
 have h2 : ((nL : Int) != 201) = true := bne_iff_ne.2 (by omega)
 clear h h1
 go_enter Tryz.func62, Tryz.ntmps62
 go_wp2_with fail
 go_ret
 exact aJ HE.out.symm HB.out
theorem pCheck_ok (aL aH : Option Addr) (cL cH : Nat) (lo hi : List Int) (w : World) (hL : Ints w aL 201 lo) (hH : Ints w aH 201 hi) :
    Calls Tryz.prog 83 #[bdV aL 201 cL aH 201 cH] w (NPost (chB lo hi) w) := by
 have HL := qh (And.intro hL.len hH.len)
 obtain ⟨b1, o1, rfl, -⟩ := ints_at hL (k := 0) (by decide)
 obtain ⟨b2, o2, rfl, -⟩ := ints_at hH (k := 0) (by decide)
 have K := qh (CkK.new (cL := cL) (cH := cH) hL hH)
 clear hL hH
 unfold bdV
 go_enter Tryz.func83, Tryz.ntmps83
 go_wp2_with fail
 go_loopw [14] (fun kv wr => ∃ k : Nat, k ≤ 201 ∧ kv = .int .i64 k ∧ OkTo lo hi k ∧ CkK w w.heap.size (some ⟨b1, o1, none⟩) 201 cL (some ⟨b2, o2, none⟩) 201 cH lo hi wr) (fun kv _ => 201 - (intOf kv).toNat)
 case atStart => exact ⟨0, Nat.zero_le _, rfl, fun i h => absurd h (Nat.not_lt_zero i), K.out⟩
 case round =>
  clear K
  obtain ⟨k, hk, rfl, hO, hK⟩ := hrel
  have K := qh hK
  have HO := qh hO
  clear hO hK
  by_cases hlt : k < 201
  ·have hk0 : (0 : Int) ≤ (k : Int) := by omega
   have hk1 : (k : Int) < 201 := by omega
   obtain ⟨_, _, e1, x0⟩ := ints_at K.out.2.2.1 hlt
   obtain ⟨_, _, e2, y0⟩ := ints_at K.out.2.2.2 hlt
   cases e1; cases e2
   obtain ⟨k0, k1⟩ := bW K.out.2.1
   have HN := qh (@kV lo hi k)
   have HG := qh (@nS lo hi k)
   have HX := qh (@bad_of lo hi k)
   have HNt := qh (@pY lo hi k)
   have HNf := qh (@pZ lo hi k)
   unfold nonAt at HNt HNf
   obtain ⟨X, hX⟩ : ∃ X, gi lo k = X := ⟨_, rfl⟩
   obtain ⟨Y, hY⟩ : ∃ Y, gi hi k = Y := ⟨_, rfl⟩
   rw [hX] at x0 HN HG HX HNt HNf
   rw [hY] at y0 HN HG HX HNt HNf
   clear hX hY
   by_cases hX1 : X = 1 ∧ Y = 0
   ·have HB := qh (HN.out hX1.1 hX1.2)
    have HV := qh (HNt.out hX1)
    clear HN HG HX HNt HNf hX1
    have K1 : CkK w w.heap.size (some ⟨b1, o1, none⟩) 201 cL (some ⟨b2, o2, none⟩) 201 cH lo hi wr.drew := K.out.drewN 1
    replace x0 : wr.drew.cell? ⟨b1, o1 + k, none⟩ = some (.int .i64 X) := x0
    replace y0 : wr.drew.cell? ⟨b2, o2 + k, none⟩ = some (.int .i64 Y) := y0
    replace k0 : wr.drew.cell? ⟨w.heap.size, 0, none⟩ = some (.slice (some ⟨b1, o1, none⟩) 201 cL) := k0
    replace k1 : wr.drew.cell? ⟨w.heap.size, 1, none⟩ = some (.slice (some ⟨b2, o2, none⟩) 201 cH) := k1
    replace K := qh K1
    clear K1
    go_wp2_with fail
    refine wp_region_held_drew (S := (fun w' => (w'.cell? ⟨w.heap.size, 0, none⟩ = some (.slice (some ⟨b1, o1, none⟩) 201 cL) ∧ w'.cell? ⟨w.heap.size, 1, none⟩ = some (.slice (some ⟨b2, o2, none⟩) 201 cH)) ∧ w'.cell? ⟨b1, o1 + k, none⟩ = some (.int .i64 X) ∧ w'.cell? ⟨b2, o2 + k, none⟩ = some (.int .i64 Y))) (by kernel_rfl) (by (try dsimp only); (exact ⟨⟨k0, k1⟩, x0, y0⟩)) (fun hHeld => ?_)
    refine MyHeld.tk 0 ?_
    refine MyHeld.tk 1 ?_
    refine wpAnyH_ready (rs := [2]) (by kernel_rfl) (by simp) ?_
    refine (MyHeld.next 2 (MyHeld.at_rfl rfl) (fun Kq hKq => ?_) AllReadyH.nil)
    go_simp
    ((go_at_call 99; refine (d8 (some ⟨b1, o1, none⟩) (some ⟨b2, o2, none⟩) 201 201 cL cH lo hi k _ K.out.2.2.1 K.out.2.2.2 hlt hlt).mono ?_; rintro e w3 ⟨rfl, hb3⟩; rw [HV.out]; replace x0 := aS hb3 x0; replace y0 := aS hb3 y0; replace k0 := aS hb3 k0; replace k1 := aS hb3 k1; replace K := qh (K.out.keep hb3); clear hb3))
    go_wp2_with fail
    refine hKq.out _ _ (by (try dsimp only); (exact ⟨⟨k0, k1⟩, x0, y0⟩)) (fun hHeld' => ?_)
    clear hKq Kq hHeld; have hHeld := hHeld'; clear hHeld'
    try simp only [Act.put, List.setIfInBounds_toArray, List.set_cons_zero, List.set_cons_succ]
    refine MyHeld.tk 3 ?_
    refine MyHeld.tk 4 ?_
    refine MyHeld.sk 5 ?_
    refine MyHeld.sk 6 ?_
    refine MyHeld.sk 7 ?_
    refine MyHeld.sk 8 ?_
    refine MyHeld.sk 9 ?_
    refine MyHeld.sk 10 ?_
    refine MyHeld.sk 11 ?_
    refine MyHeld.sk 12 ?_
    refine MyHeld.sk 13 ?_
    refine MyHeld.sk 14 ?_
    refine MyHeld.sk 15 ?_
    refine MyHeld.sk 16 ?_
    refine MyHeld.sk 17 ?_
    refine MyHeld.sk 18 ?_
    refine MyHeld.sk 19 ?_
    refine MyHeld.sk 20 ?_
    refine MyHeld.sk 21 ?_
    refine MyHeld.sk 22 ?_
    refine MyHeld.sk 23 ?_
    refine MyHeld.sk 24 ?_
    refine MyHeld.sk 25 ?_
    refine MyHeld.sk 26 ?_
    refine MyHeld.sk 27 ?_
    refine MyHeld.sk 28 ?_
    refine MyHeld.sk 29 ?_
    refine MyHeld.sk 30 ?_
    refine MyHeld.sk 31 ?_
    refine MyHeld.tk 32 ?_
    refine wpAnyH_done (by kernel_rfl) ?_ _
    all_goals (
     go_wp2_with fail
     go_roundw
     case rel => exact ⟨k + 1, by omega, by go_num, fZ HO.out HB.out, K.out⟩
     case measure => simp [intOf]; omega
    )
   have HV := qh (HNf.out hX1)
   have HXX := qh hX1
   by_cases hA : X < -1000
   ·have HB := qh (fJ HL.out.1 HL.out.2 hlt (HX.out (by have := HXX.out; omega) (Or.inl hA)))
    have dA : decide (X < -1000) = true := decide_eq_true hA
    clear HN HG HX HNt HNf hX1 hA
    have K1 : CkK w w.heap.size (some ⟨b1, o1, none⟩) 201 cL (some ⟨b2, o2, none⟩) 201 cH lo hi wr.drew := K.out.drewN 1
    replace x0 : wr.drew.cell? ⟨b1, o1 + k, none⟩ = some (.int .i64 X) := x0
    replace y0 : wr.drew.cell? ⟨b2, o2 + k, none⟩ = some (.int .i64 Y) := y0
    replace k0 : wr.drew.cell? ⟨w.heap.size, 0, none⟩ = some (.slice (some ⟨b1, o1, none⟩) 201 cL) := k0
    replace k1 : wr.drew.cell? ⟨w.heap.size, 1, none⟩ = some (.slice (some ⟨b2, o2, none⟩) 201 cH) := k1
    replace K := qh K1
    clear K1
    go_wp2_with fail
    refine wp_region_held_drew (S := (fun w' => (w'.cell? ⟨w.heap.size, 0, none⟩ = some (.slice (some ⟨b1, o1, none⟩) 201 cL) ∧ w'.cell? ⟨w.heap.size, 1, none⟩ = some (.slice (some ⟨b2, o2, none⟩) 201 cH)) ∧ w'.cell? ⟨b1, o1 + k, none⟩ = some (.int .i64 X) ∧ w'.cell? ⟨b2, o2 + k, none⟩ = some (.int .i64 Y))) (by kernel_rfl) (by (try dsimp only); (exact ⟨⟨k0, k1⟩, x0, y0⟩)) (fun hHeld => ?_)
    refine MyHeld.tk 0 ?_
    refine MyHeld.tk 1 ?_
    refine wpAnyH_ready (rs := [2]) (by kernel_rfl) (by simp) ?_
    refine (MyHeld.next 2 (MyHeld.at_rfl rfl) (fun Kq hKq => ?_) AllReadyH.nil)
    go_simp
    ((go_at_call 99; refine (d8 (some ⟨b1, o1, none⟩) (some ⟨b2, o2, none⟩) 201 201 cL cH lo hi k _ K.out.2.2.1 K.out.2.2.2 hlt hlt).mono ?_; rintro e w3 ⟨rfl, hb3⟩; rw [HV.out]; replace x0 := aS hb3 x0; replace y0 := aS hb3 y0; replace k0 := aS hb3 k0; replace k1 := aS hb3 k1; replace K := qh (K.out.keep hb3); clear hb3))
    go_wp2_with fail
    refine hKq.out _ _ (by (try dsimp only); (exact ⟨⟨k0, k1⟩, x0, y0⟩)) (fun hHeld' => ?_)
    clear hKq Kq hHeld; have hHeld := hHeld'; clear hHeld'
    try simp only [Act.put, List.setIfInBounds_toArray, List.set_cons_zero, List.set_cons_succ]
    refine MyHeld.tk 3 ?_
    refine MyHeld.tk 4 ?_
    refine MyHeld.tk 5 ?_
    refine MyHeld.tk 6 ?_
    refine MyHeld.tk 7 ?_
    refine MyHeld.tk 8 ?_
    refine MyHeld.tk 9 ?_
    refine MyHeld.tk 10 ?_
    refine MyHeld.tk 11 ?_
    refine MyHeld.sk 12 ?_
    refine MyHeld.sk 13 ?_
    refine MyHeld.sk 14 ?_
    refine MyHeld.sk 15 ?_
    refine MyHeld.sk 16 ?_
    refine MyHeld.sk 17 ?_
    refine MyHeld.sk 18 ?_
    refine MyHeld.sk 19 ?_
    refine MyHeld.sk 20 ?_
    refine MyHeld.sk 21 ?_
    refine MyHeld.sk 22 ?_
    refine MyHeld.tk 23 ?_
    refine MyHeld.tk 24 ?_
    refine MyHeld.sk 25 ?_
    refine MyHeld.sk 26 ?_
    refine MyHeld.sk 27 ?_
    refine MyHeld.sk 28 ?_
    refine MyHeld.sk 29 ?_
    refine MyHeld.sk 30 ?_
    refine MyHeld.tk 31 ?_
    refine MyHeld.tk 32 ?_
    refine wpAnyH_done (by kernel_rfl) ?_ _
    all_goals (
     go_wp2_with fail
     go_ret
     exact aJ HB.out.symm K.out.1
    )
   by_cases hB : Y < X
   ·have HB := qh (fJ HL.out.1 HL.out.2 hlt (HX.out (by have := HXX.out; omega) (Or.inr (Or.inl hB))))
    have dA : decide (X < -1000) = false := decide_eq_false hA
    have dB : decide (Y < X) = true := decide_eq_true hB
    clear HN HG HX HNt HNf hX1 hA hB
    have K1 : CkK w w.heap.size (some ⟨b1, o1, none⟩) 201 cL (some ⟨b2, o2, none⟩) 201 cH lo hi wr.drew := K.out.drewN 1
    replace x0 : wr.drew.cell? ⟨b1, o1 + k, none⟩ = some (.int .i64 X) := x0
    replace y0 : wr.drew.cell? ⟨b2, o2 + k, none⟩ = some (.int .i64 Y) := y0
    replace k0 : wr.drew.cell? ⟨w.heap.size, 0, none⟩ = some (.slice (some ⟨b1, o1, none⟩) 201 cL) := k0
    replace k1 : wr.drew.cell? ⟨w.heap.size, 1, none⟩ = some (.slice (some ⟨b2, o2, none⟩) 201 cH) := k1
    replace K := qh K1
    clear K1
    go_wp2_with fail
    refine wp_region_held_drew (S := (fun w' => (w'.cell? ⟨w.heap.size, 0, none⟩ = some (.slice (some ⟨b1, o1, none⟩) 201 cL) ∧ w'.cell? ⟨w.heap.size, 1, none⟩ = some (.slice (some ⟨b2, o2, none⟩) 201 cH)) ∧ w'.cell? ⟨b1, o1 + k, none⟩ = some (.int .i64 X) ∧ w'.cell? ⟨b2, o2 + k, none⟩ = some (.int .i64 Y))) (by kernel_rfl) (by (try dsimp only); (exact ⟨⟨k0, k1⟩, x0, y0⟩)) (fun hHeld => ?_)
    refine MyHeld.tk 0 ?_
    refine MyHeld.tk 1 ?_
    refine wpAnyH_ready (rs := [2]) (by kernel_rfl) (by simp) ?_
    refine (MyHeld.next 2 (MyHeld.at_rfl rfl) (fun Kq hKq => ?_) AllReadyH.nil)
    go_simp
    ((go_at_call 99; refine (d8 (some ⟨b1, o1, none⟩) (some ⟨b2, o2, none⟩) 201 201 cL cH lo hi k _ K.out.2.2.1 K.out.2.2.2 hlt hlt).mono ?_; rintro e w3 ⟨rfl, hb3⟩; rw [HV.out]; replace x0 := aS hb3 x0; replace y0 := aS hb3 y0; replace k0 := aS hb3 k0; replace k1 := aS hb3 k1; replace K := qh (K.out.keep hb3); clear hb3))
    go_wp2_with fail
    refine hKq.out _ _ (by (try dsimp only); (exact ⟨⟨k0, k1⟩, x0, y0⟩)) (fun hHeld' => ?_)
    clear hKq Kq hHeld; have hHeld := hHeld'; clear hHeld'
    try simp only [Act.put, List.setIfInBounds_toArray, List.set_cons_zero, List.set_cons_succ]
    refine MyHeld.tk 3 ?_
    refine MyHeld.tk 4 ?_
    refine MyHeld.tk 5 ?_
    refine MyHeld.tk 6 ?_
    refine MyHeld.tk 7 ?_
    refine MyHeld.tk 8 ?_
    refine MyHeld.tk 9 ?_
    refine MyHeld.tk 10 ?_
    refine MyHeld.tk 11 ?_
    refine MyHeld.tk 12 ?_
    refine MyHeld.tk 13 ?_
    refine MyHeld.tk 14 ?_
    refine MyHeld.tk 15 ?_
    refine MyHeld.tk 16 ?_
    refine MyHeld.tk 17 ?_
    refine MyHeld.tk 18 ?_
    refine MyHeld.tk 19 ?_
    refine MyHeld.tk 20 ?_
    refine MyHeld.tk 21 ?_
    refine MyHeld.tk 22 ?_
    refine MyHeld.tk 23 ?_
    refine MyHeld.tk 24 ?_
    refine MyHeld.sk 25 ?_
    refine MyHeld.sk 26 ?_
    refine MyHeld.sk 27 ?_
    refine MyHeld.sk 28 ?_
    refine MyHeld.sk 29 ?_
    refine MyHeld.sk 30 ?_
    refine MyHeld.tk 31 ?_
    refine MyHeld.tk 32 ?_
    refine wpAnyH_done (by kernel_rfl) ?_ _
    all_goals (
     go_wp2_with fail
     go_ret
     exact aJ HB.out.symm K.out.1
    )
   by_cases hC : 50000 < Y
   ·have HB := qh (fJ HL.out.1 HL.out.2 hlt (HX.out (by have := HXX.out; omega) (Or.inr (Or.inr hC))))
    have dA : decide (X < -1000) = false := decide_eq_false hA
    have dB : decide (Y < X) = false := decide_eq_false hB
    have dC : decide (50000 < Y) = true := decide_eq_true hC
    clear HN HG HX HNt HNf hX1 hA hB hC
    have K1 : CkK w w.heap.size (some ⟨b1, o1, none⟩) 201 cL (some ⟨b2, o2, none⟩) 201 cH lo hi wr.drew := K.out.drewN 1
    replace x0 : wr.drew.cell? ⟨b1, o1 + k, none⟩ = some (.int .i64 X) := x0
    replace y0 : wr.drew.cell? ⟨b2, o2 + k, none⟩ = some (.int .i64 Y) := y0
    replace k0 : wr.drew.cell? ⟨w.heap.size, 0, none⟩ = some (.slice (some ⟨b1, o1, none⟩) 201 cL) := k0
    replace k1 : wr.drew.cell? ⟨w.heap.size, 1, none⟩ = some (.slice (some ⟨b2, o2, none⟩) 201 cH) := k1
    replace K := qh K1
    clear K1
    go_wp2_with fail
    refine wp_region_held_drew (S := (fun w' => (w'.cell? ⟨w.heap.size, 0, none⟩ = some (.slice (some ⟨b1, o1, none⟩) 201 cL) ∧ w'.cell? ⟨w.heap.size, 1, none⟩ = some (.slice (some ⟨b2, o2, none⟩) 201 cH)) ∧ w'.cell? ⟨b1, o1 + k, none⟩ = some (.int .i64 X) ∧ w'.cell? ⟨b2, o2 + k, none⟩ = some (.int .i64 Y))) (by kernel_rfl) (by (try dsimp only); (exact ⟨⟨k0, k1⟩, x0, y0⟩)) (fun hHeld => ?_)
    refine MyHeld.tk 0 ?_
    refine MyHeld.tk 1 ?_
    refine wpAnyH_ready (rs := [2]) (by kernel_rfl) (by simp) ?_
    refine (MyHeld.next 2 (MyHeld.at_rfl rfl) (fun Kq hKq => ?_) AllReadyH.nil)
    go_simp
    ((go_at_call 99; refine (d8 (some ⟨b1, o1, none⟩) (some ⟨b2, o2, none⟩) 201 201 cL cH lo hi k _ K.out.2.2.1 K.out.2.2.2 hlt hlt).mono ?_; rintro e w3 ⟨rfl, hb3⟩; rw [HV.out]; replace x0 := aS hb3 x0; replace y0 := aS hb3 y0; replace k0 := aS hb3 k0; replace k1 := aS hb3 k1; replace K := qh (K.out.keep hb3); clear hb3))
    go_wp2_with fail
    refine hKq.out _ _ (by (try dsimp only); (exact ⟨⟨k0, k1⟩, x0, y0⟩)) (fun hHeld' => ?_)
    clear hKq Kq hHeld; have hHeld := hHeld'; clear hHeld'
    try simp only [Act.put, List.setIfInBounds_toArray, List.set_cons_zero, List.set_cons_succ]
    refine MyHeld.tk 3 ?_
    refine MyHeld.tk 4 ?_
    refine MyHeld.tk 5 ?_
    refine MyHeld.tk 6 ?_
    refine MyHeld.tk 7 ?_
    refine MyHeld.tk 8 ?_
    refine MyHeld.tk 9 ?_
    refine MyHeld.tk 10 ?_
    refine MyHeld.tk 11 ?_
    refine MyHeld.tk 12 ?_
    refine MyHeld.tk 13 ?_
    refine MyHeld.tk 14 ?_
    refine MyHeld.tk 15 ?_
    refine MyHeld.tk 16 ?_
    refine MyHeld.tk 17 ?_
    refine MyHeld.tk 18 ?_
    refine MyHeld.tk 19 ?_
    refine MyHeld.tk 20 ?_
    refine MyHeld.tk 21 ?_
    refine MyHeld.tk 22 ?_
    refine MyHeld.tk 23 ?_
    refine MyHeld.tk 24 ?_
    refine MyHeld.tk 25 ?_
    refine MyHeld.tk 26 ?_
    refine MyHeld.tk 27 ?_
    refine MyHeld.tk 28 ?_
    refine MyHeld.tk 29 ?_
    refine MyHeld.tk 30 ?_
    refine MyHeld.tk 31 ?_
    refine MyHeld.tk 32 ?_
    refine wpAnyH_done (by kernel_rfl) ?_ _
    all_goals (
     go_wp2_with fail
     go_ret
     exact aJ HB.out.symm K.out.1
    )
   have HB := qh (HG.out hA hB hC)
   have dA : decide (X < -1000) = false := decide_eq_false hA
   have dB : decide (Y < X) = false := decide_eq_false hB
   have dC : decide (50000 < Y) = false := decide_eq_false hC
   clear HN HG HX HNt HNf hX1 hA hB hC
   have K1 : CkK w w.heap.size (some ⟨b1, o1, none⟩) 201 cL (some ⟨b2, o2, none⟩) 201 cH lo hi wr.drew := K.out.drewN 1
   replace x0 : wr.drew.cell? ⟨b1, o1 + k, none⟩ = some (.int .i64 X) := x0
   replace y0 : wr.drew.cell? ⟨b2, o2 + k, none⟩ = some (.int .i64 Y) := y0
   replace k0 : wr.drew.cell? ⟨w.heap.size, 0, none⟩ = some (.slice (some ⟨b1, o1, none⟩) 201 cL) := k0
   replace k1 : wr.drew.cell? ⟨w.heap.size, 1, none⟩ = some (.slice (some ⟨b2, o2, none⟩) 201 cH) := k1
   replace K := qh K1
   clear K1
   go_wp2_with fail
   refine wp_region_held_drew (S := (fun w' => (w'.cell? ⟨w.heap.size, 0, none⟩ = some (.slice (some ⟨b1, o1, none⟩) 201 cL) ∧ w'.cell? ⟨w.heap.size, 1, none⟩ = some (.slice (some ⟨b2, o2, none⟩) 201 cH)) ∧ w'.cell? ⟨b1, o1 + k, none⟩ = some (.int .i64 X) ∧ w'.cell? ⟨b2, o2 + k, none⟩ = some (.int .i64 Y))) (by kernel_rfl) (by (try dsimp only); (exact ⟨⟨k0, k1⟩, x0, y0⟩)) (fun hHeld => ?_)
   refine MyHeld.tk 0 ?_
   refine MyHeld.tk 1 ?_
   refine wpAnyH_ready (rs := [2]) (by kernel_rfl) (by simp) ?_
   refine (MyHeld.next 2 (MyHeld.at_rfl rfl) (fun Kq hKq => ?_) AllReadyH.nil)
   go_simp
   ((go_at_call 99; refine (d8 (some ⟨b1, o1, none⟩) (some ⟨b2, o2, none⟩) 201 201 cL cH lo hi k _ K.out.2.2.1 K.out.2.2.2 hlt hlt).mono ?_; rintro e w3 ⟨rfl, hb3⟩; rw [HV.out]; replace x0 := aS hb3 x0; replace y0 := aS hb3 y0; replace k0 := aS hb3 k0; replace k1 := aS hb3 k1; replace K := qh (K.out.keep hb3); clear hb3))
   go_wp2_with fail
   refine hKq.out _ _ (by (try dsimp only); (exact ⟨⟨k0, k1⟩, x0, y0⟩)) (fun hHeld' => ?_)
   clear hKq Kq hHeld; have hHeld := hHeld'; clear hHeld'
   try simp only [Act.put, List.setIfInBounds_toArray, List.set_cons_zero, List.set_cons_succ]
   refine MyHeld.tk 3 ?_
   refine MyHeld.tk 4 ?_
   refine MyHeld.tk 5 ?_
   refine MyHeld.tk 6 ?_
   refine MyHeld.tk 7 ?_
   refine MyHeld.tk 8 ?_
   refine MyHeld.tk 9 ?_
   refine MyHeld.tk 10 ?_
   refine MyHeld.tk 11 ?_
   refine MyHeld.tk 12 ?_
   refine MyHeld.tk 13 ?_
   refine MyHeld.tk 14 ?_
   refine MyHeld.tk 15 ?_
   refine MyHeld.tk 16 ?_
   refine MyHeld.tk 17 ?_
   refine MyHeld.tk 18 ?_
   refine MyHeld.tk 19 ?_
   refine MyHeld.tk 20 ?_
   refine MyHeld.tk 21 ?_
   refine MyHeld.tk 22 ?_
   refine MyHeld.tk 23 ?_
   refine MyHeld.tk 24 ?_
   refine MyHeld.tk 25 ?_
   refine MyHeld.tk 26 ?_
   refine MyHeld.tk 27 ?_
   refine MyHeld.tk 28 ?_
   refine MyHeld.tk 29 ?_
   refine MyHeld.tk 30 ?_
   refine MyHeld.tk 31 ?_
   refine MyHeld.tk 32 ?_
   refine wpAnyH_done (by kernel_rfl) ?_ _
   all_goals (
    go_wp2_with fail
    go_roundw
    case rel => exact ⟨k + 1, by omega, by go_num, fZ HO.out HB.out, K.out⟩
    case measure => simp [intOf]; omega
   )
  obtain rfl : k = 201 := by omega
  have HE := qh (mS HL.out.1 HL.out.2 HO.out)
  clear hlt hk
  go_wp2_with fail
  go_ret
  exact aJ HE.out.symm K.out.1
theorem rCheck_ok (aL aH : Option Addr) (cL cH : Nat) (lo hi : List Int) (w : World) (hL : Ints w aL 201 lo) (hH : Ints w aH 201 hi) :
    Calls Tryz.prog 62 #[bdV aL 201 cL aH 201 cH] w (NPost (chB lo hi) w) := by
 have HL := qh (And.intro hL.len hH.len)
 obtain ⟨b1, o1, rfl, -⟩ := ints_at hL (k := 0) (by decide)
 obtain ⟨b2, o2, rfl, -⟩ := ints_at hH (k := 0) (by decide)
 have K := qh (CkK.new (cL := cL) (cH := cH) hL hH)
 clear hL hH
 unfold bdV
 go_enter Tryz.func62, Tryz.ntmps62
 go_wp2_with fail
 go_loopw [3] (fun kv wr => ∃ k : Nat, k ≤ 201 ∧ kv = .int .i64 k ∧ OkTo lo hi k ∧ CkK w w.heap.size (some ⟨b1, o1, none⟩) 201 cL (some ⟨b2, o2, none⟩) 201 cH lo hi wr) (fun kv _ => 201 - (intOf kv).toNat)
 case atStart => exact ⟨0, Nat.zero_le _, rfl, fun i h => absurd h (Nat.not_lt_zero i), K.out⟩
 case round =>
  clear K
  obtain ⟨k, hk, rfl, hO, hK⟩ := hrel
  have K := qh hK
  have HO := qh hO
  clear hO hK
  by_cases hlt : k < 201
  ·have hk0 : (0 : Int) ≤ (k : Int) := by omega
   have hk1 : (k : Int) < 201 := by omega
   obtain ⟨_, _, e1, x0⟩ := ints_at K.out.2.2.1 hlt
   obtain ⟨_, _, e2, y0⟩ := ints_at K.out.2.2.2 hlt
   cases e1; cases e2
   obtain ⟨k0, k1⟩ := bW K.out.2.1
   have HN := qh (@kV lo hi k)
   have HG := qh (@nS lo hi k)
   have HX := qh (@bad_of lo hi k)
   have HNt := qh (@pY lo hi k)
   have HNf := qh (@pZ lo hi k)
   unfold nonAt at HNt HNf
   obtain ⟨X, hX⟩ : ∃ X, gi lo k = X := ⟨_, rfl⟩
   obtain ⟨Y, hY⟩ : ∃ Y, gi hi k = Y := ⟨_, rfl⟩
   rw [hX] at x0 HN HG HX HNt HNf
   rw [hY] at y0 HN HG HX HNt HNf
   clear hX hY
   by_cases hX1 : X = 1 ∧ Y = 0
   ·have HB := qh (HN.out hX1.1 hX1.2)
    have HV := qh (HNt.out hX1)
    have dX : (X == 1) = true := beq_iff_eq.2 hX1.1
    have dY : (Y == 0) = true := beq_iff_eq.2 hX1.2
    clear HN HG HX HNt HNf hX1
    go_wp2_with fail
    go_quiet (fail)
    go_wp2_with fail
    go_roundw
    case rel => exact ⟨k + 1, by omega, by go_num, fZ HO.out HB.out, K.out.drewN _⟩
    case measure => simp [intOf]; omega
   have HV := qh (HNf.out hX1)
   have HXX := qh hX1
   by_cases hXo : X = 1
   ·have dX : (X == 1) = true := beq_iff_eq.2 hXo
    have dY : (Y == 0) = false := by simpa using (fun e => hX1 ⟨hXo, e⟩ : ¬ Y = 0)
    by_cases hA : X < -1000
    ·have HB := qh (fJ HL.out.1 HL.out.2 hlt (HX.out (by have := HXX.out; omega) (Or.inl hA)))
     have dA : decide (X < -1000) = true := decide_eq_true hA
     clear HN HG HX HNt HNf hX1 hXo hA
     go_wp2_with fail
     go_quiet (fail)
     go_wp2_with fail
     go_ret
     exact aJ HB.out.symm (K.out.drewN nq).1
    by_cases hB : Y < X
    ·have HB := qh (fJ HL.out.1 HL.out.2 hlt (HX.out (by have := HXX.out; omega) (Or.inr (Or.inl hB))))
     have dA : decide (X < -1000) = false := decide_eq_false hA
     have dB : decide (Y < X) = true := decide_eq_true hB
     clear HN HG HX HNt HNf hX1 hXo hA hB
     go_wp2_with fail
     go_quiet (fail)
     go_wp2_with fail
     go_ret
     exact aJ HB.out.symm (K.out.drewN nq).1
    by_cases hC : 50000 < Y
    ·have HB := qh (fJ HL.out.1 HL.out.2 hlt (HX.out (by have := HXX.out; omega) (Or.inr (Or.inr hC))))
     have dA : decide (X < -1000) = false := decide_eq_false hA
     have dB : decide (Y < X) = false := decide_eq_false hB
     have dC : decide (50000 < Y) = true := decide_eq_true hC
     clear HN HG HX HNt HNf hX1 hXo hA hB hC
     go_wp2_with fail
     go_quiet (fail)
     go_wp2_with fail
     go_ret
     exact aJ HB.out.symm (K.out.drewN nq).1
    have HB := qh (HG.out hA hB hC)
    have dA : decide (X < -1000) = false := decide_eq_false hA
    have dB : decide (Y < X) = false := decide_eq_false hB
    have dC : decide (50000 < Y) = false := decide_eq_false hC
    clear HN HG HX HNt HNf hX1 hXo hA hB hC
    go_wp2_with fail
    go_quiet (fail)
    go_wp2_with fail
    go_roundw
    case rel => exact ⟨k + 1, by omega, by go_num, fZ HO.out HB.out, K.out.drewN _⟩
    case measure => simp [intOf]; omega
   have dX : (X == 1) = false := by simpa using hXo
   by_cases hA : X < -1000
   ·have HB := qh (fJ HL.out.1 HL.out.2 hlt (HX.out (by have := HXX.out; omega) (Or.inl hA)))
    have dA : decide (X < -1000) = true := decide_eq_true hA
    clear HN HG HX HNt HNf hX1 hXo hA
    go_wp2_with fail
    go_quiet (fail)
    go_wp2_with fail
    go_ret
    exact aJ HB.out.symm (K.out.drewN nq).1
   by_cases hB : Y < X
   ·have HB := qh (fJ HL.out.1 HL.out.2 hlt (HX.out (by have := HXX.out; omega) (Or.inr (Or.inl hB))))
    have dA : decide (X < -1000) = false := decide_eq_false hA
    have dB : decide (Y < X) = true := decide_eq_true hB
    clear HN HG HX HNt HNf hX1 hXo hA hB
    go_wp2_with fail
    go_quiet (fail)
    go_wp2_with fail
    go_ret
    exact aJ HB.out.symm (K.out.drewN nq).1
   by_cases hC : 50000 < Y
   ·have HB := qh (fJ HL.out.1 HL.out.2 hlt (HX.out (by have := HXX.out; omega) (Or.inr (Or.inr hC))))
    have dA : decide (X < -1000) = false := decide_eq_false hA
    have dB : decide (Y < X) = false := decide_eq_false hB
    have dC : decide (50000 < Y) = true := decide_eq_true hC
    clear HN HG HX HNt HNf hX1 hXo hA hB hC
    go_wp2_with fail
    go_quiet (fail)
    go_wp2_with fail
    go_ret
    exact aJ HB.out.symm (K.out.drewN nq).1
   have HB := qh (HG.out hA hB hC)
   have dA : decide (X < -1000) = false := decide_eq_false hA
   have dB : decide (Y < X) = false := decide_eq_false hB
   have dC : decide (50000 < Y) = false := decide_eq_false hC
   clear HN HG HX HNt HNf hX1 hXo hA hB hC
   go_wp2_with fail
   go_quiet (fail)
   go_wp2_with fail
   go_roundw
   case rel => exact ⟨k + 1, by omega, by go_num, fZ HO.out HB.out, K.out.drewN _⟩
   case measure => simp [intOf]; omega
  obtain rfl : k = 201 := by omega
  have HE := qh (mS HL.out.1 HL.out.2 HO.out)
  clear hlt hk
  go_wp2_with fail
  go_ret
  exact aJ HE.out.symm K.out.1
theorem bZ (aL aH : Option Addr) (nL nH cL cH : Nat) (lo hi : List Int) (w : World) (hL : Ints w aL nL lo) (hH : Ints w aH nH hi) :
    Calls Tryz.prog 83 #[bdV aL nL cL aH nH cH] w (NPost (chB lo hi) w) := by
 by_cases h : nL = 201 ∧ nH = 201
 ·obtain ⟨rfl, rfl⟩ := h
  exact pCheck_ok aL aH cL cH lo hi w hL hH
 exact pK aL aH nL nH cL cH lo hi w hL hH h
theorem bY (aL aH : Option Addr) (nL nH cL cH : Nat) (lo hi : List Int) (w : World) (hL : Ints w aL nL lo) (hH : Ints w aH nH hi) :
    Calls Tryz.prog 62 #[bdV aL nL cL aH nH cH] w (NPost (chB lo hi) w) := by
 by_cases h : nL = 201 ∧ nH = 201
 ·obtain ⟨rfl, rfl⟩ := h
  exact rCheck_ok aL aH cL cH lo hi w hL hH
 exact pJ aL aH nL nH cL cH lo hi w hL hH h
end Go.Proofs.YtikjjpjekchcjaaGreat.Alt
end
section
namespace Go.MyCopy
theorem bC {P : Program} {w : World} {ops : Array Oper} {o : Oper} {a : Act} {K : Act → World → Prop} {Q : Exit → Act → World → Prop} {E : Prop} (hgd : o.guard = none) (s x : Operand) (t : TypeId)
    (ho : o.op = .call { callee := .builtin .append, args := #[s, x], argTypes := #[t, t] })
    (base : Nat) (e : TypeId) (i : TypeInfo) (z : Value) (size bytes : Nat) (ht : P.underlying t = some (.slice e)) (hi : P.info? e = some i) (hz : i.zero = some z)
    (hsize : i.size = size) (hby : i.bytes = bytes) (hzs : z.cells.size = size) (hsz : 0 < size)
    (v : Value) (n : Nat) (xs : List Value) (hs : a.eval s = v) (hown : w.ownsRow base e size v n xs)
    (ad : Addr) (m c : Nat) (news : List Value) (hx : a.eval x = .slice (some ad) m c) (hl : news.length = m * size)
    (hnews : ∀ j u, news[j]? = some u → w.cell? (ad.add j) = some u) (h1 : ∀ u ∈ news, u.oneCell' = true)
    (h63 : n + m ≤ maxLen) (hbytes : (n + m) * bytes ≤ 140737488355328) (hbase : base ≤ w.heap.size)
    (h : ∀ v' w', w'.ownsRow base e size v' (n + m) (xs ++ news) → w.grownBy w' v.ownBlock → (v'.ownBlock = v.ownBlock ∨ v'.ownBlock = some w.heap.size) → K (a.put o.dst v') w') :
    if Region.wanted o (yielded ops a.tmps) = true then Oper.wp P o a w K Q else E := by
 have hw : Region.wanted o (yielded ops a.tmps) = true := by simp [Region.wanted, hgd]
 rw [if_pos hw]
 obtain ⟨v', w', hr, h2, h3, _, h5⟩ := run_append_own_at (P := P) w base t o.type e i z size bytes ht hi hz hsize hby hzs hsz v n xs hown ad m c news hl hnews h1 h63 hbytes hbase
 unfold Oper.wp execOp
 simp only [ho, resolve, invoke, builtin, Sem.run_bind, Sem.run_pure, Result.andThen_ok, List.map_toArray, List.map_cons, List.map_nil, hs, hx, hr]
 exact h v' w' h2 h3 h5
end Go.MyCopy
end
