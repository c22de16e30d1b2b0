/-
  Layer 19 (assign): the law Scales.
-/
import Derived.Test.YtbehpkggmomgeaaAsgT
import Derived.Test.YtbehpkggmomgeaaAsgM
import Derived.Test.YtbehpkggmomgeaaAsgQ
namespace Go.Proofs.Ytbehpkggmomgeaa
open Go.RowKit AsgRows AsgMath MyHeap MyOwn MyCopy

theorem lens_nil {w : World} : Lens w none 0 (fun _ => 0) := ⟨by decide, Or.inl rfl⟩
/-- The changed matrix: a cost is too large, or the best assignment is the same. -/
theorem ch_best {L Lc : List (List Int)} {n m : Nat} {t p : Int} (h0 : chM L = 0) (hl : L.length = n) (hw : wid L = m) (hm : m ≤ 16) (ht : 1 ≤ t) (hp : 0 ≤ p) (h : Ch L Lc n m t p n 0) : chM Lc = 1 ∨ (chM Lc = 0 ∧ bsL Lc = bsL L) := by
  have ok := chM_ok h0
  have n16 : n ≤ 16 := by have := ok.n16; omega
  have hwc : 0 < n → wid Lc = m := fun q => h.row 0 q
  have hnl : ¬ longM Lc := by
    unfold longM
    rw [h.len]
    rintro (q | ⟨q1, q2⟩)
    · omega
    · rw [hwc q1] at q2; omega
  have hform : ∀ i, i < Lc.length → (rowL Lc i).length = wid Lc := fun i hi => by
    rw [h.len] at hi
    rw [h.row i hi, hwc (by omega)]
  by_cases hall : ∀ i, i < n → ∀ k, k < m → AsgRows.ent Lc i k ≤ 1048576
  · right
    have hent : ∀ i k, i < n → k < m → AsgRows.ent Lc i k = chg t p (AsgRows.ent L i k) := fun i k hi hk => h.new i k hi hk (Or.inl hi)
    have hz : chM Lc = 0 := chM_zero hnl hform (fun i hi k hk => by
      rw [hform i hi, hwc (by rw [h.len] at hi; omega)] at hk
      rw [h.len] at hi
      refine ⟨?_, hall i hi k hk⟩
      rw [hent i k hi hk]
      have := ok.lo i k (by rw [hl]; exact hi) (by rw [hw]; exact hk)
      unfold chg
      split
      · rename_i hx
        have := Int.mul_nonneg hx (show 0 ≤ t by omega)
        omega
      · exact this)
    refine ⟨hz, ?_⟩
    unfold bsL
    rw [if_pos hz, if_pos h0]
    congr 1
    unfold bestM
    rw [h.len, hl, hw]
    by_cases hn : 0 < n
    · rw [hwc hn, bestL_congr (c' := fun i k => chg t p (AsgRows.ent L i k)) n _ _ (Nat.le_refl _) (fun i k _ hi hk => hent i k hi hk) (fun k _ => rfl)]
      exact bestL_chg ht hp n16 (fun i k hi hk => ok.hi i k (by rw [hl]; exact hi) (by rw [hw]; exact hk)) (fun i k hi hk => by rw [← hent i k hi hk]; exact hall i hi k hk) n _ (Nat.le_refl _)
    · have : n = 0 := by omega
      subst this
      rfl
  · left
    have hex : ∃ i, i < n ∧ ∃ k, k < m ∧ ¬ AsgRows.ent Lc i k ≤ 1048576 := Classical.byContradiction (fun q => hall (fun i hi k hk => Classical.byContradiction (fun z => q ⟨i, hi, k, hk, z⟩)))
    obtain ⟨i, hi, k, hk, hx⟩ := hex
    exact chM_arg hnl hform (by rw [h.len]; exact hi) (k := k) (by rw [h.row i hi]; exact hk) (fun q => hx q.2)

set_option maxRecDepth 100000 in
set_option maxHeartbeats 8000000 in
theorem scales_call (a : Option Addr) (n c : Nat) (L : List (List Int)) (x y : Int) (w : World) (hM : Mtx w a n L) (x0 : 0 ≤ x) (x1 : x ≤ 255) (y0 : 0 ≤ y) (y1 : y ≤ 255) :
    Calls Try.prog 4 #[.slice a n c, .int .u8 x, .int .u8 y] w (BPost true w) := by
  have HM0 := Lib.hid hM
  clear hM
  go_enter Try.func4, Try.ntmps4
  go_wp2_with fail
  refine (long_call a _ n c 0 0 L (fun _ => 0) _ HM0.out lens_nil).mono ?_
  rintro e w1 ⟨r, rfl, rfl, -⟩
  cases r with
  | true =>
    go_wp2_with fail
    refine (awake_call _).mono ?_; rintro e w1 ⟨rfl, hb⟩
    go_wp2_with fail
    go_ret
    exact bPost_of rfl hb
  | false =>
    go_wp2_with fail
    refine (pCheck_call a n c L _ HM0.out).mono ?_
    rintro e w1 ⟨rfl, hb⟩
    have K := Lib.hid hb
    clear hb
    by_cases hE : chM L = 0
    · have HE := Lib.hid hE
      rw [hE]
      have HM := Lib.hid (Ma.of HM0.out hE)
      have m16 := HM.out.m16
      clear hE
      go_wp2_with fail
      refine (awake_call _).mono ?_; rintro e w2 ⟨rfl, hb⟩
      replace K := Lib.hid (K.out.trans (hb.mono K.out.size))
      clear hb
      go_wp2_with fail
      refine (best_call a n c L _ (HM0.out.below K.out)).mono ?_
      rintro e w3 ⟨v, rfl, hO, hb⟩
      rw [HE.out]
      obtain ⟨al, cl, rfl, hP⟩ := prsOwn hO (by have := bsL_len (L := L); omega)
      obtain ⟨nl, hnl⟩ : ∃ x, (bsL L).length = x := ⟨_, rfl⟩
      rw [hnl] at hP ⊢
      replace K := Lib.hid (And.intro (K.out.trans (hb.mono K.out.size)) hP)
      have HNL := Lib.hid hnl
      clear hO hb hP hnl
      have hw1 : IntKind.i64.wrap (1 + x) = 1 + x := IntWalk.i64_in _ (by omega)
      have hw2 : IntKind.i64.wrap x = x := IntWalk.i64_in _ (by omega)
      have hw3 : IntKind.i64.wrap y = y := IntWalk.i64_in _ (by omega)
      go_wp2_with fail
      refine (changed_call a n c (wid L) L (1 + x) y _ (HM.out.keep K.out.1) (by omega) (by omega) y0 y1).mono ?_
      rintro e w4 ⟨v, vs, Lc, rfl, hO, hC, hb⟩
      obtain ⟨ao, co, rfl, hMo⟩ := hO.mtx (by rw [hC.len]; have := HM0.out.bound; omega) (fun i hi => by rw [hC.len] at hi; rw [hC.row i hi]; omega)
      rw [hC.len] at hMo ⊢
      have hcb := ch_best HE.out HM0.out.len rfl m16 (by omega) y0 hC
      have HCB := Lib.hid hcb
      have K2 := Lib.hid (And.intro (K.out.1.trans (hb.mono K.out.1.size)) (And.intro (K.out.2.below hb) hMo))
      clear hO hC hb hMo hcb K
      go_wp2_with fail
      refine (best_call ao n co Lc _ K2.out.2.2).mono ?_
      rintro e w5 ⟨v, rfl, hO, hb⟩
      obtain ⟨am, cm, rfl, hP⟩ := prsOwn hO (by have := bsL_len (L := Lc); omega)
      have K := Lib.hid (And.intro (K2.out.1.trans (hb.mono K2.out.1.size)) (And.intro (K2.out.2.1.below hb) hP))
      clear hO hb hP K2
      rcases HCB.out with h1 | ⟨h1, h2⟩
      · rw [h1]
        go_wp2_with fail
        go_ret
        exact bPost_of rfl K.out.1
      · rw [h1]
        rw [h2, HNL.out] at K ⊢
        go_wp2_with fail
        refine (equalPairs_call al am nl nl cl cm (bsL L) (bsL L) _ K.out.2.1 K.out.2.2).mono ?_
        rintro e w6 ⟨rfl, hb⟩
        rw [decide_eq_true (rfl : bsL L = bsL L)]
        replace K := Lib.hid (K.out.1.trans (hb.mono K.out.1.size))
        clear hb
        go_wp2_with fail
        go_ret
        exact bPost_of rfl K.out
    · have hne : (chM L != 0) = true := by rw [bne_iff_ne]; exact hE
      obtain ⟨E, hE2⟩ : ∃ E, chM L = E := ⟨_, rfl⟩
      rw [hE2] at hne ⊢
      clear hE hE2
      go_wp2_with fail
      refine (awake_call _).mono ?_; rintro e w2 ⟨rfl, hb⟩
      go_wp2_with fail
      go_ret
      exact bPost_of rfl (K.out.trans (hb.mono K.out.size))
end Go.Proofs.Ytbehpkggmomgeaa
