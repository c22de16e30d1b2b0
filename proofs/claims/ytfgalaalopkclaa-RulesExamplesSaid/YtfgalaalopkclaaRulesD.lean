/-
  Layer 38 (rules): the separation, in the reference.
-/
import Derived.Test.YtfgalaalopkclaaRulesC
namespace Go.Proofs.Ytfgalaalopkclaa
open Go.RowKit PlaneMath PilotMath RulesMath MyHeap

/-- In the reference's separation: the setting, the other state, the advisory, the own state, and nothing of w0 written. -/
def SpR (w0 : World) (C : Array Value) (z' v' : Int) (x : Adv) (bp : Nat) (p : Int × Int) (w : World) : Prop :=
  w.heap[w0.heap.size]? = some (.cells C 34 (0, 0)) ∧ w.heap[w0.heap.size + 2]? = some (.cells #[.int .i64 z', .int .i64 v'] 26 (0, 0)) ∧ w.heap[w0.heap.size + 3]? = some (.cells #[.int .u8 x.s, .int .i64 x.r, .bool x.k] 30 (0, 0)) ∧ w.heap[bp]? = some (.cells #[.int .i64 p.1, .int .i64 p.2] 26 (0, 0)) ∧ w0.heap.size + 3 < bp ∧ Below w0.heap.size w0 w
section
variable {w0 w w' : World} {C : Array Value} {z' v' : Int} {x : Adv} {bp : Nat} {p p' : Int × Int}
theorem SpR.keep (h : SpR w0 C z' v' x bp p w) (hb : Below w.heap.size w w') : SpR w0 C z' v' x bp p w' := ⟨keepO hb h.1, keepO hb h.2.1, keepO hb h.2.2.1, keepO hb h.2.2.2.1, h.2.2.2.2.1, h.2.2.2.2.2.trans (hb.mono h.2.2.2.2.2.size)⟩
theorem SpR.store (h : SpR w0 C z' v' x bp p w) (hS : w'.heap[bp]? = some (.cells #[.int .i64 p'.1, .int .i64 p'.2] 26 (0, 0))) (hO : Only bp w w') : SpR w0 C z' v' x bp p' w' :=
  ⟨hO.keeps h.1 (by have := h.2.2.2.2.1; omega), hO.keeps h.2.1 (by have := h.2.2.2.2.1; omega), hO.keeps h.2.2.1 (by have := h.2.2.2.2.1; omega), hS, h.2.2.2.2.1, h.2.2.2.2.2.trans (hO.below (by have := h.2.2.2.2.1; omega) h.2.2.2.2.2.size)⟩
end

set_option maxRecDepth 100000 in
set_option maxHeartbeats 8000000 in
theorem rsep_call (a : Option Addr) (n c : Nat) (s : RulesMath.Set) (z v z' v' tI : Int) (x : Adv) (w : World) (hs : stB z v = true) (ho : stB z' v' = true) (ht : 0 ≤ tI ∧ tI ≤ 120) (hx : 0 ≤ x.s) (hE : bndE x = 0) (hp : 0 ≤ s.pl ∧ s.pl ≤ 32) :
    Calls Try.prog 38 #[setV a n c s, .agg #[.int .i64 z, .int .i64 v], .agg #[.int .i64 z', .int .i64 v'], .agg #[.int .u8 x.s, .int .i64 x.r, .bool x.k], .int .i64 tI] w (EPost (sepV s z v z' v' x tI) w) := by
  obtain ⟨t, rfl⟩ : ∃ q : Nat, tI = (q : Int) := ⟨tI.toNat, by omega⟩
  obtain ⟨ht0, ht1⟩ := ht
  obtain ⟨hp0, hp1⟩ := hp
  have HS := Lib.hid hs
  have HBd := Lib.hid (bnd_ok hE)
  obtain ⟨o1, o2, o3, o4⟩ := stB_iff.1 ho
  have HX := Lib.hid hx
  clear hs ho hx hE
  unfold setV
  go_enter Try.func38, Try.ntmps38
  go_wp2_with fail
  refine (refBounds_call x _ HX.out).mono ?_; rintro e w1 ⟨rfl, hb1⟩
  have k0 := keepO hb1 (block_alloc (block_alloc (block_alloc (block_new w (.cells (setC a n c s) 34) rfl))))
  have k1 := keepO hb1 (block_alloc (block_alloc (block_new (w.alloc (.cells (setC a n c s) 34)) (.cells #[.int .i64 z, .int .i64 v] 26) (n := w.heap.size + 1) (by simp))))
  have k2 := keepO hb1 (block_alloc (block_new ((w.alloc (.cells (setC a n c s) 34)).alloc (.cells #[.int .i64 z, .int .i64 v] 26)) (.cells #[.int .i64 z', .int .i64 v'] 26) (n := w.heap.size + 2) (by simp)))
  have k3 := keepO hb1 (block_new (((w.alloc (.cells (setC a n c s) 34)).alloc (.cells #[.int .i64 z, .int .i64 v] 26)).alloc (.cells #[.int .i64 z', .int .i64 v'] 26)) (.cells #[.int .u8 x.s, .int .i64 x.r, .bool x.k] 30) (n := w.heap.size + 3) (by simp))
  have hB : Below w.heap.size w w1 := ((((below_alloc _ _).alloc (by simp) _).alloc (by simp; omega) _).alloc (by simp; omega) _).trans (hb1.mono (by simp; omega))
  have hK0 : SpR w (setC a n c s) z' v' x w1.heap.size (sp s (bndL x) (bndH x) 0 z v) (w1.alloc (.cells #[.int .i64 z, .int .i64 v] 26)) :=
    ⟨block_alloc k0, block_alloc k2, block_alloc k3, block_new _ _ rfl, lt_of_block k3, hB.alloc hB.size _⟩
  have HK0 := Lib.hid hK0
  obtain ⟨y4, y5, _, _⟩ := two_old k1
  clear k0 k1 k2 k3 hB hb1 hK0
  go_wp2_with fail
  clear y4 y5
  generalize w1.heap.size = bp at *
  go_loopw [15] (fun kv wr => ∃ j : Nat, j ≤ t ∧ kv = .int .i64 j ∧ SpR w (setC a n c s) z' v' x bp (sp s (bndL x) (bndH x) j z v) wr) (fun kv _ => t - (intOf kv).toNat)
  case atStart => exact ⟨0, by omega, rfl, HK0.out⟩
  case round =>
    obtain ⟨j, hj, rfl, hK⟩ := hrel
    clear HK0
    have HK := Lib.hid hK
    obtain ⟨_, _, y2, y3⟩ := four_cells hK.1
    obtain ⟨x0, x1, _, _⟩ := two_old hK.2.2.2.1
    obtain ⟨y6, y7, _, _⟩ := two_old hK.2.1
    obtain ⟨a0, a1, a2⟩ := three_old' hK.2.2.1
    have hst := Lib.hid (sp_st HBd.out hp0 HS.out j)
    clear hK
    by_cases hlt : j < t
    · have hj0 : (0 : Int) ≤ (j : Int) := by omega
      have hj1 : (j : Int) < (t : Int) := by omega
      by_cases hd : (j : Int) < s.d
      · have d1 : decide ((j : Int) < s.d) = true := decide_eq_true hd
        have HN := Lib.hid (sp_lo s (bndL x) (bndH x) (z := z) (v := v) hd)
        clear hd
        generalize hpp : sp s (bndL x) (bndH x) j z v = pp at *
        generalize hpq : sp s (bndL x) (bndH x) (j + 1) z v = pq at *
        have HP := Lib.hid (And.intro hpp hpq)
        clear hpp hpq
        go_wp2_with fail
        refine (refFly_call _ _ _ _ _ _).mono ?_; rintro e w4 ⟨rfl, hb4⟩
        have hf := fly_nxt (lo := -100) (hi := 100) hst.out (by decide) hp0 hp1
        rw [hf.1, hf.2, show nxtZ pp.1 pp.2 = pq.1 by rw [HN.out], show nxtV pp.1 pp.2 (-100) 100 s.pl = pq.2 by rw [HN.out]]
        have H4 := Lib.hid (HK.out.keep hb4)
        clear hf hb4 y2 y3 y6 y7 x0 x1 a0 a1 a2
        go_wp2_with (refine wpList_store_new rfl 26 (.tmp 14) (.tmp 38) rfl bp #[.int .i64 pq.1, .int .i64 pq.2] rfl rfl 26 _ H4.out.2.2.2.1 (by kernel_rfl) rfl (by simp [Value.oneCell']) ?_; intro w8 H8)
        have H9 := Lib.hid (H4.out.store H8.out.1 H8.out.2)
        clear H8
        go_roundw
        case rel => exact ⟨j + 1, by omega, by go_num, by rw [HP.out.2]; exact H9.out⟩
        case measure => simp [intOf]; omega
      · have d1 : decide ((j : Int) < s.d) = false := decide_eq_false hd
        have HN := Lib.hid (sp_hi s (bndL x) (bndH x) (z := z) (v := v) hd)
        clear hd
        generalize hpp : sp s (bndL x) (bndH x) j z v = pp at *
        generalize hpq : sp s (bndL x) (bndH x) (j + 1) z v = pq at *
        have HP := Lib.hid (And.intro hpp hpq)
        clear hpp hpq
        go_wp2_with fail
        refine (refFly_call _ _ _ _ _ _).mono ?_; rintro e w4 ⟨rfl, hb4⟩
        have hf := fly_nxt (lo := bndL x) (hi := bndH x) hst.out HBd.out hp0 hp1
        rw [hf.1, hf.2, show nxtZ pp.1 pp.2 = pq.1 by rw [HN.out], show nxtV pp.1 pp.2 (bndL x) (bndH x) s.pl = pq.2 by rw [HN.out]]
        have H4 := Lib.hid (HK.out.keep hb4)
        clear hf hb4 y2 y3 y6 y7 x0 x1 a0 a1 a2
        go_wp2_with (refine wpList_store_new rfl 26 (.tmp 14) (.tmp 47) rfl bp #[.int .i64 pq.1, .int .i64 pq.2] rfl rfl 26 _ H4.out.2.2.2.1 (by kernel_rfl) rfl (by simp [Value.oneCell']) ?_; intro w8 H8)
        have H9 := Lib.hid (H4.out.store H8.out.1 H8.out.2)
        clear H8
        go_roundw
        case rel => exact ⟨j + 1, by omega, by go_num, by rw [HP.out.2]; exact H9.out⟩
        case measure => simp [intOf]; omega
    · obtain rfl : j = t := by omega
      have hst' := stB_iff.1 hst.out
      obtain ⟨q1, q2, q3, q4⟩ := hst'
      generalize hpp : sp s (bndL x) (bndH x) j z v = pp at *
      have HP := Lib.hid hpp
      clear hpp
      obtain ⟨T, hT⟩ : ∃ T : Int, (j : Int) * v' = T := ⟨_, rfl⟩
      have hTb := mul_bd ht0 ht1 o3 o4
      rw [hT] at hTb
      obtain ⟨hT0, hT1⟩ := hTb
      have HB := Lib.hid HK.out.2.2.2.2.2
      have HV := Lib.hid (show sepV s z v z' v' x (j : Int) = if x.s = 2 then -(pp.1 - min (max (z' + T) (-1000)) 50000) else pp.1 - min (max (z' + T) (-1000)) 50000 by unfold sepV othZ; rw [Int.toNat_natCast, HP.out, hT])
      have hcl : ∀ M : Int, M = min (max (z' + T) (-1000)) 50000 → sepV s z v z' v' x (j : Int) = if x.s = 2 then -(pp.1 - M) else pp.1 - M := fun M hM => by rw [hM]; exact HV
      have HC := Lib.hid hcl
      clear hcl HV
      by_cases h2 : x.s = 2
      · have d2 : (x.s == 2) = true := by simp [h2]
        by_cases m1 : z' + T < -1000
        · have HE := Lib.hid (HC.out (-1000) (by omega))
          rw [if_pos h2] at HE; clear h2
          go_wp2
          go_ret
          exact ePost_of HE.out HB.out
        · by_cases m2 : 50000 < z' + T
          · have HE := Lib.hid (HC.out 50000 (by omega))
            rw [if_pos h2] at HE; clear h2
            go_wp2
            go_ret
            exact ePost_of HE.out HB.out
          · have HE := Lib.hid (HC.out (z' + T) (by omega))
            have m3 : -1000 ≤ z' + T := by omega
            have m4 : z' + T ≤ 50000 := by omega
            rw [if_pos h2] at HE; clear h2
            go_wp2
            go_ret
            exact ePost_of HE.out HB.out
      · have d2 : (x.s == 2) = false := by simp [h2]
        by_cases m1 : z' + T < -1000
        · have HE := Lib.hid (HC.out (-1000) (by omega))
          rw [if_neg h2] at HE; clear h2
          go_wp2
          go_ret
          exact ePost_of HE.out HB.out
        · by_cases m2 : 50000 < z' + T
          · have HE := Lib.hid (HC.out 50000 (by omega))
            rw [if_neg h2] at HE; clear h2
            go_wp2
            go_ret
            exact ePost_of HE.out HB.out
          · have HE := Lib.hid (HC.out (z' + T) (by omega))
            have m3 : -1000 ≤ z' + T := by omega
            have m4 : z' + T ≤ 50000 := by omega
            rw [if_neg h2] at HE; clear h2
            go_wp2
            go_ret
            exact ePost_of HE.out HB.out
end Go.Proofs.Ytfgalaalopkclaa
