/-
  Layer 38 (rules): the separation, in the program.
-/
import Derived.Test.YtfgalaalopkclaaRulesB
import Derived.Test.YtfgalaalopkclaaPilotC
import Derived.Test.YtfgalaalopkclaaPlaneD
import Derived.Laws.Tables
import Derived.Test.YtfgalaalopkclaaStoreLib
namespace Go.Proofs.Ytfgalaalopkclaa
open Go.RowKit PlaneMath PilotMath RulesMath MyHeap

theorem three_old' {w : World} {b : Nat} {c0 c1 c2 : Value} {T : TypeId} (h : w.heap[b]? = some (.cells #[c0, c1, c2] T (0, 0))) : w.cell? ⟨b, 0, none⟩ = some c0 ∧ w.cell? ⟨b, 1, none⟩ = some c1 ∧ w.cell? ⟨b, 2, none⟩ = some c2 := ⟨cell_of_block h rfl, cell_of_block h rfl, cell_of_block h rfl⟩
/-- In separation: the scene, the advisory, the own state, and nothing of w0 written. -/
def SpK (w0 : World) (C : Array Value) (x : Adv) (bp : Nat) (p : Int × Int) (w : World) : Prop :=
  w.heap[w0.heap.size]? = some (.cells C 76 (0, 0)) ∧ w.heap[w0.heap.size + 1]? = some (.cells #[.int .u8 x.s, .int .i64 x.r, .bool x.k] 30 (0, 0)) ∧ w.heap[bp]? = some (.cells #[.int .i64 p.1, .int .i64 p.2] 26 (0, 0)) ∧ w0.heap.size + 1 < bp ∧ Below w0.heap.size w0 w
section
variable {w0 w w' : World} {C : Array Value} {x : Adv} {bp : Nat} {p p' : Int × Int}
theorem SpK.keep (h : SpK w0 C x bp p w) (hb : Below w.heap.size w w') : SpK w0 C x bp p w' := ⟨keepO hb h.1, keepO hb h.2.1, keepO hb h.2.2.1, h.2.2.2.1, h.2.2.2.2.trans (hb.mono h.2.2.2.2.size)⟩
theorem SpK.store (h : SpK w0 C x bp p w) (hS : w'.heap[bp]? = some (.cells #[.int .i64 p'.1, .int .i64 p'.2] 26 (0, 0))) (hO : Only bp w w') : SpK w0 C x bp p' w' :=
  ⟨hO.keeps h.1 (by have := h.2.2.2.1; omega), hO.keeps h.2.1 (by have := h.2.2.2.1; omega), hS, h.2.2.2.1, h.2.2.2.2.trans (hO.below (by have := h.2.2.2.1; omega) h.2.2.2.2.size)⟩
end
theorem fly_nxt {z v lo hi pull : Int} (hs : stB z v = true) (hb : bdB lo hi = true) (h0 : 0 ≤ pull) (h1 : pull ≤ 32) : flyZ z v lo hi pull = nxtZ z v ∧ flyV z v lo hi pull = nxtV z v lo hi pull := by
  have hfb : flyB z v lo hi pull = true := by
    unfold flyB
    rw [hs, hb]
    simp; omega
  exact ⟨(fly_yes hfb).1, (fly_yes hfb).2.1⟩
theorem stE_B {z v : Int} (h : stE z v = 0) : stB z v = true := by
  cases hb : stB z v with
  | true => rfl
  | false => unfold stE at h; rw [hb] at h; exact absurd h (by decide)
theorem sp_lo (s : RulesMath.Set) (lo hi : Int) {k : Nat} {z v : Int} (h : (k : Int) < s.d) : sp s lo hi (k + 1) z v = (nxtZ (sp s lo hi k z v).1 (sp s lo hi k z v).2, nxtV (sp s lo hi k z v).1 (sp s lo hi k z v).2 (-100) 100 s.pl) := by rw [sp_succ, if_pos h, if_pos h]
theorem sp_hi (s : RulesMath.Set) (lo hi : Int) {k : Nat} {z v : Int} (h : ¬ (k : Int) < s.d) : sp s lo hi (k + 1) z v = (nxtZ (sp s lo hi k z v).1 (sp s lo hi k z v).2, nxtV (sp s lo hi k z v).1 (sp s lo hi k z v).2 lo hi s.pl) := by rw [sp_succ, if_neg h, if_neg h]
theorem mul_bd {t v' : Int} (h0 : 0 ≤ t) (h1 : t ≤ 120) (h2 : -100 ≤ v') (h3 : v' ≤ 100) : -12000 ≤ t * v' ∧ t * v' ≤ 12000 := by
  have a := Int.mul_le_mul_of_nonneg_left h2 h0
  have b := Int.mul_le_mul_of_nonneg_left h3 h0
  omega

set_option maxRecDepth 100000 in
set_option maxHeartbeats 8000000 in
theorem psep_call (a : Option Addr) (n c : Nat) (s : RulesMath.Set) (z v z' v' tI fl k : Int) (x : Adv) (w : World) (hs : stB z v = true) (ho : stB z' v' = true) (ht : 0 ≤ tI ∧ tI ≤ 120) (hx : 0 ≤ x.s) (hE : bndE x = 0) (hp : 0 ≤ s.pl ∧ s.pl ≤ 32) :
    Calls Try.prog 35 #[scnV a n c s z v z' v' tI fl k, .agg #[.int .u8 x.s, .int .i64 x.r, .bool x.k]] w (EPost (sepV s z v z' v' x tI) w) := by
  obtain ⟨t, rfl⟩ : ∃ q : Nat, tI = (q : Int) := ⟨tI.toNat, by omega⟩
  obtain ⟨ht0, ht1⟩ := ht
  obtain ⟨hp0, hp1⟩ := hp
  have HS := Lib.hid hs
  have HBd := Lib.hid (bnd_ok hE)
  obtain ⟨o1, o2, o3, o4⟩ := stB_iff.1 ho
  have HX := Lib.hid hx
  clear hs ho hx hE
  unfold scnV
  go_enter Try.func35, Try.ntmps35
  go_wp2_with fail
  refine (Bounds_call x _ HX.out).mono ?_; rintro e w1 ⟨rfl, hb1⟩
  have k0 := keepO hb1 (block_alloc (block_new w (.cells (scnC a n c s z v z' v' t fl k) 76) rfl))
  have k1 := keepO hb1 (block_new (w.alloc (.cells (scnC a n c s z v z' v' t fl k) 76)) (.cells #[.int .u8 x.s, .int .i64 x.r, .bool x.k] 30) (n := w.heap.size + 1) (by simp))
  have hB : Below w.heap.size w w1 := ((below_alloc _ _).alloc (by simp) _).trans (hb1.mono (by simp; omega))
  have hK0 : SpK w (scnC a n c s z v z' v' t fl k) x w1.heap.size (sp s (bndL x) (bndH x) 0 z v) (w1.alloc (.cells #[.int .i64 z, .int .i64 v] 26)) :=
    ⟨block_alloc k0, block_alloc k1, block_new _ _ rfl, lt_of_block k1, hB.alloc hB.size _⟩
  have HK0 := Lib.hid hK0
  have hz1 := lt_of_block k1
  have hz0 := lt_of_block k0
  obtain ⟨_, _, _, _, y4, y5, _, _, y8, _, _⟩ := eleven k0
  clear k0 k1 hB hb1 hK0
  go_wp2_with fail
  clear y4 y5 y8
  generalize w1.heap.size = bp at *
  go_loopw [21] (fun kv wr => ∃ j : Nat, j ≤ t ∧ kv = .int .i64 j ∧ SpK w (scnC a n c s z v z' v' t fl k) x bp (sp s (bndL x) (bndH x) j z v) wr) (fun kv _ => t - (intOf kv).toNat)
  case atStart => exact ⟨0, by omega, rfl, HK0.out⟩
  case round =>
    obtain ⟨j, hj, rfl, hK⟩ := hrel
    clear HK0
    have HK := Lib.hid hK
    obtain ⟨_, _, y2, y3, y4, y5, y6, y7, y8, _, _⟩ := eleven hK.1
    obtain ⟨x0, x1, _, _⟩ := two_old hK.2.2.1
    obtain ⟨a0, a1, a2⟩ := three_old' hK.2.1
    have hst := Lib.hid (sp_st HBd.out hp0 HS.out j)
    clear hK
    by_cases hlt : j < t
    · have hj0 : (0 : Int) ≤ (j : Int) := by omega
      have hj1 : (j : Int) < (t : Int) := by omega
      by_cases hd : (j : Int) < s.d
      · have d1 : decide ((j : Int) < s.d) = true := decide_eq_true hd
        have HN := Lib.hid (sp_lo s (bndL x) (bndH x) (z := z) (v := v) hd)
        clear hd
        generalize hpp : sp s (bndL x) (bndH x) j z v = pp at *
        generalize hpq : sp s (bndL x) (bndH x) (j + 1) z v = pq at *
        have HP := Lib.hid (And.intro hpp hpq)
        clear hpp hpq
        go_wp2_with fail
        refine (Fly_call _ _ _ _ _ _).mono ?_; rintro e w4 ⟨rfl, hb4⟩
        have hf := fly_nxt (lo := -100) (hi := 100) hst.out (by decide) hp0 hp1
        rw [hf.1, hf.2, show nxtZ pp.1 pp.2 = pq.1 by rw [HN.out], show nxtV pp.1 pp.2 (-100) 100 s.pl = pq.2 by rw [HN.out]]
        have H4 := Lib.hid (HK.out.keep hb4)
        clear hf hb4 y2 y3 y4 y5 y6 y7 y8 x0 x1 a0 a1 a2
        go_wp2_with (refine wpList_store_new rfl 26 (.tmp 8) (.tmp 35) rfl bp #[.int .i64 pq.1, .int .i64 pq.2] rfl rfl 26 _ H4.out.2.2.1 (by kernel_rfl) rfl (by simp [Value.oneCell']) ?_; intro w8 H8)
        have H9 := Lib.hid (H4.out.store H8.out.1 H8.out.2)
        clear H8
        go_roundw
        case rel => exact ⟨j + 1, by omega, by go_num, by rw [HP.out.2]; exact H9.out⟩
        case measure => simp [intOf]; omega
      · have d1 : decide ((j : Int) < s.d) = false := decide_eq_false hd
        have HN := Lib.hid (sp_hi s (bndL x) (bndH x) (z := z) (v := v) hd)
        clear hd
        generalize hpp : sp s (bndL x) (bndH x) j z v = pp at *
        generalize hpq : sp s (bndL x) (bndH x) (j + 1) z v = pq at *
        have HP := Lib.hid (And.intro hpp hpq)
        clear hpp hpq
        go_wp2_with fail
        refine (Fly_call _ _ _ _ _ _).mono ?_; rintro e w4 ⟨rfl, hb4⟩
        have hf := fly_nxt (lo := bndL x) (hi := bndH x) hst.out HBd.out hp0 hp1
        rw [hf.1, hf.2, show nxtZ pp.1 pp.2 = pq.1 by rw [HN.out], show nxtV pp.1 pp.2 (bndL x) (bndH x) s.pl = pq.2 by rw [HN.out]]
        have H4 := Lib.hid (HK.out.keep hb4)
        clear hf hb4 y2 y3 y4 y5 y6 y7 y8 x0 x1 a0 a1 a2
        go_wp2_with (refine wpList_store_new rfl 26 (.tmp 8) (.tmp 45) rfl bp #[.int .i64 pq.1, .int .i64 pq.2] rfl rfl 26 _ H4.out.2.2.1 (by kernel_rfl) rfl (by simp [Value.oneCell']) ?_; intro w8 H8)
        have H9 := Lib.hid (H4.out.store H8.out.1 H8.out.2)
        clear H8
        go_roundw
        case rel => exact ⟨j + 1, by omega, by go_num, by rw [HP.out.2]; exact H9.out⟩
        case measure => simp [intOf]; omega
    · obtain rfl : j = t := by omega
      have hst' := stB_iff.1 hst.out
      obtain ⟨q1, q2, q3, q4⟩ := hst'
      generalize hpp : sp s (bndL x) (bndH x) j z v = pp at *
      have HP := Lib.hid hpp
      clear hpp
      obtain ⟨T, hT⟩ : ∃ T : Int, (j : Int) * v' = T := ⟨_, rfl⟩
      have hTb := mul_bd ht0 ht1 o3 o4
      rw [hT] at hTb
      obtain ⟨hT0, hT1⟩ := hTb
      have HB := Lib.hid HK.out.2.2.2.2
      have HV := Lib.hid (show sepV s z v z' v' x (j : Int) = if x.s = 2 then -(pp.1 - min (max (z' + T) (-1000)) 50000) else pp.1 - min (max (z' + T) (-1000)) 50000 by unfold sepV othZ; rw [Int.toNat_natCast, HP.out, hT])
      have hcl : ∀ M : Int, M = min (max (z' + T) (-1000)) 50000 → sepV s z v z' v' x (j : Int) = if x.s = 2 then -(pp.1 - M) else pp.1 - M := fun M hM => by rw [hM]; exact HV
      have HC := Lib.hid hcl
      clear hcl HV
      by_cases h2 : x.s = 2
      · have d2 : (x.s == 2) = true := by simp [h2]
        by_cases m1 : z' + T < -1000
        · have HE := Lib.hid (HC.out (-1000) (by omega))
          rw [if_pos h2] at HE; clear h2
          go_wp2
          go_ret
          exact ePost_of HE.out HB.out
        · by_cases m2 : 50000 < z' + T
          · have HE := Lib.hid (HC.out 50000 (by omega))
            rw [if_pos h2] at HE; clear h2
            go_wp2
            go_ret
            exact ePost_of HE.out HB.out
          · have HE := Lib.hid (HC.out (z' + T) (by omega))
            have m3 : -1000 ≤ z' + T := by omega
            have m4 : z' + T ≤ 50000 := by omega
            rw [if_pos h2] at HE; clear h2
            go_wp2
            go_ret
            exact ePost_of HE.out HB.out
      · have d2 : (x.s == 2) = false := by simp [h2]
        by_cases m1 : z' + T < -1000
        · have HE := Lib.hid (HC.out (-1000) (by omega))
          rw [if_neg h2] at HE; clear h2
          go_wp2
          go_ret
          exact ePost_of HE.out HB.out
        · by_cases m2 : 50000 < z' + T
          · have HE := Lib.hid (HC.out 50000 (by omega))
            rw [if_neg h2] at HE; clear h2
            go_wp2
            go_ret
            exact ePost_of HE.out HB.out
          · have HE := Lib.hid (HC.out (z' + T) (by omega))
            have m3 : -1000 ≤ z' + T := by omega
            have m4 : z' + T ≤ 50000 := by omega
            rw [if_neg h2] at HE; clear h2
            go_wp2
            go_ret
            exact ePost_of HE.out HB.out
end Go.Proofs.Ytfgalaalopkclaa
