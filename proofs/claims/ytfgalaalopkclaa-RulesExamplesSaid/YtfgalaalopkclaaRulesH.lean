/-
  Layer 38 (rules): the reference's best and enough.
-/
import Derived.Test.YtfgalaalopkclaaRulesG
namespace Go.Proofs.Ytfgalaalopkclaa
open Go.RowKit PlaneMath PilotMath RulesMath MyHeap MyOwn MyCopy

/-- In the reference: the setting, both states, and nothing of w0 written. -/
def RfK (w0 : World) (C : Array Value) (z v z' v' : Int) (w : World) : Prop :=
  w.heap[w0.heap.size]? = some (.cells C 34 (0, 0)) ∧ w.heap[w0.heap.size + 1]? = some (.cells #[.int .i64 z, .int .i64 v] 26 (0, 0)) ∧ w.heap[w0.heap.size + 2]? = some (.cells #[.int .i64 z', .int .i64 v'] 26 (0, 0)) ∧ Below w0.heap.size w0 w
section
variable {w0 w w' : World} {C : Array Value} {z v z' v' : Int}
theorem RfK.keep (h : RfK w0 C z v z' v' w) (hb : Below w.heap.size w w') : RfK w0 C z v z' v' w' := ⟨keepO hb h.1, keepO hb h.2.1, keepO hb h.2.2.1, h.2.2.2.trans (hb.mono h.2.2.2.size)⟩
theorem RfK.only (h : RfK w0 C z v z' v' w) {b : Nat} (hO : Only b w w') (hb : w0.heap.size + 2 < b) : RfK w0 C z v z' v' w' := ⟨hO.keeps h.1 (by omega), hO.keeps h.2.1 (by omega), hO.keeps h.2.2.1 (by omega), h.2.2.2.trans (hO.below (by omega) h.2.2.2.size)⟩
end
theorem advs_cells3 {w : World} {b off n : Nat} {l : List Adv} (h : Advs w (some ⟨b, off, none⟩) n l) {k : Nat} (hk : k < n) : w.cell? ⟨b, off + k * 3, none⟩ = some (.int .u8 (ga l k).s) ∧ w.cell? ⟨b, off + k * 3 + 1, none⟩ = some (.int .i64 (ga l k).r) ∧ w.cell? ⟨b, off + k * 3 + 2, none⟩ = some (.bool (ga l k).k) := by
  obtain ⟨b', off', e, h0, h1, h2⟩ := advs_at h hk
  cases e
  exact ⟨h0, h1, h2⟩
theorem lst_s {s : RulesMath.Set} {g : Int} (hg : g = 1 ∨ g = 2) (k : Nat) : 0 ≤ (ga (lstL s g) k).s := by
  unfold ga lstL
  rcases Nat.lt_or_ge k ((⟨g, 0, true⟩ :: s.rs.map fun r => (⟨g, r, false⟩ : Adv)).length) with h | h
  · rw [List.getElem?_eq_getElem h]
    have := List.getElem_mem h
    rcases List.mem_cons.1 this with e | e
    · simp [e]; omega
    · obtain ⟨r, _, e⟩ := List.mem_map.1 e
      simp only [← e, Option.getD_some]; omega
  · rw [List.getElem?_eq_none h]; decide

set_option maxRecDepth 100000 in
set_option maxHeartbeats 4000000 in
theorem rbest_call (a : Option Addr) (n c : Nat) (s : RulesMath.Set) (z v z' v' t g : Int) (w : World) (h : Ints w a n s.rs) (hok : ScOk s z v z' v' t) (hg : g = 1 ∨ g = 2) :
    Calls Try.prog 41 #[setV a n c s, .agg #[.int .i64 z, .int .i64 v], .agg #[.int .i64 z', .int .i64 v'], .int .u8 g, .int .i64 t] w (EPost (bestV s z v z' v' g t) w) := by
  have hn := set_pl hok.set
  have hl := h.len
  have HN := Lib.hid hn
  have HL := Lib.hid h
  have HLen := Lib.hid hl
  have HO := Lib.hid hok
  have HG := Lib.hid hg
  have hn8 : n ≤ 8 := by omega
  have hn1 : 1 ≤ n := by omega
  clear hn hl h hok hg
  unfold setV
  go_enter Try.func41, Try.ntmps41
  go_wp2_with fail
  have hK0 : RfK w (setC a n c s) z v z' v' (((w.alloc (.cells (setC a n c s) 34)).alloc (.cells #[.int .i64 z, .int .i64 v] 26)).alloc (.cells #[.int .i64 z', .int .i64 v'] 26)) :=
    ⟨block_alloc (block_alloc (block_new _ _ rfl)), block_alloc (block_new _ _ (by simp)), block_new _ _ (by simp), ((below_alloc _ _).alloc (by simp) _).alloc (by simp; omega) _⟩
  have HK0 := Lib.hid hK0
  clear hK0
  refine (rlist_call a n c s g _ (HL.out.below HK0.out.2.2.2) (by omega)).mono ?_
  rintro e w1 ⟨aL, cL, rfl, hA, hb1⟩
  have HK := Lib.hid (And.intro (HK0.out.keep hb1) hA)
  clear hA hb1 HK0
  obtain ⟨b, off, rfl, x0, x1, x2⟩ := advs_at HK.out.2 (k := n) (by omega)
  have hlast : ga (lstL s g) n = lastA s g := by have := lst_last s g (by have := HN.out; omega); rwa [HLen.out] at this
  have HA := Lib.hid hlast
  clear hlast
  obtain ⟨y0, y1, y2, y3⟩ := four_cells HK.out.1.1
  obtain ⟨p0, p1, _, _⟩ := two_old HK.out.1.2.1
  obtain ⟨q0, q1, _, _⟩ := two_old HK.out.1.2.2.1
  have hj0 : (0 : Int) ≤ (n : Int) := by omega
  have hj1 : (n : Int) < (n : Int) + 1 := by omega
  have hj2 : IntKind.i64.wrap ((n : Int) + 1 - 1) = (n : Int) := by rw [Int.add_sub_cancel]; exact IntWalk.i64_in _ (by omega)
  have hj3 : IntKind.i64.wrap (n : Int) = (n : Int) := IntWalk.i64_in _ (by omega)
  go_wp2_with fail
  have K : RfK w (setC a n c s) z v z' v' w1.drew := HK.out.1.keep (Below.refl _ _).drew
  have A : Advs w1.drew (some ⟨b, off, none⟩) (n + 1) (lstL s g) := HK.out.2.below (Below.refl _ _).drew
  clear x0 x1 x2 y0 y1 y2 y3 p0 p1 q0 q1 HK
  go_region_held3 (fun w' => (w'.cell? ⟨w.heap.size, 0, none⟩ = some (.slice a n c) ∧ w'.cell? ⟨w.heap.size, 1, none⟩ = some (.int .i64 s.alim) ∧ w'.cell? ⟨w.heap.size, 2, none⟩ = some (.int .i64 s.d) ∧ w'.cell? ⟨w.heap.size, 3, none⟩ = some (.int .i64 s.pl)) ∧ (w'.cell? ⟨w.heap.size + 1, 0, none⟩ = some (.int .i64 z) ∧ w'.cell? ⟨w.heap.size + 1, 1, none⟩ = some (.int .i64 v)) ∧ (w'.cell? ⟨w.heap.size + 1 + 1, 0, none⟩ = some (.int .i64 z') ∧ w'.cell? ⟨w.heap.size + 1 + 1, 1, none⟩ = some (.int .i64 v')) ∧ (w'.cell? ⟨b, off + n * 3, none⟩ = some (.int .u8 (ga (lstL s g) n).s) ∧ w'.cell? ⟨b, off + n * 3 + 1, none⟩ = some (.int .i64 (ga (lstL s g) n).r) ∧ w'.cell? ⟨b, off + n * 3 + 2, none⟩ = some (.bool (ga (lstL s g) n).k)))
    (exact ⟨four_cells K.1, ⟨(two_old K.2.1).1, (two_old K.2.1).2.1⟩, ⟨(two_old K.2.2.1).1, (two_old K.2.2.1).2.1⟩, advs_cells3 A (by omega)⟩)
    ((go_at_call 38; refine (rsep_call a n c s z v z' v' t (ga (lstL s g) n) _ HO.out.own HO.out.oth HO.out.t (lst_s HG.out n) (lst_ok (setE_zero HO.out.set).2 HG.out n (by rw [HLen.out]; exact Nat.le_refl _)) (by have := HN.out; omega)).mono ?_; rintro e w3 ⟨rfl, hb3⟩; replace K := K.keep hb3; replace A := A.below hb3; clear hb3))
  go_wp2_with fail
  go_ret
  exact ePost_of (by unfold bestV; rw [HA.out]) K.2.2.2

/-! ### enough -/
theorem enF_hit {s : RulesMath.Set} {z v z' v' g t : Int} {l : List Adv} {k : Nat} (hk : k < l.length) (h : ∀ i, i < k → ¬ s.alim ≤ sepV s z v z' v' (ga l i) t) (hh : s.alim ≤ sepV s z v z' v' (ga l k) t) : ∀ (i : Nat) (last : Adv), enF s z v z' v' g t i last l = ga l k := by
  induction l generalizing k with
  | nil => simp at hk
  | cons x l ih =>
    intro i last
    unfold enF
    cases k with
    | zero =>
      have hh' : s.alim ≤ sepV s z v z' v' x t := hh
      rw [if_pos hh']; rfl
    | succ k =>
      have h0 : ¬ s.alim ≤ sepV s z v z' v' x t := h 0 (by omega)
      rw [if_neg h0]
      exact ih (by simpa using hk) (fun j hj => h (j + 1) (by omega)) hh (i + 1) x
theorem enF_none {s : RulesMath.Set} {z v z' v' g t : Int} {l : List Adv} (h : ∀ i, i < l.length → ¬ s.alim ≤ sepV s z v z' v' (ga l i) t) : ∀ (i : Nat) (last : Adv), enF s z v z' v' g t i last l = if l.length = 0 then last else ga l (l.length - 1) := by
  induction l with
  | nil => intro i last; rfl
  | cons x l ih =>
    intro i last
    unfold enF
    have h00 : ¬ s.alim ≤ sepV s z v z' v' x t := h 0 (by simp)
    rw [if_neg h00, ih (fun j hj => h (j + 1) (by simpa using hj)) (i + 1) x]
    cases l with
    | nil => rfl
    | cons y m => rfl
def NoTo (s : RulesMath.Set) (z v z' v' g t : Int) (k : Nat) : Prop := ∀ i, i < k → ¬ s.alim ≤ sepV s z v z' v' (ga (lstL s g) i) t
theorem enA_hit {s : RulesMath.Set} {z v z' v' g t : Int} {k : Nat} (hk : k ≤ s.rs.length) (h : NoTo s z v z' v' g t k) (hh : s.alim ≤ sepV s z v z' v' (ga (lstL s g) k) t) : enA s z v z' v' g t = ga (lstL s g) k := enF_hit (by rw [lst_len]; omega) h hh 0 adv0
theorem enA_last {s : RulesMath.Set} {z v z' v' g t : Int} (h : NoTo s z v z' v' g t (s.rs.length + 1)) : enA s z v z' v' g t = ga (lstL s g) s.rs.length := by
  unfold enA
  rw [enF_none (by rw [lst_len]; exact h) 0 adv0, if_neg (by rw [lst_len]; omega), lst_len]
  rfl
/-- An advisory came back; only new blocks. -/
def APost (x : Adv) (w : World) (e : Ending) (w' : World) : Prop := e = .returned (.agg #[.int .u8 x.s, .int .i64 x.r, .bool x.k]) ∧ Below w.heap.size w w'

set_option maxRecDepth 100000 in
set_option maxHeartbeats 8000000 in
theorem renough_call (a : Option Addr) (n c : Nat) (s : RulesMath.Set) (z v z' v' t g : Int) (w : World) (h : Ints w a n s.rs) (hok : ScOk s z v z' v' t) (hg : g = 1 ∨ g = 2) :
    Calls Try.prog 42 #[setV a n c s, .agg #[.int .i64 z, .int .i64 v], .agg #[.int .i64 z', .int .i64 v'], .int .u8 g, .int .i64 t] w (APost (enA s z v z' v' g t) w) := by
  have hn := set_pl hok.set
  have hl := h.len
  have HN := Lib.hid hn
  have HL := Lib.hid h
  have HLen := Lib.hid hl
  have HO := Lib.hid hok
  have HG := Lib.hid hg
  have hn8 : n ≤ 8 := by omega
  clear hn hl h hok hg
  unfold setV
  go_enter Try.func42, Try.ntmps42
  go_wp2_with fail
  have hK0 : RfK w (setC a n c s) z v z' v' ((((w.alloc (.cells (setC a n c s) 34)).alloc (.cells #[.int .i64 z, .int .i64 v] 26)).alloc (.cells #[.int .i64 z', .int .i64 v'] 26)).alloc (.cells #[.int .u8 0, .int .i64 0, .bool false] 30)) :=
    ⟨block_alloc (block_alloc (block_alloc (block_new _ _ rfl))), block_alloc (block_alloc (block_new _ _ (by simp))), block_alloc (block_new _ _ (by simp)), (((below_alloc _ _).alloc (by simp) _).alloc (by simp; omega) _).alloc (by simp; omega) _⟩
  have hR0 : ((((w.alloc (.cells (setC a n c s) 34)).alloc (.cells #[.int .i64 z, .int .i64 v] 26)).alloc (.cells #[.int .i64 z', .int .i64 v'] 26)).alloc (.cells #[.int .u8 0, .int .i64 0, .bool false] 30)).heap[w.heap.size + 3]? = some (.cells #[.int .u8 0, .int .i64 0, .bool false] 30 (0, 0)) := block_new _ _ (by simp)
  have HK0 := Lib.hid (And.intro hK0 hR0)
  clear hK0 hR0
  refine (rlist_call a n c s g _ (HL.out.below HK0.out.1.2.2.2) (by omega)).mono ?_
  rintro e w1 ⟨aL, cL, rfl, hA, hb1⟩
  have HK := Lib.hid (And.intro (HK0.out.1.keep hb1) (And.intro (keepO hb1 HK0.out.2) hA))
  clear hA hb1 HK0
  go_wp2_with fail
  go_loopw [12] (fun kv wr => ∃ k : Nat, k ≤ n + 1 ∧ kv = .int .i64 k ∧ NoTo s z v z' v' g t k ∧ RfK w (setC a n c s) z v z' v' wr ∧ wr.heap[w.heap.size + 3]? = some (.cells #[.int .u8 0, .int .i64 0, .bool false] 30 (0, 0)) ∧ Advs wr aL (n + 1) (lstL s g)) (fun kv _ => n + 1 - (intOf kv).toNat)
  case atStart => exact ⟨0, by omega, rfl, fun i hi => by omega, HK.out⟩
  case round =>
    obtain ⟨k, hk, rfl, hN, hK, hR, hA⟩ := hrel
    clear HK
    have HK := Lib.hid (And.intro hN (And.intro hK (And.intro hR hA)))
    by_cases hlt : k < n + 1
    · obtain ⟨b, off, rfl, x0, x1, x2⟩ := advs_at hA (k := k) hlt
      have hk0 : (0 : Int) ≤ (k : Int) := by omega
      have hk1 : (k : Int) < (n : Int) + 1 := by omega
      have HOk := Lib.hid (lst_ok (setE_zero HO.out.set).2 HG.out k (by rw [HLen.out]; omega))
      clear hN hK hR hA x0 x1 x2
      generalize hv : sepV s z v z' v' (ga (lstL s g) k) t = V at *
      have HV := Lib.hid hv
      clear hv
      go_upto_region 5 with fail
      go_cut [33] (fun tv wx => tv = .bool (decide (s.alim ≤ V)) ∧ RfK w (setC a n c s) z v z' v' wx ∧ wx.heap[w.heap.size + 3]? = some (.cells #[.int .u8 0, .int .i64 0, .bool false] 30 (0, 0)) ∧ Advs wx (some ⟨b, off, none⟩) (n + 1) (lstL s g))
      case first =>
        have K : RfK w (setC a n c s) z v z' v' wr.drew := HK.out.2.1.keep (Below.refl _ _).drew
        have R : wr.drew.heap[w.heap.size + 3]? = some (.cells #[.int .u8 0, .int .i64 0, .bool false] 30 (0, 0)) := HK.out.2.2.1
        have A : Advs wr.drew (some ⟨b, off, none⟩) (n + 1) (lstL s g) := HK.out.2.2.2.below (Below.refl _ _).drew
        go_region_held3 (fun w' => (w'.cell? ⟨w.heap.size, 0, none⟩ = some (.slice a n c) ∧ w'.cell? ⟨w.heap.size, 1, none⟩ = some (.int .i64 s.alim) ∧ w'.cell? ⟨w.heap.size, 2, none⟩ = some (.int .i64 s.d) ∧ w'.cell? ⟨w.heap.size, 3, none⟩ = some (.int .i64 s.pl)) ∧ (w'.cell? ⟨w.heap.size + 1, 0, none⟩ = some (.int .i64 z) ∧ w'.cell? ⟨w.heap.size + 1, 1, none⟩ = some (.int .i64 v)) ∧ (w'.cell? ⟨w.heap.size + 1 + 1, 0, none⟩ = some (.int .i64 z') ∧ w'.cell? ⟨w.heap.size + 1 + 1, 1, none⟩ = some (.int .i64 v')) ∧ (w'.cell? ⟨b, off + k * 3, none⟩ = some (.int .u8 (ga (lstL s g) k).s) ∧ w'.cell? ⟨b, off + k * 3 + 1, none⟩ = some (.int .i64 (ga (lstL s g) k).r) ∧ w'.cell? ⟨b, off + k * 3 + 2, none⟩ = some (.bool (ga (lstL s g) k).k)))
          (exact ⟨four_cells K.1, ⟨(two_old K.2.1).1, (two_old K.2.1).2.1⟩, ⟨(two_old K.2.2.1).1, (two_old K.2.2.1).2.1⟩, advs_cells3 A hlt⟩)
          ((go_at_call 38; refine (rsep_call a n c s z v z' v' t (ga (lstL s g) k) _ HO.out.own HO.out.oth HO.out.t (lst_s HG.out k) HOk.out (by have := HN.out; omega)).mono ?_; rintro e w3 ⟨rfl, hb3⟩; rw [HV.out]; replace K := K.keep hb3; replace R := keepO hb3 R; replace A := A.below hb3; clear hb3))
        all_goals go_wp2_with fail
        all_goals go_meet
        all_goals exact ⟨rfl, K, R, A⟩
      case rest =>
        obtain ⟨rfl, hK, hR, hA⟩ := hcut
        have H5 := Lib.hid (And.intro hK (And.intro hR hA))
        obtain ⟨x0, x1, x2⟩ := advs_cells3 hA hlt
        clear hK hR hA
        by_cases hs : s.alim ≤ V
        · have HE := Lib.hid (enA_hit (by rw [HLen.out]; omega) HK.out.1 (by rw [HV.out]; exact hs))
          rw [decide_eq_true hs]
          clear hs
          go_wp2_with (refine wpList_store_new rfl 30 (.tmp 10) (.tmp 37) rfl (w.heap.size + 3) #[.int .u8 (ga (lstL s g) k).s, .int .i64 (ga (lstL s g) k).r, .bool (ga (lstL s g) k).k] rfl rfl 30 _ H5.out.2.1 (by kernel_rfl) rfl (by simp [Value.oneCell']) ?_; intro w8 H8)
          refine bodyPost_ret (v := .agg #[.int .u8 (ga (lstL s g) k).s, .int .i64 (ga (lstL s g) k).r, .bool (ga (lstL s g) k).k]) ?_ rfl ⟨by rw [HE.out], (H5.out.1.only H8.out.2 (by omega)).2.2.2⟩
          obtain ⟨r0, r1, r2⟩ := three_old' H8.out.1
          simp [results, Try.f42, go_sem, r0, r1, r2]
        · have HNo := Lib.hid (show NoTo s z v z' v' g t (k + 1) from fun i hi => by
            by_cases e : i = k
            · subst e; rw [HV.out]; exact hs
            · exact HK.out.1 i (by omega))
          rw [decide_eq_false hs]
          clear hs x0 x1 x2
          go_wp2_with fail
          go_roundw
          case rel => exact ⟨k + 1, by omega, by go_num, HNo.out, H5.out⟩
          case measure => simp [intOf]; omega
    · obtain rfl : k = n + 1 := by omega
      have HE := Lib.hid (show enA s z v z' v' g t = ga (lstL s g) n by have := enA_last (s := s) (z := z) (v := v) (z' := z') (v' := v') (g := g) (t := t) (by rw [HLen.out]; exact hN); rwa [HLen.out] at this)
      obtain ⟨b, off, rfl, x0, x1, x2⟩ := advs_at hA (k := n) (by omega)
      have hj0 : (0 : Int) ≤ (n : Int) := by omega
      have hj1 : (n : Int) < (n : Int) + 1 := by omega
      clear hN hK hR hA
      go_wp2_with (refine wpList_store_new rfl 30 (.tmp 10) (.tmp 43) rfl (w.heap.size + 3) #[.int .u8 (ga (lstL s g) n).s, .int .i64 (ga (lstL s g) n).r, .bool (ga (lstL s g) n).k] rfl rfl 30 _ HK.out.2.2.1 (by kernel_rfl) rfl (by simp [Value.oneCell']) ?_; intro w8 H8)
      refine bodyPost_ret (v := .agg #[.int .u8 (ga (lstL s g) n).s, .int .i64 (ga (lstL s g) n).r, .bool (ga (lstL s g) n).k]) ?_ rfl ⟨by rw [HE.out], (HK.out.2.1.only H8.out.2 (by omega)).2.2.2⟩
      obtain ⟨r0, r1, r2⟩ := three_old' H8.out.1
      simp [results, Try.f42, go_sem, r0, r1, r2]
end Go.Proofs.Ytfgalaalopkclaa
