/-
  Layer 36 (plane): Meet whole; the reference's Meet.
-/
import Derived.Test.YthaokofhepngbaaPlaneM
import Derived.Deep.RegionHeld3
namespace Go.Proofs.Ythaokofhepngbaa
open Go.RowKit PlaneMath MyHeap MyOwn

set_option maxRecDepth 100000 in
theorem Meet_call (a a' : Option Addr) (n n' c c' : Nat) (ps qs : List (Int × Int)) (w : World) (h : Prs w a n ps) (h' : Prs w a' n' qs) :
    Calls Try.prog 20 #[.slice a n c, .slice a' n' c'] w (MtPost ps qs w) := by
  have hl := h.len
  have hl' := h'.len
  by_cases hn0 : n = 0
  · have HE := Lib.hid (mtE_zero (ps := ps) (qs := qs) (by omega))
    clear h h' hl hl'
    have hnn : ((n : Int) == 0) = true := by simp; omega
    go_enter Try.func20, Try.ntmps20
    go_wp2
    go_ret3
    exact mtPost_err HE.out (by decide) (Below.refl _ _)
  · by_cases hne : n = n'
    · subst hne
      exact Meet_good a a' n c c' ps qs w h h' hn0
    · have HE := Lib.hid (mtE_clash (ps := ps) (qs := qs) (by omega) (by omega))
      have hm := h.bound
      have hm' := h'.bound
      have hnn : ((n : Int) == 0) = false := by simp; omega
      have hn2 : ((n : Int) != (n' : Int)) = true := by rw [bne_iff_ne]; omega
      clear h h' hl hl'
      go_enter Try.func20, Try.ntmps20
      go_wp2
      go_ret3
      exact mtPost_err HE.out (by decide) (Below.refl _ _)

set_option maxRecDepth 100000 in
set_option maxHeartbeats 4000000 in
theorem apart_call (p q : Int × Int) (w : World) (hp0 : -1000 ≤ p.1) (hp1 : p.1 ≤ 50000) (hq0 : -1000 ≤ q.1) (hq1 : q.1 ≤ 50000) :
    Calls Try.prog 32 #[.agg #[.int .i64 p.1, .int .i64 p.2], .agg #[.int .i64 q.1, .int .i64 q.2]] w fun e w' => e = .returned (.int .i64 (dst p q)) ∧ Below w.heap.size w w' := by
  have hd : dst p q = max (p.1 - q.1) (q.1 - p.1) := rfl
  have HD := Lib.hid hd
  clear hd
  go_enter Try.func32, Try.ntmps32
  go_wp2
  all_goals go_ret
  all_goals (rw [HD.out]; refine ⟨?_, by go_grown⟩)
  all_goals first
    | (have e : max (p.1 - q.1) (q.1 - p.1) = p.1 - q.1 := by omega
       rw [e]; rfl)
    | (have e : max (p.1 - q.1) (q.1 - p.1) = q.1 - p.1 := by omega
       rw [e]; rfl)

/-- Four states in memory. -/
def S8 (b b' x y u v : Nat) (p q r s : Int × Int) (w : World) : Prop :=
  w.cell? ⟨b, x, none⟩ = some (.int .i64 p.1) ∧ w.cell? ⟨b, x + 1, none⟩ = some (.int .i64 p.2) ∧ w.cell? ⟨b', y, none⟩ = some (.int .i64 q.1) ∧ w.cell? ⟨b', y + 1, none⟩ = some (.int .i64 q.2) ∧
  w.cell? ⟨b, u, none⟩ = some (.int .i64 r.1) ∧ w.cell? ⟨b, u + 1, none⟩ = some (.int .i64 r.2) ∧ w.cell? ⟨b', v, none⟩ = some (.int .i64 s.1) ∧ w.cell? ⟨b', v + 1, none⟩ = some (.int .i64 s.2)
theorem S8.keep {b b' x y u v : Nat} {p q r s : Int × Int} {w w' : World} (hb : Below w.heap.size w w') (h : S8 b b' x y u v p q r s w) : S8 b b' x y u v p q r s w' :=
  ⟨keep1 hb h.1, keep1 hb h.2.1, keep1 hb h.2.2.1, keep1 hb h.2.2.2.1, keep1 hb h.2.2.2.2.1, keep1 hb h.2.2.2.2.2.1, keep1 hb h.2.2.2.2.2.2.1, keep1 hb h.2.2.2.2.2.2.2⟩

/-- Four states in memory, and nothing of w0 written. -/
def K8 (w0 : World) (b b' x y u v : Nat) (p q r s : Int × Int) (w : World) : Prop := S8 b b' x y u v p q r s w ∧ Below w0.heap.size w0 w
theorem K8.keep {w0 : World} {b b' x y u v : Nat} {p q r s : Int × Int} {w w' : World} (h : K8 w0 b b' x y u v p q r s w) (hb : Below w.heap.size w w') : K8 w0 b b' x y u v p q r s w' :=
  ⟨S8.keep hb h.1, h.2.trans (hb.mono h.2.size)⟩
attribute [local irreducible] dst
set_option maxRecDepth 100000 in
set_option maxHeartbeats 8000000 in
theorem rMeet_good (a a' : Option Addr) (n c c' : Nat) (ps qs : List (Int × Int)) (w : World) (h : Prs w a n ps) (h' : Prs w a' n qs) (hn0 : n ≠ 0) :
    Calls Try.prog 21 #[.slice a n c, .slice a' n c'] w (MtPost ps qs w) := by
  have hm := h.bound
  have hl := h.len
  have hl' := h'.len
  have HL := Lib.hid (And.intro hl hl')
  have HP := Lib.hid h
  have HQ := Lib.hid h'
  clear h h' hl hl'
  have hnn : ((n : Int) == 0) = false := by simp; omega
  have hne : ((n : Int) != (n : Int)) = false := by simp
  go_enter Try.func21, Try.ntmps21
  go_wp2_with fail
  go_loopw [7] (fun kv wr => ∃ k : Nat, k ≤ n ∧ kv = .int .i64 k ∧ StTo ps k ∧ StTo qs k ∧ Below w.heap.size w wr) (fun kv _ => n - (intOf kv).toNat)
  case atStart => exact ⟨0, by omega, rfl, fun i hi => by omega, fun i hi => by omega, Below.refl _ _⟩
  case round =>
    obtain ⟨k, hk, rfl, hS, hT, hB⟩ := hrel
    have HS := Lib.hid (And.intro hS hT)
    clear hS hT
    by_cases hlt : k < n
    · obtain ⟨b, off, rfl, x0, x1⟩ := prs_gp HP.out hlt
      obtain ⟨b', off', rfl, y0, y1⟩ := prs_gp HQ.out hlt
      replace x0 := keep1 hB x0
      replace x1 := keep1 hB x1
      replace y0 := keep1 hB y0
      replace y1 := keep1 hB y1
      have hiw := hB.size
      have hk0 : (0 : Int) ≤ (k : Int) := by omega
      have hk1 : (k : Int) < (n : Int) := by omega
      cases hst : stB (gp ps k).1 (gp ps k).2 with
      | false =>
        have hEv : stE (gp ps k).1 (gp ps k).2 = 1 := by unfold stE; rw [hst]; rfl
        have hEb : (stE (gp ps k).1 (gp ps k).2 != 0) = true := by rw [hEv]; rfl
        have HE := Lib.hid hst
        clear hst hEv
        go_wp2_with fail
        refine (refCheck_call _ _ _).mono ?_; rintro e w4 ⟨rfl, hb4⟩
        have hB4 := Lib.hid (hB.trans (hb4.mono hiw))
        clear hb4
        go_wp2_with fail
        go_ret3
        exact mtPost_err (mtE_bad (k := k) (by rw [HL.out.1]; exact hn0) (HL.out.1.trans HL.out.2.symm) (by rw [HL.out.1]; exact hlt) (Or.inl HE.out)) (by decide) hB4.out
      | true =>
        have hEv : stE (gp ps k).1 (gp ps k).2 = 0 := by unfold stE; rw [hst]; rfl
        have hEb : (stE (gp ps k).1 (gp ps k).2 != 0) = false := by rw [hEv]; rfl
        have HE := Lib.hid hst
        clear hst hEv
        go_wp2_with fail
        refine (refCheck_call _ _ _).mono ?_; rintro e w4 ⟨rfl, hb4⟩
        have hB4 := hB.trans (hb4.mono hiw)
        have hw4 := hB4.size
        have HB4 := Lib.hid hB4
        replace y0 := keep1 hb4 y0
        replace y1 := keep1 hb4 y1
        clear hb4 hB4
        cases hsu : stB (gp qs k).1 (gp qs k).2 with
        | false =>
          have hEv : stE (gp qs k).1 (gp qs k).2 = 1 := by unfold stE; rw [hsu]; rfl
          have hEc : (stE (gp qs k).1 (gp qs k).2 != 0) = true := by rw [hEv]; rfl
          have HF := Lib.hid hsu
          clear hsu hEv
          go_wp2_with fail
          refine (refCheck_call _ _ _).mono ?_; rintro e w5 ⟨rfl, hb5⟩
          have hB5 := Lib.hid (HB4.out.trans (hb5.mono hw4))
          clear hb5
          go_wp2_with fail
          go_ret3
          exact mtPost_err (mtE_bad (k := k) (by rw [HL.out.1]; exact hn0) (HL.out.1.trans HL.out.2.symm) (by rw [HL.out.1]; exact hlt) (Or.inr HF.out)) (by decide) hB5.out
        | true =>
          have hEv : stE (gp qs k).1 (gp qs k).2 = 0 := by unfold stE; rw [hsu]; rfl
          have hEc : (stE (gp qs k).1 (gp qs k).2 != 0) = false := by rw [hEv]; rfl
          have HF := Lib.hid hsu
          clear hsu hEv
          go_wp2_with fail
          refine (refCheck_call _ _ _).mono ?_; rintro e w5 ⟨rfl, hb5⟩
          have hB5 := Lib.hid (HB4.out.trans (hb5.mono hw4))
          clear hb5
          go_wp2_with fail
          go_roundw
          case rel => exact ⟨k + 1, by omega, by go_num, stTo_succ HS.out.1 HE.out, stTo_succ HS.out.2 HF.out, hB5.out⟩
          case measure => simp [intOf]; omega
    · obtain rfl : k = n := by omega
      have HB := Lib.hid hB
      clear hB
      go_wp2_with fail
      have HSS := Lib.hid HS.out
      clear HS
      go_loopw [8, 9] (fun av kv wi => ∃ j : Nat, j ≤ k ∧ kv = .int .i64 j ∧ av = .int .i64 (mtA ps qs j : Nat) ∧ Below w.heap.size w wi) (fun _ kv _ => k - (intOf kv).toNat)
      case atStart => exact ⟨0, by omega, rfl, rfl, HB.out⟩
      case round =>
        obtain ⟨j, hj, rfl, rfl, hBi⟩ := hrel
        clear HB
        by_cases hlj : j < k
        · have hat : mtA ps qs j < k := Nat.lt_of_le_of_lt (mtA_le ps qs j) hlj
          obtain ⟨b, off, rfl, x0, x1⟩ := prs_gp HP.out hlj
          obtain ⟨b', off', rfl, y0, y1⟩ := prs_gp HQ.out hlj
          obtain ⟨b2, off2, e2, u0, u1⟩ := prs_gp HP.out hat
          cases e2
          obtain ⟨b2, off2, e2, v0, v1⟩ := prs_gp HQ.out hat
          cases e2
          have hiw := hBi.size
          have h8 : S8 b b' (off + j * 2) (off' + j * 2) (off + mtA ps qs j * 2) (off' + mtA ps qs j * 2) (gp ps j) (gp qs j) (gp ps (mtA ps qs j)) (gp qs (mtA ps qs j)) _ := S8.keep hBi ⟨x0, x1, y0, y1, u0, u1, v0, v1⟩
          clear x0 x1 y0 y1 u0 u1 v0 v1
          have H8 := Lib.hid h8
          have HI := Lib.hid hBi
          clear h8 hBi
          obtain ⟨s1, s2, _, _⟩ := stB_iff.1 (HSS.out.1 j hlj)
          obtain ⟨t1, t2, _, _⟩ := stB_iff.1 (HSS.out.2 j hlj)
          obtain ⟨p1, p2, _, _⟩ := stB_iff.1 (HSS.out.1 _ hat)
          obtain ⟨q1, q2, _, _⟩ := stB_iff.1 (HSS.out.2 _ hat)
          obtain ⟨m, hm'⟩ : ∃ m, m = mtA ps qs j := ⟨_, rfl⟩
          obtain ⟨pj, hpj⟩ : ∃ p, p = gp ps j := ⟨_, rfl⟩
          obtain ⟨qj, hqj⟩ : ∃ p, p = gp qs j := ⟨_, rfl⟩
          obtain ⟨pm, hpm⟩ : ∃ p, p = gp ps (mtA ps qs j) := ⟨_, rfl⟩
          obtain ⟨qm, hqm⟩ : ∃ p, p = gp qs (mtA ps qs j) := ⟨_, rfl⟩
          have hdj : dk ps qs j = dst pj qj := by rw [hpj, hqj]; rfl
          have hdm : dk ps qs (mtA ps qs j) = dst pm qm := by rw [hpm, hqm]; rfl
          have hnew := @mtA_yes ps qs j
          have hold := @mtA_no ps qs j
          rw [hdj, hdm] at hnew hold
          rw [← hpm, ← hqm, ← hpj, ← hqj] at H8
          rw [← hpj] at s1 s2
          rw [← hqj] at t1 t2
          rw [← hpm] at p1 p2
          rw [← hqm] at q1 q2
          clear hdj hdm hpm hqm hpj hqj
          rw [← hm'] at H8 hat hold ⊢
          have HN := Lib.hid (And.intro hnew hold)
          replace H8 : K8 w b b' (off + j * 2) (off' + j * 2) (off + m * 2) (off' + m * 2) pj qj pm qm _ := K8.keep ⟨H8.out, HI.out⟩ (Below.refl _ _).drew
          clear HI
          clear hnew hold hm'
          have hk0 : (0 : Int) ≤ (j : Int) := by omega
          have hk1 : (j : Int) < (k : Int) := by omega
          have ha0 : (0 : Int) ≤ (m : Int) := by omega
          have ha1 : (m : Int) < (k : Int) := by omega
          go_wp2_with fail
          go_region_held3 (fun w' => w'.cell? ⟨b, off + j * 2, none⟩ = some (.int .i64 pj.1) ∧ w'.cell? ⟨b, off + j * 2 + 1, none⟩ = some (.int .i64 pj.2) ∧ w'.cell? ⟨b', off' + j * 2, none⟩ = some (.int .i64 qj.1) ∧ w'.cell? ⟨b', off' + j * 2 + 1, none⟩ = some (.int .i64 qj.2) ∧ w'.cell? ⟨b, off + m * 2, none⟩ = some (.int .i64 pm.1) ∧ w'.cell? ⟨b, off + m * 2 + 1, none⟩ = some (.int .i64 pm.2) ∧ w'.cell? ⟨b', off' + m * 2, none⟩ = some (.int .i64 qm.1) ∧ w'.cell? ⟨b', off' + m * 2 + 1, none⟩ = some (.int .i64 qm.2)) (exact H8.1) ((go_at_call 32; refine (apart_call _ _ _ ?_ ?_ ?_ ?_).mono ?_; assumption; assumption; assumption; assumption; rintro e w5 ⟨rfl, hb5⟩; replace H8 := K8.keep H8 hb5; clear hb5))
          by_cases hcc : dst pj qj < dst pm qm
          · have HC := Lib.hid (HN.out.1 hcc)
            go_wp2
            go_roundw
            case rel => exact ⟨j + 1, by omega, by go_num, by rw [HC.out], H8.2⟩
            case measure => simp [intOf]; omega
          · have HC := Lib.hid (HN.out.2 (by omega))
            go_wp2
            go_roundw
            case rel => exact ⟨j + 1, by omega, by go_num, by rw [HC.out], H8.2⟩
            case measure => simp [intOf]; omega
        · obtain rfl : j = k := by omega
          have hat : mtA ps qs j < j := mtA_lt ps qs j (by omega)
          obtain ⟨b, off, rfl, u0, u1⟩ := prs_gp HP.out hat
          obtain ⟨b', off', rfl, v0, v1⟩ := prs_gp HQ.out hat
          have H8 : K8 w b b' (off + mtA ps qs j * 2) (off' + mtA ps qs j * 2) (off + mtA ps qs j * 2) (off' + mtA ps qs j * 2) (gp ps (mtA ps qs j)) (gp qs (mtA ps qs j)) (gp ps (mtA ps qs j)) (gp qs (mtA ps qs j)) _ := K8.keep (K8.keep ⟨⟨u0, u1, v0, v1, u0, u1, v0, v1⟩, Below.refl _ _⟩ hBi) (Below.refl _ _).drew
          have HOK := Lib.hid (mtE_ok (ps := ps) (qs := qs) (by rw [HL.out.1]; exact hn0) (HL.out.1.trans HL.out.2.symm) (by rw [HL.out.1]; exact HSS.out.1) (by rw [HL.out.1]; exact HSS.out.2))
          clear u0 u1 v0 v1 hBi
          obtain ⟨p1, p2, _, _⟩ := stB_iff.1 (HSS.out.1 _ hat)
          obtain ⟨q1, q2, _, _⟩ := stB_iff.1 (HSS.out.2 _ hat)
          obtain ⟨pm, hpm⟩ : ∃ p, p = gp ps (mtA ps qs j) := ⟨_, rfl⟩
          obtain ⟨qm, hqm⟩ : ∃ p, p = gp qs (mtA ps qs j) := ⟨_, rfl⟩
          have hdm : dk ps qs (mtA ps qs j) = dst pm qm := by rw [hpm, hqm]; rfl
          rw [← hpm, ← hqm] at H8
          rw [← hpm] at p1 p2
          rw [← hqm] at q1 q2
          have HM := Lib.hid hdm
          clear hdm hpm hqm
          obtain ⟨m, hm'⟩ : ∃ m, m = mtA ps qs j := ⟨_, rfl⟩
          rw [← hm'] at H8 hat HM ⊢
          have HM' := Lib.hid hm'
          clear hm'
          have ha0 : (0 : Int) ≤ (m : Int) := by omega
          have ha1 : (m : Int) < (j : Int) := by omega
          go_wp2_with fail
          go_region_held3 (fun w' => w'.cell? ⟨b, off + m * 2, none⟩ = some (.int .i64 pm.1) ∧ w'.cell? ⟨b, off + m * 2 + 1, none⟩ = some (.int .i64 pm.2) ∧ w'.cell? ⟨b', off' + m * 2, none⟩ = some (.int .i64 qm.1) ∧ w'.cell? ⟨b', off' + m * 2 + 1, none⟩ = some (.int .i64 qm.2)) (exact ⟨H8.1.1, H8.1.2.1, H8.1.2.2.1, H8.1.2.2.2.1⟩) ((go_at_call 32; refine (apart_call _ _ _ ?_ ?_ ?_ ?_).mono ?_; assumption; assumption; assumption; assumption; rintro e w5 ⟨rfl, hb5⟩; replace H8 := K8.keep H8 hb5; clear hb5))
          go_wp2
          go_ret3
          rw [← HM.out, HM'.out]
          exact mtPost_ok HOK.out HL.out.1 H8.2

set_option maxRecDepth 100000 in
theorem refMeet_call (a a' : Option Addr) (n n' c c' : Nat) (ps qs : List (Int × Int)) (w : World) (h : Prs w a n ps) (h' : Prs w a' n' qs) :
    Calls Try.prog 21 #[.slice a n c, .slice a' n' c'] w (MtPost ps qs w) := by
  have hl := h.len
  have hl' := h'.len
  by_cases hn0 : n = 0
  · have HE := Lib.hid (mtE_zero (ps := ps) (qs := qs) (by omega))
    clear h h' hl hl'
    have hnn : ((n : Int) == 0) = true := by simp; omega
    go_enter Try.func21, Try.ntmps21
    go_wp2
    go_ret3
    exact mtPost_err HE.out (by decide) (Below.refl _ _)
  · by_cases hne : n = n'
    · subst hne
      exact rMeet_good a a' n c c' ps qs w h h' hn0
    · have HE := Lib.hid (mtE_clash (ps := ps) (qs := qs) (by omega) (by omega))
      have hm := h.bound
      have hm' := h'.bound
      have hnn : ((n : Int) == 0) = false := by simp; omega
      have hn2 : ((n : Int) != (n' : Int)) = true := by rw [bne_iff_ne]; omega
      clear h h' hl hl'
      go_enter Try.func21, Try.ntmps21
      go_wp2
      go_ret3
      exact mtPost_err HE.out (by decide) (Below.refl _ _)
end Go.Proofs.Ythaokofhepngbaa
