/-
  Layer 37 (pilot): the law PilotReaches, walked.
-/
import Derived.Test.YtjidpkcoaoflbaaPilotP
namespace Go.Proofs.Ytjidpkcoaoflbaa
open Go.RowKit PilotMath MyHeap MyOwn PlaneMath MyCopy

theorem flat3_snoc (k : Nat) (x : Adv) : flat3 (List.replicate (k + 1) x) = flat3 (List.replicate k x) ++ [.int .u8 x.s, .int .i64 x.r, .bool x.k] := by
  rw [show List.replicate (k + 1) x = List.replicate k x ++ [x] from List.replicate_succ', flat3_append, flat3_one]
theorem cellsThree {w : World} {x y z : Value} {T : TypeId} {n : Nat} (hn : n = w.heap.size) : ∀ (j : Nat) (u : Value), [x, y, z][j]? = some u → (w.alloc (.cells #[x, y, z] T)).cell? ((⟨n, 0, none⟩ : Addr).add j) = some u := by
  subst hn
  intro j u hu
  have hadd : (⟨w.heap.size, 0, none⟩ : Addr).add j = ⟨w.heap.size, j, none⟩ := by unfold Addr.add; split <;> simp_all
  rw [hadd, World.cell?_alloc_at _ _ _ _ rfl]
  match j, hu with
  | 0, hu => exact hu
  | 1, hu => exact hu
  | 2, hu => exact hu
/-- In PilotReaches: the pilot, the aircraft, the advisory, and nothing of w0 written. -/
def RcK (w0 : World) (d pl ms z v : Int) (x : Adv) (w : World) : Prop :=
  w.heap[w0.heap.size]? = some (.cells #[.int .i64 d, .int .i64 pl, .int .i64 ms] 23 (0, 0)) ∧ w.heap[w0.heap.size + 1]? = some (.cells #[.int .i64 z, .int .i64 v] 25 (0, 0)) ∧ w.heap[w0.heap.size + 2]? = some (.cells #[.int .u8 x.s, .int .i64 x.r, .bool x.k] 36 (0, 0)) ∧ Below w0.heap.size w0 w
section
variable {w0 : World} {d pl ms z v : Int} {x : Adv} {w w' : World}
theorem RcK.keep (h : RcK w0 d pl ms z v x w) (hb : Below w.heap.size w w') : RcK w0 d pl ms z v x w' :=
  ⟨keepO hb h.1, keepO hb h.2.1, keepO hb h.2.2.1, h.2.2.2.trans (hb.mono h.2.2.2.size)⟩
theorem RcK.alloc (h : RcK w0 d pl ms z v x w) (o : Obj) : RcK w0 d pl ms z v x (w.alloc o) := h.keep ((Below.refl _ _).alloc (Nat.le_refl _) _)
theorem RcK.lt (h : RcK w0 d pl ms z v x w) : w0.heap.size + 2 < w.heap.size := lt_of_block h.2.2.1
theorem RcK.grow (h : RcK w0 d pl ms z v x w) {ob : Option Nat} (hg : w.grownBy w' ob) (hob : ∀ b, ob = some b → w0.heap.size + 3 ≤ b) : RcK w0 d pl ms z v x w' := by
  have hk : ∀ {b : Nat} {o : Obj}, b < w0.heap.size + 3 → w.heap[b]? = some o → w'.heap[b]? = some o := fun hb h => (hg.block _ (lt_of_block h) (fun e => by have := hob _ e.symm; omega)).trans h
  refine ⟨hk (by omega) h.1, hk (by omega) h.2.1, hk (by omega) h.2.2.1, h.2.2.2.trans ⟨hg.os, hg.tape, hg.output, hg.size, fun k hk => hg.block k (by have := h.lt; omega) (fun e => by have := hob _ e.symm; omega)⟩⟩
end

set_option maxRecDepth 100000 in
set_option maxHeartbeats 8000000 in
theorem ReachesLaw_call (x : Adv) (d pl ms z v m : Int) (w : World) (hx : 0 ≤ x.s) (hm : 0 ≤ m ∧ m < 256) :
    Calls Try.prog 6 #[.agg #[.int .i64 d, .int .i64 pl, .int .i64 ms], .agg #[.int .i64 z, .int .i64 v], .agg #[.int .u8 x.s, .int .i64 x.r, .bool x.k], .int .u8 m] w fun e w' => e = .returned (.bool true) ∧ Below w.heap.size w w' := by
  obtain ⟨hm0, hm1⟩ := hm
  obtain ⟨n, rfl⟩ : ∃ k : Nat, m = (k : Int) := ⟨m.toNat, by omega⟩
  have HX := Lib.hid hx
  obtain ⟨i0, hi, hiz, his, hib⟩ := info_parts infoAdv
  have HI := Lib.hid (And.intro hi (And.intro hiz (And.intro his hib)))
  clear hi hiz his hib hx
  go_enter Try.func6, Try.ntmps6
  go_wp2_with fail
  have hK0 : RcK w d pl ms z v x (((w.alloc (.cells #[.int .i64 d, .int .i64 pl, .int .i64 ms] 23)).alloc (.cells #[.int .i64 z, .int .i64 v] 25)).alloc (.cells #[.int .u8 x.s, .int .i64 x.r, .bool x.k] 36)) :=
    ⟨block_alloc (block_alloc (block_new _ _ rfl)), block_alloc (block_new _ _ (by simp)), block_new _ _ (by simp), (((Below.refl _ w).alloc (Nat.le_refl _) _).alloc (by simp) _).alloc (by simp; omega) _⟩
  have HK0 := Lib.hid hK0
  clear hK0
  go_loopw [9, 10] (fun s kv wr => ∃ k : Nat, k ≤ n ∧ kv = .int .i64 k ∧ RcK w d pl ms z v x wr ∧ wr.ownsRow (w.heap.size + 3) 36 3 s k (flat3 (List.replicate k x))) (fun _ kv _ => n - (intOf kv).toNat)
  case atStart => exact ⟨0, by omega, rfl, HK0.out, rfl, Or.inl ⟨rfl, rfl⟩⟩
  case round =>
    obtain ⟨k, hk, rfl, hK, hO⟩ := hrel
    clear HK0
    have HK := Lib.hid hK
    have HO := Lib.hid hO
    by_cases hlt : k < n
    · obtain ⟨y0, y1, y2⟩ := three_old hK.2.2.1
      have hlw := hK.lt
      clear hK hO
      go_wp2_with (at_builtin; refine wpList_append_own _ rfl _ _ 26 rfl (w.heap.size + 3) 36 i0 _ 3 24 Try.underlying26 HI.out.1 HI.out.2.1 HI.out.2.2.1 HI.out.2.2.2 rfl (by decide) _ k _ rfl (HO.out.alloc _) ⟨wr.heap.size, 0, none⟩ 1 1 [.int .u8 x.s, .int .i64 x.r, .bool x.k] rfl rfl ?c1 ?c2 ?c3 ?c4 ?c5 ?_; rotate_right; intro v9 w9 hown9 hg9 _)
      case c1 => exact cellsThree rfl
      case c2 => intro u hu; simp at hu; rcases hu with rfl | rfl | rfl <;> rfl
      case c3 => unfold maxLen; omega
      case c4 => omega
      case c5 => simp; omega
      have H9 := Lib.hid (And.intro ((HK.out.alloc _).grow hg9 (fun b hb => (HO.out.lt b hb).1)) hown9)
      clear hown9 hg9 y0 y1 y2
      go_roundw
      case rel => exact ⟨k + 1, by omega, by go_num, H9.out.1, by rw [flat3_snoc]; exact H9.out.2⟩
      case measure => simp [intOf]; omega
    · obtain rfl : k = n := by omega
      have hlr : (List.replicate k x).length = k := List.length_replicate
      have hO' : wr.ownsRow (w.heap.size + 3) 36 3 u9 (List.replicate k x).length (flat3 (List.replicate k x)) := by rw [hlr]; exact hO
      obtain ⟨aL, cL, rfl, hA, _, _⟩ := advs_own hO' (by rw [hlr]; omega)
      rw [hlr] at hA ⊢
      have hps : Pos (List.replicate k x) := fun y hy => by rw [List.eq_of_mem_replicate hy]; exact HX.out
      have HL := Lib.hid (And.intro hA hps)
      obtain ⟨p0, p1, p2⟩ := three_old hK.1
      obtain ⟨x0, x1, _, _⟩ := two_old hK.2.1
      have hlw := hK.lt
      clear hK hO hO' hA hps hlr HO
      go_wp2_with fail
      refine (Run_call d pl ms z v aL k cL (List.replicate k x) _ HL.out.1 HL.out.2).mono ?_
      intro e w1 hpost
      by_cases hE : rnE d pl ms z v (List.replicate k x) = 0
      · obtain ⟨aO, cO, rfl, hP1, hb1⟩ := runPost_good (n := k) hpost hE (by simp)
        have HE := Lib.hid hE
        have H1 := Lib.hid (And.intro hP1 (HK.out.keep hb1))
        clear hpost hb1 hP1 hE p0 p1 p2 x0 x1
        obtain ⟨y0, y1, y2⟩ := three_old H1.out.2.2.2.1
        go_wp2_with fail
        refine (Bounds_call x _ HX.out).mono ?_; rintro e w2 ⟨rfl, hb2⟩
        have H2 := Lib.hid (And.intro (H1.out.1.below hb2) (H1.out.2.keep hb2))
        clear hb2 y0 y1 y2 H1
        by_cases hbE : bndE x = 0
        · have HBE := Lib.hid hbE
          rw [hbE]
          clear hbE
          go_wp2_with fail
          refine (awake_call _).mono ?_; rintro e w3 ⟨rfl, hb3⟩
          have H3 := Lib.hid (And.intro (H2.out.1.below hb3) (H2.out.2.keep hb3))
          clear hb3 H2
          have HRE := HE.out
          obtain ⟨hpl, hst, _, _⟩ := rnE_ok HRE
          obtain ⟨d0, d16, q1, q32, m0, m100⟩ := plE_ok hpl
          obtain ⟨dn, rfl⟩ : ∃ q : Nat, d = (q : Int) := ⟨d.toNat, by omega⟩
          have HS := Lib.hid (stE_of hst)
          have HLs := Lib.hid (show rnL (dn : Int) pl ms z v (List.replicate k x) = psts pl (rnB ms dn (List.replicate k x)) z v (k + 1) by rw [rnL_ok HRE, Int.toNat_natCast, List.length_replicate])
          have hlw3 := H3.out.2.lt
          clear HRE hpl hst
          go_wp2_with fail
          go_loopw [16] (fun kv wi => ∃ i : Nat, 1 ≤ i ∧ i ≤ k + 1 ∧ kv = .int .i64 (i : Int) ∧ InTo pl (rnB ms dn (List.replicate k x)) z v (i - 1) ∧ Prs wi aO (k + 1) (psts pl (rnB ms dn (List.replicate k x)) z v (k + 1)) ∧ RcK w dn pl ms z v x wi) (fun kv _ => k + 1 - (intOf kv).toNat)
          case atStart => exact ⟨1, by omega, by omega, rfl, fun i hi => by omega, by rw [← HLs.out]; exact H3.out.1, H3.out.2⟩
          case round =>
            obtain ⟨i, hi1, hi2, rfl, hin, hP, hK⟩ := hrel
            clear H3 HLs
            have hi0 : (1 : Int) ≤ (i : Int) := by omega
            by_cases hjk : i < k + 1
            · have hik : (i : Int) < (k : Int) + 1 := by omega
              obtain ⟨j, hji⟩ : ∃ j : Nat, i = j + 1 := ⟨i - 1, by omega⟩
              have hj0 : (0 : Int) ≤ (j : Int) := by omega
              have hj1 : (j : Int) < (k : Int) + 1 := by omega
              have hj2 : (i : Int) - 1 = (j : Int) := by omega
              rw [show i - 1 = j by omega] at hin
              obtain ⟨bo, oo, rfl, y0, y1⟩ := prs_at hP (k := j) (by omega)
              obtain ⟨bo', oo', e', z0, z1⟩ := prs_at hP (k := i) (by omega)
              cases e'
              have g0 := psts_get pl (rnB ms dn (List.replicate k x)) z v (n := k + 1) (k := j) (by omega)
              have g1 := psts_get pl (rnB ms dn (List.replicate k x)) z v (n := k + 1) (k := i) (by omega)
              unfold gpl at g0 g1
              rw [g0] at y0 y1
              rw [g1] at z0 z1
              clear g0 g1
              obtain ⟨p0, p1, p2⟩ := three_old hK.1
              have hlw := hK.lt
              have hlw0 : w.heap.size < wr.heap.size := by omega
              have hbo := World.block_lt_of_cell? _ _ y0
              have H := Lib.hid (And.intro hin (And.intro hP hK))
              have hstj := stB_iff.1 (pst_st (pull := pl) (l := rnB ms dn (List.replicate k x)) (by omega) HS.out j (by
                have hok : OkTo (List.replicate k x) (List.replicate k x).length := fun i hi => by rw [ga_rep _ _ _ (by simpa using hi)]; exact HBE.out
                exact rnB_bd (fun i hi => by rw [ga_rep _ _ _ (by simpa using hi)]; exact HX.out) hok j (by simp; omega)))
              have hstj1 := stB_iff.1 (pst_st (pull := pl) (l := rnB ms dn (List.replicate k x)) (by omega) HS.out i (by
                have hok : OkTo (List.replicate k x) (List.replicate k x).length := fun i hi => by rw [ga_rep _ _ _ (by simpa using hi)]; exact HBE.out
                exact rnB_bd (fun i hi => by rw [ga_rep _ _ _ (by simpa using hi)]; exact HX.out) hok i (by simp; omega)))
              have hrc0 := fun hin' => reaches (d := dn) (z := z) (v := v) (n := k) (a := x) m0 q1 HBE.out HX.out HS.out j (by omega) hin'
              rw [← hji] at hrc0
              have hrc := Lib.hid hrc0
              have HI := Lib.hid hji
              clear hin hP hK hrc0 hji
              generalize hp : pst pl (rnB ms dn (List.replicate k x)) j z v = pj at *
              generalize hp1 : pst pl (rnB ms dn (List.replicate k x)) i z v = pj1 at *
              have HPJ := Lib.hid (And.intro hp hp1)
              clear hp hp1
              obtain ⟨s1, s2, s3, s4⟩ := hstj
              obtain ⟨t1, t2, t3, t4⟩ := hstj1
              by_cases ha : pj.1 + pj.2 < -1000
              · go_wp2_with fail
                go_ret
                exact ⟨rfl, (H.out.2.2.alloc _).2.2.2⟩
              · have ha' : decide (pj.1 + pj.2 < -1000) = false := decide_eq_false ha
                by_cases hb : 50000 < pj.1 + pj.2
                · clear ha
                  go_wp2_with fail
                  go_ret
                  exact ⟨rfl, (H.out.2.2.alloc _).2.2.2⟩
                · have hb' : decide (50000 < pj.1 + pj.2) = false := decide_eq_false hb
                  have hin1 : InTo pl (rnB ms dn (List.replicate k x)) z v i := fun q hq => by
                    have := HI.out
                    by_cases e : q = j
                    · subst e; rw [HPJ.out.1]; exact inZ_iff.2 (by omega)
                    · exact H.out.1 q (by omega)
                  obtain ⟨r1, r2, r3⟩ := hrc.out hin1
                  have R := Lib.hid (And.intro hin1 r3)
                  have hr1 : decide (pl < pj1.2 - pj.2) = false := decide_eq_false (by omega)
                  have hr2 : decide (pl < pj.2 - pj1.2) = false := decide_eq_false (by omega)
                  have hw1 : IntKind.i64.wrap (pj1.2 - pj.2) = pj1.2 - pj.2 := IntWalk.i64_in _ (by omega)
                  have hw2 : IntKind.i64.wrap (pj.2 - pj1.2) = pj.2 - pj1.2 := IntWalk.i64_in _ (by omega)
                  clear ha hb hin1 r3 hrc
                  go_wp2_with fail
                  go_quiet (fail)
                  clear hw1 hw2
                  have hbw : Below wr.heap.size wr ((wr.alloc (.cells #[.int .i64 pj.1, .int .i64 pj.2] 25)).drewN nq) := below_drewN ((Below.refl _ _).alloc (Nat.le_refl _) _) nq
                  by_cases hms : ms = 1
                  · have hm1 : (ms != 1) = false := by simp [hms]
                    clear hms
                    go_wp2_with fail
                    go_roundw
                    case rel => exact ⟨i + 1, by omega, by omega, by go_num, by rw [Nat.add_sub_cancel]; exact R.out.1, (H.out.2.1.below hbw), H.out.2.2.keep hbw⟩
                    case measure => simp [intOf]; omega
                  · have hm1 : (ms != 1) = true := by simp [hms]
                    obtain ⟨T, hT⟩ : ∃ T : Int, ((i : Int) - (dn : Int)) * pl = T := ⟨_, rfl⟩
                    have hTb : -512 ≤ T ∧ T ≤ 8192 := by
                      have h1 := Int.mul_le_mul_of_nonneg_right (c := pl) (show (-16 : Int) ≤ (i : Int) - (dn : Int) by omega) (by omega)
                      have h2 := Int.mul_le_mul_of_nonneg_right (c := pl) (show (i : Int) - (dn : Int) ≤ 256 by omega) (by omega)
                      omega
                    obtain ⟨hTb1, hTb2⟩ := hTb
                    have hTj : ((j : Int) + 1 - (dn : Int)) * pl = T := by rw [← hT]; congr 1; omega
                    by_cases h200 : 200 ≤ T
                    · have hr := R.out.2 hms (by rw [hTj]; exact h200)
                      have hd2 : decide (200 ≤ T) = true := decide_eq_true h200
                      have hd3 : decide (pj1.2 < bndL x) = false := decide_eq_false (by omega)
                      have hd4 : decide (bndH x < pj1.2) = false := decide_eq_false (by omega)
                      clear hr hTj hms h200
                      go_wp2_with fail
                      go_roundw
                      case rel => exact ⟨i + 1, by omega, by omega, by go_num, by rw [Nat.add_sub_cancel]; exact R.out.1, (H.out.2.1.below hbw), H.out.2.2.keep hbw⟩
                      case measure => simp [intOf]; omega
                    · have hd2 : decide (200 ≤ T) = false := decide_eq_false h200
                      clear hTj hms h200
                      go_wp2_with fail
                      go_roundw
                      case rel => exact ⟨i + 1, by omega, by omega, by go_num, by rw [Nat.add_sub_cancel]; exact R.out.1, (H.out.2.1.below hbw), H.out.2.2.keep hbw⟩
                      case measure => simp [intOf]; omega
            · obtain rfl : i = k + 1 := by omega
              have HB := Lib.hid hK.2.2.2
              clear hin hP hK
              go_wp2_with fail
              go_ret
              exact ⟨rfl, HB.out⟩
        · have hne : (bndE x != 0) = true := by simp [hbE]
          clear hbE
          go_wp2_with fail
          refine (awake_call _).mono ?_; rintro e w3 ⟨rfl, hb3⟩
          have H3 := Lib.hid (H2.out.2.keep hb3).2.2.2
          clear hb3
          go_wp2
          go_ret
          exact ⟨rfl, H3.out⟩
      · have hne : (rnE d pl ms z v (List.replicate k x) != 0) = true := by simp [hE]
        obtain ⟨s1, rfl, hb1⟩ := runPost_bad hpost
        have H1 := Lib.hid (HK.out.keep hb1)
        clear hpost hb1 hE p0 p1 p2 x0 x1
        obtain ⟨y0, y1, y2⟩ := three_old H1.out.2.2.1
        go_wp2_with fail
        refine (Bounds_call x _ HX.out).mono ?_; rintro e w2 ⟨rfl, hb2⟩
        have H2 := Lib.hid (H1.out.keep hb2)
        clear hb2 y0 y1 y2
        go_wp2_with fail
        refine (awake_call _).mono ?_; rintro e w3 ⟨rfl, hb3⟩
        have H3 := Lib.hid (H2.out.keep hb3).2.2.2
        clear hb3
        go_wp2
        go_ret
        exact ⟨rfl, H3.out⟩
end Go.Proofs.Ytjidpkcoaoflbaa
