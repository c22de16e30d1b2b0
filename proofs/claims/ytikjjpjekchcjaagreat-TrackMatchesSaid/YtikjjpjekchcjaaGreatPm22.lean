/-
  PtAsgH, PtAsgB, PtAsgVc
-/
import Derived.Test.YtikjjpjekchcjaaGreatPm21
import Derived.Test.YtikjjpjekchcjaaGreatPm19
set_option linter.all false
set_option maxRecDepth 100000
set_option maxHeartbeats 64000000
section
namespace Go.Proofs.YtikjjpjekchcjaaGreat.Asg
open Go.RowKit AsgRows AsgMath MyHeap MyOwn
structure Bi (L : List (List Int)) (n m i : Nat) (T : Nat → Bool) (P C : Int) (pre : List (Nat × Nat)) : Prop where
 V : V (ent L) n m (n - i) T = 1073741824 * P - C
 P0 : 0 ≤ P
 P1 : P ≤ 16
 C0 : 0 ≤ C
 C1 : C ≤ 16777216
 A : bestL (ent L) n m n (fun _ => false) = pre ++ bestL (ent L) n m (n - i) T
 len : pre.length ≤ i
def NoT (L : List (List Int)) (n m i k : Nat) (T : Nat → Bool) : Prop := ∀ j, j < k → takeB (ent L) n m (n - (i + 1)) T j = false
theorem Bi.skip {L : List (List Int)} {n m i : Nat} {T : Nat → Bool} {P C : Int} {pre : List (Nat × Nat)} (h : Bi L n m i T P C pre) (hi : i < n) (hn : NoT L n m i m T) : Bi L n m (i + 1) T P C pre := by
 have hf : firstK (takeB (ent L) n m (n - (i + 1)) T) m = none := kO hn
 have h1 := fG hf
 have e : n - (i + 1) + 1 = n - i := by omega
 rw [e] at h1
 exact ⟨by rw [← h1.2]; exact h.V, h.P0, h.P1, h.C0, h.C1, by rw [← h1.1]; exact h.A, by have := h.len; omega⟩
theorem Bi.test {L : List (List Int)} {n m i k : Nat} {T : Nat → Bool} {P C P' C' : Int} {pre : List (Nat × Nat)} (h : Bi L n m i T P C pre) (hi : i < n) (hx0 : 0 ≤ ent L i k) (hx1 : ent L i k ≤ 1048576) (hT : T k = false) (hV : AsgMath.V (ent L) n m (n - (i + 1)) (AsgMath.setT T k) = 1073741824 * P' - C') (p0 : 0 ≤ C') (p1 : C' ≤ 16777216) :
    takeB (ent L) n m (n - (i + 1)) T k = true ↔ (P' + 1 = P ∧ C' + ent L i k = C) := by
 have e : n - (i + 1) + 1 = n - i := by omega
 have e2 : n - (n - i) = i := by omega
 have := h.V
 have := h.C0
 have := h.C1
 rw [dN, e, e2, hV, h.V]
 constructor
 ·rintro ⟨-, hh⟩
  omega
 rintro ⟨h1, h2⟩
 exact ⟨⟨hx0, hT⟩, by omega⟩
theorem Bi.take {L : List (List Int)} {n m i k : Nat} {T : Nat → Bool} {P C P' C' : Int} {pre : List (Nat × Nat)} (h : Bi L n m i T P C pre) (hi : i < n) (hk : k < m) (hno : NoT L n m i k T) (ht : takeB (ent L) n m (n - (i + 1)) T k = true) (hV : AsgMath.V (ent L) n m (n - (i + 1)) (AsgMath.setT T k) = 1073741824 * P' - C') (p0 : 0 ≤ P') (p1 : P' ≤ 16) (c0 : 0 ≤ C') (c1 : C' ≤ 16777216) :
    Bi L n m (i + 1) (AsgMath.setT T k) P' C' (pre ++ [(i, k)]) := by
 have hf : firstK (takeB (ent L) n m (n - (i + 1)) T) m = some k := iX hk ht hno
 have h1 := gS hf
 have e : n - (i + 1) + 1 = n - i := by omega
 have e2 : n - (n - i) = i := by omega
 rw [e, e2] at h1
 exact ⟨hV, p0, p1, c0, c1, by rw [h.A, h1, List.append_assoc]; rfl, by rw [List.length_append]; have := h.len; simp; omega⟩
theorem NoT.next {L : List (List Int)} {n m i k : Nat} {T : Nat → Bool} (h : NoT L n m i k T) (hk : takeB (ent L) n m (n - (i + 1)) T k = false) : NoT L n m i (k + 1) T := fun j hj => by
 by_cases e : j = k
 ·subst e; exact hk
 exact h j (by omega)
theorem no_take {L : List (List Int)} {n m i k : Nat} {T : Nat → Bool} (hi : i < n) (h : ent L i k < 0 ∨ T k = true) : takeB (ent L) n m (n - (i + 1)) T k = false := by
 cases hb : takeB (ent L) n m (n - (i + 1)) T k with
 | false => rfl
 | true =>
  have h1 := (dN.1 hb).1
  have e2 : n - (n - (i + 1) + 1) = i := by omega
  rw [e2] at h1
  rcases h with q | q
  ·omega
  rw [q] at h1; exact absurd h1.2 (by decide)
theorem bs_ok {L : List (List Int)} {pre : List (Nat × Nat)} {l : Value} {w w' : World} (h0 : chM L = 0) (hb : bsL L = toP pre) (hO : w'.ownsRow w.heap.size 96 2 l pre.length (flat2 (toP pre))) (hB : Below w.heap.size w w') : BsPost L w (.returned (.tuple #[l, .int .i64 0])) w' :=
 ⟨l, by rw [h0], by rw [hb, toP_len]; exact hO, hB⟩
theorem best_call (a : Option Addr) (n cc : Nat) (L : List (List Int)) (w : World) (hM : Mtx w a n L) :
    Calls Tryz.prog 56 #[.slice a n cc] w (BsPost L w) := by
 have HM0 := qh hM
 by_cases hE : chM L = 0
 ·have hMa := Ma.of hM hE
  obtain ⟨m, hm⟩ : ∃ m, wid L = m := ⟨_, rfl⟩
  rw [hm] at hMa
  have HM := qh hMa
  have HW := qh hm
  have HE := qh hE
  have m16 := hMa.m16
  have n16 : n ≤ 16 := by have := hMa.ok.n16; rw [hMa.M.len] at this; exact this
  have HLn := qh hMa.M.len
  obtain ⟨i0, hi, hiz, his, hib⟩ := info_parts infoPair
  have HI := qh (And.intro hi (And.intro hiz (And.intro his hib)))
  clear hM hMa hm hi hiz his hib
  go_enter Tryz.func56, Tryz.ntmps56
  go_wp2_with fail
  refine (bZ a n cc L _ HM0.out).mono ?_; rintro e w1 ⟨rfl, hb⟩
  rw [hE]
  have B1 := qh hb
  clear hE hb
  go_wp2_with fail
  have hc := lD a n m cc 0 L (fun _ => false) _ (HM.out.keep (B1.out.alloc B1.out.size (.cells #[.bool false, .bool false, .bool false, .bool false, .bool false, .bool false, .bool false, .bool false, .bool false, .bool false, .bool false, .bool false, .bool false, .bool false, .bool false, .bool false] 150 (0, 0)))) (Nat.zero_le _)
  unfold tkV tkA at hc
  refine hc.mono ?_; clear hc
  rintro e w2 ⟨hb, P, C, rfl, hV, hP0, hP1, hC0, hC1⟩
  have K : Bs w w1.heap.size w2.heap.size (w2.heap.size + 1) (fun _ => false) P C (.slice none 0 0) [] (w2.alloc (.cells #[.int .i64 P, .int .i64 C] 152 (0, 0))) := by
   have h1 := B1.out.alloc B1.out.size (.cells #[.bool false, .bool false, .bool false, .bool false, .bool false, .bool false, .bool false, .bool false, .bool false, .bool false, .bool false, .bool false, .bool false, .bool false, .bool false, .bool false] 150 (0, 0))
   have h2 := h1.trans (hb.mono h1.size)
   have h3 := hb.size
   simp only [World.size_alloc] at h3
   have h4 := B1.out.size
   exact ⟨h2.alloc h2.size _, (tk_start (aN hb (aI w1 _ rfl))).keep (aC _ _), aI _ _ rfl, ⟨rfl, Or.inl ⟨rfl, rfl⟩⟩, h4, by omega, by omega, by omega, by omega⟩
  have K := qh K
  have R := qh (show Bi L n m 0 (fun _ => false) P C [] from ⟨by rw [Nat.sub_zero]; rw [Nat.sub_zero] at hV; exact hV, hP0, hP1, hC0, hC1, by rw [Nat.sub_zero]; rfl, Nat.le_refl _⟩)
  have hbase : w.heap.size ≤ w2.heap.size + 1 := by have := K.out.t0; omega
  clear hb hV hP0 hP1 hC0 hC1
  go_wp2_with fail
  generalize w2.alloc (.cells #[.int .i64 P, .int .i64 C] 152 (0, 0)) = w3 at *
  generalize hkb : w1.heap.size = kb at *
  obtain ⟨base, hbs⟩ : ∃ x, w2.heap.size + 1 = x := ⟨_, rfl⟩
  rw [hbs] at K hbase
  generalize htb : w2.heap.size = tb at *
  have HBT := qh hbs
  clear hkb htb B1 hbs
  go_loopw [2, 22] (fun l iv wr => ∃ (i : Nat) (T : Nat → Bool) (P C : Int) (pre : List (Nat × Nat)), i ≤ n ∧ iv = .int .i64 i ∧ Bs w kb tb base T P C l pre wr ∧ Bi L n m i T P C pre) (fun _ iv _ => n - (intOf iv).toNat)
  case atStart => exact ⟨0, _, P, C, [], Nat.zero_le _, rfl, K.out, R.out⟩
  case round =>
   clear K R
   obtain ⟨i, T, P, C, pre, hi, rfl, hK, hR⟩ := hrel
   have K := qh hK
   have R := qh hR
   clear hK hR
   by_cases hin : i < n
   ·obtain ⟨b, off, rfl, ra, rc, x0w, xI⟩ := p7 HM0.out hin
    have x0 := aS K.out.B x0w
    have hrl : (rowL L i).length = m := by rw [HM.out.ok.form i (by rw [HM.out.M.len]; exact hin), HM.out.wd]
    rw [hrl] at x0 xI
    have HXI := qh xI
    clear x0w
    have q0 := World.block_lt_of_cell? wr _ x0
    have hi0 : (0 : Int) ≤ (i : Int) := by omega
    have hi1 : (i : Int) < (n : Int) := by omega
    have hm9 : (m : Int) ≤ 9223372036854775807 := by omega
    clear xI hrl
    go_wp2_with fail
    go_loopw [2, 29] (fun l jv wr' => ∃ (k : Nat), k ≤ m ∧ jv = .int .i64 k ∧ Bs w kb tb base T P C l pre wr' ∧ NoT L n m i k T) (fun _ jv _ => m - (intOf jv).toNat)
    case atStart => exact ⟨0, Nat.zero_le _, rfl, K.out, fun j hj => by omega⟩
    case round =>
     clear K q0 x0
     obtain ⟨k, hk, rfl, hK, hN⟩ := hrel
     have K := qh hK
     have HN := qh hN
     clear hK hN
     by_cases hkm : k < m
     ·obtain ⟨b2, o2, rfl, x1w⟩ := ints_at HXI.out hkm
      have x1 : wr.cell? ⟨b2, o2 + k, none⟩ = some (.int .i64 (AsgRows.ent L i k)) := aS K.out.B x1w
      have qb2 := World.block_lt_of_cell? wr _ x1
      have e3 := HM.out.ok.lo i k (by rw [HM.out.M.len]; exact hin) (by rw [HM.out.wd]; exact hkm)
      have e4 := HM.out.hi2 i k hin hkm
      clear x1w
      obtain ⟨t1, t2, t3⟩ := K.out.K.cell (k := k) (by omega)
      have hk0 : (0 : Int) ≤ (k : Int) := by omega
      have hk1 : (k : Int) < (m : Int) := by omega
      have hk2 : (k : Int) < 16 := by omega
      obtain ⟨X, hX⟩ : ∃ X, AsgRows.ent L i k = X := ⟨_, rfl⟩
      have HX := qh hX
      rw [hX] at x1 e3 e4
      clear hX
      by_cases hx : X < 0
      ·have HNN := qh (HN.out.next (no_take hin (Or.inl (by rw [HX.out]; exact hx))))
       go_wp2_with fail
       go_roundw
       case rel => exact ⟨k + 1, by omega, by go_num, K.out, HNN.out⟩
       case measure => simp [intOf]; omega
      cases hT : T k with
      | true =>
       have HNN := qh (HN.out.next (no_take hin (Or.inr hT)))
       rw [hT] at t1
       clear hT
       go_wp2_with fail
       go_roundw
       case rel => exact ⟨k + 1, by omega, by go_num, K.out, HNN.out⟩
       case measure => simp [intOf]; omega
      | false =>
       have HT := qh hT
       rw [hT] at t1
       clear hT
       have K2 := K.out.setK (k := k) (by omega) true
       rw [upd_setT] at K2
       obtain ⟨T', hT'⟩ : ∃ T', AsgMath.setT T k = T' := ⟨_, rfl⟩
       rw [hT'] at K2
       have HT' := qh hT'
       obtain ⟨⟨a0, a1, a2, a3⟩, ⟨a4, a5, a6, a7⟩, ⟨a8, a9, a10, a11⟩, ⟨a12, a13, a14, a15⟩⟩ := K2.K.all
       have HK2 := qh K2
       clear K2 hT'
       go_wp2_with fail
       have HLT := qh (fun b (e : u2.ownBlock = some b) => (K.out.O.lt b e).2)
       have hsz : wr.heap.size ≤ (wr.setCell ⟨kb, k, none⟩ (.bool true)).heap.size := Nat.le_of_eq (by simp [World.setCell])
       have hc := lD (some ⟨b, off, none⟩) n m cc (i + 1) L T' _ (HM.out.keep HK2.out.B) (by omega)
       unfold tkV tkA at hc
       rw [show ((i + 1 : Nat) : Int) = (i : Int) + 1 from rfl] at hc
       refine hc.mono ?_; clear hc
       rintro e w4 ⟨hb, P', C', rfl, hV, hP0, hP1, hC0, hC1⟩
       have HSZ := qh (Nat.le_trans hsz hb.size)
       clear hsz
       replace K := qh ((HK2.out.keep hb).keep (aC w4 (.cells #[.int .i64 P', .int .i64 C'] 152 (0, 0))))
       have Rn := qh (aI w4 (.cells #[.int .i64 P', .int .i64 C'] 152 (0, 0)) rfl)
       have HV := qh (And.intro (by rw [HT'.out]; exact hV : AsgMath.V (AsgRows.ent L) n m (n - (i + 1)) (AsgMath.setT T k) = 1073741824 * P' - C') (And.intro hP0 (And.intro hP1 (And.intro hC0 hC1))))
       have htt := qh (R.out.test hin (by rw [HX.out]; exact hx) (by rw [HX.out]; omega) HT.out HV.out.1 hC0 hC1)
       obtain ⟨p0, p1, f0, f1⟩ := gW K.out.R
       obtain ⟨r0, r1, -, -⟩ := gW Rn.out
       have q1 := aB K.out.R
       have q2 := aB Rn.out
       obtain ⟨k0, k1, k2⟩ := K.out.K.cell (k := k) (by omega)
       have hwp : IntKind.i64.wrap (P' + 1) = P' + 1 := IntWalk.i64_in _ (by omega)
       have hwc : IntKind.i64.wrap (C' + X) = C' + X := IntWalk.i64_in _ (by omega)
       clear hb hV a0 a1 a2 a3 a4 a5 a6 a7 a8 a9 a10 a11 a12 a13 a14 a15 HK2 qb2 x1 t1 t2 t3
       go_upto_region 15 with fail
       generalize w4.alloc (.cells #[.int .i64 P', .int .i64 C'] 152) = w5 at *
       generalize w4.heap.size = rb at *
       have hb5 : base ≤ w5.heap.size := by have := HBT.out; omega
       by_cases he : P' + 1 = P ∧ C' + X = C
       ·have HTk := qh (htt.out.2 ⟨he.1, by rw [HX.out]; exact he.2⟩)
        obtain ⟨rfl, rfl⟩ := he
        have HO := qh (K.out.O.alloc (.cells #[.int .i64 (i : Int), .int .i64 (k : Int)] 96))
        clear htt
        go_wp2_with (at_builtin; refine wpList_append_own _ rfl _ _ 91 rfl base 96 i0 _ 2 16 Tryz.underlying91 HI.out.1 HI.out.2.1 HI.out.2.2.1 HI.out.2.2.2 rfl (by decide) _ pre.length _ rfl HO.out ⟨w5.heap.size, 0, none⟩ 1 1 [.int .i64 (i : Int), .int .i64 (k : Int)] rfl rfl ?c1 ?c2 ?c3 ?c4 ?c5 ?_; rotate_right; intro v7 w7 hown7 hgrow _; have K7 := qh (And.intro (Bs.grow (pre' := pre ++ [(i, k)]) (K.out.keep (aC w5 (.cells #[.int .i64 (i : Int), .int .i64 (k : Int)] 96))) hgrow (by rw [qM, lQ, List.length_append]; exact hown7) hbase) ((hgrow.block rb (by simp; omega) (fun e => by have := HLT.out rb e.symm; have := HSZ.out; omega)).trans (aG Rn.out))); clear hown7 hgrow; obtain ⟨p0, p1, f0, f1⟩ := gW K7.out.1.R; obtain ⟨r0, r1, -, -⟩ := gW K7.out.2; have q1 := aB K7.out.1.R; have q2 := aB K7.out.2)
        case c1 => exact cellsTwo rfl
        case c2 => intro u hu; simp at hu; rcases hu with rfl | rfl <;> rfl
        case c3 =>
         exact Nat.le_trans (Nat.succ_le_succ R.out.len) (by unfold maxLen; omega)
        case c4 =>
         have hl := R.out.len
         omega
        case c5 => simp <;> omega
        go_roundw
        case rel => exact ⟨i + 1, T', P', C', pre ++ [(i, k)], by omega, by go_num, K7.out.1.setT _ _, by
         rw [← HT'.out]
         exact R.out.take hin hkm HN.out HTk.out HV.out.1 HV.out.2.1 HV.out.2.2.1 HV.out.2.2.2.1 HV.out.2.2.2.2⟩
        case measure => simp [intOf]; omega
       have HTk := qh (show takeB (AsgRows.ent L) n m (n - (i + 1)) T k = false by
        cases hb : takeB (AsgRows.ent L) n m (n - (i + 1)) T k with
        | false => rfl
        | true => exact absurd (htt.out.1 hb) (by rw [HX.out]; exact he))
       have K8 := qh (show Bs w kb tb base T P C u2 pre (w5.setCell ⟨kb, k, none⟩ (.bool false)) by
        have h := K.out.setK (k := k) (by omega) false
        rw [← HT'.out, upd_back HT.out] at h
        exact h)
       clear htt
       go_wp2_with fail
       all_goals
        go_roundw
        case rel => exact ⟨k + 1, by omega, by go_num, K8.out, HN.out.next HTk.out⟩
        case measure => simp [intOf]; omega
     obtain rfl : m = k := by omega
     clear hk hkm
     go_wp2_with fail
     go_roundw
     case rel => exact ⟨i + 1, T, P, C, pre, by omega, by go_num, K.out, R.out.skip hin HN.out⟩
     case measure => simp [intOf]; omega
   obtain rfl : n = i := by omega
   clear hi hin
   go_wp2_with fail
   go_ret2
   have hA := R.out.A
   rw [Nat.sub_self] at hA
   have hb : bsL L = toP pre := by
    unfold bsL bestM
    rw [if_pos HE.out, HLn.out, HW.out, hA]
    unfold bestL
    rw [List.append_nil]
   exact bs_ok HE.out hb (bR K.out.O hbase) K.out.B
 have HB := qh hE
 have hne : (chM L != 0) = true := by rw [bne_iff_ne]; exact hE
 clear hM hE
 go_enter Tryz.func56, Tryz.ntmps56
 go_wp2_with fail
 refine (bZ a n cc L _ HM0.out).mono ?_; rintro e w1 ⟨rfl, hb⟩
 obtain ⟨E, hE⟩ : ∃ E, chM L = E := ⟨_, rfl⟩
 rw [hE] at hne
 have HE := qh hE
 rw [hE]
 clear hE
 go_wp2_with fail
 go_ret2
 rw [← HE.out]
 exact bs_bad HB.out hb
end Go.Proofs.YtikjjpjekchcjaaGreat.Asg
end
section
namespace Go.Proofs.YtikjjpjekchcjaaGreat.Asg
open Go.RowKit AsgRows MyHeap
theorem bY (a : Option Addr) (n c : Nat) (L : List (List Int)) (w : World) (h : Mtx w a n L) :
    Calls Tryz.prog 68 #[.slice a n c] w (NPost (chM L) w) := by
 have hl := h.len
 have hbn := h.bound
 have HM := qh h
 by_cases h16 : 16 < n
 ·have HR := qh (show longM L from Or.inl (by omega))
  clear h hl
  have hg : (16 : Int) < (n : Int) := by omega
  go_enter Tryz.func68, Tryz.ntmps68
  go_wp2_with fail
  go_ret
  exact aJ (j9 HR.out).symm (Below.refl _ _)
 have hg : ¬ (16 : Int) < (n : Int) := by omega
 by_cases h0 : n = 0
 ·subst h0
  have HR := qh (show chM L = 0 from chM_zero (by unfold longM; omega) (fun i hi => by omega) (fun i hi => by omega))
  clear h hl
  go_enter Tryz.func68, Tryz.ntmps68
  go_wp2_with fail
  go_loopw [3] (fun kv wr => kv = .int .i64 0 ∧ w = wr) (fun kv _ => 0)
  case atStart => exact ⟨rfl, rfl⟩
  case round =>
   obtain ⟨rfl, rfl⟩ := hrel
   go_wp2_with fail
   go_loopw [4] (fun kv wr' => kv = .int .i64 0 ∧ w = wr') (fun kv _ => 0)
   case atStart => exact ⟨rfl, rfl⟩
   case round =>
    obtain ⟨rfl, rfl⟩ := hrel
    go_wp2_with fail
    go_ret
    exact aJ HR.out.symm (Below.refl _ _)
 obtain ⟨b, off, r0, c0, -, -, rfl, x0, -⟩ := fW h (i := 0) (by omega)
 have q0 := World.block_lt_of_cell? w _ x0
 have hw := lE h (i := 0) (by omega)
 have hw' : wid L ≤ 9223372036854775807 := hw
 have hn0 : (0 : Int) < (n : Int) := by omega
 by_cases hw16 : 16 < wid L
 ·have HR := qh (show longM L from Or.inr ⟨by omega, hw16⟩)
  have hg2 : (16 : Int) < (wid L : Int) := by omega
  generalize wid L = m at *
  clear h hl hw
  go_enter Tryz.func68, Tryz.ntmps68
  go_wp2_with fail
  go_ret
  exact aJ (j9 HR.out).symm (Below.refl _ _)
 have hg2 : ¬ (16 : Int) < (wid L : Int) := by omega
 have HR := qh (show ¬ longM L by unfold longM; omega)
 have HL := qh hl
 obtain ⟨m, hm⟩ : ∃ m, wid L = m := ⟨_, rfl⟩
 rw [hm] at x0 hw' hg2
 have HW := qh hm
 clear h hl hw hm hw16
 go_enter Tryz.func68, Tryz.ntmps68
 go_wp2_with fail
 go_loopw [3] (fun kv wr => ∃ k : Nat, k ≤ n ∧ kv = .int .i64 k ∧ (∀ i, i < k → (rowL L i).length = wid L) ∧ ∃ d, wr = w.drewN d) (fun kv _ => n - (intOf kv).toNat)
 case atStart => exact ⟨0, by omega, rfl, fun i hi => by omega, 0, rfl⟩
 case round =>
  obtain ⟨k, hk, rfl, hS, d, rfl⟩ := hrel
  have HS := qh hS
  clear hS
  by_cases hlt : k < n
  ·obtain ⟨b', off', r0', c0', ra, rc, e, -, y0, hI⟩ := fW HM.out (i := k) hlt
   cases e
   have hrb := hI.bound
   have q1 := World.block_lt_of_cell? w _ y0
   have hk0 : (0 : Int) ≤ (k : Int) := by omega
   have hk1 : (k : Int) < (n : Int) := by omega
   clear hI
   by_cases hx : (rowL L k).length = wid L
   ·have HX := qh hx
    rw [hx, HW.out] at y0
    clear hx hrb
    have ht : ((m : Int) != (m : Int)) = false := by simp
    go_wp2_with fail
    go_quiet (fail)
    go_wp2_with fail
    go_roundw
    case rel => exact ⟨k + 1, by omega, by go_num, fun i hi => by
     by_cases e : i = k
     ·subst e; exact HX.out
     exact HS.out i (by omega), _, rfl⟩
    case measure => simp [intOf]; omega
   have HX := qh hx
   obtain ⟨r, hr⟩ : ∃ r, (rowL L k).length = r := ⟨_, rfl⟩
   rw [hr] at y0 hrb
   have ht : ((r : Int) != (m : Int)) = true := by rw [bne_iff_ne]; have := HW.out; omega
   clear hx hr
   go_wp2_with fail
   go_quiet (fail)
   go_wp2_with fail
   go_ret
   exact aJ (chM_form HR.out (by rw [HL.out]; exact hlt) HX.out).symm (aM (aM (Below.refl _ _) _) _)
  obtain rfl : n = k := by omega
  go_wp2_with fail
  clear hk hlt
  go_loopw [4] (fun kv wr' => ∃ k : Nat, k ≤ n ∧ kv = .int .i64 k ∧ (∀ i, i < k → ∀ j, j < (rowL L i).length → -1 ≤ ent L i j ∧ ent L i j ≤ 1048576) ∧ ∃ d, wr' = w.drewN d) (fun kv _ => n - (intOf kv).toNat)
  case atStart => exact ⟨0, by omega, rfl, fun i hi => by omega, d, rfl⟩
  case round =>
   obtain ⟨k, hk, rfl, hE, d, rfl⟩ := hrel
   have HE := qh hE
   clear hE
   by_cases hlt : k < n
   ·obtain ⟨b', off', r0', c0', ra, rc, e, -, y0, hI⟩ := fW HM.out (i := k) hlt
    cases e
    rw [HS.out k hlt, HW.out] at y0 hI
    have HI := qh hI
    have hk0 : (0 : Int) ≤ (k : Int) := by omega
    have hk1 : (k : Int) < (n : Int) := by omega
    clear hI
    go_wp2_with fail
    go_loopw [5] (fun kv wr' => ∃ j : Nat, j ≤ m ∧ kv = .int .i64 j ∧ (∀ i, i < j → -1 ≤ ent L k i ∧ ent L k i ≤ 1048576) ∧ ∃ d, wr' = w.drewN d) (fun kv _ => m - (intOf kv).toNat)
    case atStart => exact ⟨0, by omega, rfl, fun i hi => by omega, d, rfl⟩
    case round =>
     obtain ⟨j, hj, rfl, hJ, d, rfl⟩ := hrel
     have HJ := qh hJ
     clear hJ
     by_cases hjm : j < m
     ·obtain ⟨b2, o2, rfl, z0⟩ := ints_at HI.out (k := j) hjm
      obtain ⟨X, hX⟩ : ∃ X, gi (rowL L k) j = X := ⟨_, rfl⟩
      rw [hX] at z0
      have HX := qh (show ent L k j = X from hX)
      have q2 := World.block_lt_of_cell? w _ z0
      have hj0 : (0 : Int) ≤ (j : Int) := by omega
      have hj1 : (j : Int) < (m : Int) := by omega
      clear hX
      by_cases hlo : X < -1
      ·go_wp2_with fail
       go_ret
       exact aJ (mB HR.out (fun i hi => HS.out i (by rw [← HL.out]; exact hi)) (by rw [HL.out]; exact hlt) (k := j) (by rw [HS.out k hlt, HW.out]; exact hjm) (by rw [HX.out]; omega)).symm (aM (Below.refl _ _) _)
      by_cases hhi : 1048576 < X
      ·go_wp2_with fail
       go_ret
       exact aJ (mB HR.out (fun i hi => HS.out i (by rw [← HL.out]; exact hi)) (by rw [HL.out]; exact hlt) (k := j) (by rw [HS.out k hlt, HW.out]; exact hjm) (by rw [HX.out]; omega)).symm (aM (Below.refl _ _) _)
      have HY := qh (show -1 ≤ X ∧ X ≤ 1048576 by omega)
      go_wp2_with fail
      go_roundw
      case rel => exact ⟨j + 1, by omega, by go_num, fun i hi => by
       by_cases e : i = j
       ·subst e; rw [HX.out]; exact HY.out
       exact HJ.out i (by omega), _, rfl⟩
      case measure => simp [intOf]; omega
     obtain rfl : m = j := by omega
     clear hj hjm
     go_wp2_with fail
     go_roundw
     case rel => exact ⟨k + 1, by omega, by go_num, fun i hi => by
      by_cases e : i = k
      ·subst e; rw [HS.out i hlt, HW.out]; exact HJ.out
      exact HE.out i (by omega), _, rfl⟩
     case measure => simp [intOf]; omega
   obtain rfl : n = k := by omega
   go_wp2_with fail
   go_ret
   exact aJ (chM_zero HR.out (fun i hi => HS.out i (by rw [← HL.out]; exact hi)) (fun i hi => HE.out i (by rw [← HL.out]; exact hi))).symm (aM (Below.refl _ _) _)
end Go.Proofs.YtikjjpjekchcjaaGreat.Asg
end
section
namespace Go.Proofs.YtikjjpjekchcjaaGreat.Asg
open Go.RowKit AsgRows AsgMath MyHeap MyOwn MyCopy
structure Rb (L : List (List Int)) (n m P i u : Nat) (pre : List (Nat × Nat)) : Prop where
 u1 : u < P
 A : bestL (ent L) n m n (fun _ => false) = pre ++ bestL (ent L) n m (n - i) (bitsT u)
 len : pre.length ≤ i
theorem Rb.skip {L : List (List Int)} {n m P i u : Nat} {pre : List (Nat × Nat)} (h : Rb L n m P i u pre) (hi : i < n) (hn : NoT L n m i m (bitsT u)) : Rb L n m P (i + 1) u pre := by
 have hf : firstK (takeB (ent L) n m (n - (i + 1)) (bitsT u)) m = none := kO hn
 have h1 := fG hf
 have e : n - (i + 1) + 1 = n - i := by omega
 rw [e] at h1
 exact ⟨h.u1, by rw [← h1.1]; exact h.A, by have := h.len; omega⟩
theorem Rb.take {L : List (List Int)} {n m P i u k : Nat} {pre : List (Nat × Nat)} (h : Rb L n m P i u pre) (hi : i < n) (hk : k < m) (hP : 2 ^ m = P) (hb : u / 2 ^ k % 2 = 0) (hno : NoT L n m i k (bitsT u)) (ht : takeB (ent L) n m (n - (i + 1)) (bitsT u) k = true) : Rb L n m P (i + 1) (u + 2 ^ k) (pre ++ [(i, k)]) := by
 have hf : firstK (takeB (ent L) n m (n - (i + 1)) (bitsT u)) m = some k := iX hk ht hno
 have h1 := gS hf
 have e : n - (i + 1) + 1 = n - i := by omega
 have e2 : n - (n - i) = i := by omega
 rw [e, e2] at h1
 refine ⟨?_, by rw [h.A, h1, List.append_assoc, kR hb]; rfl, by rw [List.length_append]; have := h.len; simp; omega⟩
 have := h.u1
 rw [← hP] at this ⊢
 exact iE this hk hb
theorem rb_grow {w2 wq w7 : World} {base n : Nat} {T : TypeId} {o : Obj} {v : Value} {xs : List Value} (h : Below base w2 wq) (hz : base ≤ wq.heap.size) (hO : (wq.alloc o).ownsRow base T 2 v n xs) (hg : (wq.alloc o).grownBy w7 v.ownBlock) : Below base w2 w7 :=
 (h.alloc hz o).trans (lO hO hg (Nat.le_refl _) (by rw [World.size_alloc]; omega))
theorem rBest_call (a : Option Addr) (n cc : Nat) (L : List (List Int)) (w : World) (hM : Mtx w a n L) (h9 : chM L = 0 → wid L ≤ 16) :
    Calls Tryz.prog 34 #[.slice a n cc] w (BsPost L w) := by
 have HM0 := qh hM
 by_cases hE : chM L = 0
 ·have hMa := Ma.of hM hE
  have hm9 := h9 hE
  obtain ⟨m, hm⟩ : ∃ m, wid L = m := ⟨_, rfl⟩
  rw [hm] at hMa hm9
  have HM := qh hMa
  have HW := qh hm
  have HE := qh hE
  have n16 : n ≤ 16 := by have := hMa.ok.n16; rw [hMa.M.len] at this; exact this
  have HLn := qh hMa.M.len
  obtain ⟨i0, hi, hiz, his, hib⟩ := info_parts infoPair
  have HI := qh (And.intro hi (And.intro hiz (And.intro his hib)))
  clear hM hMa hm h9 hi hiz his hib
  go_enter Tryz.func34, Tryz.ntmps34
  go_wp2_with fail
  refine (bY a n cc L _ HM0.out).mono ?_; rintro e w1 ⟨rfl, hb⟩
  rw [hE]
  have B1 := qh hb
  clear hE hb
  go_wp2_with fail
  refine (pD a n cc m L _ (HM.out.keep B1.out) hm9).mono ?_; rintro e w2 ⟨tb, rfl, hV, hb⟩
  obtain ⟨P, hP⟩ : ∃ P, 2 ^ m = P := ⟨_, rfl⟩
  have HP := qh hP
  rw [hP] at hV
  have hp9 : P ≤ 65536 := by rw [← hP]; exact l5 hm9
  have HV := qh hV
  have B2 := qh (B1.out.trans (hb.mono B1.out.size))
  obtain ⟨base, hbase⟩ : ∃ base, w2.heap.size = base := ⟨_, rfl⟩
  have HBs := qh hbase
  clear hV hb hP hbase B1
  go_wp2_with fail
  go_loopw [6, 7, 8] (fun uv l iv wr => ∃ (i u : Nat) (pre : List (Nat × Nat)), i ≤ n ∧ uv = .int .i64 u ∧ iv = .int .i64 i ∧ Rb L n m P i u pre ∧ wr.ownsRow base 96 2 l pre.length (flat2 (toP pre)) ∧ Below base w2 wr) (fun _ _ iv _ => n - (intOf iv).toNat)
  case atStart => exact ⟨0, 0, [], Nat.zero_le _, rfl, rfl, ⟨by rw [← HP.out]; exact Nat.two_pow_pos m, by rw [Nat.sub_zero, bitsT_zero]; rfl, Nat.le_refl _⟩, ⟨rfl, Or.inl ⟨rfl, rfl⟩⟩, by rw [← HBs.out]; exact Below.refl _ _⟩
  case round =>
   obtain ⟨i, u, pre, hi, rfl, rfl, hR, hO, hB⟩ := hrel
   have R := qh hR
   have K := qh (And.intro hO hB)
   have hu1 := hR.u1
   clear hR hO hB
   by_cases hin : i < n
   ·obtain ⟨b, off, rfl, ra, rc, x0w, xI⟩ := p7 HM0.out hin
    have x0 := aS (show Below w.heap.size w wr from B2.out.trans (K.out.2.mono (by rw [← HBs.out]; exact B2.out.size))) x0w
    have hrl : (rowL L i).length = m := by rw [HM.out.ok.form i (by rw [HM.out.M.len]; exact hin), HM.out.wd]
    rw [hrl] at x0 xI
    have HXI := qh xI
    have q0 := World.block_lt_of_cell? wr _ x0
    have hi0 : (0 : Int) ≤ (i : Int) := by omega
    have hi1 : (i : Int) < (n : Int) := by omega
    clear x0w xI hrl
    go_wp2_with fail
    go_loopw [6, 7, 9] (fun uv l' kv wr' => ∃ (k : Nat), k ≤ m ∧ uv = .int .i64 u ∧ kv = .int .i64 k ∧ l' = u7 ∧ (∃ d, wr' = wr.drewN d) ∧ NoT L n m i k (bitsT u)) (fun _ _ kv _ => m - (intOf kv).toNat)
    case atStart => exact ⟨0, Nat.zero_le _, rfl, rfl, rfl, ⟨0, rfl⟩, fun j hj => by omega⟩
    case round =>
     obtain ⟨k, hk, rfl, rfl, rfl, ⟨d, rfl⟩, hN⟩ := hrel
     have HN := qh hN
     clear hN
     by_cases hkm : k < m
     ·obtain ⟨b2, o2, rfl, x1w⟩ := ints_at HXI.out hkm
      have x1 : wr.cell? ⟨b2, o2 + k, none⟩ = some (.int .i64 (AsgRows.ent L i k)) := aS (show Below w.heap.size w wr from B2.out.trans (K.out.2.mono (by rw [← HBs.out]; exact B2.out.size))) x1w
      have qb2 := World.block_lt_of_cell? wr _ x1
      have e3 := HM.out.ok.lo i k (by rw [HM.out.M.len]; exact hin) (by rw [HM.out.wd]; exact hkm)
      have e4 := HM.out.hi2 i k hin hkm
      clear x1w
      have hk0 : (0 : Int) ≤ (k : Int) := by omega
      have hk1 : (k : Int) < (m : Int) := by omega
      have hk2 : (k : Int) < 16 := by omega
      obtain ⟨X, hX⟩ : ∃ X, AsgRows.ent L i k = X := ⟨_, rfl⟩
      have HX := qh hX
      rw [hX] at x1 e3 e4
      obtain ⟨Q, hQ⟩ : ∃ Q, 2 ^ k = Q := ⟨_, rfl⟩
      have HQ := qh hQ
      have hwk : wrap64 ((2 : Int) ^ k) = (Q : Int) := by rw [← hQ]; exact mF (by omega)
      have hq9 : Q ≤ 65536 := by rw [← hQ]; exact l5 (by omega)
      have htm : ((u : Int) / (2 : Int) ^ k).tmod 2 = ((u / Q % 2 : Nat) : Int) := by
       have : (u : Int) / (2 : Int) ^ k = ((u / Q : Nat) : Int) := by rw [← hQ, Int.natCast_ediv, Int.natCast_pow]; rfl
       rw [this, Int.tmod_eq_emod_of_nonneg (Int.natCast_nonneg _)]; rfl
      clear hX hQ
      by_cases hx : 0 ≤ X
      ·have d0 : decide (0 ≤ X) = true := decide_eq_true hx
       by_cases hbit : u / Q % 2 = 0
       ·have d1 : (((u : Int) / (2 : Int) ^ k).tmod 2 == 0) = true := by rw [htm, hbit]; rfl
        have HBt := qh (show AsgRows.ent L i k = X ∧ 0 ≤ AsgRows.ent L i k ∧ u / 2 ^ k % 2 = 0 from ⟨HX.out, by rw [HX.out]; exact hx, by rw [HQ.out]; exact hbit⟩)
        have hlt2 : u + Q < P := by
         have := iE (u := u) (k := k) (m := m) (by rw [HP.out]; exact hu1) hkm HBt.out.2.2
         rw [HQ.out, HP.out] at this
         exact this
        have hVw := HV.out.keep (by rw [HBs.out]; exact K.out.2)
        obtain ⟨g1, c1, l1, n1⟩ := hVw.at (j := i + 1) (Nat.zero_le _) (by omega)
        obtain ⟨g0, c0, l0, n0⟩ := hVw.at (j := i) (Nat.zero_le _) (by omega)
        have y1 := n1 (u + Q) hlt2
        have y0 := n0 u hu1
        have ht := hVw.lt
        clear n1 n0 hVw
        obtain ⟨hy0, hy1⟩ := mV (L := L) (n := n) (m := m) (i := i + 1) (u := u + Q) n16 HM.out.hi2
        obtain ⟨hz0, hz1⟩ := mV (L := L) (n := n) (m := m) (i := i) (u := u) n16 HM.out.hi2
        have HT := qh (take_iff (L := L) (n := n) (m := m) (i := i) (u := u) (k := k) hin HBt.out.2.1 HBt.out.2.2)
        obtain ⟨Y, hY⟩ : ∃ Y, Vr L n m (i + 1) (u + Q) = Y := ⟨_, rfl⟩
        obtain ⟨Z, hZ⟩ : ∃ Y, Vr L n m i u = Y := ⟨_, rfl⟩
        have HY := qh (And.intro hY hZ)
        rw [hY] at y1 hy0 hy1
        rw [hZ] at y0 hz0 hz1
        have hj2 : ((i : Int) + 1).toNat = i + 1 := by omega
        have hj3 : (i : Int) + 1 < (n : Int) + 1 := by omega
        have hj4 : (i : Int) < (n : Int) + 1 := by omega
        have hu2 : (u : Int) < (P : Int) := by omega
        have hlt3 : (u : Int) + (Q : Int) < (P : Int) := by omega
        have hv1 : IntKind.i64.wrap (1073741824 - X) = 1073741824 - X := IntWalk.i64_in _ (by omega)
        have hv2 : IntKind.i64.wrap (1073741824 - X + Y) = 1073741824 - X + Y := IntWalk.i64_in _ (by omega)
        have hv3 : IntKind.i64.wrap ((u : Int) + (Q : Int)) = (u : Int) + (Q : Int) := IntWalk.i64_in _ (by omega)
        have hv4 : IntKind.i64.wrap ((i : Int) + 1) = (i : Int) + 1 := IntWalk.i64_in _ (by omega)
        have hv5 : ((u : Int) + (Q : Int)).toNat = u + Q := by omega
        have hv6 : (0 : Int) ≤ (u : Int) + (Q : Int) := by omega
        have hv7 : (0 : Int) ≤ (i : Int) + 1 := by omega
        have hv8 : (0 : Int) ≤ (u : Int) := by omega
        have hw1 : wrap64 (1073741824 - X) = 1073741824 - X := by unfold wrap64; omega
        have hw2 : wrap64 (1073741824 - X + Y) = 1073741824 - X + Y := by unfold wrap64; omega
        have hw3 : wrap64 ((u : Int) + (Q : Int)) = (u : Int) + (Q : Int) := by unfold wrap64; omega
        by_cases hz : 1073741824 - X + Y = Z
        ·have d2 : (1073741824 - X + Y == Z) = true := by rw [beq_iff_eq]; exact hz
         have HTk := qh (HT.out.2 (by rw [HBt.out.1, HQ.out, HY.out.1, HY.out.2]; exact hz))
         clear htm hbit hY hZ hx hz
         go_wp2_with fail
         go_quiet (fail)
         clear hv1 hv2 hv3 hv4 hv5 hv6 hv7 hv8 hw1 hw2 d0 d1 d2 y1 y0 c1 c0 x1 x0 hz0 hz1 hy0 hy1 hj2 hj3 hj4 ht l1 l0
         have HR := qh (R.out.take hin hkm HP.out HBt.out.2.2 HN.out HTk.out)
         rw [HQ.out] at HR
         have HZ := qh (show base ≤ wr.heap.size by rw [← HBs.out]; exact K.out.2.size)
         go_upto_region 14 with fail
         generalize hq : (wr.drewN d).drewN nq = wq at *
         have HO := qh (show (wq.alloc (.cells #[.int .i64 (i : Int), .int .i64 (k : Int)] 96)).ownsRow base 96 2 u7 pre.length (flat2 (toP pre)) ∧ Below base w2 wq ∧ base ≤ wq.heap.size from by
          have h := aO K.out.1 (aM (aM (Below.refl _ _) d) nq) (Nat.le_refl _)
          rw [hq] at h
          refine ⟨h.alloc _, ?_, ?_⟩
          ·rw [← hq]; exact aM (aM K.out.2 d) nq
          rw [← hq]; exact HZ.out)
         clear hq
         go_upto_region 15 with (at_builtin; refine wpList_append_own _ rfl _ _ 91 rfl base 96 i0 _ 2 16 Tryz.underlying91 HI.out.1 HI.out.2.1 HI.out.2.2.1 HI.out.2.2.2 rfl (by decide) _ pre.length _ rfl HO.out.1 ⟨wq.heap.size, 0, none⟩ 1 1 [.int .i64 (i : Int), .int .i64 (k : Int)] rfl rfl ?c1 ?c2 ?c3 ?c4 ?c5 ?_; rotate_right; intro v7 w7 hown7 hgrow _; have K7 := qh (And.intro hown7 (rb_grow HO.out.2.1 HO.out.2.2 HO.out.1 hgrow)); clear hown7 hgrow)
         case c1 => exact cellsTwo rfl
         case c2 => intro u hu; simp at hu; rcases hu with rfl | rfl <;> rfl
         case c3 => exact Nat.le_trans (Nat.succ_le_succ R.out.len) (by unfold maxLen; omega)
         case c4 =>
          have hl := R.out.len
          omega
         case c5 => have := HO.out.2.2; simp; omega
         clear hw3
         go_wp2_with fail
         go_roundw
         case rel => exact ⟨i + 1, u + Q, pre ++ [(i, k)], by omega, congrArg (Value.int .i64) (by omega), by go_num, HR.out, by rw [qM, lQ, List.length_append]; exact K7.out.1, K7.out.2⟩
         case measure => simp [intOf]; omega
        have d2 : (1073741824 - X + Y == Z) = false := by rw [beq_eq_false_iff_ne]; exact hz
        have HTk := qh (show takeB (AsgRows.ent L) n m (n - (i + 1)) (bitsT u) k = false by
         cases hb : takeB (AsgRows.ent L) n m (n - (i + 1)) (bitsT u) k with
         | false => rfl
         | true =>
          have h := HT.out.1 hb
          rw [HBt.out.1, HQ.out, HY.out.1, HY.out.2] at h
          exact absurd h hz)
        clear htm hbit hY hZ hx hz
        go_wp2_with fail
        go_quiet (fail)
        go_wp2_with fail
        go_roundw
        case rel => exact ⟨k + 1, by omega, rfl, by go_num, rfl, ⟨_, rfl⟩, HN.out.next HTk.out⟩
        case measure => simp [intOf]; omega
       have d1 : (((u : Int) / (2 : Int) ^ k).tmod 2 == 0) = false := by rw [htm, beq_eq_false_iff_ne]; omega
       have HTk := qh (take_no (L := L) (n := n) (m := m) (i := i) (u := u) (k := k) hin (fun q => by rw [HQ.out] at q; exact hbit q.2))
       clear htm hbit hx
       go_wp2_with fail
       go_quiet (fail)
       go_wp2_with fail
       go_roundw
       case rel => exact ⟨k + 1, by omega, rfl, by go_num, rfl, ⟨_, rfl⟩, HN.out.next HTk.out⟩
       case measure => simp [intOf]; omega
      have d0 : decide (0 ≤ X) = false := decide_eq_false hx
      have HTk := qh (take_no (L := L) (n := n) (m := m) (i := i) (u := u) (k := k) hin (fun q => by rw [HX.out] at q; exact hx q.1))
      clear htm hx
      go_wp2_with fail
      go_quiet (fail)
      go_wp2_with fail
      go_roundw
      case rel => exact ⟨k + 1, by omega, rfl, by go_num, rfl, ⟨_, rfl⟩, HN.out.next HTk.out⟩
      case measure => simp [intOf]; omega
     obtain rfl : m = k := by omega
     have HR := qh (R.out.skip hin HN.out)
     go_wp2_with fail
     go_roundw
     case rel => exact ⟨i + 1, u, pre, by omega, rfl, by go_num, HR.out, aO K.out.1 (aM (Below.refl _ _) d) (Nat.le_refl _), aM K.out.2 d⟩
     case measure => simp [intOf]; omega
   obtain rfl : n = i := by omega
   go_wp2_with fail
   go_ret2
   have hA := R.out.A
   rw [Nat.sub_self] at hA
   have hb : bsL L = toP pre := by
    unfold bsL bestM
    rw [if_pos HE.out, HLn.out, HW.out, hA]
    unfold bestL
    rw [List.append_nil]
   have hbw : w.heap.size ≤ base := by rw [← HBs.out]; exact B2.out.size
   exact bs_ok HE.out hb (bR K.out.1 hbw) (B2.out.trans (K.out.2.mono hbw))
 have HB := qh hE
 have hne : (chM L != 0) = true := by rw [bne_iff_ne]; exact hE
 clear hM hE h9
 go_enter Tryz.func34, Tryz.ntmps34
 go_wp2_with fail
 refine (bY a n cc L _ HM0.out).mono ?_; rintro e w1 ⟨rfl, hb⟩
 obtain ⟨E, hE⟩ : ∃ E, chM L = E := ⟨_, rfl⟩
 rw [hE] at hne
 have HE := qh hE
 rw [hE]
 clear hE
 go_wp2_with fail
 go_ret2
 rw [← HE.out]
 exact bs_bad HB.out hb
end Go.Proofs.YtikjjpjekchcjaaGreat.Asg
end
