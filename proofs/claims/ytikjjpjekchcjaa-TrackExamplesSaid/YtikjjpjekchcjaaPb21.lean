/-
  PtAsgH, PtAsgB, PtAsgVc, TrkMx
-/
import Derived.Test.YtikjjpjekchcjaaPb20
import Derived.Test.YtikjjpjekchcjaaPb17
import Derived.Test.YtikjjpjekchcjaaPb18
import Derived.Test.YtikjjpjekchcjaaPb16
import Derived.Maps.RangeWalk
import Derived.Maps.OwnSet
section
namespace Go.Proofs.Ytikjjpjekchcjaa.Asg
open Go.RowKit AsgRows AsgMath MyHeap MyOwn
structure Bi (L : List (List Int)) (n m i : Nat) (T : Nat → Bool) (P C : Int) (pre : List (Nat × Nat)) : Prop where
 V : V (ent L) n m (n - i) T = 1073741824 * P - C
 P0 : 0 ≤ P
 P1 : P ≤ 16
 C0 : 0 ≤ C
 C1 : C ≤ 16777216
 A : bestL (ent L) n m n (fun _ => false) = pre ++ bestL (ent L) n m (n - i) T
 len : pre.length ≤ i
def NoT (L : List (List Int)) (n m i k : Nat) (T : Nat → Bool) : Prop := ∀ j, j < k → takeB (ent L) n m (n - (i + 1)) T j = false
theorem Bi.skip {L : List (List Int)} {n m i : Nat} {T : Nat → Bool} {P C : Int} {pre : List (Nat × Nat)} (h : Bi L n m i T P C pre) (hi : i < n) (hn : NoT L n m i m T) : Bi L n m (i + 1) T P C pre := by
 have hf : firstK (takeB (ent L) n m (n - (i + 1)) T) m = none := firstK_no hn
 have h1 := bestL_skip hf
 have e : n - (i + 1) + 1 = n - i := by omega
 rw [e] at h1
 exact ⟨by rw [← h1.2]; exact h.V, h.P0, h.P1, h.C0, h.C1, by rw [← h1.1]; exact h.A, by have := h.len; omega⟩
theorem Bi.test {L : List (List Int)} {n m i k : Nat} {T : Nat → Bool} {P C P' C' : Int} {pre : List (Nat × Nat)} (h : Bi L n m i T P C pre) (hi : i < n) (hx0 : 0 ≤ ent L i k) (hx1 : ent L i k ≤ 1048576) (hT : T k = false) (hV : AsgMath.V (ent L) n m (n - (i + 1)) (AsgMath.setT T k) = 1073741824 * P' - C') (p0 : 0 ≤ C') (p1 : C' ≤ 16777216) :
    takeB (ent L) n m (n - (i + 1)) T k = true ↔ (P' + 1 = P ∧ C' + ent L i k = C) := by
 have e : n - (i + 1) + 1 = n - i := by omega
 have e2 : n - (n - i) = i := by omega
 have := h.V
 have := h.C0
 have := h.C1
 rw [takeB_iff, e, e2, hV, h.V]
 constructor
 ·rintro ⟨-, hh⟩
  omega
 ·rintro ⟨h1, h2⟩
  exact ⟨⟨hx0, hT⟩, by omega⟩
theorem Bi.take {L : List (List Int)} {n m i k : Nat} {T : Nat → Bool} {P C P' C' : Int} {pre : List (Nat × Nat)} (h : Bi L n m i T P C pre) (hi : i < n) (hk : k < m) (hno : NoT L n m i k T) (ht : takeB (ent L) n m (n - (i + 1)) T k = true) (hV : AsgMath.V (ent L) n m (n - (i + 1)) (AsgMath.setT T k) = 1073741824 * P' - C') (p0 : 0 ≤ P') (p1 : P' ≤ 16) (c0 : 0 ≤ C') (c1 : C' ≤ 16777216) :
    Bi L n m (i + 1) (AsgMath.setT T k) P' C' (pre ++ [(i, k)]) := by
 have hf : firstK (takeB (ent L) n m (n - (i + 1)) T) m = some k := firstK_of hk ht hno
 have h1 := bestL_take hf
 have e : n - (i + 1) + 1 = n - i := by omega
 have e2 : n - (n - i) = i := by omega
 rw [e, e2] at h1
 exact ⟨hV, p0, p1, c0, c1, by rw [h.A, h1, List.append_assoc]; rfl, by rw [List.length_append]; have := h.len; simp; omega⟩
theorem NoT.next {L : List (List Int)} {n m i k : Nat} {T : Nat → Bool} (h : NoT L n m i k T) (hk : takeB (ent L) n m (n - (i + 1)) T k = false) : NoT L n m i (k + 1) T := fun j hj => by
 by_cases e : j = k
 ·subst e; exact hk
 ·exact h j (by omega)
theorem no_take {L : List (List Int)} {n m i k : Nat} {T : Nat → Bool} (hi : i < n) (h : ent L i k < 0 ∨ T k = true) : takeB (ent L) n m (n - (i + 1)) T k = false := by
 cases hb : takeB (ent L) n m (n - (i + 1)) T k with
 | false => rfl
 | true =>
  have h1 := (takeB_iff.1 hb).1
  have e2 : n - (n - (i + 1) + 1) = i := by omega
  rw [e2] at h1
  rcases h with q | q
  ·omega
  ·rw [q] at h1; exact absurd h1.2 (by decide)
set_option maxRecDepth 100000 in
theorem bs_ok {L : List (List Int)} {pre : List (Nat × Nat)} {l : Value} {w w' : World} (h0 : chM L = 0) (hb : bsL L = toP pre) (hO : w'.ownsRow w.heap.size 103 2 l pre.length (flat2 (toP pre))) (hB : Below w.heap.size w w') : BsPost L w (.returned (.tuple #[l, .int .i64 0])) w' :=
 ⟨l, by rw [h0], by rw [hb, toP_len]; exact hO, hB⟩
set_option maxRecDepth 100000 in
set_option maxHeartbeats 16000000 in
theorem best_call (a : Option Addr) (n cc : Nat) (L : List (List Int)) (w : World) (hM : Mtx w a n L) :
    Calls Try.prog 59 #[.slice a n cc] w (BsPost L w) := by
 have HM0 := Lib.hid hM
 by_cases hE : chM L = 0
 ·have hMa := Ma.of hM hE
  obtain ⟨m, hm⟩ : ∃ m, wid L = m := ⟨_, rfl⟩
  rw [hm] at hMa
  have HM := Lib.hid hMa
  have HW := Lib.hid hm
  have HE := Lib.hid hE
  have m16 := hMa.m16
  have n16 : n ≤ 16 := by have := hMa.ok.n16; rw [hMa.M.len] at this; exact this
  have HLn := Lib.hid hMa.M.len
  obtain ⟨i0, hi, hiz, his, hib⟩ := info_parts infoPair
  have HI := Lib.hid (And.intro hi (And.intro hiz (And.intro his hib)))
  clear hM hMa hm hi hiz his hib
  go_enter Try.func59, Try.ntmps59
  go_wp2_with fail
  refine (pCheck_call a n cc L _ HM0.out).mono ?_; rintro e w1 ⟨rfl, hb⟩
  rw [hE]
  have B1 := Lib.hid hb
  clear hE hb
  go_wp2_with fail
  have hc := solve_call a n m cc 0 L (fun _ => false) _ (HM.out.keep (B1.out.alloc B1.out.size (.cells #[.bool false, .bool false, .bool false, .bool false, .bool false, .bool false, .bool false, .bool false, .bool false, .bool false, .bool false, .bool false, .bool false, .bool false, .bool false, .bool false] 152 (0, 0)))) (Nat.zero_le _)
  unfold tkV tkA at hc
  refine hc.mono ?_; clear hc
  rintro e w2 ⟨hb, P, C, rfl, hV, hP0, hP1, hC0, hC1⟩
  have K : Bs w w1.heap.size w2.heap.size (w2.heap.size + 1) (fun _ => false) P C (.slice none 0 0) [] (w2.alloc (.cells #[.int .i64 P, .int .i64 C] 154 (0, 0))) := by
   have h1 := B1.out.alloc B1.out.size (.cells #[.bool false, .bool false, .bool false, .bool false, .bool false, .bool false, .bool false, .bool false, .bool false, .bool false, .bool false, .bool false, .bool false, .bool false, .bool false, .bool false] 152 (0, 0))
   have h2 := h1.trans (hb.mono h1.size)
   have h3 := hb.size
   simp only [World.size_alloc] at h3
   have h4 := B1.out.size
   exact ⟨h2.alloc h2.size _, (tk_start (keepO hb (block_new w1 _ rfl))).keep (below_alloc _ _), block_new _ _ rfl, ⟨rfl, Or.inl ⟨rfl, rfl⟩⟩, h4, by omega, by omega, by omega, by omega⟩
  have K := Lib.hid K
  have R := Lib.hid (show Bi L n m 0 (fun _ => false) P C [] from ⟨by rw [Nat.sub_zero]; rw [Nat.sub_zero] at hV; exact hV, hP0, hP1, hC0, hC1, by rw [Nat.sub_zero]; rfl, Nat.le_refl _⟩)
  have hbase : w.heap.size ≤ w2.heap.size + 1 := by have := K.out.t0; omega
  clear hb hV hP0 hP1 hC0 hC1
  go_wp2_with fail
  generalize w2.alloc (.cells #[.int .i64 P, .int .i64 C] 154 (0, 0)) = w3 at *
  generalize hkb : w1.heap.size = kb at *
  obtain ⟨base, hbs⟩ : ∃ x, w2.heap.size + 1 = x := ⟨_, rfl⟩
  rw [hbs] at K hbase
  generalize htb : w2.heap.size = tb at *
  have HBT := Lib.hid hbs
  clear hkb htb B1 hbs
  go_loopw [2, 22] (fun l iv wr => ∃ (i : Nat) (T : Nat → Bool) (P C : Int) (pre : List (Nat × Nat)), i ≤ n ∧ iv = .int .i64 i ∧ Bs w kb tb base T P C l pre wr ∧ Bi L n m i T P C pre) (fun _ iv _ => n - (intOf iv).toNat)
  case atStart => exact ⟨0, _, P, C, [], Nat.zero_le _, rfl, K.out, R.out⟩
  case round =>
   clear K R
   obtain ⟨i, T, P, C, pre, hi, rfl, hK, hR⟩ := hrel
   have K := Lib.hid hK
   have R := Lib.hid hR
   clear hK hR
   by_cases hin : i < n
   ·obtain ⟨b, off, rfl, ra, rc, x0w, xI⟩ := mtx_at HM0.out hin
    have x0 := keep1 K.out.B x0w
    have hrl : (rowL L i).length = m := by rw [HM.out.ok.form i (by rw [HM.out.M.len]; exact hin), HM.out.wd]
    rw [hrl] at x0 xI
    have HXI := Lib.hid xI
    clear x0w
    have q0 := World.block_lt_of_cell? wr _ x0
    have hi0 : (0 : Int) ≤ (i : Int) := by omega
    have hi1 : (i : Int) < (n : Int) := by omega
    have hm9 : (m : Int) ≤ 9223372036854775807 := by omega
    clear xI hrl
    go_wp2_with fail
    go_loopw [2, 29] (fun l jv wr' => ∃ (k : Nat), k ≤ m ∧ jv = .int .i64 k ∧ Bs w kb tb base T P C l pre wr' ∧ NoT L n m i k T) (fun _ jv _ => m - (intOf jv).toNat)
    case atStart => exact ⟨0, Nat.zero_le _, rfl, K.out, fun j hj => by omega⟩
    case round =>
     clear K q0 x0
     obtain ⟨k, hk, rfl, hK, hN⟩ := hrel
     have K := Lib.hid hK
     have HN := Lib.hid hN
     clear hK hN
     by_cases hkm : k < m
     ·obtain ⟨b2, o2, rfl, x1w⟩ := ints_at HXI.out hkm
      have x1 : wr.cell? ⟨b2, o2 + k, none⟩ = some (.int .i64 (AsgRows.ent L i k)) := keep1 K.out.B x1w
      have qb2 := World.block_lt_of_cell? wr _ x1
      have e3 := HM.out.ok.lo i k (by rw [HM.out.M.len]; exact hin) (by rw [HM.out.wd]; exact hkm)
      have e4 := HM.out.hi2 i k hin hkm
      clear x1w
      obtain ⟨t1, t2, t3⟩ := K.out.K.cell (k := k) (by omega)
      have hk0 : (0 : Int) ≤ (k : Int) := by omega
      have hk1 : (k : Int) < (m : Int) := by omega
      have hk2 : (k : Int) < 16 := by omega
      obtain ⟨X, hX⟩ : ∃ X, AsgRows.ent L i k = X := ⟨_, rfl⟩
      have HX := Lib.hid hX
      rw [hX] at x1 e3 e4
      clear hX
      by_cases hx : X < 0
      ·have HNN := Lib.hid (HN.out.next (no_take hin (Or.inl (by rw [HX.out]; exact hx))))
       go_wp2_with fail
       go_roundw
       case rel => exact ⟨k + 1, by omega, by go_num, K.out, HNN.out⟩
       case measure => simp [intOf]; omega
      ·cases hT : T k with
       | true =>
        have HNN := Lib.hid (HN.out.next (no_take hin (Or.inr hT)))
        rw [hT] at t1
        clear hT
        go_wp2_with fail
        go_roundw
        case rel => exact ⟨k + 1, by omega, by go_num, K.out, HNN.out⟩
        case measure => simp [intOf]; omega
       | false =>
        have HT := Lib.hid hT
        rw [hT] at t1
        clear hT
        have K2 := K.out.setK (k := k) (by omega) true
        rw [upd_setT] at K2
        obtain ⟨T', hT'⟩ : ∃ T', AsgMath.setT T k = T' := ⟨_, rfl⟩
        rw [hT'] at K2
        have HT' := Lib.hid hT'
        obtain ⟨⟨a0, a1, a2, a3⟩, ⟨a4, a5, a6, a7⟩, ⟨a8, a9, a10, a11⟩, ⟨a12, a13, a14, a15⟩⟩ := K2.K.all
        have HK2 := Lib.hid K2
        clear K2 hT'
        go_wp2_with fail
        have HLT := Lib.hid (fun b (e : u2.ownBlock = some b) => (K.out.O.lt b e).2)
        have hsz : wr.heap.size ≤ (wr.setCell ⟨kb, k, none⟩ (.bool true)).heap.size := Nat.le_of_eq (by simp [World.setCell])
        have hc := solve_call (some ⟨b, off, none⟩) n m cc (i + 1) L T' _ (HM.out.keep HK2.out.B) (by omega)
        unfold tkV tkA at hc
        rw [show ((i + 1 : Nat) : Int) = (i : Int) + 1 from rfl] at hc
        refine hc.mono ?_; clear hc
        rintro e w4 ⟨hb, P', C', rfl, hV, hP0, hP1, hC0, hC1⟩
        have HSZ := Lib.hid (Nat.le_trans hsz hb.size)
        clear hsz
        replace K := Lib.hid ((HK2.out.keep hb).keep (below_alloc w4 (.cells #[.int .i64 P', .int .i64 C'] 154 (0, 0))))
        have Rn := Lib.hid (block_new w4 (.cells #[.int .i64 P', .int .i64 C'] 154 (0, 0)) rfl)
        have HV := Lib.hid (And.intro (by rw [HT'.out]; exact hV : AsgMath.V (AsgRows.ent L) n m (n - (i + 1)) (AsgMath.setT T k) = 1073741824 * P' - C') (And.intro hP0 (And.intro hP1 (And.intro hC0 hC1))))
        have htt := Lib.hid (R.out.test hin (by rw [HX.out]; exact hx) (by rw [HX.out]; omega) HT.out HV.out.1 hC0 hC1)
        obtain ⟨p0, p1, f0, f1⟩ := two_old K.out.R
        obtain ⟨r0, r1, -, -⟩ := two_old Rn.out
        have q1 := lt_of_block K.out.R
        have q2 := lt_of_block Rn.out
        obtain ⟨k0, k1, k2⟩ := K.out.K.cell (k := k) (by omega)
        have hwp : IntKind.i64.wrap (P' + 1) = P' + 1 := IntWalk.i64_in _ (by omega)
        have hwc : IntKind.i64.wrap (C' + X) = C' + X := IntWalk.i64_in _ (by omega)
        clear hb hV a0 a1 a2 a3 a4 a5 a6 a7 a8 a9 a10 a11 a12 a13 a14 a15 HK2 qb2 x1 t1 t2 t3
        go_upto_region 15 with fail
        generalize w4.alloc (.cells #[.int .i64 P', .int .i64 C'] 154) = w5 at *
        generalize w4.heap.size = rb at *
        have hb5 : base ≤ w5.heap.size := by have := HBT.out; omega
        by_cases he : P' + 1 = P ∧ C' + X = C
        ·have HTk := Lib.hid (htt.out.2 ⟨he.1, by rw [HX.out]; exact he.2⟩)
         obtain ⟨rfl, rfl⟩ := he
         have HO := Lib.hid (K.out.O.alloc (.cells #[.int .i64 (i : Int), .int .i64 (k : Int)] 103))
         clear htt
         go_wp2_with (at_builtin; refine wpList_append_own _ rfl _ _ 99 rfl base 103 i0 _ 2 16 Try.underlying99 HI.out.1 HI.out.2.1 HI.out.2.2.1 HI.out.2.2.2 rfl (by decide) _ pre.length _ rfl HO.out ⟨w5.heap.size, 0, none⟩ 1 1 [.int .i64 (i : Int), .int .i64 (k : Int)] rfl rfl ?c1 ?c2 ?c3 ?c4 ?c5 ?_; rotate_right; intro v7 w7 hown7 hgrow _; have K7 := Lib.hid (And.intro (Bs.grow (pre' := pre ++ [(i, k)]) (K.out.keep (below_alloc w5 (.cells #[.int .i64 (i : Int), .int .i64 (k : Int)] 103))) hgrow (by rw [toP_snoc, flat2_snoc, List.length_append]; exact hown7) hbase) ((hgrow.block rb (by simp; omega) (fun e => by have := HLT.out rb e.symm; have := HSZ.out; omega)).trans (block_alloc Rn.out))); clear hown7 hgrow; obtain ⟨p0, p1, f0, f1⟩ := two_old K7.out.1.R; obtain ⟨r0, r1, -, -⟩ := two_old K7.out.2; have q1 := lt_of_block K7.out.1.R; have q2 := lt_of_block K7.out.2)
         case c1 => exact cellsTwo rfl
         case c2 => intro u hu; simp at hu; rcases hu with rfl | rfl <;> rfl
         case c3 =>
          exact Nat.le_trans (Nat.succ_le_succ R.out.len) (by unfold maxLen; omega)
         case c4 =>
          have hl := R.out.len
          omega
         case c5 => simp <;> omega
         go_roundw
         case rel => exact ⟨i + 1, T', P', C', pre ++ [(i, k)], by omega, by go_num, K7.out.1.setT _ _, by
          rw [← HT'.out]
          exact R.out.take hin hkm HN.out HTk.out HV.out.1 HV.out.2.1 HV.out.2.2.1 HV.out.2.2.2.1 HV.out.2.2.2.2⟩
         case measure => simp [intOf]; omega
        ·have HTk := Lib.hid (show takeB (AsgRows.ent L) n m (n - (i + 1)) T k = false by
          cases hb : takeB (AsgRows.ent L) n m (n - (i + 1)) T k with
          | false => rfl
          | true => exact absurd (htt.out.1 hb) (by rw [HX.out]; exact he))
         have K8 := Lib.hid (show Bs w kb tb base T P C u2 pre (w5.setCell ⟨kb, k, none⟩ (.bool false)) by
          have h := K.out.setK (k := k) (by omega) false
          rw [← HT'.out, upd_back HT.out] at h
          exact h)
         clear htt
         go_wp2_with fail
         all_goals
          go_roundw
          case rel => exact ⟨k + 1, by omega, by go_num, K8.out, HN.out.next HTk.out⟩
          case measure => simp [intOf]; omega
     ·obtain rfl : m = k := by omega
      clear hk hkm
      go_wp2_with fail
      go_roundw
      case rel => exact ⟨i + 1, T, P, C, pre, by omega, by go_num, K.out, R.out.skip hin HN.out⟩
      case measure => simp [intOf]; omega
   ·obtain rfl : n = i := by omega
    clear hi hin
    go_wp2_with fail
    go_ret2
    have hA := R.out.A
    rw [Nat.sub_self] at hA
    have hb : bsL L = toP pre := by
     unfold bsL bestM
     rw [if_pos HE.out, HLn.out, HW.out, hA]
     unfold bestL
     rw [List.append_nil]
    exact bs_ok HE.out hb (ownsRow_base K.out.O hbase) K.out.B
 ·have HB := Lib.hid hE
  have hne : (chM L != 0) = true := by rw [bne_iff_ne]; exact hE
  clear hM hE
  go_enter Try.func59, Try.ntmps59
  go_wp2_with fail
  refine (pCheck_call a n cc L _ HM0.out).mono ?_; rintro e w1 ⟨rfl, hb⟩
  obtain ⟨E, hE⟩ : ∃ E, chM L = E := ⟨_, rfl⟩
  rw [hE] at hne
  have HE := Lib.hid hE
  rw [hE]
  clear hE
  go_wp2_with fail
  go_ret2
  rw [← HE.out]
  exact bs_bad HB.out hb
end Go.Proofs.Ytikjjpjekchcjaa.Asg
end
section
namespace Go.Proofs.Ytikjjpjekchcjaa.Asg
open Go.RowKit AsgRows AsgMath MyHeap MyOwn MyCopy
structure Rb (L : List (List Int)) (n m P i u : Nat) (pre : List (Nat × Nat)) : Prop where
 u1 : u < P
 A : bestL (ent L) n m n (fun _ => false) = pre ++ bestL (ent L) n m (n - i) (bitsT u)
 len : pre.length ≤ i
theorem Rb.skip {L : List (List Int)} {n m P i u : Nat} {pre : List (Nat × Nat)} (h : Rb L n m P i u pre) (hi : i < n) (hn : NoT L n m i m (bitsT u)) : Rb L n m P (i + 1) u pre := by
 have hf : firstK (takeB (ent L) n m (n - (i + 1)) (bitsT u)) m = none := firstK_no hn
 have h1 := bestL_skip hf
 have e : n - (i + 1) + 1 = n - i := by omega
 rw [e] at h1
 exact ⟨h.u1, by rw [← h1.1]; exact h.A, by have := h.len; omega⟩
theorem Rb.take {L : List (List Int)} {n m P i u k : Nat} {pre : List (Nat × Nat)} (h : Rb L n m P i u pre) (hi : i < n) (hk : k < m) (hP : 2 ^ m = P) (hb : u / 2 ^ k % 2 = 0) (hno : NoT L n m i k (bitsT u)) (ht : takeB (ent L) n m (n - (i + 1)) (bitsT u) k = true) : Rb L n m P (i + 1) (u + 2 ^ k) (pre ++ [(i, k)]) := by
 have hf : firstK (takeB (ent L) n m (n - (i + 1)) (bitsT u)) m = some k := firstK_of hk ht hno
 have h1 := bestL_take hf
 have e : n - (i + 1) + 1 = n - i := by omega
 have e2 : n - (n - i) = i := by omega
 rw [e, e2] at h1
 refine ⟨?_, by rw [h.A, h1, List.append_assoc, bitsT_set hb]; rfl, by rw [List.length_append]; have := h.len; simp; omega⟩
 have := h.u1
 rw [← hP] at this ⊢
 exact bits_add_lt this hk hb
end Go.Proofs.Ytikjjpjekchcjaa.Asg
end
section
namespace Go.Proofs.Ytikjjpjekchcjaa
open Go.RowKit TrkMath MyHeap MyOwn
def CM (base cb n : Nat) (F : Nat → List Int) (W : World) : Prop :=
 base ≤ cb ∧ ∃ cs : Array Value, W.heap[cb]? = some (.cells cs 35 (0, 0)) ∧ cs.size = n ∧
  (∀ i, i < n → ∃ u, cs[i]? = some u ∧ W.ownsRow base 3 1 u (F i).length (Asg.flatI (F i))) ∧
  ∀ (i j : Nat) (u u' : Value) (g : Nat), i ≠ j → cs[i]? = some u → cs[j]? = some u' → u.ownBlock = some g → u'.ownBlock ≠ some g
theorem CM.below {base cb n : Nat} {F : Nat → List Int} {W W' : World} (h : CM base cb n F W) (hb : Below W.heap.size W W') : CM base cb n F W' := by
 obtain ⟨h0, cs, h1, h2, h3, h4⟩ := h
 exact ⟨h0, cs, keepO hb h1, h2, fun i hi => by
  obtain ⟨u, e, r⟩ := h3 i hi
  exact ⟨u, e, ownsRow_below r hb (Nat.le_refl _)⟩, h4⟩
theorem CM.congr {base cb n : Nat} {F G : Nat → List Int} {W : World} (h : CM base cb n F W) (he : ∀ i, i < n → F i = G i) : CM base cb n G W := by
 obtain ⟨h0, cs, h1, h2, h3, h4⟩ := h
 exact ⟨h0, cs, h1, h2, fun i hi => by rw [← he i hi]; exact h3 i hi, h4⟩
theorem CM.made {base n : Nat} {W : World} (hb : base ≤ W.heap.size) : CM base W.heap.size n (fun _ => []) (W.alloc (.cells (madeCells #[.slice none 0 0] n) 35)) := by
 have hm : ∀ i, i < n → (madeCells #[Value.slice none 0 0] n)[i]? = some (.slice none 0 0) := fun i hi => by
  simp [madeCells, hi, Nat.mod_one]
 have hall : ∀ (i : Nat) (u : Value), (madeCells #[Value.slice none 0 0] n)[i]? = some u → u = Value.slice none 0 0 := fun i u hu => by
  by_cases hi : i < n
  ·rw [hm i hi] at hu; exact (Option.some.inj hu).symm
  ·simp [madeCells, hi] at hu
 refine ⟨hb, _, block_new _ _ rfl, by simp [madeCells], fun i hi => ⟨_, hm i hi, rfl, Or.inl ⟨rfl, rfl⟩⟩, fun i j u u' g _ h1 _ h3 => ?_⟩
 rw [hall i u h1] at h3
 cases h3
theorem CM.at {base cb n : Nat} {F : Nat → List Int} {W : World} (h : CM base cb n F W) {i : Nat} (hi : i < n) : ∃ a c, W.cell? ⟨cb, i, none⟩ = some (.slice a (F i).length c) ∧ W.ownsRow base 3 1 (.slice a (F i).length c) (F i).length (Asg.flatI (F i)) ∧ W.frozen? ⟨cb, i, none⟩ = false ∧ cb < W.heap.size := by
 obtain ⟨h0, cs, h1, h2, h3, h4⟩ := h
 obtain ⟨u, e, r⟩ := h3 i hi
 obtain ⟨a, c, rfl⟩ := row_slice r
 exact ⟨a, c, cell_of_block h1 e, r, free_of_block h1, lt_of_block h1⟩
theorem own_type {W : World} {base : Nat} {e : TypeId} {s : Nat} {u : Value} {n : Nat} {xs : List Value} {g : Nat} (h : W.ownsRow base e s u n xs) (hg : u.ownBlock = some g) : ∃ cs, W.heap[g]? = some (.cells cs e (0, 0)) := by
 rcases h.2 with ⟨rfl, -⟩ | ⟨g', cap, cur, rfl, -, hh, -⟩
 ·cases hg
 ·cases hg; exact ⟨cur, hh⟩
theorem CM.put {base cb n i : Nat} {F G : Nat → List Int} {x : Int} {W W' : World} {u u' : Value} (h : CM base cb n F W) (hi : i < n) (hu : W.cell? ⟨cb, i, none⟩ = some u) (hg : W.grownBy W' u.ownBlock) (ho : W'.ownsRow base 3 1 u' ((F i).length + 1) (Asg.flatI (F i) ++ [.int .i64 x])) (ha : u'.ownBlock = u.ownBlock ∨ u'.ownBlock = some W.heap.size)
    (hG : ∀ j, j < n → G j = if j = i then F i ++ [x] else F j) (hbase : base ≤ W.heap.size) : CM base cb n G (W'.setCell ⟨cb, i, none⟩ u') ∧ Below base W (W'.setCell ⟨cb, i, none⟩ u') := by
 obtain ⟨h0, cs, h1, h2, h3, h4⟩ := h
 have hcb := lt_of_block h1
 obtain ⟨u0, e0, r0⟩ := h3 i hi
 have : u0 = u := by
  have := cell_of_block (i := i) h1 e0
  rw [this] at hu
  exact Option.some.inj hu
 subst this
 have hne : u0.ownBlock ≠ some cb := fun e => by
  obtain ⟨cs', h'⟩ := own_type r0 e
  rw [h1] at h'
  injection h' with h'
  injection h' with _ h''
  exact absurd h'' (by decide)
 have hcb' : W'.heap[cb]? = some (.cells cs 35 (0, 0)) := (hg.block cb hcb (fun e => hne e.symm)).trans h1
 have hO : Only cb W' (W'.setCell ⟨cb, i, none⟩ u') := (Only.refl _ _).setCell _ _
 have hblk := block_setCell (i := i) (v := u') hcb'
 have hcs : (cs.setIfInBounds i u').size = n := by simp [h2]
 have hrow : ∀ (j : Nat) (v : Value) (m : Nat) (xs : List Value), W'.ownsRow base 3 1 v m xs → (W'.setCell ⟨cb, i, none⟩ u').ownsRow base 3 1 v m xs := fun j v m xs hr =>
  Outs.row (Outs.of_only (X := [some cb]) hO (List.mem_singleton.2 rfl)) hr (fun g e hgm => by
   have := Option.some.inj (List.mem_singleton.1 hgm)
   subst this
   obtain ⟨cs', h'⟩ := own_type hr e
   rw [hcb'] at h'
   injection h' with h'
   injection h' with _ h''
   exact absurd h'' (by decide))
 have hlow : ∀ j v g, j ≠ i → j < n → cs[j]? = some v → v.ownBlock = some g → g < W.heap.size := fun j v g _ hj hv hvg => by
  obtain ⟨y, q1, q2⟩ := h3 j hj
  rw [hv] at q1
  cases q1
  exact (q2.lt g hvg).2
 have hget : ∀ j, j ≠ i → (cs.setIfInBounds i u')[j]? = cs[j]? := fun j hj => Array.getElem?_setIfInBounds_ne (Ne.symm hj)
 have hself : (cs.setIfInBounds i u')[i]? = some u' := by rw [Array.getElem?_setIfInBounds_self_of_lt (by omega)]
 have hin : ∀ (j : Nat) (v : Value), (cs.setIfInBounds i u')[j]? = some v → j < n := fun j v hv => by
  have := (Array.getElem?_eq_some_iff.1 hv).1
  omega
 have hap : ∀ j v g, j ≠ i → j < n → cs[j]? = some v → v.ownBlock = some g → u'.ownBlock ≠ some g := fun j v g hj hjn hv hvg e => by
  rcases ha with q | q
  ·exact h4 j i v u0 g hj hv e0 hvg (by rw [← q]; exact e)
  ·have := hlow j v g hj hjn hv hvg
   rw [q] at e
   have := Option.some.inj e
   omega
 refine ⟨⟨h0, cs.setIfInBounds i u', by simpa using hblk, hcs, fun j hj => ?_, fun j k v v' g hjk hv hv' hvg => ?_⟩, ?_⟩
 ·rw [hG j hj]
  by_cases e : j = i
  ·subst e
   refine ⟨u', hself, ?_⟩
   rw [if_pos rfl]
   have hl : (F j ++ [x]).length = (F j).length + 1 := by simp
   have hf : Asg.flatI (F j ++ [x]) = Asg.flatI (F j) ++ [.int .i64 x] := by simp [Asg.flatI]
   rw [hl, hf]
   exact hrow j _ _ _ ho
  ·obtain ⟨v, q1, q2⟩ := h3 j hj
   refine ⟨v, by rw [hget j e]; exact q1, ?_⟩
   rw [if_neg e]
   refine hrow j _ _ _ (Asg.own_over q2 hg (fun g hvg hc => ?_))
   exact h4 j i v u0 g e q1 e0 hvg hc
 ·have hj := hin j v hv
  have hk := hin k v' hv'
  by_cases e : j = i
  ·subst e
   rw [hself] at hv
   cases hv
   rw [hget k (Ne.symm hjk)] at hv'
   exact fun c => hap k v' g (Ne.symm hjk) hk hv' c hvg
  ·rw [hget j e] at hv
   by_cases e' : k = i
   ·subst e'
    rw [hself] at hv'
    cases hv'
    exact hap j v g e hj hv hvg
   ·rw [hget k e'] at hv'
    exact h4 j k v v' g hjk hv hv' hvg
 ·refine Below.trans (?_ : Below base W W') (hO.below h0 (Nat.le_trans hbase hg.size))
  exact ⟨hg.os, hg.tape, hg.output, hg.size, fun k hk => hg.block k (by omega) (fun e => by have := (r0.lt k e.symm).1; omega)⟩
theorem CM.mtx {base cb n : Nat} {F : Nat → List Int} {W : World} {L : List (List Int)} (h : CM base cb n F W) (hl : L.length = n) (hn : n ≤ 1000) (hF : ∀ i, i < n → F i = AsgRows.rowL L i) (hr : ∀ i, i < n → (F i).length ≤ 1000) : Asg.Mtx W (some ⟨cb, 0, none⟩) n L := by
 obtain ⟨h0, cs, h1, h2, h3, h4⟩ := h
 refine ⟨hl, by omega, Or.inr ⟨cb, 0, rfl, fun i hi => ?_⟩⟩
 obtain ⟨u, e, r⟩ := h3 i hi
 have := hr i hi
 obtain ⟨a, c, rfl, hI⟩ := Asg.ints_own rfl r (by omega)
 rw [← hF i hi]
 exact ⟨a, c, by rw [Nat.zero_add]; exact cell_of_block h1 e, hI⟩
def MapI (b : Nat) (l : List (Nat × Nat)) (w : World) : Prop :=
 ∃ D : DataW Unit, w.ownsMap Try.prog 3 (plainElem Try.prog 3) b l.length D ∧ Maps.IsMap D ∧
  ∀ (x : Int) (z : DataW Unit), (Lit.int .i64 x).wf = true → D.atKey (.int .i64 x) z = match l.find? (fun q => (q.1 : Int) == x) with | none => z | some q => .lit (.int .i64 (q.2 : Int))
theorem MapI.grown {b : Nat} {l : List (Nat × Nat)} {w w' : World} {row : Option Nat} (h : MapI b l w) (hg : w.grownBy w' row) (hne : some b ≠ row) : MapI b l w' := by
 obtain ⟨D, h1, h2, h3⟩ := h
 exact ⟨D, h1.kept hg hne, h2, h3⟩
theorem MapI.lt {b : Nat} {l : List (Nat × Nat)} {w : World} (h : MapI b l w) : b < w.heap.size := by
 obtain ⟨D, h1, -⟩ := h
 exact h1.lt
theorem MapI.below {b : Nat} {l : List (Nat × Nat)} {w w' : World} (h : MapI b l w) (hb : Below w.heap.size w w') : MapI b l w' := by
 have hlt := h.lt
 exact h.grown (row := none) ⟨hb.os, hb.tape, hb.output, hb.size, fun k hk _ => hb.block k hk⟩ (by simp)
theorem MapI.outs {X : List (Option Nat)} {b : Nat} {l : List (Nat × Nat)} {w w' : World} (h : MapI b l w) (hb : Outs X w w') (hn : some b ∉ X) : MapI b l w' := by
 obtain ⟨D, ⟨es, clock, h0, r⟩, h2, h3⟩ := h
 exact ⟨D, ⟨es, clock, hb.keeps h0 hn, r⟩, h2, h3⟩
theorem MapI.made (w : World) : MapI w.heap.size [] (w.alloc (.map #[] 0)) := ⟨.map [], World.ownsMap_made _ _ _ _, ⟨[], rfl⟩, fun _ _ _ => rfl⟩
theorem wf64 {x : Int} (h : -9223372036854775808 ≤ x) (h2 : x ≤ 9223372036854775807) : (Lit.int .i64 x).wf = true := by
 simp [Lit.wf]
 exact ⟨Int.le_trans (by decide) h, h2⟩
theorem keyI : Maps.Keyed Try.prog 3 := Maps.int_keyed Try.underlying3
theorem zeroI (w : World) : (zeroValue 3).run Try.prog w = .ok (.int .i64 0) w := by kernel_rfl
theorem zeroB (w : World) : (zeroValue 4).run Try.prog w = .ok (.bool false) w := by kernel_rfl
theorem keyOfI {x : Int} (h : -9223372036854775808 ≤ x) (h2 : x ≤ 9223372036854775807) : keyOf Try.prog 3 (.int .i64 x) = some (.int .i64 x) := Maps.keyOf_int_mk Try.underlying3 (wf64 h h2)
theorem MapI.put {b i k : Nat} {l : List (Nat × Nat)} {w' : World} {D : DataW Unit} (h2 : Maps.IsMap D)
    (h3 : ∀ (x : Int) (z : DataW Unit), (Lit.int .i64 x).wf = true → D.atKey (.int .i64 x) z = match l.find? (fun q => (q.1 : Int) == x) with | none => z | some q => .lit (.int .i64 (q.2 : Int)))
    (ho : w'.ownsMap Try.prog 3 (plainElem Try.prog 3) b (l.length + 1) (D.put (.int .i64 (i : Int)) (.lit (.int .i64 (k : Int))))) (hn : ∀ q ∈ l, q.1 ≠ i) : MapI b (l ++ [(i, k)]) w' := by
 refine ⟨_, by rw [List.length_append]; exact ho, h2.put _ _, fun x z hx => ?_⟩
 rw [List.find?_append]
 by_cases e : x = (i : Int)
 ·subst e
  rw [Maps.atKey_put_same h2 (show WideAt.IsKeyLit (.int _ _) from trivial)]
  have : l.find? (fun q => (q.1 : Int) == (i : Int)) = none := List.find?_eq_none.2 fun q hq => by
   have := hn q hq
   simp
   omega
  rw [this]
  simp
 ·rw [Maps.atKey_put_other (fun c => e (by injection c)), h3 x z hx]
  cases hf : l.find? (fun q => (q.1 : Int) == x) with
  | some q => rfl
  | none =>
   have : [(i, k)].find? (fun q => (q.1 : Int) == x) = none := by
    simp
    exact fun c => e c.symm
   rw [this]
   rfl
theorem ofF_find (l : List (Nat × Nat)) (i : Nat) : ofF l i = (l.find? (fun q => (q.1 : Int) == (i : Int))).map (·.2) := by
 unfold ofF
 congr 1
 congr 1
 funext q
 by_cases e : q.1 = i
 ·subst e; simp
 ·rw [beq_eq_false_iff_ne.2 e, beq_eq_false_iff_ne.2 (by omega)]
set_option maxRecDepth 100000 in
theorem MapI.look {b : Nat} {l : List (Nat × Nat)} {w : World} (h : MapI b l w) {i : Nat} (hi : i ≤ 1000) : (Instr.lookup 87 (.map (some b)) (.int .i64 (i : Int)) true).run Try.prog w = .ok (.tuple #[.int .i64 (((ofF l i).getD 0 : Nat) : Int), .bool (ofF l i).isSome]) w := by
 obtain ⟨D, h1, h2, h3⟩ := h
 have hw := wf64 (x := (i : Int)) (by omega) (by omega)
 obtain ⟨v, ps, hr, hv⟩ := h1.look_ok keyI Try.underlying87 (zeroI w) (plainElem_int Try.underlying3 (by decide)) (keyOfI (x := (i : Int)) (by omega) (by omega))
 obtain ⟨c, rfl, hc, -⟩ := plainElem_int_inv Try.underlying3 hv
 have hc := congrArg Prod.fst hc
 simp only [] at hc
 rw [hr, ofF_find]
 rw [h3 _ _ hw] at hc
 have h4 := h3 (i : Int)
 cases hf : l.find? (fun q => (q.1 : Int) == (i : Int)) with
 | none =>
  rw [hf] at hc h4
  have : Maps.has D (.int .i64 (i : Int)) = false := Maps.has_false_of_atKey fun z => h4 z hw
  rw [this]
  injection hc with hc
  injection hc with _ hc
  subst hc
  rfl
 | some q =>
  rw [hf] at hc h4
  have : Maps.has D (.int .i64 (i : Int)) = true := Maps.has_true_of_atKey (y := .lit (.int .i64 (q.2 : Int))) fun z => h4 z hw
  rw [this]
  injection hc with hc
  injection hc with _ hc
  subst hc
  rfl
def MapB (b n : Nat) (S : Int → Bool) (w : World) : Prop :=
 ∃ D : DataW Unit, w.ownsMap Try.prog 3 (plainElem Try.prog 4) b n D ∧ Maps.IsMap D ∧ ∀ (x : Int) (z : DataW Unit), (Lit.int .i64 x).wf = true → D.atKey (.int .i64 x) z = if S x = true then .lit (.bool true) else z
theorem MapB.outs {X : List (Option Nat)} {b n : Nat} {S : Int → Bool} {w w' : World} (h : MapB b n S w) (hb : Outs X w w') (hn : some b ∉ X) : MapB b n S w' := by
 obtain ⟨D, ⟨es, clock, h0, r⟩, h2, h3⟩ := h
 exact ⟨D, ⟨es, clock, hb.keeps h0 hn, r⟩, h2, h3⟩
theorem MapB.lt {b n : Nat} {S : Int → Bool} {w : World} (h : MapB b n S w) : b < w.heap.size := by
 obtain ⟨D, h1, -⟩ := h
 exact h1.lt
theorem MapB.below {b n : Nat} {S : Int → Bool} {w w' : World} (h : MapB b n S w) (hb : Below w.heap.size w w') : MapB b n S w' := h.outs (X := []) (Outs.of_below hb) (by simp)
theorem MapB.made (w : World) : MapB w.heap.size 0 (fun _ => false) (w.alloc (.map #[] 0)) := ⟨.map [], World.ownsMap_made _ _ _ _, ⟨[], rfl⟩, fun _ _ _ => rfl⟩
theorem MapB.put {b n : Nat} {S : Int → Bool} {y : Int} {w' : World} {D : DataW Unit} (h2 : Maps.IsMap D) (h3 : ∀ (x : Int) (z : DataW Unit), (Lit.int .i64 x).wf = true → D.atKey (.int .i64 x) z = if S x = true then .lit (.bool true) else z)
    (ho : w'.ownsMap Try.prog 3 (plainElem Try.prog 4) b (n + 1) (D.put (.int .i64 y) (.lit (.bool true)))) : MapB b (n + 1) (fun x => S x || x == y) w' := by
 refine ⟨_, ho, h2.put _ _, fun x z hx => ?_⟩
 by_cases e : x = y
 ·subst e
  rw [Maps.atKey_put_same h2 (show WideAt.IsKeyLit (.int _ _) from trivial)]
  simp
 ·rw [Maps.atKey_put_other (fun c => e (by injection c)), h3 x z hx]
  simp [e]
set_option maxRecDepth 100000 in
theorem MapB.look {b n : Nat} {S : Int → Bool} {w : World} (h : MapB b n S w) {x : Int} (h0 : 0 ≤ x) (h1 : x ≤ 1000) : (Instr.lookup 128 (.map (some b)) (.int .i64 x) false).run Try.prog w = .ok (.bool (S x)) w := by
 obtain ⟨D, hD, h2, h3⟩ := h
 have hw := wf64 (x := x) (by omega) (by omega)
 obtain ⟨v, ps, hr, hv⟩ := hD.lookup keyI Try.underlying128 (zeroB w) (plainElem_bool Try.underlying4 false) (keyOfI (x := x) (by omega) (by omega))
 rw [hr]
 rw [h3 x _ hw] at hv
 have hval : ∀ c : Bool, plainElem (H := Unit) Try.prog 4 v = some (.lit (.bool c), ps) → v = .bool c := fun c hc => by
  unfold plainElem at hc
  rw [Try.underlying4] at hc
  cases v <;> simp at hc
  rw [hc.1]
 cases hS : S x with
 | true => rw [hS] at hv; rw [hval true (by simpa using hv)]
 | false => rw [hS] at hv; rw [hval false (by simpa using hv)]
end Go.Proofs.Ytikjjpjekchcjaa
end
