/-
  PtAsgVc, TrkMx
-/
import Derived.Test.YtikjjpjekchcjaaPr21
import Derived.Test.YtikjjpjekchcjaaPr24
import Derived.Test.YtikjjpjekchcjaaPr19
import Derived.Maps.RangeWalk
import Derived.Maps.OwnSet
import Derived.Test.YtikjjpjekchcjaaPr1
set_option linter.all false
set_option maxRecDepth 100000
set_option maxHeartbeats 64000000
section
namespace Go.Proofs.Ytikjjpjekchcjaa.Asg
open Go.RowKit AsgRows AsgMath MyHeap MyOwn MyCopy
structure Rb (L : List (List Int)) (n m P i u : Nat) (pre : List (Nat × Nat)) : Prop where
 u1 : u < P
 A : bestL (ent L) n m n (fun _ => false) = pre ++ bestL (ent L) n m (n - i) (bitsT u)
 len : pre.length ≤ i
theorem Rb.skip {L : List (List Int)} {n m P i u : Nat} {pre : List (Nat × Nat)} (h : Rb L n m P i u pre) (hi : i < n) (hn : NoT L n m i m (bitsT u)) : Rb L n m P (i + 1) u pre := by
 have hf : firstK (takeB (ent L) n m (n - (i + 1)) (bitsT u)) m = none := firstK_no hn
 have h1 := bestL_skip hf
 have e : n - (i + 1) + 1 = n - i := by omega
 rw [e] at h1
 exact ⟨h.u1, by rw [← h1.1]; exact h.A, by have := h.len; omega⟩
theorem Rb.take {L : List (List Int)} {n m P i u k : Nat} {pre : List (Nat × Nat)} (h : Rb L n m P i u pre) (hi : i < n) (hk : k < m) (hP : 2 ^ m = P) (hb : u / 2 ^ k % 2 = 0) (hno : NoT L n m i k (bitsT u)) (ht : takeB (ent L) n m (n - (i + 1)) (bitsT u) k = true) : Rb L n m P (i + 1) (u + 2 ^ k) (pre ++ [(i, k)]) := by
 have hf : firstK (takeB (ent L) n m (n - (i + 1)) (bitsT u)) m = some k := firstK_of hk ht hno
 have h1 := bestL_take hf
 have e : n - (i + 1) + 1 = n - i := by omega
 have e2 : n - (n - i) = i := by omega
 rw [e, e2] at h1
 refine ⟨?_, by rw [h.A, h1, List.append_assoc, bitsT_set hb]; rfl, by rw [List.length_append]; have := h.len; simp; omega⟩
 have := h.u1
 rw [← hP] at this ⊢
 exact bits_add_lt this hk hb
theorem rb_grow {w2 wq w7 : World} {base n : Nat} {T : TypeId} {o : Obj} {v : Value} {xs : List Value} (h : Below base w2 wq) (hz : base ≤ wq.heap.size) (hO : (wq.alloc o).ownsRow base T 2 v n xs) (hg : (wq.alloc o).grownBy w7 v.ownBlock) : Below base w2 w7 :=
 (h.alloc hz o).trans (grownBelow hO hg (Nat.le_refl _) (by rw [World.size_alloc]; omega))
theorem rBest_call (a : Option Addr) (n cc : Nat) (L : List (List Int)) (w : World) (hM : Mtx w a n L) (h9 : chM L = 0 → wid L ≤ 9) :
    Calls Try.prog 36 #[.slice a n cc] w (BsPost L w) := by
 have HM0 := qh hM
 by_cases hE : chM L = 0
 ·have hMa := Ma.of hM hE
  have hm9 := h9 hE
  obtain ⟨m, hm⟩ : ∃ m, wid L = m := ⟨_, rfl⟩
  rw [hm] at hMa hm9
  have HM := qh hMa
  have HW := qh hm
  have HE := qh hE
  have n16 : n ≤ 16 := by have := hMa.ok.n16; rw [hMa.M.len] at this; exact this
  have HLn := qh hMa.M.len
  obtain ⟨i0, hi, hiz, his, hib⟩ := info_parts infoPair
  have HI := qh (And.intro hi (And.intro hiz (And.intro his hib)))
  clear hM hMa hm h9 hi hiz his hib
  go_enter Try.func36, Try.ntmps36
  go_wp2_with fail
  refine (rCheck_call a n cc L _ HM0.out).mono ?_; rintro e w1 ⟨rfl, hb⟩
  rw [hE]
  have B1 := qh hb
  clear hE hb
  go_wp2_with fail
  refine (values_call a n cc m L _ (HM.out.keep B1.out) hm9).mono ?_; rintro e w2 ⟨tb, rfl, hV, hb⟩
  obtain ⟨P, hP⟩ : ∃ P, 2 ^ m = P := ⟨_, rfl⟩
  have HP := qh hP
  rw [hP] at hV
  have hp9 : P ≤ 512 := by rw [← hP]; exact pow_le9 hm9
  have HV := qh hV
  have B2 := qh (B1.out.trans (hb.mono B1.out.size))
  obtain ⟨base, hbase⟩ : ∃ base, w2.heap.size = base := ⟨_, rfl⟩
  have HBs := qh hbase
  clear hV hb hP hbase B1
  go_wp2_with fail
  go_loopw [6, 7, 8] (fun uv l iv wr => ∃ (i u : Nat) (pre : List (Nat × Nat)), i ≤ n ∧ uv = .int .i64 u ∧ iv = .int .i64 i ∧ Rb L n m P i u pre ∧ wr.ownsRow base 103 2 l pre.length (flat2 (toP pre)) ∧ Below base w2 wr) (fun _ _ iv _ => n - (intOf iv).toNat)
  case atStart => exact ⟨0, 0, [], Nat.zero_le _, rfl, rfl, ⟨by rw [← HP.out]; exact Nat.two_pow_pos m, by rw [Nat.sub_zero, bitsT_zero]; rfl, Nat.le_refl _⟩, ⟨rfl, Or.inl ⟨rfl, rfl⟩⟩, by rw [← HBs.out]; exact Below.refl _ _⟩
  case round =>
   obtain ⟨i, u, pre, hi, rfl, rfl, hR, hO, hB⟩ := hrel
   have R := qh hR
   have K := qh (And.intro hO hB)
   have hu1 := hR.u1
   clear hR hO hB
   by_cases hin : i < n
   ·obtain ⟨b, off, rfl, ra, rc, x0w, xI⟩ := mtx_at HM0.out hin
    have x0 := keep1 (show Below w.heap.size w wr from B2.out.trans (K.out.2.mono (by rw [← HBs.out]; exact B2.out.size))) x0w
    have hrl : (rowL L i).length = m := by rw [HM.out.ok.form i (by rw [HM.out.M.len]; exact hin), HM.out.wd]
    rw [hrl] at x0 xI
    have HXI := qh xI
    have q0 := World.block_lt_of_cell? wr _ x0
    have hi0 : (0 : Int) ≤ (i : Int) := by omega
    have hi1 : (i : Int) < (n : Int) := by omega
    clear x0w xI hrl
    go_wp2_with fail
    go_loopw [6, 7, 9] (fun uv l' kv wr' => ∃ (k : Nat), k ≤ m ∧ uv = .int .i64 u ∧ kv = .int .i64 k ∧ l' = u7 ∧ (∃ d, wr' = wr.drewN d) ∧ NoT L n m i k (bitsT u)) (fun _ _ kv _ => m - (intOf kv).toNat)
    case atStart => exact ⟨0, Nat.zero_le _, rfl, rfl, rfl, ⟨0, rfl⟩, fun j hj => by omega⟩
    case round =>
     obtain ⟨k, hk, rfl, rfl, rfl, ⟨d, rfl⟩, hN⟩ := hrel
     have HN := qh hN
     clear hN
     by_cases hkm : k < m
     ·obtain ⟨b2, o2, rfl, x1w⟩ := ints_at HXI.out hkm
      have x1 : wr.cell? ⟨b2, o2 + k, none⟩ = some (.int .i64 (AsgRows.ent L i k)) := keep1 (show Below w.heap.size w wr from B2.out.trans (K.out.2.mono (by rw [← HBs.out]; exact B2.out.size))) x1w
      have qb2 := World.block_lt_of_cell? wr _ x1
      have e3 := HM.out.ok.lo i k (by rw [HM.out.M.len]; exact hin) (by rw [HM.out.wd]; exact hkm)
      have e4 := HM.out.hi2 i k hin hkm
      clear x1w
      have hk0 : (0 : Int) ≤ (k : Int) := by omega
      have hk1 : (k : Int) < (m : Int) := by omega
      have hk2 : (k : Int) < 16 := by omega
      obtain ⟨X, hX⟩ : ∃ X, AsgRows.ent L i k = X := ⟨_, rfl⟩
      have HX := qh hX
      rw [hX] at x1 e3 e4
      obtain ⟨Q, hQ⟩ : ∃ Q, 2 ^ k = Q := ⟨_, rfl⟩
      have HQ := qh hQ
      have hwk : wrap64 ((2 : Int) ^ k) = (Q : Int) := by rw [← hQ]; exact wrap_pow (by omega)
      have hq9 : Q ≤ 512 := by rw [← hQ]; exact pow_le9 (by omega)
      have htm : ((u : Int) / (2 : Int) ^ k).tmod 2 = ((u / Q % 2 : Nat) : Int) := by
       have : (u : Int) / (2 : Int) ^ k = ((u / Q : Nat) : Int) := by rw [← hQ, Int.natCast_ediv, Int.natCast_pow]; rfl
       rw [this, Int.tmod_eq_emod_of_nonneg (Int.natCast_nonneg _)]; rfl
      clear hX hQ
      by_cases hx : 0 ≤ X
      ·have d0 : decide (0 ≤ X) = true := decide_eq_true hx
       by_cases hbit : u / Q % 2 = 0
       ·have d1 : (((u : Int) / (2 : Int) ^ k).tmod 2 == 0) = true := by rw [htm, hbit]; rfl
        have HBt := qh (show AsgRows.ent L i k = X ∧ 0 ≤ AsgRows.ent L i k ∧ u / 2 ^ k % 2 = 0 from ⟨HX.out, by rw [HX.out]; exact hx, by rw [HQ.out]; exact hbit⟩)
        have hlt2 : u + Q < P := by
         have := bits_add_lt (u := u) (k := k) (m := m) (by rw [HP.out]; exact hu1) hkm HBt.out.2.2
         rw [HQ.out, HP.out] at this
         exact this
        have hVw := HV.out.keep (by rw [HBs.out]; exact K.out.2)
        obtain ⟨g1, c1, l1, n1⟩ := hVw.at (j := i + 1) (Nat.zero_le _) (by omega)
        obtain ⟨g0, c0, l0, n0⟩ := hVw.at (j := i) (Nat.zero_le _) (by omega)
        have y1 := n1 (u + Q) hlt2
        have y0 := n0 u hu1
        have ht := hVw.lt
        clear n1 n0 hVw
        obtain ⟨hy0, hy1⟩ := Vr_bound (L := L) (n := n) (m := m) (i := i + 1) (u := u + Q) n16 HM.out.hi2
        obtain ⟨hz0, hz1⟩ := Vr_bound (L := L) (n := n) (m := m) (i := i) (u := u) n16 HM.out.hi2
        have HT := qh (take_iff (L := L) (n := n) (m := m) (i := i) (u := u) (k := k) hin HBt.out.2.1 HBt.out.2.2)
        obtain ⟨Y, hY⟩ : ∃ Y, Vr L n m (i + 1) (u + Q) = Y := ⟨_, rfl⟩
        obtain ⟨Z, hZ⟩ : ∃ Y, Vr L n m i u = Y := ⟨_, rfl⟩
        have HY := qh (And.intro hY hZ)
        rw [hY] at y1 hy0 hy1
        rw [hZ] at y0 hz0 hz1
        have hj2 : ((i : Int) + 1).toNat = i + 1 := by omega
        have hj3 : (i : Int) + 1 < (n : Int) + 1 := by omega
        have hj4 : (i : Int) < (n : Int) + 1 := by omega
        have hu2 : (u : Int) < (P : Int) := by omega
        have hlt3 : (u : Int) + (Q : Int) < (P : Int) := by omega
        have hv1 : IntKind.i64.wrap (1073741824 - X) = 1073741824 - X := IntWalk.i64_in _ (by omega)
        have hv2 : IntKind.i64.wrap (1073741824 - X + Y) = 1073741824 - X + Y := IntWalk.i64_in _ (by omega)
        have hv3 : IntKind.i64.wrap ((u : Int) + (Q : Int)) = (u : Int) + (Q : Int) := IntWalk.i64_in _ (by omega)
        have hv4 : IntKind.i64.wrap ((i : Int) + 1) = (i : Int) + 1 := IntWalk.i64_in _ (by omega)
        have hv5 : ((u : Int) + (Q : Int)).toNat = u + Q := by omega
        have hv6 : (0 : Int) ≤ (u : Int) + (Q : Int) := by omega
        have hv7 : (0 : Int) ≤ (i : Int) + 1 := by omega
        have hv8 : (0 : Int) ≤ (u : Int) := by omega
        have hw1 : wrap64 (1073741824 - X) = 1073741824 - X := by unfold wrap64; omega
        have hw2 : wrap64 (1073741824 - X + Y) = 1073741824 - X + Y := by unfold wrap64; omega
        have hw3 : wrap64 ((u : Int) + (Q : Int)) = (u : Int) + (Q : Int) := by unfold wrap64; omega
        by_cases hz : 1073741824 - X + Y = Z
        ·have d2 : (1073741824 - X + Y == Z) = true := by rw [beq_iff_eq]; exact hz
         have HTk := qh (HT.out.2 (by rw [HBt.out.1, HQ.out, HY.out.1, HY.out.2]; exact hz))
         clear htm hbit hY hZ hx hz
         go_wp2_with fail
         go_quiet (fail)
         clear hv1 hv2 hv3 hv4 hv5 hv6 hv7 hv8 hw1 hw2 d0 d1 d2 y1 y0 c1 c0 x1 x0 hz0 hz1 hy0 hy1 hj2 hj3 hj4 ht l1 l0
         have HR := qh (R.out.take hin hkm HP.out HBt.out.2.2 HN.out HTk.out)
         rw [HQ.out] at HR
         have HZ := qh (show base ≤ wr.heap.size by rw [← HBs.out]; exact K.out.2.size)
         go_upto_region 14 with fail
         generalize hq : (wr.drewN d).drewN nq = wq at *
         have HO := qh (show (wq.alloc (.cells #[.int .i64 (i : Int), .int .i64 (k : Int)] 103)).ownsRow base 103 2 u7 pre.length (flat2 (toP pre)) ∧ Below base w2 wq ∧ base ≤ wq.heap.size from by
          have h := ownsRow_below K.out.1 (below_drewN (below_drewN (Below.refl _ _) d) nq) (Nat.le_refl _)
          rw [hq] at h
          refine ⟨h.alloc _, ?_, ?_⟩
          ·rw [← hq]; exact below_drewN (below_drewN K.out.2 d) nq
          rw [← hq]; exact HZ.out)
         clear hq
         go_upto_region 15 with (at_builtin; refine wpList_append_own _ rfl _ _ 99 rfl base 103 i0 _ 2 16 Try.underlying99 HI.out.1 HI.out.2.1 HI.out.2.2.1 HI.out.2.2.2 rfl (by decide) _ pre.length _ rfl HO.out.1 ⟨wq.heap.size, 0, none⟩ 1 1 [.int .i64 (i : Int), .int .i64 (k : Int)] rfl rfl ?c1 ?c2 ?c3 ?c4 ?c5 ?_; rotate_right; intro v7 w7 hown7 hgrow _; have K7 := qh (And.intro hown7 (rb_grow HO.out.2.1 HO.out.2.2 HO.out.1 hgrow)); clear hown7 hgrow)
         case c1 => exact cellsTwo rfl
         case c2 => intro u hu; simp at hu; rcases hu with rfl | rfl <;> rfl
         case c3 => exact Nat.le_trans (Nat.succ_le_succ R.out.len) (by unfold maxLen; omega)
         case c4 =>
          have hl := R.out.len
          omega
         case c5 => have := HO.out.2.2; simp; omega
         clear hw3
         go_wp2_with fail
         go_roundw
         case rel => exact ⟨i + 1, u + Q, pre ++ [(i, k)], by omega, congrArg (Value.int .i64) (by omega), by go_num, HR.out, by rw [toP_snoc, flat2_snoc, List.length_append]; exact K7.out.1, K7.out.2⟩
         case measure => simp [intOf]; omega
        have d2 : (1073741824 - X + Y == Z) = false := by rw [beq_eq_false_iff_ne]; exact hz
        have HTk := qh (show takeB (AsgRows.ent L) n m (n - (i + 1)) (bitsT u) k = false by
         cases hb : takeB (AsgRows.ent L) n m (n - (i + 1)) (bitsT u) k with
         | false => rfl
         | true =>
          have h := HT.out.1 hb
          rw [HBt.out.1, HQ.out, HY.out.1, HY.out.2] at h
          exact absurd h hz)
        clear htm hbit hY hZ hx hz
        go_wp2_with fail
        go_quiet (fail)
        go_wp2_with fail
        go_roundw
        case rel => exact ⟨k + 1, by omega, rfl, by go_num, rfl, ⟨_, rfl⟩, HN.out.next HTk.out⟩
        case measure => simp [intOf]; omega
       have d1 : (((u : Int) / (2 : Int) ^ k).tmod 2 == 0) = false := by rw [htm, beq_eq_false_iff_ne]; omega
       have HTk := qh (take_no (L := L) (n := n) (m := m) (i := i) (u := u) (k := k) hin (fun q => by rw [HQ.out] at q; exact hbit q.2))
       clear htm hbit hx
       go_wp2_with fail
       go_quiet (fail)
       go_wp2_with fail
       go_roundw
       case rel => exact ⟨k + 1, by omega, rfl, by go_num, rfl, ⟨_, rfl⟩, HN.out.next HTk.out⟩
       case measure => simp [intOf]; omega
      have d0 : decide (0 ≤ X) = false := decide_eq_false hx
      have HTk := qh (take_no (L := L) (n := n) (m := m) (i := i) (u := u) (k := k) hin (fun q => by rw [HX.out] at q; exact hx q.1))
      clear htm hx
      go_wp2_with fail
      go_quiet (fail)
      go_wp2_with fail
      go_roundw
      case rel => exact ⟨k + 1, by omega, rfl, by go_num, rfl, ⟨_, rfl⟩, HN.out.next HTk.out⟩
      case measure => simp [intOf]; omega
     obtain rfl : m = k := by omega
     have HR := qh (R.out.skip hin HN.out)
     go_wp2_with fail
     go_roundw
     case rel => exact ⟨i + 1, u, pre, by omega, rfl, by go_num, HR.out, ownsRow_below K.out.1 (below_drewN (Below.refl _ _) d) (Nat.le_refl _), below_drewN K.out.2 d⟩
     case measure => simp [intOf]; omega
   obtain rfl : n = i := by omega
   go_wp2_with fail
   go_ret2
   have hA := R.out.A
   rw [Nat.sub_self] at hA
   have hb : bsL L = toP pre := by
    unfold bsL bestM
    rw [if_pos HE.out, HLn.out, HW.out, hA]
    unfold bestL
    rw [List.append_nil]
   have hbw : w.heap.size ≤ base := by rw [← HBs.out]; exact B2.out.size
   exact bs_ok HE.out hb (ownsRow_base K.out.1 hbw) (B2.out.trans (K.out.2.mono hbw))
 have HB := qh hE
 have hne : (chM L != 0) = true := by rw [bne_iff_ne]; exact hE
 clear hM hE h9
 go_enter Try.func36, Try.ntmps36
 go_wp2_with fail
 refine (rCheck_call a n cc L _ HM0.out).mono ?_; rintro e w1 ⟨rfl, hb⟩
 obtain ⟨E, hE⟩ : ∃ E, chM L = E := ⟨_, rfl⟩
 rw [hE] at hne
 have HE := qh hE
 rw [hE]
 clear hE
 go_wp2_with fail
 go_ret2
 rw [← HE.out]
 exact bs_bad HB.out hb
end Go.Proofs.Ytikjjpjekchcjaa.Asg
end
section
namespace Go.Proofs.Ytikjjpjekchcjaa
open Go.RowKit TrkMath MyHeap MyOwn
def CM (base cb n : Nat) (F : Nat → List Int) (W : World) : Prop :=
 base ≤ cb ∧ ∃ cs : Array Value, W.heap[cb]? = some (.cells cs 35 (0, 0)) ∧ cs.size = n ∧
  (∀ i, i < n → ∃ u, cs[i]? = some u ∧ W.ownsRow base 3 1 u (F i).length (Asg.flatI (F i))) ∧
  ∀ (i j : Nat) (u u' : Value) (g : Nat), i ≠ j → cs[i]? = some u → cs[j]? = some u' → u.ownBlock = some g → u'.ownBlock ≠ some g
theorem CM.below {base cb n : Nat} {F : Nat → List Int} {W W' : World} (h : CM base cb n F W) (hb : Below W.heap.size W W') : CM base cb n F W' := by
 obtain ⟨h0, cs, h1, h2, h3, h4⟩ := h
 exact ⟨h0, cs, keepO hb h1, h2, fun i hi => by
  obtain ⟨u, e, r⟩ := h3 i hi
  exact ⟨u, e, ownsRow_below r hb (Nat.le_refl _)⟩, h4⟩
theorem CM.congr {base cb n : Nat} {F G : Nat → List Int} {W : World} (h : CM base cb n F W) (he : ∀ i, i < n → F i = G i) : CM base cb n G W := by
 obtain ⟨h0, cs, h1, h2, h3, h4⟩ := h
 exact ⟨h0, cs, h1, h2, fun i hi => by rw [← he i hi]; exact h3 i hi, h4⟩
theorem CM.made {base n : Nat} {W : World} (hb : base ≤ W.heap.size) : CM base W.heap.size n (fun _ => []) (W.alloc (.cells (madeCells #[.slice none 0 0] n) 35)) := by
 have hm : ∀ i, i < n → (madeCells #[Value.slice none 0 0] n)[i]? = some (.slice none 0 0) := fun i hi => by
  simp [madeCells, hi, Nat.mod_one]
 have hall : ∀ (i : Nat) (u : Value), (madeCells #[Value.slice none 0 0] n)[i]? = some u → u = Value.slice none 0 0 := fun i u hu => by
  by_cases hi : i < n
  ·rw [hm i hi] at hu; exact (Option.some.inj hu).symm
  simp [madeCells, hi] at hu
 refine ⟨hb, _, block_new _ _ rfl, by simp [madeCells], fun i hi => ⟨_, hm i hi, rfl, Or.inl ⟨rfl, rfl⟩⟩, fun i j u u' g _ h1 _ h3 => ?_⟩
 rw [hall i u h1] at h3
 cases h3
theorem CM.at {base cb n : Nat} {F : Nat → List Int} {W : World} (h : CM base cb n F W) {i : Nat} (hi : i < n) : ∃ a c, W.cell? ⟨cb, i, none⟩ = some (.slice a (F i).length c) ∧ W.ownsRow base 3 1 (.slice a (F i).length c) (F i).length (Asg.flatI (F i)) ∧ W.frozen? ⟨cb, i, none⟩ = false ∧ cb < W.heap.size := by
 obtain ⟨h0, cs, h1, h2, h3, h4⟩ := h
 obtain ⟨u, e, r⟩ := h3 i hi
 obtain ⟨a, c, rfl⟩ := row_slice r
 exact ⟨a, c, cell_of_block h1 e, r, free_of_block h1, lt_of_block h1⟩
theorem own_type {W : World} {base : Nat} {e : TypeId} {s : Nat} {u : Value} {n : Nat} {xs : List Value} {g : Nat} (h : W.ownsRow base e s u n xs) (hg : u.ownBlock = some g) : ∃ cs, W.heap[g]? = some (.cells cs e (0, 0)) := by
 rcases h.2 with ⟨rfl, -⟩ | ⟨g', cap, cur, rfl, -, hh, -⟩
 ·cases hg
 cases hg; exact ⟨cur, hh⟩
theorem CM.put {base cb n i : Nat} {F G : Nat → List Int} {x : Int} {W W' : World} {u u' : Value} (h : CM base cb n F W) (hi : i < n) (hu : W.cell? ⟨cb, i, none⟩ = some u) (hg : W.grownBy W' u.ownBlock) (ho : W'.ownsRow base 3 1 u' ((F i).length + 1) (Asg.flatI (F i) ++ [.int .i64 x])) (ha : u'.ownBlock = u.ownBlock ∨ u'.ownBlock = some W.heap.size)
    (hG : ∀ j, j < n → G j = if j = i then F i ++ [x] else F j) (hbase : base ≤ W.heap.size) : CM base cb n G (W'.setCell ⟨cb, i, none⟩ u') ∧ Below base W (W'.setCell ⟨cb, i, none⟩ u') := by
 obtain ⟨h0, cs, h1, h2, h3, h4⟩ := h
 have hcb := lt_of_block h1
 obtain ⟨u0, e0, r0⟩ := h3 i hi
 have : u0 = u := by
  have := cell_of_block (i := i) h1 e0
  rw [this] at hu
  exact Option.some.inj hu
 subst this
 have hne : u0.ownBlock ≠ some cb := fun e => by
  obtain ⟨cs', h'⟩ := own_type r0 e
  rw [h1] at h'
  injection h' with h'
  injection h' with _ h''
  exact absurd h'' (by decide)
 have hcb' : W'.heap[cb]? = some (.cells cs 35 (0, 0)) := (hg.block cb hcb (fun e => hne e.symm)).trans h1
 have hO : Only cb W' (W'.setCell ⟨cb, i, none⟩ u') := (Only.refl _ _).setCell _ _
 have hblk := block_setCell (i := i) (v := u') hcb'
 have hcs : (cs.setIfInBounds i u').size = n := by simp [h2]
 have hrow : ∀ (j : Nat) (v : Value) (m : Nat) (xs : List Value), W'.ownsRow base 3 1 v m xs → (W'.setCell ⟨cb, i, none⟩ u').ownsRow base 3 1 v m xs := fun j v m xs hr =>
  Outs.row (Outs.of_only (X := [some cb]) hO (List.mem_singleton.2 rfl)) hr (fun g e hgm => by
   have := Option.some.inj (List.mem_singleton.1 hgm)
   subst this
   obtain ⟨cs', h'⟩ := own_type hr e
   rw [hcb'] at h'
   injection h' with h'
   injection h' with _ h''
   exact absurd h'' (by decide))
 have hlow : ∀ j v g, j ≠ i → j < n → cs[j]? = some v → v.ownBlock = some g → g < W.heap.size := fun j v g _ hj hv hvg => by
  obtain ⟨y, q1, q2⟩ := h3 j hj
  rw [hv] at q1
  cases q1
  exact (q2.lt g hvg).2
 have hget : ∀ j, j ≠ i → (cs.setIfInBounds i u')[j]? = cs[j]? := fun j hj => Array.getElem?_setIfInBounds_ne (Ne.symm hj)
 have hself : (cs.setIfInBounds i u')[i]? = some u' := by rw [Array.getElem?_setIfInBounds_self_of_lt (by omega)]
 have hin : ∀ (j : Nat) (v : Value), (cs.setIfInBounds i u')[j]? = some v → j < n := fun j v hv => by
  have := (Array.getElem?_eq_some_iff.1 hv).1
  omega
 have hap : ∀ j v g, j ≠ i → j < n → cs[j]? = some v → v.ownBlock = some g → u'.ownBlock ≠ some g := fun j v g hj hjn hv hvg e => by
  rcases ha with q | q
  ·exact h4 j i v u0 g hj hv e0 hvg (by rw [← q]; exact e)
  have := hlow j v g hj hjn hv hvg
  rw [q] at e
  have := Option.some.inj e
  omega
 refine ⟨⟨h0, cs.setIfInBounds i u', by simpa using hblk, hcs, fun j hj => ?_, fun j k v v' g hjk hv hv' hvg => ?_⟩, ?_⟩
 ·rw [hG j hj]
  by_cases e : j = i
  ·subst e
   refine ⟨u', hself, ?_⟩
   rw [if_pos rfl]
   have hl : (F j ++ [x]).length = (F j).length + 1 := by simp
   have hf : Asg.flatI (F j ++ [x]) = Asg.flatI (F j) ++ [.int .i64 x] := by simp [Asg.flatI]
   rw [hl, hf]
   exact hrow j _ _ _ ho
  obtain ⟨v, q1, q2⟩ := h3 j hj
  refine ⟨v, by rw [hget j e]; exact q1, ?_⟩
  rw [if_neg e]
  refine hrow j _ _ _ (Asg.own_over q2 hg (fun g hvg hc => ?_))
  exact h4 j i v u0 g e q1 e0 hvg hc
 ·have hj := hin j v hv
  have hk := hin k v' hv'
  by_cases e : j = i
  ·subst e
   rw [hself] at hv
   cases hv
   rw [hget k (Ne.symm hjk)] at hv'
   exact fun c => hap k v' g (Ne.symm hjk) hk hv' c hvg
  rw [hget j e] at hv
  by_cases e' : k = i
  ·subst e'
   rw [hself] at hv'
   cases hv'
   exact hap j v g e hj hv hvg
  rw [hget k e'] at hv'
  exact h4 j k v v' g hjk hv hv' hvg
 refine Below.trans (?_ : Below base W W') (hO.below h0 (Nat.le_trans hbase hg.size))
 exact ⟨hg.os, hg.tape, hg.output, hg.size, fun k hk => hg.block k (by omega) (fun e => by have := (r0.lt k e.symm).1; omega)⟩
theorem CM.mtx {base cb n : Nat} {F : Nat → List Int} {W : World} {L : List (List Int)} (h : CM base cb n F W) (hl : L.length = n) (hn : n ≤ 1000) (hF : ∀ i, i < n → F i = AsgRows.rowL L i) (hr : ∀ i, i < n → (F i).length ≤ 1000) : Asg.Mtx W (some ⟨cb, 0, none⟩) n L := by
 obtain ⟨h0, cs, h1, h2, h3, h4⟩ := h
 refine ⟨hl, by omega, Or.inr ⟨cb, 0, rfl, fun i hi => ?_⟩⟩
 obtain ⟨u, e, r⟩ := h3 i hi
 have := hr i hi
 obtain ⟨a, c, rfl, hI⟩ := Asg.ints_own rfl r (by omega)
 rw [← hF i hi]
 exact ⟨a, c, by rw [Nat.zero_add]; exact cell_of_block h1 e, hI⟩
def MapI (b : Nat) (l : List (Nat × Nat)) (w : World) : Prop :=
 ∃ D : DataW Unit, w.ownsMap Try.prog 3 (plainElem Try.prog 3) b l.length D ∧ Maps.IsMap D ∧
  ∀ (x : Int) (z : DataW Unit), (Lit.int .i64 x).wf = true → D.atKey (.int .i64 x) z = match l.find? (fun q => (q.1 : Int) == x) with | none => z | some q => .lit (.int .i64 (q.2 : Int))
theorem MapI.grown {b : Nat} {l : List (Nat × Nat)} {w w' : World} {row : Option Nat} (h : MapI b l w) (hg : w.grownBy w' row) (hne : some b ≠ row) : MapI b l w' := by
 obtain ⟨D, h1, h2, h3⟩ := h
 exact ⟨D, h1.kept hg hne, h2, h3⟩
theorem MapI.lt {b : Nat} {l : List (Nat × Nat)} {w : World} (h : MapI b l w) : b < w.heap.size := by
 obtain ⟨D, h1, -⟩ := h
 exact h1.lt
theorem MapI.below {b : Nat} {l : List (Nat × Nat)} {w w' : World} (h : MapI b l w) (hb : Below w.heap.size w w') : MapI b l w' := by
 have hlt := h.lt
 exact h.grown (row := none) ⟨hb.os, hb.tape, hb.output, hb.size, fun k hk _ => hb.block k hk⟩ (by simp)
theorem MapI.outs {X : List (Option Nat)} {b : Nat} {l : List (Nat × Nat)} {w w' : World} (h : MapI b l w) (hb : Outs X w w') (hn : some b ∉ X) : MapI b l w' := by
 obtain ⟨D, ⟨es, clock, h0, r⟩, h2, h3⟩ := h
 exact ⟨D, ⟨es, clock, hb.keeps h0 hn, r⟩, h2, h3⟩
theorem MapI.made (w : World) : MapI w.heap.size [] (w.alloc (.map #[] 0)) := ⟨.map [], World.ownsMap_made _ _ _ _, ⟨[], rfl⟩, fun _ _ _ => rfl⟩
theorem wf64 {x : Int} (h : -9223372036854775808 ≤ x) (h2 : x ≤ 9223372036854775807) : (Lit.int .i64 x).wf = true := by
 simp [Lit.wf]
 exact ⟨Int.le_trans (by decide) h, h2⟩
theorem keyI : Maps.Keyed Try.prog 3 := Maps.int_keyed Try.underlying3
theorem zeroI (w : World) : (zeroValue 3).run Try.prog w = .ok (.int .i64 0) w := by kernel_rfl
theorem zeroB (w : World) : (zeroValue 4).run Try.prog w = .ok (.bool false) w := by kernel_rfl
theorem keyOfI {x : Int} (h : -9223372036854775808 ≤ x) (h2 : x ≤ 9223372036854775807) : keyOf Try.prog 3 (.int .i64 x) = some (.int .i64 x) := Maps.keyOf_int_mk Try.underlying3 (wf64 h h2)
theorem MapI.put {b i k : Nat} {l : List (Nat × Nat)} {w' : World} {D : DataW Unit} (h2 : Maps.IsMap D)
    (h3 : ∀ (x : Int) (z : DataW Unit), (Lit.int .i64 x).wf = true → D.atKey (.int .i64 x) z = match l.find? (fun q => (q.1 : Int) == x) with | none => z | some q => .lit (.int .i64 (q.2 : Int)))
    (ho : w'.ownsMap Try.prog 3 (plainElem Try.prog 3) b (l.length + 1) (D.put (.int .i64 (i : Int)) (.lit (.int .i64 (k : Int))))) (hn : ∀ q ∈ l, q.1 ≠ i) : MapI b (l ++ [(i, k)]) w' := by
 refine ⟨_, by rw [List.length_append]; exact ho, h2.put _ _, fun x z hx => ?_⟩
 rw [List.find?_append]
 by_cases e : x = (i : Int)
 ·subst e
  rw [Maps.atKey_put_same h2 (show WideAt.IsKeyLit (.int _ _) from trivial)]
  have : l.find? (fun q => (q.1 : Int) == (i : Int)) = none := List.find?_eq_none.2 fun q hq => by
   have := hn q hq
   simp
   omega
  rw [this]
  simp
 rw [Maps.atKey_put_other (fun c => e (by injection c)), h3 x z hx]
 cases hf : l.find? (fun q => (q.1 : Int) == x) with
 | some q => rfl
 | none =>
  have : [(i, k)].find? (fun q => (q.1 : Int) == x) = none := by
   simp
   exact fun c => e c.symm
  rw [this]
  rfl
theorem ofF_find (l : List (Nat × Nat)) (i : Nat) : ofF l i = (l.find? (fun q => (q.1 : Int) == (i : Int))).map (·.2) := by
 unfold ofF
 congr 1
 congr 1
 funext q
 by_cases e : q.1 = i
 ·subst e; simp
 rw [beq_eq_false_iff_ne.2 e, beq_eq_false_iff_ne.2 (by omega)]
theorem MapI.look {b : Nat} {l : List (Nat × Nat)} {w : World} (h : MapI b l w) {i : Nat} (hi : i ≤ 1000) : (Instr.lookup 87 (.map (some b)) (.int .i64 (i : Int)) true).run Try.prog w = .ok (.tuple #[.int .i64 (((ofF l i).getD 0 : Nat) : Int), .bool (ofF l i).isSome]) w := by
 obtain ⟨D, h1, h2, h3⟩ := h
 have hw := wf64 (x := (i : Int)) (by omega) (by omega)
 obtain ⟨v, ps, hr, hv⟩ := h1.look_ok keyI Try.underlying87 (zeroI w) (plainElem_int Try.underlying3 (by decide)) (keyOfI (x := (i : Int)) (by omega) (by omega))
 obtain ⟨c, rfl, hc, -⟩ := plainElem_int_inv Try.underlying3 hv
 have hc := congrArg Prod.fst hc
 simp only [] at hc
 rw [hr, ofF_find]
 rw [h3 _ _ hw] at hc
 have h4 := h3 (i : Int)
 cases hf : l.find? (fun q => (q.1 : Int) == (i : Int)) with
 | none =>
  rw [hf] at hc h4
  have : Maps.has D (.int .i64 (i : Int)) = false := Maps.has_false_of_atKey fun z => h4 z hw
  rw [this]
  injection hc with hc
  injection hc with _ hc
  subst hc
  rfl
 | some q =>
  rw [hf] at hc h4
  have : Maps.has D (.int .i64 (i : Int)) = true := Maps.has_true_of_atKey (y := .lit (.int .i64 (q.2 : Int))) fun z => h4 z hw
  rw [this]
  injection hc with hc
  injection hc with _ hc
  subst hc
  rfl
def MapB (b n : Nat) (S : Int → Bool) (w : World) : Prop :=
 ∃ D : DataW Unit, w.ownsMap Try.prog 3 (plainElem Try.prog 4) b n D ∧ Maps.IsMap D ∧ ∀ (x : Int) (z : DataW Unit), (Lit.int .i64 x).wf = true → D.atKey (.int .i64 x) z = if S x = true then .lit (.bool true) else z
theorem MapB.outs {X : List (Option Nat)} {b n : Nat} {S : Int → Bool} {w w' : World} (h : MapB b n S w) (hb : Outs X w w') (hn : some b ∉ X) : MapB b n S w' := by
 obtain ⟨D, ⟨es, clock, h0, r⟩, h2, h3⟩ := h
 exact ⟨D, ⟨es, clock, hb.keeps h0 hn, r⟩, h2, h3⟩
theorem MapB.lt {b n : Nat} {S : Int → Bool} {w : World} (h : MapB b n S w) : b < w.heap.size := by
 obtain ⟨D, h1, -⟩ := h
 exact h1.lt
theorem MapB.below {b n : Nat} {S : Int → Bool} {w w' : World} (h : MapB b n S w) (hb : Below w.heap.size w w') : MapB b n S w' := h.outs (X := []) (Outs.of_below hb) (by simp)
theorem MapB.made (w : World) : MapB w.heap.size 0 (fun _ => false) (w.alloc (.map #[] 0)) := ⟨.map [], World.ownsMap_made _ _ _ _, ⟨[], rfl⟩, fun _ _ _ => rfl⟩
theorem MapB.put {b n : Nat} {S : Int → Bool} {y : Int} {w' : World} {D : DataW Unit} (h2 : Maps.IsMap D) (h3 : ∀ (x : Int) (z : DataW Unit), (Lit.int .i64 x).wf = true → D.atKey (.int .i64 x) z = if S x = true then .lit (.bool true) else z)
    (ho : w'.ownsMap Try.prog 3 (plainElem Try.prog 4) b (n + 1) (D.put (.int .i64 y) (.lit (.bool true)))) : MapB b (n + 1) (fun x => S x || x == y) w' := by
 refine ⟨_, ho, h2.put _ _, fun x z hx => ?_⟩
 by_cases e : x = y
 ·subst e
  rw [Maps.atKey_put_same h2 (show WideAt.IsKeyLit (.int _ _) from trivial)]
  simp
 rw [Maps.atKey_put_other (fun c => e (by injection c)), h3 x z hx]
 simp [e]
theorem MapB.look {b n : Nat} {S : Int → Bool} {w : World} (h : MapB b n S w) {x : Int} (h0 : 0 ≤ x) (h1 : x ≤ 1000) : (Instr.lookup 128 (.map (some b)) (.int .i64 x) false).run Try.prog w = .ok (.bool (S x)) w := by
 obtain ⟨D, hD, h2, h3⟩ := h
 have hw := wf64 (x := x) (by omega) (by omega)
 obtain ⟨v, ps, hr, hv⟩ := hD.lookup keyI Try.underlying128 (zeroB w) (plainElem_bool Try.underlying4 false) (keyOfI (x := x) (by omega) (by omega))
 rw [hr]
 rw [h3 x _ hw] at hv
 have hval : ∀ c : Bool, plainElem (H := Unit) Try.prog 4 v = some (.lit (.bool c), ps) → v = .bool c := fun c hc => by
  unfold plainElem at hc
  rw [Try.underlying4] at hc
  cases v <;> simp at hc
  rw [hc.1]
 cases hS : S x with
 | true => rw [hS] at hv; rw [hval true (by simpa using hv)]
 | false => rw [hS] at hv; rw [hval false (by simpa using hv)]
end Go.Proofs.Ytikjjpjekchcjaa
end
