/-
  Layer 19 (assign): Best of the reference.
-/
import Derived.Test.YtbehpkggmomgeaaAsgVb
import Derived.Test.YtbehpkggmomgeaaAsgH
import Derived.Test.YtbehpkggmomgeaaAsgB
namespace Go.Proofs.Ytbehpkggmomgeaa
open Go.RowKit AsgRows AsgMath MyHeap MyOwn MyCopy

/-- Ahead of row i. -/
structure Rb (L : List (List Int)) (n m P i u : Nat) (pre : List (Nat × Nat)) : Prop where
  u1 : u < P
  A : bestL (ent L) n m n (fun _ => false) = pre ++ bestL (ent L) n m (n - i) (bitsT u)
  len : pre.length ≤ i
theorem Rb.skip {L : List (List Int)} {n m P i u : Nat} {pre : List (Nat × Nat)} (h : Rb L n m P i u pre) (hi : i < n) (hn : NoT L n m i m (bitsT u)) : Rb L n m P (i + 1) u pre := by
  have hf : firstK (takeB (ent L) n m (n - (i + 1)) (bitsT u)) m = none := firstK_no hn
  have h1 := bestL_skip hf
  have e : n - (i + 1) + 1 = n - i := by omega
  rw [e] at h1
  exact ⟨h.u1, by rw [← h1.1]; exact h.A, by have := h.len; omega⟩
theorem Rb.take {L : List (List Int)} {n m P i u k : Nat} {pre : List (Nat × Nat)} (h : Rb L n m P i u pre) (hi : i < n) (hk : k < m) (hP : 2 ^ m = P) (hb : u / 2 ^ k % 2 = 0) (hno : NoT L n m i k (bitsT u)) (ht : takeB (ent L) n m (n - (i + 1)) (bitsT u) k = true) : Rb L n m P (i + 1) (u + 2 ^ k) (pre ++ [(i, k)]) := by
  have hf : firstK (takeB (ent L) n m (n - (i + 1)) (bitsT u)) m = some k := firstK_of hk ht hno
  have h1 := bestL_take hf
  have e : n - (i + 1) + 1 = n - i := by omega
  have e2 : n - (n - i) = i := by omega
  rw [e, e2] at h1
  refine ⟨?_, by rw [h.A, h1, List.append_assoc, bitsT_set hb]; rfl, by rw [List.length_append]; have := h.len; simp; omega⟩
  have := h.u1
  rw [← hP] at this ⊢
  exact bits_add_lt this hk hb
theorem rb_grow {w2 wq w7 : World} {base n : Nat} {T : TypeId} {o : Obj} {v : Value} {xs : List Value} (h : Below base w2 wq) (hz : base ≤ wq.heap.size) (hO : (wq.alloc o).ownsRow base T 2 v n xs) (hg : (wq.alloc o).grownBy w7 v.ownBlock) : Below base w2 w7 :=
  (h.alloc hz o).trans (grownBelow hO hg (Nat.le_refl _) (by rw [World.size_alloc]; omega))

set_option maxRecDepth 100000 in
set_option maxHeartbeats 16000000 in
theorem rBest_call (a : Option Addr) (n cc : Nat) (L : List (List Int)) (w : World) (hM : Mtx w a n L) (h9 : chM L = 0 → wid L ≤ 9) :
    Calls Try.prog 13 #[.slice a n cc] w (BsPost L w) := by
  have HM0 := Lib.hid hM
  by_cases hE : chM L = 0
  · have hMa := Ma.of hM hE
    have hm9 := h9 hE
    obtain ⟨m, hm⟩ : ∃ m, wid L = m := ⟨_, rfl⟩
    rw [hm] at hMa hm9
    have HM := Lib.hid hMa
    have HW := Lib.hid hm
    have HE := Lib.hid hE
    have n16 : n ≤ 16 := by have := hMa.ok.n16; rw [hMa.M.len] at this; exact this
    have HLn := Lib.hid hMa.M.len
    obtain ⟨i0, hi, hiz, his, hib⟩ := info_parts infoPair
    have HI := Lib.hid (And.intro hi (And.intro hiz (And.intro his hib)))
    clear hM hMa hm h9 hi hiz his hib
    go_enter Try.func13, Try.ntmps13
    go_wp2_with fail
    refine (rCheck_call a n cc L _ HM0.out).mono ?_; rintro e w1 ⟨rfl, hb⟩
    rw [hE]
    have B1 := Lib.hid hb
    clear hE hb
    go_wp2_with fail
    refine (values_call a n cc m L _ (HM.out.keep B1.out) hm9).mono ?_; rintro e w2 ⟨tb, rfl, hV, hb⟩
    obtain ⟨P, hP⟩ : ∃ P, 2 ^ m = P := ⟨_, rfl⟩
    have HP := Lib.hid hP
    rw [hP] at hV
    have hp9 : P ≤ 512 := by rw [← hP]; exact pow_le9 hm9
    have HV := Lib.hid hV
    have B2 := Lib.hid (B1.out.trans (hb.mono B1.out.size))
    obtain ⟨base, hbase⟩ : ∃ base, w2.heap.size = base := ⟨_, rfl⟩
    have HBs := Lib.hid hbase
    clear hV hb hP hbase B1
    go_wp2_with fail
    go_loopw [6, 7, 8] (fun uv l iv wr => ∃ (i u : Nat) (pre : List (Nat × Nat)), i ≤ n ∧ uv = .int .i64 u ∧ iv = .int .i64 i ∧ Rb L n m P i u pre ∧ wr.ownsRow base 42 2 l pre.length (flat2 (toP pre)) ∧ Below base w2 wr) (fun _ _ iv _ => n - (intOf iv).toNat)
    case atStart => exact ⟨0, 0, [], Nat.zero_le _, rfl, rfl, ⟨by rw [← HP.out]; exact Nat.two_pow_pos m, by rw [Nat.sub_zero, bitsT_zero]; rfl, Nat.le_refl _⟩, ⟨rfl, Or.inl ⟨rfl, rfl⟩⟩, by rw [← HBs.out]; exact Below.refl _ _⟩
    case round =>
      obtain ⟨i, u, pre, hi, rfl, rfl, hR, hO, hB⟩ := hrel
      have R := Lib.hid hR
      have K := Lib.hid (And.intro hO hB)
      have hu1 := hR.u1
      clear hR hO hB
      by_cases hin : i < n
      · obtain ⟨b, off, rfl, ra, rc, x0w, xI⟩ := mtx_at HM0.out hin
        have x0 := keep1 (show Below w.heap.size w wr from B2.out.trans (K.out.2.mono (by rw [← HBs.out]; exact B2.out.size))) x0w
        have hrl : (rowL L i).length = m := by rw [HM.out.ok.form i (by rw [HM.out.M.len]; exact hin), HM.out.wd]
        rw [hrl] at x0 xI
        have HXI := Lib.hid xI
        have q0 := World.block_lt_of_cell? wr _ x0
        have hi0 : (0 : Int) ≤ (i : Int) := by omega
        have hi1 : (i : Int) < (n : Int) := by omega
        clear x0w xI hrl
        go_wp2_with fail
        go_loopw [6, 7, 9] (fun uv l' kv wr' => ∃ (k : Nat), k ≤ m ∧ uv = .int .i64 u ∧ kv = .int .i64 k ∧ l' = u7 ∧ (∃ d, wr' = wr.drewN d) ∧ NoT L n m i k (bitsT u)) (fun _ _ kv _ => m - (intOf kv).toNat)
        case atStart => exact ⟨0, Nat.zero_le _, rfl, rfl, rfl, ⟨0, rfl⟩, fun j hj => by omega⟩
        case round =>
          obtain ⟨k, hk, rfl, rfl, rfl, ⟨d, rfl⟩, hN⟩ := hrel
          have HN := Lib.hid hN
          clear hN
          by_cases hkm : k < m
          · obtain ⟨b2, o2, rfl, x1w⟩ := ints_at HXI.out hkm
            have x1 : wr.cell? ⟨b2, o2 + k, none⟩ = some (.int .i64 (AsgRows.ent L i k)) := keep1 (show Below w.heap.size w wr from B2.out.trans (K.out.2.mono (by rw [← HBs.out]; exact B2.out.size))) x1w
            have qb2 := World.block_lt_of_cell? wr _ x1
            have e3 := HM.out.ok.lo i k (by rw [HM.out.M.len]; exact hin) (by rw [HM.out.wd]; exact hkm)
            have e4 := HM.out.hi2 i k hin hkm
            clear x1w
            have hk0 : (0 : Int) ≤ (k : Int) := by omega
            have hk1 : (k : Int) < (m : Int) := by omega
            have hk2 : (k : Int) < 16 := by omega
            obtain ⟨X, hX⟩ : ∃ X, AsgRows.ent L i k = X := ⟨_, rfl⟩
            have HX := Lib.hid hX
            rw [hX] at x1 e3 e4
            obtain ⟨Q, hQ⟩ : ∃ Q, 2 ^ k = Q := ⟨_, rfl⟩
            have HQ := Lib.hid hQ
            have hwk : wrap64 ((2 : Int) ^ k) = (Q : Int) := by rw [← hQ]; exact wrap_pow (by omega)
            have hq9 : Q ≤ 512 := by rw [← hQ]; exact pow_le9 (by omega)
            have htm : ((u : Int) / (2 : Int) ^ k).tmod 2 = ((u / Q % 2 : Nat) : Int) := by
              have : (u : Int) / (2 : Int) ^ k = ((u / Q : Nat) : Int) := by rw [← hQ, Int.natCast_ediv, Int.natCast_pow]; rfl
              rw [this, Int.tmod_eq_emod_of_nonneg (Int.natCast_nonneg _)]; rfl
            clear hX hQ
            by_cases hx : 0 ≤ X
            · have d0 : decide (0 ≤ X) = true := decide_eq_true hx
              by_cases hbit : u / Q % 2 = 0
              · have d1 : (((u : Int) / (2 : Int) ^ k).tmod 2 == 0) = true := by rw [htm, hbit]; rfl
                have HBt := Lib.hid (show AsgRows.ent L i k = X ∧ 0 ≤ AsgRows.ent L i k ∧ u / 2 ^ k % 2 = 0 from ⟨HX.out, by rw [HX.out]; exact hx, by rw [HQ.out]; exact hbit⟩)
                have hlt2 : u + Q < P := by
                  have := bits_add_lt (u := u) (k := k) (m := m) (by rw [HP.out]; exact hu1) hkm HBt.out.2.2
                  rw [HQ.out, HP.out] at this
                  exact this
                have hVw := HV.out.keep (by rw [HBs.out]; exact K.out.2)
                obtain ⟨g1, c1, l1, n1⟩ := hVw.at (j := i + 1) (Nat.zero_le _) (by omega)
                obtain ⟨g0, c0, l0, n0⟩ := hVw.at (j := i) (Nat.zero_le _) (by omega)
                have y1 := n1 (u + Q) hlt2
                have y0 := n0 u hu1
                have ht := hVw.lt
                clear n1 n0 hVw
                obtain ⟨hy0, hy1⟩ := Vr_bound (L := L) (n := n) (m := m) (i := i + 1) (u := u + Q) n16 HM.out.hi2
                obtain ⟨hz0, hz1⟩ := Vr_bound (L := L) (n := n) (m := m) (i := i) (u := u) n16 HM.out.hi2
                have HT := Lib.hid (take_iff (L := L) (n := n) (m := m) (i := i) (u := u) (k := k) hin HBt.out.2.1 HBt.out.2.2)
                obtain ⟨Y, hY⟩ : ∃ Y, Vr L n m (i + 1) (u + Q) = Y := ⟨_, rfl⟩
                obtain ⟨Z, hZ⟩ : ∃ Y, Vr L n m i u = Y := ⟨_, rfl⟩
                have HY := Lib.hid (And.intro hY hZ)
                rw [hY] at y1 hy0 hy1
                rw [hZ] at y0 hz0 hz1
                have hj2 : ((i : Int) + 1).toNat = i + 1 := by omega
                have hj3 : (i : Int) + 1 < (n : Int) + 1 := by omega
                have hj4 : (i : Int) < (n : Int) + 1 := by omega
                have hu2 : (u : Int) < (P : Int) := by omega
                have hlt3 : (u : Int) + (Q : Int) < (P : Int) := by omega
                have hv1 : IntKind.i64.wrap (1073741824 - X) = 1073741824 - X := IntWalk.i64_in _ (by omega)
                have hv2 : IntKind.i64.wrap (1073741824 - X + Y) = 1073741824 - X + Y := IntWalk.i64_in _ (by omega)
                have hv3 : IntKind.i64.wrap ((u : Int) + (Q : Int)) = (u : Int) + (Q : Int) := IntWalk.i64_in _ (by omega)
                have hv4 : IntKind.i64.wrap ((i : Int) + 1) = (i : Int) + 1 := IntWalk.i64_in _ (by omega)
                have hv5 : ((u : Int) + (Q : Int)).toNat = u + Q := by omega
                have hv6 : (0 : Int) ≤ (u : Int) + (Q : Int) := by omega
                have hv7 : (0 : Int) ≤ (i : Int) + 1 := by omega
                have hv8 : (0 : Int) ≤ (u : Int) := by omega
                have hw1 : wrap64 (1073741824 - X) = 1073741824 - X := by unfold wrap64; omega
                have hw2 : wrap64 (1073741824 - X + Y) = 1073741824 - X + Y := by unfold wrap64; omega
                have hw3 : wrap64 ((u : Int) + (Q : Int)) = (u : Int) + (Q : Int) := by unfold wrap64; omega
                by_cases hz : 1073741824 - X + Y = Z
                · have d2 : (1073741824 - X + Y == Z) = true := by rw [beq_iff_eq]; exact hz
                  have HTk := Lib.hid (HT.out.2 (by rw [HBt.out.1, HQ.out, HY.out.1, HY.out.2]; exact hz))
                  clear htm hbit hY hZ hx hz
                  go_wp2_with fail
                  go_quiet (fail)
                  clear hv1 hv2 hv3 hv4 hv5 hv6 hv7 hv8 hw1 hw2 d0 d1 d2 y1 y0 c1 c0 x1 x0 hz0 hz1 hy0 hy1 hj2 hj3 hj4 ht l1 l0
                  have HR := Lib.hid (R.out.take hin hkm HP.out HBt.out.2.2 HN.out HTk.out)
                  rw [HQ.out] at HR
                  have HZ := Lib.hid (show base ≤ wr.heap.size by rw [← HBs.out]; exact K.out.2.size)
                  go_upto_region 14 with fail
                  generalize hq : (wr.drewN d).drewN nq = wq at *
                  have HO := Lib.hid (show (wq.alloc (.cells #[.int .i64 (i : Int), .int .i64 (k : Int)] 42)).ownsRow base 42 2 u7 pre.length (flat2 (toP pre)) ∧ Below base w2 wq ∧ base ≤ wq.heap.size from by
                    have h := ownsRow_below K.out.1 (below_drewN (below_drewN (Below.refl _ _) d) nq) (Nat.le_refl _)
                    rw [hq] at h
                    refine ⟨h.alloc _, ?_, ?_⟩
                    · rw [← hq]; exact below_drewN (below_drewN K.out.2 d) nq
                    · rw [← hq]; exact HZ.out)
                  clear hq
                  go_upto_region 15 with (at_builtin; refine wpList_append_own _ rfl _ _ 27 rfl base 42 i0 _ 2 16 Try.underlying27 HI.out.1 HI.out.2.1 HI.out.2.2.1 HI.out.2.2.2 rfl (by decide) _ pre.length _ rfl HO.out.1 ⟨wq.heap.size, 0, none⟩ 1 1 [.int .i64 (i : Int), .int .i64 (k : Int)] rfl rfl ?c1 ?c2 ?c3 ?c4 ?c5 ?_; rotate_right; intro v7 w7 hown7 hgrow _; have K7 := Lib.hid (And.intro hown7 (rb_grow HO.out.2.1 HO.out.2.2 HO.out.1 hgrow)); clear hown7 hgrow)
                  case c1 => exact cellsTwo rfl
                  case c2 => intro u hu; simp at hu; rcases hu with rfl | rfl <;> rfl
                  case c3 => exact Nat.le_trans (Nat.succ_le_succ R.out.len) (by unfold maxLen; omega)
                  case c4 =>
                    have hl := R.out.len
                    omega
                  case c5 => have := HO.out.2.2; simp; omega
                  clear hw3
                  go_wp2_with fail
                  go_roundw
                  case rel => exact ⟨i + 1, u + Q, pre ++ [(i, k)], by omega, congrArg (Value.int .i64) (by omega), by go_num, HR.out, by rw [toP_snoc, flat2_snoc, List.length_append]; exact K7.out.1, K7.out.2⟩
                  case measure => simp [intOf]; omega
                · have d2 : (1073741824 - X + Y == Z) = false := by rw [beq_eq_false_iff_ne]; exact hz
                  have HTk := Lib.hid (show takeB (AsgRows.ent L) n m (n - (i + 1)) (bitsT u) k = false by
                    cases hb : takeB (AsgRows.ent L) n m (n - (i + 1)) (bitsT u) k with
                    | false => rfl
                    | true =>
                      have h := HT.out.1 hb
                      rw [HBt.out.1, HQ.out, HY.out.1, HY.out.2] at h
                      exact absurd h hz)
                  clear htm hbit hY hZ hx hz
                  go_wp2_with fail
                  go_quiet (fail)
                  go_wp2_with fail
                  go_roundw
                  case rel => exact ⟨k + 1, by omega, rfl, by go_num, rfl, ⟨_, rfl⟩, HN.out.next HTk.out⟩
                  case measure => simp [intOf]; omega
              · have d1 : (((u : Int) / (2 : Int) ^ k).tmod 2 == 0) = false := by rw [htm, beq_eq_false_iff_ne]; omega
                have HTk := Lib.hid (take_no (L := L) (n := n) (m := m) (i := i) (u := u) (k := k) hin (fun q => by rw [HQ.out] at q; exact hbit q.2))
                clear htm hbit hx
                go_wp2_with fail
                go_quiet (fail)
                go_wp2_with fail
                go_roundw
                case rel => exact ⟨k + 1, by omega, rfl, by go_num, rfl, ⟨_, rfl⟩, HN.out.next HTk.out⟩
                case measure => simp [intOf]; omega
            · have d0 : decide (0 ≤ X) = false := decide_eq_false hx
              have HTk := Lib.hid (take_no (L := L) (n := n) (m := m) (i := i) (u := u) (k := k) hin (fun q => by rw [HX.out] at q; exact hx q.1))
              clear htm hx
              go_wp2_with fail
              go_quiet (fail)
              go_wp2_with fail
              go_roundw
              case rel => exact ⟨k + 1, by omega, rfl, by go_num, rfl, ⟨_, rfl⟩, HN.out.next HTk.out⟩
              case measure => simp [intOf]; omega
          · obtain rfl : m = k := by omega
            have HR := Lib.hid (R.out.skip hin HN.out)
            go_wp2_with fail
            go_roundw
            case rel => exact ⟨i + 1, u, pre, by omega, rfl, by go_num, HR.out, ownsRow_below K.out.1 (below_drewN (Below.refl _ _) d) (Nat.le_refl _), below_drewN K.out.2 d⟩
            case measure => simp [intOf]; omega
      · obtain rfl : n = i := by omega
        go_wp2_with fail
        go_ret2
        have hA := R.out.A
        rw [Nat.sub_self] at hA
        have hb : bsL L = toP pre := by
          unfold bsL bestM
          rw [if_pos HE.out, HLn.out, HW.out, hA]
          unfold bestL
          rw [List.append_nil]
        have hbw : w.heap.size ≤ base := by rw [← HBs.out]; exact B2.out.size
        exact bs_ok HE.out hb (ownsRow_base K.out.1 hbw) (B2.out.trans (K.out.2.mono hbw))
  · have HB := Lib.hid hE
    have hne : (chM L != 0) = true := by rw [bne_iff_ne]; exact hE
    clear hM hE h9
    go_enter Try.func13, Try.ntmps13
    go_wp2_with fail
    refine (rCheck_call a n cc L _ HM0.out).mono ?_; rintro e w1 ⟨rfl, hb⟩
    obtain ⟨E, hE⟩ : ∃ E, chM L = E := ⟨_, rfl⟩
    rw [hE] at hne
    have HE := Lib.hid hE
    rw [hE]
    clear hE
    go_wp2_with fail
    go_ret2
    rw [← HE.out]
    exact bs_bad HB.out hb
end Go.Proofs.Ytbehpkggmomgeaa
