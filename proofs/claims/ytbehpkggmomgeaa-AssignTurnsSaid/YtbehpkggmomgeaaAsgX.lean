/-
  Layer 19 (assign): the law Turns.
-/
import Derived.Test.YtbehpkggmomgeaaAsgW
import Derived.Test.YtbehpkggmomgeaaAsgS
import Derived.Test.YtbehpkggmomgeaaAsgDv
namespace Go.Proofs.Ytbehpkggmomgeaa
open Go.RowKit AsgRows AsgMath MyHeap MyOwn MyCopy

/-- The turned matrix. -/
def trn (L : List (List Int)) (n m : Nat) : List (List Int) := (List.range m).map fun k => (List.range n).map fun i => AsgRows.ent L i k
theorem trn_len {L : List (List Int)} {n m : Nat} : (trn L n m).length = m := by unfold trn; simp
theorem trn_row {L : List (List Int)} {n m k : Nat} (hk : k < m) : rowL (trn L n m) k = (List.range n).map fun i => AsgRows.ent L i k := by unfold trn rowL; simp [hk]
theorem trn_rlen {L : List (List Int)} {n m k : Nat} (hk : k < m) : (rowL (trn L n m) k).length = n := by rw [trn_row hk]; simp
theorem trn_gi {L : List (List Int)} {n m k i : Nat} (hk : k < m) (hi : i < n) : gi (rowL (trn L n m) k) i = AsgRows.ent L i k := by rw [trn_row hk]; unfold gi; simp [hi]
theorem trn_ent {L : List (List Int)} {n m k i : Nat} (hk : k < m) (hi : i < n) : AsgRows.ent (trn L n m) k i = AsgRows.ent L i k := trn_gi hk hi
theorem trn_ok {L : List (List Int)} {n m : Nat} (ok : OkM L) (hn : L.length = n) (hm : wid L = m) (m16 : m ≤ 16) : chM (trn L n m) = 0 := by
  have n16 := ok.n16
  have hw : 0 < m → wid (trn L n m) = n := fun h => trn_rlen h
  refine chM_zero ?_ (fun i hi => ?_) (fun k hk i hi => ?_)
  · unfold longM
    rw [trn_len]
    rintro (q | ⟨q1, q2⟩)
    · omega
    · rw [hw q1] at q2; omega
  · rw [trn_len] at hi
    rw [trn_rlen hi, hw (by omega)]
  · rw [trn_len] at hk
    rw [trn_rlen hk] at hi
    rw [trn_ent hk hi]
    exact ⟨ok.lo i k (by omega) (by omega), ok.hi i k (by omega) (by omega)⟩
/-- What the two best assignments share. -/
theorem trn_best {L : List (List Int)} {n m : Nat} (h0 : chM L = 0) (hn : L.length = n) (hm : wid L = m) (m16 : m ≤ 16) :
    chM (trn L n m) = 0 ∧ (bsL (trn L n m)).length = (bsL L).length ∧ AsgRows.coE (trn L n m) (bsL (trn L n m)) = 0 ∧ AsgRows.coS (trn L n m) (bsL (trn L n m)) = AsgRows.coS L (bsL L) := by
  have ok := chM_ok h0
  have h1 := trn_ok ok hn hm m16
  have n16 := ok.n16
  obtain ⟨e1, e2⟩ := turn_best (L := L) (L' := trn L n m) (n := n) (m := m) (by omega) m16 (fun i k hi hk => ok.hi i k (by omega) (by omega)) (fun k i hk hi => trn_ent hk hi)
  have b1 : bestM L = bestL (AsgRows.ent L) n m n (fun _ => false) := by unfold bestM; rw [hn, hm]
  have b2 : bestM (trn L n m) = bestL (AsgRows.ent (trn L n m)) m n m (fun _ => false) := by
    unfold bestM
    rw [trn_len]
    by_cases h : 0 < m
    · rw [show wid (trn L n m) = n from trn_rlen h]
    · have : m = 0 := by omega
      subst this
      rfl
  rw [← b1, ← b2] at e1 e2
  obtain ⟨g1, g2⟩ := best_ok h0
  obtain ⟨f1, f2⟩ := best_ok h1
  obtain ⟨T1, p1⟩ := Pv.best (L := L) rfl rfl L.length [] (fun _ => false) (Nat.le_refl _) (by rw [Nat.sub_self]; exact Pv.nil)
  obtain ⟨T2, p2⟩ := Pv.best (L := trn L n m) rfl rfl (trn L n m).length [] (fun _ => false) (Nat.le_refl _) (by rw [Nat.sub_self]; exact Pv.nil)
  rw [List.nil_append] at p1 p2
  refine ⟨h1, by rw [f2, g2, toPm_len, toPm_len, e1], f1, ?_⟩
  rw [f2, g2]
  have s1 := p1.coS h0
  have s2 := p2.coS h1
  exact s2.trans (e2.trans s1.symm)
theorem best_empty {L : List (List Int)} (h0 : chM L = 0) (h : L.length = 0 ∨ wid L = 0) : bsL L = [] := by
  unfold bsL
  rw [if_pos h0]
  have : bestM L = [] := by
    unfold bestM
    rcases h with q | q
    · rw [q]; rfl
    · rw [q]
      generalize L.length = n
      have : ∀ r T, bestL (AsgRows.ent L) n 0 r T = [] := by
        intro r
        induction r with
        | zero => intro T; rfl
        | succ r ih => intro T; rw [(bestL_skip (m := 0) rfl).1]; exact ih T
      exact this n _
  rw [this]
  rfl

/-- A pair that is not used, forbidden. -/
theorem less_best {L : List (List Int)} {n m A B : Nat} (h0 : chM L = 0) (hn : L.length = n) (hm : wid L = m) (hA : A < n) (hB : B < m) (hno : (A, B) ∉ bestM L) : chM (setR L A B (-1)) = 0 ∧ bsL (setR L A B (-1)) = bsL L := by
  have ok := chM_ok h0
  have n16 := ok.n16
  have hA' : A < L.length := by omega
  have hB' : B < (rowL L A).length := by rw [ok.form A hA']; omega
  have hw : wid (setR L A B (-1)) = m := by show (rowL (setR L A B (-1)) 0).length = m; rw [setR_rlen hA']; exact hm
  have h1 : chM (setR L A B (-1)) = 0 := by
    refine chM_zero ?_ (fun i hi => ?_) (fun i hi k hk => ?_)
    · unfold longM
      rw [setR_len, hw]
      have := ok.m16 (by omega)
      omega
    · rw [setR_len] at hi
      rw [setR_rlen hA', hw, ok.form i hi, hm]
    · rw [setR_len] at hi
      rw [setR_rlen hA', ok.form i hi] at hk
      rw [setR_ent hA' hB']
      split
      · omega
      · exact ⟨ok.lo i k hi hk, ok.hi i k hi hk⟩
  refine ⟨h1, ?_⟩
  unfold bsL
  rw [if_pos h0, if_pos h1]
  congr 1
  unfold bestM at hno ⊢
  rw [hn, hm] at hno
  rw [setR_len, hw, hn, hm]
  exact (forb_best (A := A) (B := B) (fun i k hi hk => by
    have e := setR_ent (r := i) (j := k) (x := -1) hA' hB'
    by_cases q : i = A ∧ k = B
    · rw [if_pos q, e, if_pos ⟨q.1.symm, q.2.symm⟩]
    · rw [if_neg q, e, if_neg (fun z => q ⟨z.1.symm, z.2.symm⟩)]) n _ (Nat.le_refl _) hno).2
theorem mem_at {l : List (Nat × Nat)} {A B : Nat} (h : (A, B) ∈ l) : ∃ j, j < l.length ∧ (toPm l)[j]?.getD (0, 0) = ((A : Int), (B : Int)) := by
  obtain ⟨j, hj, e⟩ := List.getElem_of_mem h
  refine ⟨j, hj, ?_⟩
  unfold toPm
  rw [List.getElem?_map, List.getElem?_eq_getElem hj, e]
  rfl
set_option maxRecDepth 100000 in
set_option maxHeartbeats 16000000 in
theorem turns_call (a : Option Addr) (n c : Nat) (L : List (List Int)) (x y : Int) (w : World) (hM : Mtx w a n L) (x0 : 0 ≤ x) (x1 : x ≤ 255) (y0' : 0 ≤ y) (y1 : y ≤ 255) :
    Calls Try.prog 5 #[.slice a n c, .agg #[.int .u8 x, .int .u8 y]] w (BPost true w) := by
  have HM0 := Lib.hid hM
  have B0 := Lib.hid (And.intro (below_alloc w (.cells #[.int .u8 x, .int .u8 y] 38 (0, 0))) (block_new w (.cells #[.int .u8 x, .int .u8 y] 38 (0, 0)) rfl))
  clear hM
  go_enter Try.func5, Try.ntmps5
  go_wp2_with fail
  refine (long_call a _ n c 0 0 L (fun _ => 0) _ (HM0.out.below B0.out.1) lens_none).mono ?_
  rintro e w1 ⟨r, rfl, rfl, -⟩
  generalize w.alloc (.cells #[.int .u8 x, .int .u8 y] 38) = wp at *
  generalize hpb : w.heap.size = pb at *
  have HPB := Lib.hid hpb
  rw [← hpb] at B0
  have B0 := Lib.hid (And.intro B0.out.1 (by rw [← hpb]; exact B0.out.2 : wp.heap[pb]? = some (.cells #[.int .u8 x, .int .u8 y] 38 (0, 0))))
  clear hpb
  cases r with
  | true =>
    go_wp2_with fail
    refine (awake_call _).mono ?_; rintro e w9 ⟨rfl, hb⟩
    go_wp2_with fail
    go_ret
    exact bPost_of rfl (B0.out.1.trans (hb.mono B0.out.1.size))
  | false =>
    go_wp2_with fail
    refine (pCheck_call a n c L _ (HM0.out.below B0.out.1)).mono ?_
    rintro e w1 ⟨rfl, hb⟩
    have K := Lib.hid (And.intro (B0.out.1.trans (hb.mono B0.out.1.size)) (keepO hb B0.out.2))
    clear hb
    by_cases hE : chM L = 0
    · have HE := Lib.hid hE
      have HMa := Ma.of HM0.out hE
      obtain ⟨m, hm⟩ : ∃ m, wid L = m := ⟨_, rfl⟩
      rw [hm] at HMa
      have HM := Lib.hid HMa
      have HW := Lib.hid hm
      have m16 := HMa.m16
      have n16 : n ≤ 16 := by have := HMa.ok.n16; rw [HMa.M.len] at this; exact this
      have HB := Lib.hid (best_ok hE)
      have HT := Lib.hid (trn_best hE HM0.out.len hm HMa.m16)
      rw [hE]
      clear hE HMa hm
      go_wp2_with fail
      refine (awake_call _).mono ?_; rintro e w2 ⟨rfl, hb⟩
      replace K := Lib.hid (And.intro (K.out.1.trans (hb.mono K.out.1.size)) (keepO hb K.out.2))
      clear hb
      go_wp2_with fail
      refine (best_call a n c L _ (HM0.out.below K.out.1)).mono ?_
      rintro e w3 ⟨v, rfl, hO, hb⟩
      rw [HE.out]
      obtain ⟨al, cl, rfl, hP⟩ := prsOwn hO (by have := bsL_len (L := L); omega)
      obtain ⟨nl, hnl⟩ : ∃ x, (bsL L).length = x := ⟨_, rfl⟩
      have HNL := Lib.hid (And.intro hnl (by rw [← hnl]; exact bsL_len : nl ≤ 16))
      have hnl16 : nl ≤ 16 := HNL.out.2
      rw [hnl] at hP ⊢
      replace K := Lib.hid (And.intro (K.out.1.trans (hb.mono K.out.1.size)) (And.intro (keepO hb K.out.2) hP))
      clear hO hb hP hnl
      go_wp2_with fail
      refine (pCost_call a al n c nl cl L (bsL L) _ (HM0.out.below K.out.1) K.out.2.2).mono ?_
      rintro e w4 ⟨rfl, hb⟩
      rw [HB.out.1]
      replace K := Lib.hid (And.intro (K.out.1.trans (hb.mono K.out.1.size)) (And.intro (keepO hb K.out.2.1) (K.out.2.2.below hb)))
      obtain ⟨S, hS⟩ : ∃ S, AsgRows.coS L (bsL L) = S := ⟨_, rfl⟩
      have HS := Lib.hid hS
      rw [hS]
      clear hb hS
      by_cases hn0 : n = 0
      · have hz : nl = 0 := by rw [← HNL.out.1, best_empty HE.out (Or.inl (by rw [HM0.out.len]; exact hn0))]; rfl
        subst hn0
        subst hz
        go_wp2_with fail
        go_ret
        exact bPost_of rfl K.out.1
      · have hn1 : (0 : Int) < (n : Int) := by omega
        have hne : ((n : Int) == 0) = false := by rw [beq_eq_false_iff_ne]; omega
        obtain ⟨b, off, r0, c0, -, -, rfl, xw, -⟩ := mtx_two HM0.out (i := 0) (by omega)
        rw [HW.out] at xw
        have HX := Lib.hid xw
        have n4 : n ≠ 0 := hn0
        clear xw hn0
        go_wp2_with fail
        generalize w4 = wb at *
        have KB := K
        have hwb : w.heap.size ≤ wb.heap.size := KB.out.1.size
        go_loopw [9, 10] (fun tv kv wr => ∃ (k : Nat) (vs : List Value), k ≤ m ∧ kv = .int .i64 k ∧ OwnM wr wb.heap.size tv vs ((trn L n m).take k) ∧ Below wb.heap.size wb wr) (fun _ kv _ => m - (intOf kv).toNat)
        case atStart => exact ⟨0, [], Nat.zero_le _, rfl, OwnM.nil, Below.refl _ _⟩
        case round =>
          clear K
          obtain ⟨k, vs, hk, rfl, hO, hB⟩ := hrel
          have K := Lib.hid (And.intro hO (And.intro (KB.out.1.trans (hB.mono hwb)) hB))
          clear hO hB
          have y0 := keep1 K.out.2.1 HX.out
          have q0 := World.block_lt_of_cell? wr _ y0
          by_cases hkm : k < m
          · have hk0 : (0 : Int) ≤ (k : Int) := by omega
            have hk1 : (k : Int) < (m : Int) := by omega
            go_wp2_with fail
            generalize wr = wo at *
            go_loopw [11, 12] (fun rv iv wr' => ∃ (i : Nat), i ≤ n ∧ iv = .int .i64 i ∧ wr'.ownsRow wo.heap.size 3 1 rv i (flatI ((rowL (trn L n m) k).take i)) ∧ Below wo.heap.size wo wr') (fun _ iv _ => n - (intOf iv).toNat)
            case atStart => exact ⟨0, Nat.zero_le _, rfl, ⟨rfl, Or.inl ⟨rfl, rfl⟩⟩, Below.refl _ _⟩
            case round =>
              obtain ⟨i, hi, rfl, hO, hB⟩ := hrel
              have R := Lib.hid (And.intro hO (And.intro hB (K.out.2.1.trans (hB.mono K.out.2.1.size))))
              clear hO hB
              by_cases hin : i < n
              · obtain ⟨b', off', e', ra, rc, xw, xi⟩ := mtx_at HM0.out hin
                cases e'
                have hrl : (rowL L i).length = m := by rw [HM.out.ok.form i (by rw [HM.out.M.len]; exact hin), HM.out.wd]
                rw [hrl] at xw xi
                obtain ⟨b2, o2, rfl, xe⟩ := ints_at xi hkm
                have z0 := keep1 R.out.2.2 xw
                have z1 : wr.cell? ⟨b2, o2 + k, none⟩ = some (.int .i64 (AsgRows.ent L i k)) := keep1 R.out.2.2 xe
                have q1 := World.block_lt_of_cell? wr _ z0
                have q2 := World.block_lt_of_cell? wr _ z1
                have hi0 : (0 : Int) ≤ (i : Int) := by omega
                have hi1 : (i : Int) < (n : Int) := by omega
                obtain ⟨X, hX⟩ : ∃ X, AsgRows.ent L i k = X := ⟨_, rfl⟩
                rw [hX] at z1
                have HXg := Lib.hid (show gi (rowL (trn L n m) k) i = X by rw [trn_gi hkm hin, hX])
                have HRo := Lib.hid (R.out.1.alloc (.cells #[.int .i64 X] 3))
                have hzz : wo.heap.size ≤ wr.heap.size := R.out.2.1.size
                obtain ⟨ii, ji, jz, js, jb⟩ := info_parts' infoI
                have HI := Lib.hid (And.intro ji (And.intro jz (And.intro js jb)))
                clear xw xi xe hrl hX ji jz js jb
                go_wp2_with (refine wpList_append_src rfl _ _ 24 rfl wo.heap.size 3 ii _ 1 8 Try.underlying24 HI.out.1 HI.out.2.1 HI.out.2.2.1 HI.out.2.2.2 rfl (by decide) _ i _ rfl HRo.out (some ⟨wr.heap.size, 0, none⟩) 1 1 [.int .i64 X] rfl (fun e => by cases e) rfl (fun ad had => by cases had; exact cells_one rfl) (by intro u hu; simp at hu; subst hu; rfl) (by unfold maxLen; omega) (by omega) (by simp; omega) ?_; intro v7 w7 hown7 hgrow)
                go_roundw
                case rel => exact ⟨i + 1, by omega, by go_num, by rw [flatI_take (by rw [trn_rlen hkm]; exact hin), HXg.out]; exact hown7, (R.out.2.1.alloc hzz _).trans (grownI HRo.out hgrow (Nat.le_refl _) (by simp; omega))⟩
                case measure => simp [intOf]; omega
              · obtain rfl : n = i := by omega
                have hfull := R.out.1
                rw [List.take_of_length_le (by rw [trn_rlen hkm]; exact Nat.le_refl _)] at hfull
                obtain ⟨a2, c2, hu2, -⟩ := ints_own (trn_rlen hkm) hfull (by omega)
                subst hu2
                have HF := Lib.hid (by rw [trn_rlen hkm]; exact hfull : wr.ownsRow wo.heap.size 3 1 (.slice a2 n c2) (rowL (trn L n m) k).length (flatI (rowL (trn L n m) k)))
                have hlk : ((trn L n m).take k).length = k := by rw [List.length_take, trn_len]; omega
                have HO2 := Lib.hid (by have h := (ownsRow_below K.out.1.top R.out.2.1 (Nat.le_refl _)).alloc (.cells #[.slice a2 n c2] 24); rw [hlk] at h; exact h : (wr.alloc (.cells #[.slice a2 n c2] 24)).ownsRow wb.heap.size 24 1 u9 k vs)
                have hz1 : wb.heap.size ≤ wr.heap.size := Nat.le_trans K.out.2.2.size R.out.2.1.size
                have hwo : wb.heap.size ≤ wo.heap.size := K.out.2.2.size
                obtain ⟨ii, ji, jz, js, jb⟩ := info_parts' infoS
                have HI := Lib.hid (And.intro ji (And.intro jz (And.intro js jb)))
                clear hi hin hfull hlk ji jz js jb
                go_wp2_with (refine wpList_append_src rfl _ _ 22 rfl wb.heap.size 24 ii _ 1 24 Try.underlying22 HI.out.1 HI.out.2.1 HI.out.2.2.1 HI.out.2.2.2 rfl (by decide) _ k _ rfl HO2.out (some ⟨wr.heap.size, 0, none⟩) 1 1 [.slice a2 n c2] rfl (fun e => by cases e) rfl (fun ad had => by cases had; exact cells_one rfl) (by intro u hu; simp at hu; subst hu; rfl) (by unfold maxLen; omega) (by omega) (by simp; omega) ?_; intro v7 w7 hown7 hgrow)
                have hg2 : (wr.alloc (.cells #[.slice a2 n c2] 24)).grownBy w7 u9.ownBlock := hgrow
                have hBn : Below wb.heap.size wb w7 := ((K.out.2.2.trans (R.out.2.1.mono hwo)).alloc hz1 _).trans (grownI HO2.out hg2 (Nat.le_refl _) (by simp; omega))
                go_roundw
                case rel => exact ⟨k + 1, vs ++ [.slice a2 n c2], by omega, by go_num, K.out.1.snoc (by rw [trn_len]; exact hkm) R.out.2.1 HF.out hwo hg2 hown7, hBn⟩
                case measure => simp [intOf]; omega
          · obtain rfl : m = k := by omega
            clear hk hkm
            have hOm := K.out.1
            rw [List.take_of_length_le (by rw [trn_len]; exact Nat.le_refl _)] at hOm
            obtain ⟨at1, ct, rfl, hMt⟩ := hOm.mtx (by rw [trn_len]; omega) (fun i hi => by rw [trn_len] at hi; rw [trn_rlen hi]; omega)
            rw [trn_len] at hMt ⊢
            have KW := Lib.hid (And.intro K.out.2.1 (And.intro (KB.out.2.2.below K.out.2.2) (And.intro hMt (keepO K.out.2.2 KB.out.2.1))))
            clear hOm hMt K
            have y9 := keep1 KW.out.1 HX.out
            have q9 := World.block_lt_of_cell? wr _ y9
            go_wp2_with fail
            refine (best_call at1 m ct (trn L n m) _ KW.out.2.2.1).mono ?_
            rintro e w5 ⟨v, rfl, hO, hb⟩
            rw [HT.out.1]
            obtain ⟨am, cm, rfl, hP⟩ := prsOwn hO (by have := bsL_len (L := trn L n m); omega)
            rw [HT.out.2.1, HNL.out.1] at hP ⊢
            have KX := Lib.hid (And.intro (KW.out.1.trans (hb.mono KW.out.1.size)) (And.intro (KW.out.2.1.below hb) (And.intro (KW.out.2.2.1.below hb) (And.intro (keepO hb KW.out.2.2.2) hP))))
            clear hO hb hP KW y9 q9
            go_wp2_with fail
            refine (pCost_call at1 am m ct nl cm (trn L n m) (bsL (trn L n m)) _ KX.out.2.2.1 KX.out.2.2.2.2).mono ?_
            rintro e w6 ⟨rfl, hb⟩
            rw [HT.out.2.2.1, HT.out.2.2.2, HS.out]
            have KY := Lib.hid (And.intro (KX.out.1.trans (hb.mono KX.out.1.size)) (And.intro (KX.out.2.1.below hb) (keepO hb KX.out.2.2.2.1)))
            clear hb KX
            have hss : (S != S) = false := by simp
            have hll : ((nl : Int) != (nl : Int)) = false := by simp
            have y9 := keep1 KY.out.1 HX.out
            have q9 := World.block_lt_of_cell? w6 _ y9
            by_cases hm0 : m = 0
            · have hz : nl = 0 := by rw [← HNL.out.1, best_empty HE.out (Or.inr (by rw [HW.out]; exact hm0))]; rfl
              subst hm0
              subst hz
              go_wp2_with fail
              go_ret
              exact bPost_of rfl KY.out.1
            · have hm1 : (0 : Int) < (m : Int) := by omega
              have hme : ((m : Int) == 0) = false := by rw [beq_eq_false_iff_ne]; omega
              obtain ⟨A, hA⟩ : ∃ A : Nat, x.tmod (n : Int) = (A : Int) := ⟨(x % n).toNat, by rw [Int.tmod_eq_emod_of_nonneg x0]; have := Int.emod_nonneg x (show (n : Int) ≠ 0 by omega); omega⟩
              obtain ⟨B, hB⟩ : ∃ B : Nat, y.tmod (m : Int) = (B : Int) := ⟨(y % m).toNat, by rw [Int.tmod_eq_emod_of_nonneg y0']; have := Int.emod_nonneg y (show (m : Int) ≠ 0 by omega); omega⟩
              have hAn : A < n := by have h := Int.tmod_lt_of_pos x hn1; omega
              have hBm : B < m := by have h := Int.tmod_lt_of_pos y hm1; omega
              have hwx : IntKind.i64.wrap x = x := IntWalk.i64_in _ (by omega)
              have hwy : IntKind.i64.wrap y = y := IntWalk.i64_in _ (by omega)
              have hwA : IntKind.i64.wrap (A : Int) = (A : Int) := IntWalk.i64_in _ (by omega)
              have hwB : IntKind.i64.wrap (B : Int) = (B : Int) := IntWalk.i64_in _ (by omega)
              obtain ⟨p0, p1, -, -⟩ := two_old KY.out.2.2
              have qp := lt_of_block KY.out.2.2
              go_wp2_with fail
              go_region
              all_goals
                go_wp2_with fail
                have K9 := Lib.hid (show Below w.heap.size w (w6.alloc (.cells #[.int .i64 (A : Int), .int .i64 (B : Int)] 42)).drew ∧ Prs (w6.alloc (.cells #[.int .i64 (A : Int), .int .i64 (B : Int)] 42)).drew al nl (bsL L) ∧ (w6.alloc (.cells #[.int .i64 (A : Int), .int .i64 (B : Int)] 42)).drew.heap[w6.heap.size]? = some (.cells #[.int .i64 (A : Int), .int .i64 (B : Int)] 42 (0, 0)) from ⟨below_drewN (KY.out.1.alloc KY.out.1.size _) 1, (KY.out.2.1.below (below_alloc w6 _)).below (below_drew _), block_new w6 _ rfl⟩)
                clear KY y9 q9 p0 p1 qp
                generalize (w6.alloc (.cells #[.int .i64 (A : Int), .int .i64 (B : Int)] 42)).drew = w7 at *
                generalize w6.heap.size = xb at *
                have gd := pln_guard
                have eq9 := pln_eql
                go_loopw [18] (fun iv wr => ∃ (i : Nat), i ≤ nl ∧ iv = .int .i64 i ∧ (∀ j, j < i → (bsL L)[j]?.getD (0, 0) ≠ ((A : Int), (B : Int))) ∧ ∃ d, wr = w7.drewN d) (fun iv _ => nl - (intOf iv).toNat)
                case atStart => exact ⟨0, Nat.zero_le _, rfl, fun j hj => by omega, 0, rfl⟩
                case round =>
                  obtain ⟨i, hi, rfl, hN, d, rfl⟩ := hrel
                  have HN := Lib.hid hN
                  clear hN
                  obtain ⟨z0, z1, -, -⟩ := two_old K9.out.2.2
                  have qx := lt_of_block K9.out.2.2
                  by_cases hin : i < nl
                  · obtain ⟨bl, ol, rfl, e0, e1⟩ := prs_at K9.out.2.1 hin
                    have ql := World.block_lt_of_cell? w7 _ e0
                    have hi0 : (0 : Int) ≤ (i : Int) := by omega
                    have hi1 : (i : Int) < (nl : Int) := by omega
                    by_cases hs : (bsL L)[i]?.getD (0, 0) = ((A : Int), (B : Int))
                    · have ht : prB (((bsL L)[i]?.getD (0, 0)).1, ((bsL L)[i]?.getD (0, 0)).2) ((A : Int), (B : Int)) = true := prB_true.2 hs
                      clear hs
                      go_wp2_with fail
                      go_quiet (fail)
                      go_wp2_with fail
                      go_ret
                      exact bPost_of rfl (below_drewN (below_drewN K9.out.1 _) _)
                    · have ht : prB (((bsL L)[i]?.getD (0, 0)).1, ((bsL L)[i]?.getD (0, 0)).2) ((A : Int), (B : Int)) = false := prB_false hs
                      have HS2 := Lib.hid hs
                      clear hs
                      go_wp2_with fail
                      go_quiet (fail)
                      go_wp2_with fail
                      go_roundw
                      case rel => exact ⟨i + 1, by omega, by go_num, fun j hj => by
                        by_cases q : j = i
                        · subst q; exact HS2.out
                        · exact HN.out j (by omega), _, rfl⟩
                      case measure => simp [intOf]; omega
                  · obtain rfl : nl = i := by omega
                    have hno : (A, B) ∉ bestM L := fun q => by
                      obtain ⟨j, hj, ej⟩ := mem_at q
                      rw [← HB.out.2] at ej
                      exact HN.out j (by rw [← HNL.out.1, HB.out.2, toPm_len]; exact hj) ej
                    have HLs := Lib.hid (less_best HE.out HM0.out.len HW.out hAn hBm hno)
                    clear hi hin hno
                    go_wp2_with fail
                    refine (copyRows_call _ n c L _ (HM0.out.below (below_drewN K9.out.1 d)) (by omega) (fun i hi => by rw [HM.out.ok.form i (by rw [HM.out.M.len]; exact hi), HM.out.wd]; omega)).mono ?_
                    rintro e w8 ⟨v, vs, rfl, hO, hb⟩
                    obtain ⟨g, cg, g', c', rfl, h1, h2, h3, h4, h5, h6, h7⟩ := hO.at' (i := A) (k := B) (by rw [HM0.out.len]; exact hAn) (by rw [HM.out.ok.form A (by rw [HM.out.M.len]; exact hAn), HM.out.wd]; exact hBm)
                    rw [show (rowL L A).length = m by rw [HM.out.ok.form A (by rw [HM.out.M.len]; exact hAn), HM.out.wd]] at h1
                    rw [HM0.out.len]
                    have K10 := Lib.hid (And.intro ((below_drewN K9.out.1 d).trans (hb.mono (below_drewN K9.out.1 d).size)) (And.intro ((K9.out.2.1.below (below_drewN (Below.refl _ _) d)).below hb) (And.intro (keepO hb K9.out.2.2) h7)))
                    have H6 := Lib.hid h6
                    have HSZ := Lib.hid hb.size
                    have HB8 := Lib.hid (show Below (w7.drewN d).heap.size w7 w8 from (below_drewN (Below.refl _ _) d).trans hb)
                    obtain ⟨z0, z1, -, -⟩ := two_old K10.out.2.2.1
                    have qx := lt_of_block K10.out.2.2.1
                    have hA0 : (0 : Int) ≤ (A : Int) := by omega
                    have hB0 : (0 : Int) ≤ (B : Int) := by omega
                    have hA1 : (A : Int) < (n : Int) := by omega
                    have hB1 : (B : Int) < (m : Int) := by omega
                    generalize AsgRows.ent L A B = XX at h2
                    clear hO hb h7 h6
                    go_wp2_with fail
                    go_region
                    all_goals
                      go_wp2_with fail
                      have hOn : Only g' w8 (w8.setCell ⟨g', B, none⟩ (.int .i64 (-1))) := (Only.refl _ _).setCell _ _
                      have hM2 := (K10.out.2.2.2 (-1)).keep (below_drew _)
                      obtain ⟨a3, c3, hv3, hMt3⟩ := hM2.mtx (by rw [setR_len, HM0.out.len]; omega) (fun i hi => by rw [setR_len] at hi; rw [setR_rlen (by rw [HM0.out.len]; exact hAn), HM.out.ok.form i hi, HM.out.wd]; omega)
                      rw [setR_len, HM0.out.len] at hv3 hMt3
                      cases hv3
                      have h78 : (w7.drewN d).heap.size ≤ w8.heap.size := HSZ.out
                      have hB78 : Below (w7.drewN d).heap.size w7 ((w8.setCell ⟨g', B, none⟩ (.int .i64 (-1))).drew) := below_drewN ((HB8.out).trans (hOn.below H6.out h78)) 1
                      have K11 := Lib.hid (And.intro (K9.out.1.trans (hB78.mono K9.out.1.size)) (And.intro (K9.out.2.1.below hB78) hMt3))
                      clear hOn hM2 hMt3 h78 hB78
                      refine (best_call _ n _ (setR L A B (-1)) _ K11.out.2.2).mono ?_
                      rintro e w9 ⟨v, rfl, hO, hb⟩
                      obtain ⟨a4, c4, rfl, hP4⟩ := prsOwn hO (by have := bsL_len (L := setR L A B (-1)); omega)
                      rw [HLs.out.1]
                      rw [HLs.out.2, HNL.out.1] at hP4 ⊢
                      have K12 := Lib.hid (And.intro (K11.out.1.trans (hb.mono K11.out.1.size)) (And.intro (K11.out.2.1.below hb) hP4))
                      clear hO hb hP4
                      go_wp2_with fail
                      refine (equalPairs_call a4 al nl nl c4 cl (bsL L) (bsL L) _ K12.out.2.2 K12.out.2.1).mono ?_
                      rintro e w10 ⟨rfl, hb⟩
                      rw [decide_eq_true (rfl : bsL L = bsL L)]
                      go_wp2_with fail
                      go_ret
                      exact bPost_of rfl (K12.out.1.trans (hb.mono K12.out.1.size))
    · have hne : (chM L != 0) = true := by rw [bne_iff_ne]; exact hE
      obtain ⟨E, hE2⟩ : ∃ E, chM L = E := ⟨_, rfl⟩
      rw [hE2] at hne ⊢
      clear hE hE2
      go_wp2_with fail
      refine (awake_call _).mono ?_; rintro e w9 ⟨rfl, hb⟩
      go_wp2_with fail
      go_ret
      exact bPost_of rfl (K.out.1.trans (hb.mono K.out.1.size))
end Go.Proofs.Ytbehpkggmomgeaa
