/-
  Layer 2 (parity): the law Examples, the walk. Printed by genParS.py.
-/
import Derived.Test.YtpfohhmhadjdpaaParQ
namespace Go.Proofs.Ytpfohhmhadjdpaa
open Go.RowKit BitsMath ParityMath MyHeap MyCopy MyOwn

theorem u8s_made {w : World} {n : Nat} (hn : n ≤ 1000) : U8s (w.alloc (.cells (madeCells #[.int .u8 0] n) 5)) (some ⟨w.heap.size, 0, none⟩) n (List.replicate n 0) := by
  have h := u8s_block (xs := List.replicate n 0) (block_new w (.cells (madeCells #[.int .u8 0] n) 5) rfl) (madeU n) (by rw [List.length_replicate]; omega)
  rwa [List.length_replicate] at h
theorem u8s_none (w : World) : U8s w none 0 [] := ⟨rfl, by decide, Or.inl rfl⟩
theorem own_made {w : World} {n : Nat} (hn : n ≤ 1000) : (w.alloc (.cells (madeCells #[.int .u8 0] n) 5)).ownsRow w.heap.size 5 1 (.slice (some ⟨w.heap.size, 0, none⟩) n n) n (flatU (List.replicate n 0)) :=
  own_lit (block_new _ _ rfl) (Nat.le_refl _) (madeU n) List.length_replicate hn
theorem u8s_some {w : World} {a : Option Addr} {n : Nat} {xs : List Nat} (h : U8s w a n xs) (h0 : 0 < n) : ∃ b off, a = some ⟨b, off, none⟩ ∧ ∀ i, i < n → w.cell? ⟨b, off + i, none⟩ = some (.int .u8 ((xs[i]?.getD 0 : Nat) : Int)) := by
  rcases h.cells with h1 | ⟨b, off, e, hc⟩
  · omega
  · exact ⟨b, off, e, hc⟩
theorem exFacts : (seaL (List.replicate 104 0) 16777215).length = 128 ∧
    ((seaL (List.replicate 104 0) 16777215)[103]?.getD 0) = 0 ∧
    ((seaL (List.replicate 104 0) 16777215)[104]?.getD 0) = 1 ∧
    (corL (List.replicate 24 0) 4).length = 24 ∧
    ((corL (List.replicate 24 0) 4)[21]?.getD 0) = 1 ∧
    remE (List.replicate 200 0 ++ [2]) = 4 ∧
    remE (List.replicate 105 0) = 4 ∧
    seaE (List.replicate 105 0) (-1) = 4 ∧
    seaE [] (-1) = 1 ∧
    seaE [] 16777216 = 1 ∧
    seaE (List.replicate 104 0) 16777215 = 0 ∧
    adrE (List.replicate 23 0) = 3 ∧
    adrE (List.replicate 24 0) = 0 ∧
    adrR (List.replicate 24 0) = 0 ∧
    synE 23 99 = 1 ∧
    synE 129 (-1) = 1 ∧
    synE 24 24 = 8 ∧
    synE 24 (-1) = 8 ∧
    corE (List.replicate 23 0) (-1) = 3 ∧
    corA (List.replicate 23 0) (-1) = 0 ∧
    corE (List.replicate 24 0) (-1) = 1 ∧
    corA (List.replicate 24 0) (-1) = 0 ∧
    corE (List.replicate 24 0) 4 = 0 ∧
    corA (List.replicate 24 0) 4 = 21 ∧
    corE (List.replicate 24 0) 3 = 13 ∧
    corA (List.replicate 24 0) 3 = 0 := by
  refine ⟨?_, ?_, ?_, ?_, ?_, ?_, ?_, ?_, ?_, ?_, ?_, ?_, ?_, ?_, ?_, ?_, ?_, ?_, ?_, ?_, ?_, ?_, ?_, ?_, ?_, ?_⟩ <;> kernel_rfl

set_option maxRecDepth 100000 in
set_option maxHeartbeats 16000000 in
theorem examples_call (w : World) : Calls Try.prog 7 #[] w (BPost true w) := by
  have F := Lib.hid exFacts
  have mk200 : ∀ W : World, (Instr.makeSlice 28 (.int .i64 200) (.int .i64 200)).run Try.prog W = .ok (.slice (some ⟨W.heap.size, 0, none⟩) 200 200) (W.alloc (.cells (madeCells #[.int .u8 0] 200) 5)) := hmkU 200 (by decide)
  have mk105 : ∀ W : World, (Instr.makeSlice 28 (.int .i64 105) (.int .i64 105)).run Try.prog W = .ok (.slice (some ⟨W.heap.size, 0, none⟩) 105 105) (W.alloc (.cells (madeCells #[.int .u8 0] 105) 5)) := hmkU 105 (by decide)
  have mk104 : ∀ W : World, (Instr.makeSlice 28 (.int .i64 104) (.int .i64 104)).run Try.prog W = .ok (.slice (some ⟨W.heap.size, 0, none⟩) 104 104) (W.alloc (.cells (madeCells #[.int .u8 0] 104) 5)) := hmkU 104 (by decide)
  have mk23 : ∀ W : World, (Instr.makeSlice 28 (.int .i64 23) (.int .i64 23)).run Try.prog W = .ok (.slice (some ⟨W.heap.size, 0, none⟩) 23 23) (W.alloc (.cells (madeCells #[.int .u8 0] 23) 5)) := hmkU 23 (by decide)
  have mk24 : ∀ W : World, (Instr.makeSlice 28 (.int .i64 24) (.int .i64 24)).run Try.prog W = .ok (.slice (some ⟨W.heap.size, 0, none⟩) 24 24) (W.alloc (.cells (madeCells #[.int .u8 0] 24) 5)) := hmkU 24 (by decide)
  obtain ⟨i0, hi, hiz, his, hib⟩ := info_parts' infoU8
  have HI := Lib.hid (And.intro hi (And.intro hiz (And.intro his hib)))
  clear hi hiz his hib
  go_enter Try.func7, Try.ntmps7
  go_wp2_with fail
  refine (awake_call _).mono ?_; rintro e w0 ⟨rfl, hb⟩
  have K0 := Lib.hid hb
  clear hb
  go_upto_region 3 with fail
  have HO := Lib.hid (ownsRow_below (own_made (w := w0) (n := 200) (by decide)) (below_alloc _ (.cells #[.int .u8 2] 5)) (Nat.le_refl _))
  have HS := Lib.hid (u8s_block (w := (w0.alloc (.cells (madeCells #[.int .u8 0] 200) 5)).alloc (.cells #[.int .u8 2] 5)) (b := w0.heap.size + 1) (xs := [2]) (block_new _ _ (by simp)) rfl (by decide))
  go_wp2_with (refine wpList_append_src rfl _ _ 28 rfl w0.heap.size 5 i0 _ 1 1 Try.underlying28 HI.out.1 HI.out.2.1 HI.out.2.2.1 HI.out.2.2.2 rfl (by decide) _ 200 _ rfl HO.out (some ⟨w0.heap.size + 1, 0, none⟩) 1 1 (flatU [2]) rfl (fun e => by cases e) rfl ?c2 (flatU_cell [2]) (by decide) (by decide) ?c5 ?_; rotate_right; intro v1 w1 hown1 hgrow)
  case c2 => intro ad' had; cases had; exact u8s_src HS.out
  case c5 => simp; omega
  have hb1 := grownB HO.out hgrow (Nat.le_refl _) (by simp; omega)
  obtain ⟨aB, cB, rfl, hUB, _⟩ := own_u8s (ys := List.replicate 200 0 ++ [2]) (n := 201) hown1 rfl (by decide)
  have HB := Lib.hid hUB
  have K := Lib.hid (show Below w.heap.size w w1 ∧ True from ⟨((K0.out.alloc K0.out.size (.cells (madeCells #[.int .u8 0] 200) 5)).alloc (by have := K0.out.size; simp; omega) (.cells #[.int .u8 2] 5)).trans (hb1.mono K0.out.size), trivial⟩)
  clear hgrow hown1 hb1 hUB HO HS K0
  go_wp2_with fail
  refine (Remainder_call aB 201 cB (List.replicate 200 0 ++ [2]) _ HB.out).mono ?_; rintro e w2 ⟨rfl, hb⟩
  rw [F.out.2.2.2.2.2.1]
  replace K := Lib.hid (show Below w.heap.size w w2 ∧ True from ⟨K.out.1.trans (hb.mono K.out.1.size), trivial⟩)
  clear hb
  go_wp2_with fail
  refine (Remainder_call (some ⟨w2.heap.size, 0, none⟩) 105 105 (List.replicate 105 0) _ (u8s_made (by decide))).mono ?_; rintro e w3 ⟨rfl, hb⟩
  rw [F.out.2.2.2.2.2.2.1]
  replace K := Lib.hid (show Below w.heap.size w w3 ∧ True from ⟨(K.out.1.alloc K.out.1.size (.cells (madeCells #[.int .u8 0] 105) 5)).trans (hb.mono (by have := K.out.1.size; simp; omega)), trivial⟩)
  clear hb
  go_wp2_with fail
  refine (Seal_call (some ⟨w3.heap.size, 0, none⟩) 105 105 (List.replicate 105 0) (-1) _ (u8s_made (by decide))).mono ?_; rintro e w4 ⟨v4, rfl, hO, hb⟩
  rw [F.out.2.2.2.2.2.2.2.1]
  replace K := Lib.hid (show Below w.heap.size w w4 ∧ True from ⟨(K.out.1.alloc K.out.1.size (.cells (madeCells #[.int .u8 0] 105) 5)).trans (hb.mono (by have := K.out.1.size; simp; omega)), trivial⟩)
  clear hb hO
  go_wp2_with fail
  refine (Seal_call none 0 0 [] (-1) _ (u8s_none _)).mono ?_; rintro e w5 ⟨v5, rfl, hO, hb⟩
  rw [F.out.2.2.2.2.2.2.2.2.1]
  replace K := Lib.hid (show Below w.heap.size w w5 ∧ True from ⟨K.out.1.trans (hb.mono K.out.1.size), trivial⟩)
  clear hb hO
  go_wp2_with fail
  refine (Seal_call none 0 0 [] 16777216 _ (u8s_none _)).mono ?_; rintro e w6 ⟨v6, rfl, hO, hb⟩
  rw [F.out.2.2.2.2.2.2.2.2.2.1]
  replace K := Lib.hid (show Below w.heap.size w w6 ∧ True from ⟨K.out.1.trans (hb.mono K.out.1.size), trivial⟩)
  clear hb hO
  go_wp2_with fail
  refine (Seal_call (some ⟨w6.heap.size, 0, none⟩) 104 104 (List.replicate 104 0) 16777215 _ (u8s_made (by decide))).mono ?_; rintro e w7 ⟨v7, rfl, hO, hb⟩
  rw [show (16777215 : Int).toNat = 16777215 from rfl] at hO
  rw [F.out.2.2.2.2.2.2.2.2.2.2.1] at hO
  obtain ⟨aF, cF, hv, hU, _⟩ := own_u8s (hO.1 rfl) rfl (by rw [F.out.1]; decide)
  rw [F.out.1] at hv hU
  subst hv
  rw [F.out.2.2.2.2.2.2.2.2.2.2.1]
  replace K := Lib.hid (show Below w.heap.size w w7 ∧ U8s w7 aF 128 (seaL (List.replicate 104 0) 16777215) from ⟨(K.out.1.alloc K.out.1.size (.cells (madeCells #[.int .u8 0] 104) 5)).trans (hb.mono (by have := K.out.1.size; simp; omega)), hU⟩)
  clear hb hO hU
  go_wp2_with fail
  refine (Address_call (some ⟨w7.heap.size, 0, none⟩) 23 23 (List.replicate 23 0) _ (u8s_made (by decide)) (Nat.le_refl _)).mono ?_; rintro e w8 ⟨rfl, hb⟩
  rw [F.out.2.2.2.2.2.2.2.2.2.2.2.1]
  replace K := Lib.hid (show Below w.heap.size w w8 ∧ U8s w8 aF 128 (seaL (List.replicate 104 0) 16777215) from ⟨(K.out.1.alloc K.out.1.size (.cells (madeCells #[.int .u8 0] 23) 5)).trans (hb.mono (by have := K.out.1.size; simp; omega)), K.out.2.below ((below_alloc w7 (.cells (madeCells #[.int .u8 0] 23) 5)).trans (hb.mono (by simp)))⟩)
  clear hb
  go_wp2_with fail
  refine (Address_call (some ⟨w8.heap.size, 0, none⟩) 24 24 (List.replicate 24 0) _ (u8s_made (by decide)) (Nat.le_refl _)).mono ?_; rintro e w9 ⟨rfl, hb⟩
  rw [F.out.2.2.2.2.2.2.2.2.2.2.2.2.1, F.out.2.2.2.2.2.2.2.2.2.2.2.2.2.1]
  replace K := Lib.hid (show Below w.heap.size w w9 ∧ U8s w9 aF 128 (seaL (List.replicate 104 0) 16777215) from ⟨(K.out.1.alloc K.out.1.size (.cells (madeCells #[.int .u8 0] 24) 5)).trans (hb.mono (by have := K.out.1.size; simp; omega)), K.out.2.below ((below_alloc w8 (.cells (madeCells #[.int .u8 0] 24) 5)).trans (hb.mono (by simp)))⟩)
  clear hb
  go_wp2_with fail
  refine (Syndrome_call 23 99 _).mono ?_; rintro e w10 ⟨rfl, hb⟩
  rw [F.out.2.2.2.2.2.2.2.2.2.2.2.2.2.2.1]
  replace K := Lib.hid (show Below w.heap.size w w10 ∧ U8s w10 aF 128 (seaL (List.replicate 104 0) 16777215) from ⟨K.out.1.trans (hb.mono K.out.1.size), K.out.2.below hb⟩)
  clear hb
  go_wp2_with fail
  refine (Syndrome_call 129 (-1) _).mono ?_; rintro e w11 ⟨rfl, hb⟩
  rw [F.out.2.2.2.2.2.2.2.2.2.2.2.2.2.2.2.1]
  replace K := Lib.hid (show Below w.heap.size w w11 ∧ U8s w11 aF 128 (seaL (List.replicate 104 0) 16777215) from ⟨K.out.1.trans (hb.mono K.out.1.size), K.out.2.below hb⟩)
  clear hb
  go_wp2_with fail
  refine (Syndrome_call 24 24 _).mono ?_; rintro e w12 ⟨rfl, hb⟩
  rw [F.out.2.2.2.2.2.2.2.2.2.2.2.2.2.2.2.2.1]
  replace K := Lib.hid (show Below w.heap.size w w12 ∧ U8s w12 aF 128 (seaL (List.replicate 104 0) 16777215) from ⟨K.out.1.trans (hb.mono K.out.1.size), K.out.2.below hb⟩)
  clear hb
  go_wp2_with fail
  refine (Syndrome_call 24 (-1) _).mono ?_; rintro e w13 ⟨rfl, hb⟩
  rw [F.out.2.2.2.2.2.2.2.2.2.2.2.2.2.2.2.2.2.1]
  replace K := Lib.hid (show Below w.heap.size w w13 ∧ U8s w13 aF 128 (seaL (List.replicate 104 0) 16777215) from ⟨K.out.1.trans (hb.mono K.out.1.size), K.out.2.below hb⟩)
  clear hb
  go_wp2_with fail
  refine (Correct_call (some ⟨w13.heap.size, 0, none⟩) 23 23 (List.replicate 23 0) (-1) _ (u8s_made (by decide)) (Nat.le_refl _)).mono ?_; rintro e w14 ⟨v14, rfl, hO, hb⟩
  rw [F.out.2.2.2.2.2.2.2.2.2.2.2.2.2.2.2.2.2.2.1, F.out.2.2.2.2.2.2.2.2.2.2.2.2.2.2.2.2.2.2.2.1]
  replace K := Lib.hid (show Below w.heap.size w w14 ∧ U8s w14 aF 128 (seaL (List.replicate 104 0) 16777215) from ⟨(K.out.1.alloc K.out.1.size (.cells (madeCells #[.int .u8 0] 23) 5)).trans (hb.mono (by have := K.out.1.size; simp; omega)), K.out.2.below ((below_alloc w13 (.cells (madeCells #[.int .u8 0] 23) 5)).trans (hb.mono (by simp)))⟩)
  clear hb hO
  go_wp2_with fail
  refine (Correct_call (some ⟨w14.heap.size, 0, none⟩) 24 24 (List.replicate 24 0) (-1) _ (u8s_made (by decide)) (Nat.le_refl _)).mono ?_; rintro e w15 ⟨v15, rfl, hO, hb⟩
  rw [F.out.2.2.2.2.2.2.2.2.2.2.2.2.2.2.2.2.2.2.2.2.1, F.out.2.2.2.2.2.2.2.2.2.2.2.2.2.2.2.2.2.2.2.2.2.1]
  replace K := Lib.hid (show Below w.heap.size w w15 ∧ U8s w15 aF 128 (seaL (List.replicate 104 0) 16777215) from ⟨(K.out.1.alloc K.out.1.size (.cells (madeCells #[.int .u8 0] 24) 5)).trans (hb.mono (by have := K.out.1.size; simp; omega)), K.out.2.below ((below_alloc w14 (.cells (madeCells #[.int .u8 0] 24) 5)).trans (hb.mono (by simp)))⟩)
  clear hb hO
  go_wp2_with fail
  refine (Correct_call (some ⟨w15.heap.size, 0, none⟩) 24 24 (List.replicate 24 0) 4 _ (u8s_made (by decide)) (Nat.le_refl _)).mono ?_; rintro e w16 ⟨v16, rfl, hO, hb⟩
  rw [F.out.2.2.2.2.2.2.2.2.2.2.2.2.2.2.2.2.2.2.2.2.2.2.1] at hO
  obtain ⟨aX, cX, hv, hU, _⟩ := own_u8s (hO.1 rfl) rfl (by rw [F.out.2.2.2.1]; decide)
  rw [F.out.2.2.2.1] at hv hU
  subst hv
  rw [F.out.2.2.2.2.2.2.2.2.2.2.2.2.2.2.2.2.2.2.2.2.2.2.1, F.out.2.2.2.2.2.2.2.2.2.2.2.2.2.2.2.2.2.2.2.2.2.2.2.1]
  replace K := Lib.hid (show Below w.heap.size w w16 ∧ U8s w16 aF 128 (seaL (List.replicate 104 0) 16777215) ∧ U8s w16 aX 24 (corL (List.replicate 24 0) 4) from ⟨(K.out.1.alloc K.out.1.size (.cells (madeCells #[.int .u8 0] 24) 5)).trans (hb.mono (by have := K.out.1.size; simp; omega)), K.out.2.below ((below_alloc w15 (.cells (madeCells #[.int .u8 0] 24) 5)).trans (hb.mono (by simp))), hU⟩)
  clear hb hO hU
  go_wp2_with fail
  refine (Correct_call (some ⟨w16.heap.size, 0, none⟩) 24 24 (List.replicate 24 0) 3 _ (u8s_made (by decide)) (Nat.le_refl _)).mono ?_; rintro e w17 ⟨v17, rfl, hO, hb⟩
  rw [F.out.2.2.2.2.2.2.2.2.2.2.2.2.2.2.2.2.2.2.2.2.2.2.2.2.1, F.out.2.2.2.2.2.2.2.2.2.2.2.2.2.2.2.2.2.2.2.2.2.2.2.2.2]
  replace K := Lib.hid (show Below w.heap.size w w17 ∧ U8s w17 aF 128 (seaL (List.replicate 104 0) 16777215) ∧ U8s w17 aX 24 (corL (List.replicate 24 0) 4) from ⟨(K.out.1.alloc K.out.1.size (.cells (madeCells #[.int .u8 0] 24) 5)).trans (hb.mono (by have := K.out.1.size; simp; omega)), K.out.2.1.below ((below_alloc w16 (.cells (madeCells #[.int .u8 0] 24) 5)).trans (hb.mono (by simp))), K.out.2.2.below ((below_alloc w16 (.cells (madeCells #[.int .u8 0] 24) 5)).trans (hb.mono (by simp)))⟩)
  clear hb hO
  obtain ⟨bF, oF, rfl, hcF⟩ := u8s_some K.out.2.1 (by decide)
  obtain ⟨bX, oX, rfl, hcX⟩ := u8s_some K.out.2.2 (by decide)
  have y0 := hcF 103 (by decide)
  have y1 := hcF 104 (by decide)
  have y2 := hcX 21 (by decide)
  rw [F.out.2.1] at y0
  rw [F.out.2.2.1] at y1
  rw [F.out.2.2.2.2.1] at y2
  clear hcF hcX
  go_wp2_with fail
  go_ret
  exact bPost_of rfl K.out.1
end Go.Proofs.Ytpfohhmhadjdpaa
