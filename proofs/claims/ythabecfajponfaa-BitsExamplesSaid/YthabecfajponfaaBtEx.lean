/-
  Layer 1 (bits): the law Examples, the walk. Printed by genBtEx.py.
-/
import Derived.Test.YthabecfajponfaaBtLaw
namespace Go.Proofs.Ythabecfajponfaa
open Go.RowKit BitsMath ParityMath TextMath MyHeap MyCopy MyOwn

theorem u8s_made {w : World} {n : Nat} (hn : n ≤ 1000) : U8s (w.alloc (.cells (madeCells #[.int .u8 0] n) 5)) (some ⟨w.heap.size, 0, none⟩) n (List.replicate n 0) := by
  have h := u8s_block (xs := List.replicate n 0) (block_new w (.cells (madeCells #[.int .u8 0] n) 5) rfl) (madeU n) (by rw [List.length_replicate]; omega)
  rwa [List.length_replicate] at h
structure ExK (w0 : World) (aL aB aF : Option Addr) (W : World) : Prop where
  B0 : Below w0.heap.size w0 W
  L : U8s W aL 129 (List.replicate 129 0)
  B : U8s W aB 2 [0, 2]
  F : U8s W aF 128 (List.replicate 128 0)
theorem ExK.keep {w0 W W' : World} {aL aB aF : Option Addr} (h : ExK w0 aL aB aF W) (hb : Below W.heap.size W W') : ExK w0 aL aB aF W' := ⟨h.B0.trans (hb.mono h.B0.size), h.L.below hb, h.B.below hb, h.F.below hb⟩
theorem exFacts : (putL (List.replicate 128 0) 0 64 18446744073709551615).length = 128 ∧
    chkE (putL (List.replicate 128 0) 0 64 18446744073709551615) = 0 ∧
    wtR (putL (List.replicate 128 0) 0 64 18446744073709551615) = 64 ∧
    getR (List.replicate 129 0) (-1) (-1) = 0 ∧
    fldE (List.replicate 129 0) (-1) (-1) = 4 ∧
    getR [0, 2] (-1) (-1) = 0 ∧
    fldE [0, 2] (-1) (-1) = 1 ∧
    getR (List.replicate 128 0) (-1) 65 = 0 ∧
    fldE (List.replicate 128 0) (-1) 65 = 1 ∧
    getR (List.replicate 128 0) 65 64 = 0 ∧
    fldE (List.replicate 128 0) 65 64 = 8 ∧
    getR (List.replicate 128 0) 64 64 = 0 ∧
    fldE (List.replicate 128 0) 64 64 = 0 ∧
    getR (List.replicate 128 0) 128 0 = 0 ∧
    fldE (List.replicate 128 0) 128 0 = 0 ∧
    getR (List.replicate 128 0) 129 0 = 0 ∧
    fldE (List.replicate 128 0) 129 0 = 8 ∧
    putE (List.replicate 128 0) 128 1 5 = 8 ∧
    putE (List.replicate 128 0) 0 63 9223372036854775808 = 7 ∧
    putE (List.replicate 128 0) 0 64 18446744073709551615 = 0 ∧
    putE (List.replicate 128 0) 0 0 1 = 7 ∧
    xorE [0, 2] (List.replicate 129 0) = 1 ∧
    xorE (List.replicate 128 0) [1] = 16 ∧
    flE (List.replicate 128 0) 128 = 8 ∧
    txtR [1] = [] ∧
    txtE [1] = 2 ∧
    prsE [48, 48, 48, 48, 48, 48, 48, 48, 48, 48, 48, 48, 48, 48, 48, 48, 48, 48, 48, 48, 48, 48, 48, 48, 48, 48, 48, 48, 48, 48, 48, 48, 48] = 4 ∧
    prsE [48, 65] = 2 ∧
    getR (List.replicate 128 0) 9223372036854775807 64 = 0 ∧
    fldE (List.replicate 128 0) 9223372036854775807 64 = 8 ∧
    getR (List.replicate 128 0) 1 (-9223372036854775808) = 0 ∧
    fldE (List.replicate 128 0) 1 (-9223372036854775808) = 1 ∧
    chkE (List.replicate 129 0) = 4 ∧
    chkE [0, 2] = 1 := by
  refine ⟨?_, ?_, ?_, ?_, ?_, ?_, ?_, ?_, ?_, ?_, ?_, ?_, ?_, ?_, ?_, ?_, ?_, ?_, ?_, ?_, ?_, ?_, ?_, ?_, ?_, ?_, ?_, ?_, ?_, ?_, ?_, ?_, ?_, ?_⟩ <;> kernel_rfl

set_option maxRecDepth 100000 in
set_option maxHeartbeats 16000000 in
theorem examples_call (w : World) : Calls Try.prog 8 #[] w (BPost true w) := by
  have E := Lib.hid exFacts
  have mk129 : ∀ W : World, (Instr.makeSlice 23 (.int .i64 129) (.int .i64 129)).run Try.prog W = .ok (.slice (some ⟨W.heap.size, 0, none⟩) 129 129) (W.alloc (.cells (madeCells #[.int .u8 0] 129) 5)) := hmkU 129 (by decide)
  have mk128 : ∀ W : World, (Instr.makeSlice 23 (.int .i64 128) (.int .i64 128)).run Try.prog W = .ok (.slice (some ⟨W.heap.size, 0, none⟩) 128 128) (W.alloc (.cells (madeCells #[.int .u8 0] 128) 5)) := hmkU 128 (by decide)
  go_enter Try.func8, Try.ntmps8
  go_wp2_with fail
  refine (awake_call _).mono ?_; rintro e w0 ⟨rfl, hb⟩
  have K0 := Lib.hid hb
  clear hb
  go_wp2_with fail
  have K := Lib.hid (show ExK w (some ⟨w0.heap.size, 0, none⟩) (some ⟨w0.heap.size + 1, 0, none⟩) (some ⟨w0.heap.size + 1 + 1, 0, none⟩) (((w0.alloc (.cells (madeCells #[.int .u8 0] 129) 5)).alloc (.cells #[.int .u8 0, .int .u8 2] 5)).alloc (.cells (madeCells #[.int .u8 0] 128) 5)) from
    have b1 := below_alloc w0 (.cells (madeCells #[.int .u8 0] 129) 5)
    have b2 := below_alloc (w0.alloc (.cells (madeCells #[.int .u8 0] 129) 5)) (.cells #[.int .u8 0, .int .u8 2] 5)
    have b3 := below_alloc ((w0.alloc (.cells (madeCells #[.int .u8 0] 129) 5)).alloc (.cells #[.int .u8 0, .int .u8 2] 5)) (.cells (madeCells #[.int .u8 0] 128) 5)
    ⟨K0.out.trans ((b1.trans ((b2.trans (b3.mono (by simp))).mono (by simp))).mono K0.out.size), ((u8s_made (by decide)).below b2).below b3,
      (show U8s _ _ 2 [0, 2] from by have h := u8s_block (w := (w0.alloc (.cells (madeCells #[.int .u8 0] 129) 5)).alloc (.cells #[.int .u8 0, .int .u8 2] 5)) (b := w0.heap.size + 1) (xs := [0, 2]) (block_new _ _ (by simp)) rfl (by decide); exact h.below b3),
      by have h := u8s_made (w := (w0.alloc (.cells (madeCells #[.int .u8 0] 129) 5)).alloc (.cells #[.int .u8 0, .int .u8 2] 5)) (n := 128) (by decide); simpa only [World.size_alloc] using h⟩)
  clear K0
  obtain ⟨aL, haL⟩ : ∃ a : Option Addr, a = some ⟨w0.heap.size, 0, none⟩ := ⟨_, rfl⟩
  obtain ⟨aB, haB⟩ : ∃ a : Option Addr, a = some ⟨w0.heap.size + 1, 0, none⟩ := ⟨_, rfl⟩
  obtain ⟨aF, haF⟩ : ∃ a : Option Addr, a = some ⟨w0.heap.size + 1 + 1, 0, none⟩ := ⟨_, rfl⟩
  simp only [← haL, ← haB, ← haF] at *
  clear haL haB haF
  refine (Get_call aL 129 129 (List.replicate 129 0) (-1) (-1) _ K.out.L (by decide) (by decide)).mono ?_; rintro e w1 ⟨rfl, hb⟩
  rw [E.out.2.2.2.1, E.out.2.2.2.2.1]
  replace K := Lib.hid (K.out.keep hb)
  clear hb
  go_wp2_with fail
  refine (Get_call aB 2 2 [0, 2] (-1) (-1) _ K.out.B (by decide) (by decide)).mono ?_; rintro e w2 ⟨rfl, hb⟩
  rw [E.out.2.2.2.2.2.1, E.out.2.2.2.2.2.2.1]
  replace K := Lib.hid (K.out.keep hb)
  clear hb
  go_wp2_with fail
  refine (Get_call aF 128 128 (List.replicate 128 0) (-1) 65 _ K.out.F (by decide) (by decide)).mono ?_; rintro e w3 ⟨rfl, hb⟩
  rw [E.out.2.2.2.2.2.2.2.1, E.out.2.2.2.2.2.2.2.2.1]
  replace K := Lib.hid (K.out.keep hb)
  clear hb
  go_wp2_with fail
  refine (Get_call aF 128 128 (List.replicate 128 0) 65 64 _ K.out.F (by decide) (by decide)).mono ?_; rintro e w4 ⟨rfl, hb⟩
  rw [E.out.2.2.2.2.2.2.2.2.2.1, E.out.2.2.2.2.2.2.2.2.2.2.1]
  replace K := Lib.hid (K.out.keep hb)
  clear hb
  go_wp2_with fail
  refine (Get_call aF 128 128 (List.replicate 128 0) 64 64 _ K.out.F (by decide) (by decide)).mono ?_; rintro e w5 ⟨rfl, hb⟩
  rw [E.out.2.2.2.2.2.2.2.2.2.2.2.1, E.out.2.2.2.2.2.2.2.2.2.2.2.2.1]
  replace K := Lib.hid (K.out.keep hb)
  clear hb
  go_wp2_with fail
  refine (Get_call aF 128 128 (List.replicate 128 0) 128 0 _ K.out.F (by decide) (by decide)).mono ?_; rintro e w6 ⟨rfl, hb⟩
  rw [E.out.2.2.2.2.2.2.2.2.2.2.2.2.2.1, E.out.2.2.2.2.2.2.2.2.2.2.2.2.2.2.1]
  replace K := Lib.hid (K.out.keep hb)
  clear hb
  go_wp2_with fail
  refine (Get_call aF 128 128 (List.replicate 128 0) 129 0 _ K.out.F (by decide) (by decide)).mono ?_; rintro e w7 ⟨rfl, hb⟩
  rw [E.out.2.2.2.2.2.2.2.2.2.2.2.2.2.2.2.1, E.out.2.2.2.2.2.2.2.2.2.2.2.2.2.2.2.2.1]
  replace K := Lib.hid (K.out.keep hb)
  clear hb
  go_wp2_with fail
  refine (Put_call aF 128 128 (List.replicate 128 0) 128 1 5 _ K.out.F (by decide) (by decide) (by decide)).mono ?_; rintro e w8 ⟨v8, rfl, hO, hb⟩
  rw [E.out.2.2.2.2.2.2.2.2.2.2.2.2.2.2.2.2.2.1]
  replace K := Lib.hid (K.out.keep hb)
  clear hb hO
  go_wp2_with fail
  refine (Put_call aF 128 128 (List.replicate 128 0) 0 63 9223372036854775808 _ K.out.F (by decide) (by decide) (by decide)).mono ?_; rintro e w9 ⟨v9, rfl, hO, hb⟩
  rw [E.out.2.2.2.2.2.2.2.2.2.2.2.2.2.2.2.2.2.2.1]
  replace K := Lib.hid (K.out.keep hb)
  clear hb hO
  go_wp2_with fail
  refine (Put_call aF 128 128 (List.replicate 128 0) 0 64 18446744073709551615 _ K.out.F (by decide) (by decide) (by decide)).mono ?_; rintro e w10 ⟨v10, rfl, hO, hb⟩
  rw [show (0 : Int).toNat = 0 from rfl, show (64 : Int).toNat = 64 from rfl, E.out.2.2.2.2.2.2.2.2.2.2.2.2.2.2.2.2.2.2.2.1] at hO
  obtain ⟨aA, cA, hv, hU, _⟩ := own_u8s (hO.1 rfl) rfl (by rw [E.out.1]; decide)
  rw [E.out.1] at hv hU
  subst hv
  rw [E.out.2.2.2.2.2.2.2.2.2.2.2.2.2.2.2.2.2.2.2.1]
  replace K := Lib.hid (K.out.keep hb)
  have HA := Lib.hid hU
  clear hU
  clear hb hO
  go_wp2_with fail
  refine (Put_call aF 128 128 (List.replicate 128 0) 0 0 1 _ K.out.F (by decide) (by decide) (by decide)).mono ?_; rintro e w11 ⟨v11, rfl, hO, hb⟩
  rw [E.out.2.2.2.2.2.2.2.2.2.2.2.2.2.2.2.2.2.2.2.2.1]
  replace K := Lib.hid (K.out.keep hb)
  replace HA := Lib.hid (HA.out.below hb)
  clear hb hO
  go_wp2_with fail
  refine (Xor_call aB aL 2 129 2 129 [0, 2] (List.replicate 129 0) _ K.out.B K.out.L).mono ?_; rintro e w12 ⟨v12, rfl, hO, hb⟩
  rw [E.out.2.2.2.2.2.2.2.2.2.2.2.2.2.2.2.2.2.2.2.2.2.1]
  replace K := Lib.hid (K.out.keep hb)
  replace HA := Lib.hid (HA.out.below hb)
  clear hb hO
  go_wp2_with fail
  have H1 := Lib.hid (show U8s (w12.alloc (.cells #[.int .u8 1] 5)) (some ⟨w12.heap.size, 0, none⟩) 1 [1] from u8s_block (xs := [1]) (block_new _ _ rfl) rfl (by decide))
  replace K := Lib.hid (K.out.keep (below_alloc w12 (.cells #[.int .u8 1] 5)))
  refine (Xor_call aF (some ⟨w12.heap.size, 0, none⟩) 128 1 128 1 (List.replicate 128 0) [1] _ K.out.F H1.out).mono ?_; rintro e w13 ⟨v13, rfl, hO, hb⟩
  rw [E.out.2.2.2.2.2.2.2.2.2.2.2.2.2.2.2.2.2.2.2.2.2.2.1]
  replace K := Lib.hid (K.out.keep hb)
  replace HA := Lib.hid ((HA.out.below (below_alloc w12 (.cells #[.int .u8 1] 5))).below hb)
  clear hb hO
  go_wp2_with fail
  refine (Flip_call aF 128 128 (List.replicate 128 0) 128 _ K.out.F).mono ?_; rintro e w14 ⟨v14, rfl, hO, hb⟩
  rw [E.out.2.2.2.2.2.2.2.2.2.2.2.2.2.2.2.2.2.2.2.2.2.2.2.1]
  replace K := Lib.hid (K.out.keep hb)
  replace HA := Lib.hid (HA.out.below hb)
  clear hb hO
  go_wp2_with fail
  have H1 := Lib.hid (show U8s (w14.alloc (.cells #[.int .u8 1] 5)) (some ⟨w14.heap.size, 0, none⟩) 1 [1] from u8s_block (xs := [1]) (block_new _ _ rfl) rfl (by decide))
  replace K := Lib.hid (K.out.keep (below_alloc w14 (.cells #[.int .u8 1] 5)))
  refine (Text_call (some ⟨w14.heap.size, 0, none⟩) 1 1 [1] _ H1.out (by decide) (by decide)).mono ?_; rintro e w15 ⟨rfl, hb⟩
  rw [E.out.2.2.2.2.2.2.2.2.2.2.2.2.2.2.2.2.2.2.2.2.2.2.2.2.1, E.out.2.2.2.2.2.2.2.2.2.2.2.2.2.2.2.2.2.2.2.2.2.2.2.2.2.1]
  replace K := Lib.hid (K.out.keep hb)
  replace HA := Lib.hid ((HA.out.below (below_alloc w14 (.cells #[.int .u8 1] 5))).below hb)
  clear hb
  go_wp2_with fail
  refine (Parse_call ⟨#[48, 48, 48, 48, 48, 48, 48, 48, 48, 48, 48, 48, 48, 48, 48, 48, 48, 48, 48, 48, 48, 48, 48, 48, 48, 48, 48, 48, 48, 48, 48, 48, 48]⟩ (by decide) _).mono ?_; rintro e w16 ⟨v16, rfl, hO, hb⟩
  rw [show (⟨#[48, 48, 48, 48, 48, 48, 48, 48, 48, 48, 48, 48, 48, 48, 48, 48, 48, 48, 48, 48, 48, 48, 48, 48, 48, 48, 48, 48, 48, 48, 48, 48, 48]⟩ : ByteArray).data.toList = [48, 48, 48, 48, 48, 48, 48, 48, 48, 48, 48, 48, 48, 48, 48, 48, 48, 48, 48, 48, 48, 48, 48, 48, 48, 48, 48, 48, 48, 48, 48, 48, 48] from rfl]
  rw [E.out.2.2.2.2.2.2.2.2.2.2.2.2.2.2.2.2.2.2.2.2.2.2.2.2.2.2.1]
  replace K := Lib.hid (K.out.keep hb)
  replace HA := Lib.hid (HA.out.below hb)
  clear hb hO
  go_wp2_with fail
  refine (Parse_call ⟨#[48, 65]⟩ (by decide) _).mono ?_; rintro e w17 ⟨v17, rfl, hO, hb⟩
  rw [show (⟨#[48, 65]⟩ : ByteArray).data.toList = [48, 65] from rfl]
  rw [E.out.2.2.2.2.2.2.2.2.2.2.2.2.2.2.2.2.2.2.2.2.2.2.2.2.2.2.2.1]
  replace K := Lib.hid (K.out.keep hb)
  replace HA := Lib.hid (HA.out.below hb)
  clear hb hO
  go_wp2_with fail
  refine (Weight_call aA 128 cA (putL (List.replicate 128 0) 0 64 18446744073709551615) _ HA.out).mono ?_; rintro e w18 ⟨rfl, hb⟩
  rw [E.out.2.1, E.out.2.2.1]
  replace K := Lib.hid (K.out.keep hb)
  clear HA
  clear hb
  go_wp2_with fail
  refine (Get_call aF 128 128 (List.replicate 128 0) 9223372036854775807 64 _ K.out.F (by decide) (by decide)).mono ?_; rintro e w19 ⟨rfl, hb⟩
  rw [E.out.2.2.2.2.2.2.2.2.2.2.2.2.2.2.2.2.2.2.2.2.2.2.2.2.2.2.2.2.1, E.out.2.2.2.2.2.2.2.2.2.2.2.2.2.2.2.2.2.2.2.2.2.2.2.2.2.2.2.2.2.1]
  replace K := Lib.hid (K.out.keep hb)
  clear hb
  go_wp2_with fail
  refine (Get_call aF 128 128 (List.replicate 128 0) 1 (-9223372036854775808) _ K.out.F (by decide) (by decide)).mono ?_; rintro e w20 ⟨rfl, hb⟩
  rw [E.out.2.2.2.2.2.2.2.2.2.2.2.2.2.2.2.2.2.2.2.2.2.2.2.2.2.2.2.2.2.2.1, E.out.2.2.2.2.2.2.2.2.2.2.2.2.2.2.2.2.2.2.2.2.2.2.2.2.2.2.2.2.2.2.2.1]
  replace K := Lib.hid (K.out.keep hb)
  clear hb
  go_wp2_with fail
  refine (Check_call aL 129 129 (List.replicate 129 0) _ K.out.L).mono ?_; rintro e w21 ⟨rfl, hb⟩
  rw [E.out.2.2.2.2.2.2.2.2.2.2.2.2.2.2.2.2.2.2.2.2.2.2.2.2.2.2.2.2.2.2.2.2.1]
  replace K := Lib.hid (K.out.keep hb)
  clear hb
  go_wp2_with fail
  refine (Check_call aB 2 2 [0, 2] _ K.out.B).mono ?_; rintro e w22 ⟨rfl, hb⟩
  rw [E.out.2.2.2.2.2.2.2.2.2.2.2.2.2.2.2.2.2.2.2.2.2.2.2.2.2.2.2.2.2.2.2.2.2]
  replace K := Lib.hid (K.out.keep hb)
  clear hb
  go_wp2_with fail
  go_ret
  exact bPost_of rfl K.out.B0
end Go.Proofs.Ythabecfajponfaa
