/-
  Layer 18 (altitude): the law Examples.
-/
import Derived.Test.YtojjhkahigdkoaaAltEa
import Derived.Test.YtojjhkahigdkoaaHeldBy
import Derived.BigQuiet
namespace Go.Proofs.Ytojjhkahigdkoaa
open Go.RowKit AltMath MyHeap MyCopy MyOwn

def litC : Array Value := #[.int .i64 (-1001), .int .i64 25, .int .i64 50001, .int .i64 25, .int .i64 0, .int .i64 24, .int .i64 0, .int .i64 50, .int .i64 0, .int .i64 0]
theorem lit_at {W : World} {b : Nat} {T : TypeId} (h : W.heap[b]? = some (.cells litC T (0, 0))) {k : Nat} (hk : k < 5) : ∃ X Y : Int, W.cell? ⟨b, k * 2, none⟩ = some (.int .i64 X) ∧ W.cell? ⟨b, k * 2 + 1, none⟩ = some (.int .i64 Y) ∧ meE X Y = 1 := by
  have hc : ∀ i v, litC[i]? = some v → W.cell? ⟨b, i, none⟩ = some v := fun i v hv => cell_of_block h hv
  have : k = 0 ∨ k = 1 ∨ k = 2 ∨ k = 3 ∨ k = 4 := by omega
  rcases this with rfl | rfl | rfl | rfl | rfl
  · exact ⟨_, _, hc 0 _ rfl, hc 1 _ rfl, by decide⟩
  · exact ⟨_, _, hc 2 _ rfl, hc 3 _ rfl, by decide⟩
  · exact ⟨_, _, hc 4 _ rfl, hc 5 _ rfl, by decide⟩
  · exact ⟨_, _, hc 6 _ rfl, hc 7 _ rfl, by decide⟩
  · exact ⟨_, _, hc 8 _ rfl, hc 9 _ rfl, by decide⟩

/-- What the loops hold: the lowest band, the literal. -/
def X1 (w0 : World) (b f g c p q e lb : Nat) (W : World) : Prop := Below w0.heap.size w0 W ∧ BdA b (some ⟨f, g, none⟩) 201 c (some ⟨p, q, none⟩) 201 e xLL xLH W ∧ W.heap[lb]? = some (.cells litC 61 (0, 0))
theorem X1.keep {w0 : World} {b f g c p q e lb : Nat} {W W' : World} (h : X1 w0 b f g c p q e lb W) (hb : Below W.heap.size W W') : X1 w0 b f g c p q e lb W' := ⟨h.1.trans (hb.mono h.1.size), h.2.1.keep hb, keepO hb h.2.2⟩
theorem ints_nil (W : World) : Ints W none 0 [] := ⟨rfl, by omega, Or.inl rfl⟩
theorem maE_nil (X Y : Int) : maE [] [] X Y = 2 := by
  have h : chB [] [] = 2 := by decide
  unfold maE
  rw [h]
  rfl

set_option maxRecDepth 100000 in
set_option maxHeartbeats 32000000 in
theorem examples_call (w : World) : Calls Try.prog 8 #[] w (BPost true w) := by
  have F := Lib.hid xE
  have G := Lib.hid xG
  have HS := Lib.hid xS
  have HP := Lib.hid xSp
  have HLn := Lib.hid xLlen
  have HB := Lib.hid xB
  obtain ⟨i0, hi0, hz0, hs0, hb0⟩ := info_parts' infoI
  have HI := Lib.hid (And.intro hi0 (And.intro hz0 (And.intro hs0 hb0)))
  clear hi0 hz0 hs0 hb0
  go_enter Try.func8, Try.ntmps8
  go_wp2_with fail
  refine (awake_call _).mono ?_; rintro e w0 ⟨rfl, hb⟩
  have B := Lib.hid hb
  clear hb
  go_wp2_with fail
  refine (pNew_call 50000 100 _).mono ?_; rintro e x0 ⟨vL, vH, rfl, hT, -, hb⟩
  rw [F.out.1] at hT ⊢
  obtain ⟨aT, cT, dT, eT, rfl, rfl, i1, i2⟩ := two_ints (lo := xTL) (hi := xTH) (hT rfl) (loK_len _ 201) (hiK_len _ 201) (by decide) (by decide)
  have hb2 := hb.alloc hb.size (.cells #[.slice aT 201 cT, .slice dT 201 eT] 24)
  replace B := Lib.hid (B.out.trans (hb2.mono B.out.size))
  have KT := Lib.hid (show BdA x0.heap.size aT 201 cT dT 201 eT xTL xTH (x0.alloc (.cells #[.slice aT 201 cT, .slice dT 201 eT] 24)) from BdA.new i1 i2)
  obtain ⟨bT, hbT⟩ : ∃ b, x0.heap.size = b := ⟨_, rfl⟩
  rw [hbT] at KT
  clear hT hb hb2 i1 i2
  obtain ⟨t0, t1⟩ := two_cell KT.out.1
  go_wp2_with fail
  clear hbT
  generalize x0.alloc (.cells #[.slice aT 201 cT, .slice dT 201 eT] 24) = y1 at *
  have hc := pStep_call aT dT 201 201 cT eT xTL xTH 0 _ KT.out.2.1 KT.out.2.2
  unfold bdV at hc
  refine hc.mono ?_; clear hc; rintro e x1 ⟨vL, vH, rfl, hT, -, hb⟩
  rw [F.out.2.1] at hT ⊢
  obtain ⟨aU, cU, dU, eU, rfl, rfl, i1, i2⟩ := two_ints (lo := xUL) (hi := xUH) (hT rfl) (loK_len _ 201) (hiK_len _ 201) (by decide) (by decide)
  have hb2 := hb.alloc hb.size (.cells #[.slice aU 201 cU, .slice dU 201 eU] 24)
  replace B := Lib.hid (B.out.trans (hb2.mono B.out.size))
  replace KT := Lib.hid (KT.out.keep hb2)
  have KU := Lib.hid (show BdA x1.heap.size aU 201 cU dU 201 eU xUL xUH (x1.alloc (.cells #[.slice aU 201 cU, .slice dU 201 eU] 24)) from BdA.new i1 i2)
  obtain ⟨bU, hbU⟩ : ∃ b, x1.heap.size = b := ⟨_, rfl⟩
  rw [hbU] at KU
  clear hT hb hb2 i1 i2
  clear t0 t1
  go_wp2_with fail
  clear hbU
  generalize x1.alloc (.cells #[.slice aU 201 cU, .slice dU 201 eU] 24) = y2 at *
  refine (pNew_call (-1000) 25 _).mono ?_; rintro e x2 ⟨vL, vH, rfl, hT, -, hb⟩
  rw [F.out.2.2.1] at hT ⊢
  obtain ⟨aL, cL, dL, eL, rfl, rfl, i1, i2⟩ := two_ints (lo := xLL) (hi := xLH) (hT rfl) (loK_len _ 201) (hiK_len _ 201) (by decide) (by decide)
  have hb2 := hb.alloc hb.size (.cells #[.slice aL 201 cL, .slice dL 201 eL] 24)
  replace B := Lib.hid (B.out.trans (hb2.mono B.out.size))
  replace KT := Lib.hid (KT.out.keep hb2)
  replace KU := Lib.hid (KU.out.keep hb2)
  have KL := Lib.hid (show BdA x2.heap.size aL 201 cL dL 201 eL xLL xLH (x2.alloc (.cells #[.slice aL 201 cL, .slice dL 201 eL] 24)) from BdA.new i1 i2)
  obtain ⟨bL, hbL⟩ : ∃ b, x2.heap.size = b := ⟨_, rfl⟩
  rw [hbL] at KL
  clear hT hb hb2 i1 i2
  obtain ⟨l0, l1⟩ := two_cell KL.out.1
  go_wp2_with fail
  clear hbL
  generalize x2.alloc (.cells #[.slice aL 201 cL, .slice dL 201 eL] 24) = y3 at *
  have hc := pStep_call aL dL 201 201 cL eL xLL xLH 32 _ KL.out.2.1 KL.out.2.2
  unfold bdV at hc
  refine hc.mono ?_; clear hc; rintro e x3 ⟨vL, vH, rfl, hT, -, hb⟩
  rw [F.out.2.2.2.1] at hT ⊢
  obtain ⟨aD, cD, dD, eD, rfl, rfl, i1, i2⟩ := two_ints (lo := xDL) (hi := xDH) (hT rfl) (loK_len _ 201) (hiK_len _ 201) (by decide) (by decide)
  have hb2 := hb.alloc hb.size (.cells #[.slice aD 201 cD, .slice dD 201 eD] 24)
  replace B := Lib.hid (B.out.trans (hb2.mono B.out.size))
  replace KT := Lib.hid (KT.out.keep hb2)
  replace KU := Lib.hid (KU.out.keep hb2)
  replace KL := Lib.hid (KL.out.keep hb2)
  have KD := Lib.hid (show BdA x3.heap.size aD 201 cD dD 201 eD xDL xDH (x3.alloc (.cells #[.slice aD 201 cD, .slice dD 201 eD] 24)) from BdA.new i1 i2)
  obtain ⟨bD, hbD⟩ : ∃ b, x3.heap.size = b := ⟨_, rfl⟩
  rw [hbD] at KD
  clear hT hb hb2 i1 i2
  clear l0 l1
  obtain ⟨l0, l1⟩ := two_cell KL.out.1
  go_wp2_with fail
  clear hbD
  generalize x3.alloc (.cells #[.slice aD 201 cD, .slice dD 201 eD] 24) = y4 at *
  have hc := pMea_call aL dL 201 201 cL eL xLL xLH 0 25 _ KL.out.2.1 KL.out.2.2
  unfold bdV at hc
  refine hc.mono ?_; clear hc; rintro e x4 ⟨vL, vH, rfl, hT, -, hb⟩
  rw [F.out.2.2.2.2.1] at hT ⊢
  obtain ⟨aG, cG, dG, eG, rfl, rfl, i1, i2⟩ := two_ints (lo := xGL) (hi := xGH) (hT rfl) (loK_len _ 201) (hiK_len _ 201) (by decide) (by decide)
  have hb2 := hb.alloc hb.size (.cells #[.slice aG 201 cG, .slice dG 201 eG] 24)
  replace B := Lib.hid (B.out.trans (hb2.mono B.out.size))
  replace KT := Lib.hid (KT.out.keep hb2)
  replace KU := Lib.hid (KU.out.keep hb2)
  replace KL := Lib.hid (KL.out.keep hb2)
  replace KD := Lib.hid (KD.out.keep hb2)
  have KG := Lib.hid (show BdA x4.heap.size aG 201 cG dG 201 eG xGL xGH (x4.alloc (.cells #[.slice aG 201 cG, .slice dG 201 eG] 24)) from BdA.new i1 i2)
  obtain ⟨bG, hbG⟩ : ∃ b, x4.heap.size = b := ⟨_, rfl⟩
  rw [hbG] at KG
  clear hT hb hb2 i1 i2
  clear l0 l1
  obtain ⟨g0, g1⟩ := two_cell KG.out.1
  go_wp2_with fail
  clear hbG
  generalize x4.alloc (.cells #[.slice aG 201 cG, .slice dG 201 eG] 24) = y5 at *
  have hc := pEmpty_call aG dG 201 201 cG eG xGL xGH _ KG.out.2.1 KG.out.2.2
  unfold bdV at hc
  refine hc.mono ?_; clear hc; rintro e x5 ⟨rfl, hb⟩
  rw [HP.out.1, HP.out.2.1]
  replace B := Lib.hid (B.out.trans (hb.mono B.out.size))
  replace KT := Lib.hid (KT.out.keep hb)
  replace KU := Lib.hid (KU.out.keep hb)
  replace KL := Lib.hid (KL.out.keep hb)
  replace KD := Lib.hid (KD.out.keep hb)
  replace KG := Lib.hid (KG.out.keep hb)
  clear hb
  clear g0 g1
  obtain ⟨g0, g1⟩ := two_cell KG.out.1
  go_wp2_with fail
  have hc := pStep_call aG dG 201 201 cG eG xGL xGH 5 _ KG.out.2.1 KG.out.2.2
  unfold bdV at hc
  refine hc.mono ?_; clear hc; rintro e x6 ⟨vL, vH, rfl, hT, -, hb⟩
  rw [F.out.2.2.2.2.2.1] at hT ⊢
  obtain ⟨aS, cS, dS, eS, rfl, rfl, i1, i2⟩ := two_ints (lo := xSL) (hi := xSH) (hT rfl) (loK_len _ 201) (hiK_len _ 201) (by decide) (by decide)
  have hb2 := hb.alloc hb.size (.cells #[.slice aS 201 cS, .slice dS 201 eS] 24)
  replace B := Lib.hid (B.out.trans (hb2.mono B.out.size))
  replace KT := Lib.hid (KT.out.keep hb2)
  replace KU := Lib.hid (KU.out.keep hb2)
  replace KL := Lib.hid (KL.out.keep hb2)
  replace KD := Lib.hid (KD.out.keep hb2)
  replace KG := Lib.hid (KG.out.keep hb2)
  have KS := Lib.hid (show BdA x6.heap.size aS 201 cS dS 201 eS xSL xSH (x6.alloc (.cells #[.slice aS 201 cS, .slice dS 201 eS] 24)) from BdA.new i1 i2)
  obtain ⟨bS, hbS⟩ : ∃ b, x6.heap.size = b := ⟨_, rfl⟩
  rw [hbS] at KS
  clear hT hb hb2 i1 i2
  clear g0 g1
  obtain ⟨g0, g1⟩ := two_cell KG.out.1
  go_wp2_with fail
  clear hbS
  generalize x6.alloc (.cells #[.slice aS 201 cS, .slice dS 201 eS] 24) = y7 at *
  have hc := pSpread_call aG dG 201 201 cG eG xGL xGH _ KG.out.2.1 KG.out.2.2
  unfold bdV at hc
  refine hc.mono ?_; clear hc; rintro e x7 ⟨rfl, hb⟩
  unfold exC
  rw [HP.out.2.2.1, F.out.2.2.2.2.2.2.1]
  have hb2 := hb.alloc hb.size (.cells #[.int .i64 0, .int .i64 0, .int .i64 0, .int .i64 0] 48)
  replace B := Lib.hid (B.out.trans (hb2.mono B.out.size))
  replace KT := Lib.hid (KT.out.keep hb2)
  replace KU := Lib.hid (KU.out.keep hb2)
  replace KL := Lib.hid (KL.out.keep hb2)
  replace KD := Lib.hid (KD.out.keep hb2)
  replace KG := Lib.hid (KG.out.keep hb2)
  replace KS := Lib.hid (KS.out.keep hb2)
  clear hb hb2
  clear g0 g1
  obtain ⟨g0, g1⟩ := two_cell KG.out.1
  go_wp2_with fail
  generalize x7.alloc (.cells #[.int .i64 0, .int .i64 0, .int .i64 0, .int .i64 0] 48) = y8 at *
  have hc := pBest_call aG dG 201 201 cG eG xGL xGH _ KG.out.2.1 KG.out.2.2
  unfold bdV at hc
  refine hc.mono ?_; clear hc; rintro e x8 ⟨rfl, hb⟩
  rw [HP.out.2.2.2, F.out.2.2.2.2.2.2.1]
  have hb2 := hb.alloc hb.size (.cells #[.int .i64 0, .int .i64 0] 40)
  replace B := Lib.hid (B.out.trans (hb2.mono B.out.size))
  replace KT := Lib.hid (KT.out.keep hb2)
  replace KU := Lib.hid (KU.out.keep hb2)
  replace KL := Lib.hid (KL.out.keep hb2)
  replace KD := Lib.hid (KD.out.keep hb2)
  replace KG := Lib.hid (KG.out.keep hb2)
  replace KS := Lib.hid (KS.out.keep hb2)
  clear hb hb2
  clear g0 g1
  obtain ⟨l0, l1⟩ := two_cell KL.out.1
  go_wp2_with fail
  generalize x8.alloc (.cells #[.int .i64 0, .int .i64 0] 40) = y9 at *
  have hc := pCon_call aL dL 201 201 cL eL xLL xLH (-1000) 101 _ KL.out.2.1 KL.out.2.2
  unfold bdV at hc
  refine hc.mono ?_; clear hc; rintro e x9 ⟨rfl, hb⟩
  rw [F.out.2.2.2.2.2.2.2.2.1, F.out.2.2.2.2.2.2.2.1]
  replace B := Lib.hid (B.out.trans (hb.mono B.out.size))
  replace KT := Lib.hid (KT.out.keep hb)
  replace KU := Lib.hid (KU.out.keep hb)
  replace KL := Lib.hid (KL.out.keep hb)
  replace KD := Lib.hid (KD.out.keep hb)
  replace KG := Lib.hid (KG.out.keep hb)
  replace KS := Lib.hid (KS.out.keep hb)
  clear hb
  clear l0 l1
  obtain ⟨fT, gT, rfl, -⟩ := ints_at KT.out.2.1 (k := 0) (by decide)
  obtain ⟨pT, qT, rfl, -⟩ := ints_at KT.out.2.2 (k := 0) (by decide)
  obtain ⟨fU, gU, rfl, -⟩ := ints_at KU.out.2.1 (k := 0) (by decide)
  obtain ⟨pU, qU, rfl, -⟩ := ints_at KU.out.2.2 (k := 0) (by decide)
  obtain ⟨fD, gD, rfl, -⟩ := ints_at KD.out.2.1 (k := 0) (by decide)
  obtain ⟨pD, qD, rfl, -⟩ := ints_at KD.out.2.2 (k := 0) (by decide)
  obtain ⟨fG, gG, rfl, -⟩ := ints_at KG.out.2.1 (k := 0) (by decide)
  obtain ⟨pG, qG, rfl, -⟩ := ints_at KG.out.2.2 (k := 0) (by decide)
  obtain ⟨fS, gS, rfl, -⟩ := ints_at KS.out.2.1 (k := 0) (by decide)
  obtain ⟨pS, qS, rfl, -⟩ := ints_at KS.out.2.2 (k := 0) (by decide)
  obtain ⟨fL, gL, rfl, -⟩ := ints_at KL.out.2.1 (k := 0) (by decide)
  obtain ⟨pL, qL, rfl, -⟩ := ints_at KL.out.2.2 (k := 0) (by decide)
  obtain ⟨t0, t1⟩ := two_cell KT.out.1
  go_wp2_with fail
  have hc := has_at fT gT pT qT cT eT xTL xTH 103 50000 50000 _ (by decide) KT.out.2.1 KT.out.2.2 G.out.1.1 G.out.1.2
  unfold bdV at hc
  refine hc.mono ?_; clear hc; rintro e x10 ⟨rfl, hb⟩
  replace B := Lib.hid (B.out.trans (hb.mono B.out.size))
  replace KT := Lib.hid (KT.out.keep hb)
  replace KU := Lib.hid (KU.out.keep hb)
  replace KL := Lib.hid (KL.out.keep hb)
  replace KD := Lib.hid (KD.out.keep hb)
  replace KG := Lib.hid (KG.out.keep hb)
  replace KS := Lib.hid (KS.out.keep hb)
  clear hb
  clear t0 t1
  obtain ⟨u0, u1⟩ := two_cell KU.out.1
  go_wp2_with fail
  have hc := has_at fU gU pU qU cU eU xUL xUH 101 1 0 _ (by decide) KU.out.2.1 KU.out.2.2 G.out.2.1.1 G.out.2.1.2
  unfold bdV at hc
  refine hc.mono ?_; clear hc; rintro e x11 ⟨rfl, hb⟩
  replace B := Lib.hid (B.out.trans (hb.mono B.out.size))
  replace KT := Lib.hid (KT.out.keep hb)
  replace KU := Lib.hid (KU.out.keep hb)
  replace KL := Lib.hid (KL.out.keep hb)
  replace KD := Lib.hid (KD.out.keep hb)
  replace KG := Lib.hid (KG.out.keep hb)
  replace KS := Lib.hid (KS.out.keep hb)
  clear hb
  clear u0 u1
  obtain ⟨u0, u1⟩ := two_cell KU.out.1
  go_wp2_with fail
  have hc := has_at fU gU pU qU cU eU xUL xUH 100 50000 50000 _ (by decide) KU.out.2.1 KU.out.2.2 G.out.2.2.1.1 G.out.2.2.1.2
  unfold bdV at hc
  refine hc.mono ?_; clear hc; rintro e x12 ⟨rfl, hb⟩
  replace B := Lib.hid (B.out.trans (hb.mono B.out.size))
  replace KT := Lib.hid (KT.out.keep hb)
  replace KU := Lib.hid (KU.out.keep hb)
  replace KL := Lib.hid (KL.out.keep hb)
  replace KD := Lib.hid (KD.out.keep hb)
  replace KG := Lib.hid (KG.out.keep hb)
  replace KS := Lib.hid (KS.out.keep hb)
  clear hb
  clear u0 u1
  obtain ⟨u0, u1⟩ := two_cell KU.out.1
  go_wp2_with fail
  have hc := has_at fU gU pU qU cU eU xUL xUH 93 49993 49993 _ (by decide) KU.out.2.1 KU.out.2.2 G.out.2.2.2.1.1 G.out.2.2.2.1.2
  unfold bdV at hc
  refine hc.mono ?_; clear hc; rintro e x13 ⟨rfl, hb⟩
  replace B := Lib.hid (B.out.trans (hb.mono B.out.size))
  replace KT := Lib.hid (KT.out.keep hb)
  replace KU := Lib.hid (KU.out.keep hb)
  replace KL := Lib.hid (KL.out.keep hb)
  replace KD := Lib.hid (KD.out.keep hb)
  replace KG := Lib.hid (KG.out.keep hb)
  replace KS := Lib.hid (KS.out.keep hb)
  clear hb
  clear u0 u1
  obtain ⟨d0, d1⟩ := two_cell KD.out.1
  go_wp2_with fail
  have hc := has_at fD gD pD qD cD eD xDL xDH 0 1 0 _ (by decide) KD.out.2.1 KD.out.2.2 G.out.2.2.2.2.1.1 G.out.2.2.2.2.1.2
  unfold bdV at hc
  refine hc.mono ?_; clear hc; rintro e x14 ⟨rfl, hb⟩
  replace B := Lib.hid (B.out.trans (hb.mono B.out.size))
  replace KT := Lib.hid (KT.out.keep hb)
  replace KU := Lib.hid (KU.out.keep hb)
  replace KL := Lib.hid (KL.out.keep hb)
  replace KD := Lib.hid (KD.out.keep hb)
  replace KG := Lib.hid (KG.out.keep hb)
  replace KS := Lib.hid (KS.out.keep hb)
  clear hb
  clear d0 d1
  obtain ⟨d0, d1⟩ := two_cell KD.out.1
  go_wp2_with fail
  have hc := has_at fD gD pD qD cD eD xDL xDH 100 (-1000) (-944) _ (by decide) KD.out.2.1 KD.out.2.2 G.out.2.2.2.2.2.1 G.out.2.2.2.2.2.2
  unfold bdV at hc
  refine hc.mono ?_; clear hc; rintro e x15 ⟨rfl, hb⟩
  replace B := Lib.hid (B.out.trans (hb.mono B.out.size))
  replace KT := Lib.hid (KT.out.keep hb)
  replace KU := Lib.hid (KU.out.keep hb)
  replace KL := Lib.hid (KL.out.keep hb)
  replace KD := Lib.hid (KD.out.keep hb)
  replace KG := Lib.hid (KG.out.keep hb)
  replace KS := Lib.hid (KS.out.keep hb)
  clear hb
  clear d0 d1
  obtain ⟨g0, g1⟩ := two_cell KG.out.1
  obtain ⟨s0, s1⟩ := two_cell KS.out.1
  go_wp2_with fail
  have hc := equalBand_call (some ⟨fG, gG, none⟩) (some ⟨pG, qG, none⟩) (some ⟨fS, gS, none⟩) (some ⟨pS, qS, none⟩) 201 201 cG eG 201 201 cS eS xGL xGH xSL xSH _ KG.out.2.1 KG.out.2.2 KS.out.2.1 KS.out.2.2
  unfold bdV at hc
  refine hc.mono ?_; clear hc; rintro e x16 ⟨rfl, hb⟩
  rw [HS.out.1, HS.out.2, decide_eq_true (rfl : xGL = xGL), decide_eq_true (rfl : xGH = xGH)]
  replace B := Lib.hid (B.out.trans (hb.mono B.out.size))
  replace KT := Lib.hid (KT.out.keep hb)
  replace KU := Lib.hid (KU.out.keep hb)
  replace KL := Lib.hid (KL.out.keep hb)
  replace KD := Lib.hid (KD.out.keep hb)
  replace KG := Lib.hid (KG.out.keep hb)
  replace KS := Lib.hid (KS.out.keep hb)
  clear hb
  clear g0 g1 s0 s1
  clear KT KU KD KG KS
  obtain ⟨l0, l1⟩ := two_cell KL.out.1
  go_wp2_with fail
  have K := Lib.hid (show X1 w bL fL gL cL pL qL eL x16.heap.size (x16.alloc (.cells #[.int .i64 (-1001), .int .i64 25, .int .i64 50001, .int .i64 25, .int .i64 0, .int .i64 24, .int .i64 0, .int .i64 50, .int .i64 0, .int .i64 0] 61)) from ⟨B.out.alloc B.out.size _, KL.out.keep (below_alloc _ _), block_new _ _ rfl⟩)
  clear B KL l0 l1
  generalize x16.heap.size = lb at *
  go_loopw [181] (fun kv wr => ∃ k : Nat, k ≤ 5 ∧ kv = .int .i64 k ∧ X1 w bL fL gL cL pL qL eL lb wr) (fun kv _ => 5 - (intOf kv).toNat)
  case atStart => exact ⟨0, Nat.zero_le _, rfl, K.out⟩
  case round =>
    clear K
    obtain ⟨k, hk, rfl, hK⟩ := hrel
    have K := Lib.hid hK
    clear hK
    by_cases hlt : k < 5
    · have hk0 : (0 : Int) ≤ (k : Int) := by omega
      have hk1 : (k : Int) < 5 := by omega
      obtain ⟨X, Y, hx, hy, hE⟩ := lit_at K.out.2.2 hlt
      have HE := Lib.hid hE
      have q0 := World.block_lt_of_cell? wr _ hx
      clear hE
      go_wp2_with fail
      refine (pNew_call X Y _).mono ?_; rintro e z1 ⟨vL, vH, rfl, -, hN, hb⟩
      obtain ⟨rfl, rfl⟩ := hN (by rw [HE.out]; decide)
      rw [HE.out]
      have XY := Lib.hid (block_alloc (o' := .cells #[.slice none 0 0, .slice none 0 0] 24) (keepO hb (block_new wr (.cells #[.int .i64 X, .int .i64 Y] 61) rfl)))
      replace K := Lib.hid (((K.out.keep (below_alloc wr (.cells #[.int .i64 X, .int .i64 Y] 61))).keep hb).keep (below_alloc z1 (.cells #[.slice none 0 0, .slice none 0 0] 24)))
      clear hx hy hb hN q0
      obtain ⟨xb, hxb⟩ : ∃ b, wr.heap.size = b := ⟨_, rfl⟩
      rw [hxb] at XY
      obtain ⟨l0, l1⟩ := two_cell K.out.2.1.1
      obtain ⟨t0, t1⟩ := two_cell XY.out
      go_wp2_with fail
      clear hxb
      generalize z1.alloc (.cells #[.slice none 0 0, .slice none 0 0] 24) = z2 at *
      have hc := pMea_call (some ⟨fL, gL, none⟩) (some ⟨pL, qL, none⟩) 201 201 cL eL xLL xLH X Y _ K.out.2.1.2.1 K.out.2.1.2.2
      unfold bdV at hc
      refine hc.mono ?_; clear hc; rintro e z3 ⟨vL, vH, rfl, -, hN, hb⟩
      have hm : maE xLL xLH X Y = 1 := (maE_me F.out.2.2.2.2.2.2.2.1).trans HE.out
      obtain ⟨rfl, rfl⟩ := hN (by rw [hm]; decide)
      rw [hm]
      replace XY := Lib.hid (block_alloc (o' := .cells #[.slice none 0 0, .slice none 0 0] 24) (keepO hb XY.out))
      replace K := Lib.hid ((K.out.keep hb).keep (below_alloc z3 (.cells #[.slice none 0 0, .slice none 0 0] 24)))
      clear hm hb hN l0 l1 t0 t1
      obtain ⟨t0, t1⟩ := two_cell XY.out
      go_wp2_with fail
      generalize z3.alloc (.cells #[.slice none 0 0, .slice none 0 0] 24) = z4 at *
      have hc := pMea_call none none 0 0 0 0 [] [] X Y z4 (ints_nil _) (ints_nil _)
      unfold bdV at hc
      refine hc.mono ?_; clear hc; rintro e z5 ⟨vL, vH, rfl, -, hN, hb⟩
      have hm := maE_nil X Y
      obtain ⟨rfl, rfl⟩ := hN (by rw [hm]; decide)
      rw [hm]
      replace K := Lib.hid ((K.out.keep hb).keep (below_alloc z5 (.cells #[.slice none 0 0, .slice none 0 0] 24)))
      clear hm hb hN t0 t1 XY HE
      go_wp2_with fail
      go_roundw
      case rel => exact ⟨k + 1, by omega, by go_num, K.out⟩
      case measure => simp [intOf]; omega
    · obtain rfl : k = 5 := by omega
      go_wp2_with fail
      clear hlt hk
      go_loopw [29] (fun kv wr => ∃ k : Nat, k ≤ 5 ∧ kv = .int .i64 k ∧ X1 w bL fL gL cL pL qL eL lb wr) (fun kv _ => 5 - (intOf kv).toNat)
      case atStart => exact ⟨0, Nat.zero_le _, rfl, K.out⟩
      case round =>
        clear K
        obtain ⟨k, hk, rfl, hK⟩ := hrel
        have K := Lib.hid hK
        clear hK
        obtain ⟨l0, l1⟩ := two_cell K.out.2.1.1
        by_cases hlt : k < 5
        · have hks : k = 0 ∨ k = 1 ∨ k = 2 ∨ k = 3 ∨ k = 4 := by omega
          rcases hks with rfl | rfl | rfl | rfl | rfl
          · go_wp2_with fail
            have hc := copyBand_call (some ⟨fL, gL, none⟩) (some ⟨pL, qL, none⟩) 201 201 cL eL xLL xLH _ K.out.2.1.2.1 K.out.2.1.2.2 (by decide) (by decide)
            unfold bdV at hc
            refine hc.mono ?_; clear hc; rintro e z1 ⟨vL, vH, rfl, hT, hb⟩
            have hL := hT.L
            have hH := hT.H
            rw [HLn.out.1] at hL
            rw [HLn.out.2] at hH
            obtain ⟨g1, c1, cs1, rfl, hg1, hh1, hs1, hcap1, i1⟩ := own_open hL HLn.out.1 (by decide) (by decide)
            obtain ⟨g2, c2, cs2, rfl, hg2, hh2, hs2, hcap2, i2⟩ := own_open hH HLn.out.2 (by decide) (by decide)
            have hne : g1 ≠ g2 := fun e => hT.A g1 rfl (by rw [e]; rfl)
            have hl1 := lt_of_block hh1
            have hl2 := lt_of_block hh2
            have hB1 := hb.alloc hb.size (.cells #[.slice (some ⟨g1, 0, none⟩) 201 c1, .slice (some ⟨g2, 0, none⟩) 201 c2] 24)
            have hd1 : z1.heap.size < (z1.alloc (.cells #[.slice (some ⟨g1, 0, none⟩) 201 c1, .slice (some ⟨g2, 0, none⟩) 201 c2] 24)).heap.size := lt_of_block (block_new z1 (.cells #[.slice (some ⟨g1, 0, none⟩) 201 c1, .slice (some ⟨g2, 0, none⟩) 201 c2] 24) rfl)
            have hO := block_new z1 (.cells #[.slice (some ⟨g1, 0, none⟩) 201 c1, .slice (some ⟨g2, 0, none⟩) 201 c2] 24) rfl
            have j1 := block_alloc (o' := (.cells #[.slice (some ⟨g1, 0, none⟩) 201 c1, .slice (some ⟨g2, 0, none⟩) 201 c2] 24)) hh1
            have j2 := block_alloc (o' := (.cells #[.slice (some ⟨g1, 0, none⟩) 201 c1, .slice (some ⟨g2, 0, none⟩) 201 c2] 24)) hh2
            have i1' := i1.below (below_alloc z1 (.cells #[.slice (some ⟨g1, 0, none⟩) 201 c1, .slice (some ⟨g2, 0, none⟩) 201 c2] 24))
            have i2' := i2.below (below_alloc z1 (.cells #[.slice (some ⟨g1, 0, none⟩) 201 c1, .slice (some ⟨g2, 0, none⟩) 201 c2] 24))
            have hOn : Only g1 (z1.alloc (.cells #[.slice (some ⟨g1, 0, none⟩) 201 c1, .slice (some ⟨g2, 0, none⟩) 201 c2] 24)) ((z1.alloc (.cells #[.slice (some ⟨g1, 0, none⟩) 201 c1, .slice (some ⟨g2, 0, none⟩) 201 c2] 24)).setCell ⟨g1, 200, none⟩ (.int .i64 (-1001))) := (Only.refl _ _).setCell 200 _
            have hBad : BdA z1.heap.size (some ⟨g1, 0, none⟩) 201 c1 (some ⟨g2, 0, none⟩) 201 c2 (xLL.set 200 (-1001)) xLH ((z1.alloc (.cells #[.slice (some ⟨g1, 0, none⟩) 201 c1, .slice (some ⟨g2, 0, none⟩) 201 c2] 24)).setCell ⟨g1, 200, none⟩ (.int .i64 (-1001))) := ⟨hOn.keeps hO (by omega), ints_set i1' (by decide) j1 hs1, ints_besides i2' hOn (fun e => hne e.symm)⟩
            have u0 := ints_cell i1' (k := 200) (by decide)
            have u1 : (z1.alloc (.cells #[.slice (some ⟨g1, 0, none⟩) 201 c1, .slice (some ⟨g2, 0, none⟩) 201 c2] 24)).frozen? ⟨g1, 200, none⟩ = false := free_of_block j1
            have hB2 := (hB1.trans (hOn.below hg1 hB1.size))
            obtain ⟨o0, o1, of0, of1⟩ := two_facts hO
            have HKB := Lib.hid (And.intro (K.out.keep hB2) hBad)
            clear hT hL hH i1 i2 hb hB1 hB2 hBad hg1 hg2 hl1 hl2
            go_upto_region 39 with fail
            generalize ((z1.alloc (.cells #[.slice (some ⟨g1, 0, none⟩) 201 c1, .slice (some ⟨g2, 0, none⟩) 201 c2] 24)).setCell ⟨g1, 200, none⟩ (.int .i64 (-1001))) = z2 at *
            clear hO j1 j2 hh1 hh2 i1' i2' hd1 hne hs1 hs2 hcap1 hcap2 hOn u0 u1
            clear K l0 l1 o0 o1 of0 of1
            have K := HKB
            clear HKB
            generalize z1.heap.size = zb at *
            obtain ⟨o0, o1⟩ := two_cell K.out.2.1
            go_wp2_with fail
            have hc := pStep_call (some ⟨g1, 0, none⟩) (some ⟨g2, 0, none⟩) 201 201 c1 c2 (xLL.set 200 (-1001)) xLH (-1) _ K.out.2.2.1 K.out.2.2.2
            unfold bdV at hc
            refine hc.mono ?_; clear hc; rintro e z3 ⟨vL, vH, rfl, -, hN, hb⟩
            have hm : stE (xLL.set 200 (-1001)) xLH (-1) = 1 := (stE_ch (by rw [HB.out.1]; decide)).trans HB.out.1
            obtain ⟨rfl, rfl⟩ := hN (by rw [hm]; decide)
            rw [hm]
            replace K := Lib.hid (And.intro ((K.out.1.keep hb).keep (below_alloc z3 (.cells #[.slice none 0 0, .slice none 0 0] 24))) ((K.out.2.keep hb).keep (below_alloc z3 (.cells #[.slice none 0 0, .slice none 0 0] 24))))
            clear hm hb hN o0 o1
            obtain ⟨o0, o1⟩ := two_cell K.out.2.1
            go_wp2_with fail
            generalize z3.alloc (.cells #[.slice none 0 0, .slice none 0 0] 24) = z4 at *
            have hc := pCon_call (some ⟨g1, 0, none⟩) (some ⟨g2, 0, none⟩) 201 201 c1 c2 (xLL.set 200 (-1001)) xLH 0 0 _ K.out.2.2.1 K.out.2.2.2
            unfold bdV at hc
            refine hc.mono ?_; clear hc; rintro e z5 ⟨rfl, hb⟩
            rw [HB.out.1]
            generalize cnB (xLL.set 200 (-1001)) xLH 0 0 = bq at *
            replace K := Lib.hid (And.intro (K.out.1.keep hb) (K.out.2.keep hb))
            clear hb o0 o1
            obtain ⟨o0, o1⟩ := two_cell K.out.2.1
            go_wp2_with fail
            have hc := pCheck_call (some ⟨g1, 0, none⟩) (some ⟨g2, 0, none⟩) 201 201 c1 c2 (xLL.set 200 (-1001)) xLH _ K.out.2.2.1 K.out.2.2.2
            unfold bdV at hc
            refine hc.mono ?_; clear hc; rintro e z6 ⟨rfl, hb⟩
            rw [HB.out.1]
            replace K := Lib.hid (And.intro (K.out.1.keep hb) (K.out.2.keep hb))
            clear hb o0 o1
            go_wp2_with fail
            go_roundw
            case rel =>
              refine ⟨_, _, _, _, _, _, _, _, _, _, _, _, _, _, _, _, _, _, _, _, _, _, _, _, _, _, _, _, _, _, _, _, _, _, _, _, _, _, _, _, _, _, _, _, _, _, _, _, _, _, _, _, _, _, _, _, _, _, _, _, _, _, _, _, _, _, _, _, _, ⟨1, by decide, ?_, K.out.1⟩, rfl⟩
              go_num
            case measure => simp [intOf]
          · go_wp2_with fail
            have hc := copyBand_call (some ⟨fL, gL, none⟩) (some ⟨pL, qL, none⟩) 201 201 cL eL xLL xLH _ K.out.2.1.2.1 K.out.2.1.2.2 (by decide) (by decide)
            unfold bdV at hc
            refine hc.mono ?_; clear hc; rintro e z1 ⟨vL, vH, rfl, hT, hb⟩
            have hL := hT.L
            have hH := hT.H
            rw [HLn.out.1] at hL
            rw [HLn.out.2] at hH
            obtain ⟨g1, c1, cs1, rfl, hg1, hh1, hs1, hcap1, i1⟩ := own_open hL HLn.out.1 (by decide) (by decide)
            obtain ⟨g2, c2, cs2, rfl, hg2, hh2, hs2, hcap2, i2⟩ := own_open hH HLn.out.2 (by decide) (by decide)
            have hne : g1 ≠ g2 := fun e => hT.A g1 rfl (by rw [e]; rfl)
            have hl1 := lt_of_block hh1
            have hl2 := lt_of_block hh2
            have hB1 := hb.alloc hb.size (.cells #[.slice (some ⟨g1, 0, none⟩) 201 c1, .slice (some ⟨g2, 0, none⟩) 201 c2] 24)
            have hd1 : z1.heap.size < (z1.alloc (.cells #[.slice (some ⟨g1, 0, none⟩) 201 c1, .slice (some ⟨g2, 0, none⟩) 201 c2] 24)).heap.size := lt_of_block (block_new z1 (.cells #[.slice (some ⟨g1, 0, none⟩) 201 c1, .slice (some ⟨g2, 0, none⟩) 201 c2] 24) rfl)
            have hO := block_new z1 (.cells #[.slice (some ⟨g1, 0, none⟩) 201 c1, .slice (some ⟨g2, 0, none⟩) 201 c2] 24) rfl
            have j1 := block_alloc (o' := (.cells #[.slice (some ⟨g1, 0, none⟩) 201 c1, .slice (some ⟨g2, 0, none⟩) 201 c2] 24)) hh1
            have j2 := block_alloc (o' := (.cells #[.slice (some ⟨g1, 0, none⟩) 201 c1, .slice (some ⟨g2, 0, none⟩) 201 c2] 24)) hh2
            have i1' := i1.below (below_alloc z1 (.cells #[.slice (some ⟨g1, 0, none⟩) 201 c1, .slice (some ⟨g2, 0, none⟩) 201 c2] 24))
            have i2' := i2.below (below_alloc z1 (.cells #[.slice (some ⟨g1, 0, none⟩) 201 c1, .slice (some ⟨g2, 0, none⟩) 201 c2] 24))
            have hOn : Only g2 (z1.alloc (.cells #[.slice (some ⟨g1, 0, none⟩) 201 c1, .slice (some ⟨g2, 0, none⟩) 201 c2] 24)) ((z1.alloc (.cells #[.slice (some ⟨g1, 0, none⟩) 201 c1, .slice (some ⟨g2, 0, none⟩) 201 c2] 24)).setCell ⟨g2, 0, none⟩ (.int .i64 50001)) := (Only.refl _ _).setCell 0 _
            have hBad : BdA z1.heap.size (some ⟨g1, 0, none⟩) 201 c1 (some ⟨g2, 0, none⟩) 201 c2 xLL (xLH.set 0 50001) ((z1.alloc (.cells #[.slice (some ⟨g1, 0, none⟩) 201 c1, .slice (some ⟨g2, 0, none⟩) 201 c2] 24)).setCell ⟨g2, 0, none⟩ (.int .i64 50001)) := ⟨hOn.keeps hO (by omega), ints_besides i1' hOn hne, ints_set i2' (by decide) j2 hs2⟩
            have u0 := ints_cell i2' (k := 0) (by decide)
            have u1 : (z1.alloc (.cells #[.slice (some ⟨g1, 0, none⟩) 201 c1, .slice (some ⟨g2, 0, none⟩) 201 c2] 24)).frozen? ⟨g2, 0, none⟩ = false := free_of_block j2
            have hB2 := (hB1.trans (hOn.below hg2 hB1.size))
            obtain ⟨o0, o1, of0, of1⟩ := two_facts hO
            have HKB := Lib.hid (And.intro (K.out.keep hB2) hBad)
            clear hT hL hH i1 i2 hb hB1 hB2 hBad hg1 hg2 hl1 hl2
            go_upto_region 39 with fail
            generalize ((z1.alloc (.cells #[.slice (some ⟨g1, 0, none⟩) 201 c1, .slice (some ⟨g2, 0, none⟩) 201 c2] 24)).setCell ⟨g2, 0, none⟩ (.int .i64 50001)) = z2 at *
            clear hO j1 j2 hh1 hh2 i1' i2' hd1 hne hs1 hs2 hcap1 hcap2 hOn u0 u1
            clear K l0 l1 o0 o1 of0 of1
            have K := HKB
            clear HKB
            generalize z1.heap.size = zb at *
            obtain ⟨o0, o1⟩ := two_cell K.out.2.1
            go_wp2_with fail
            have hc := pStep_call (some ⟨g1, 0, none⟩) (some ⟨g2, 0, none⟩) 201 201 c1 c2 xLL (xLH.set 0 50001) (-1) _ K.out.2.2.1 K.out.2.2.2
            unfold bdV at hc
            refine hc.mono ?_; clear hc; rintro e z3 ⟨vL, vH, rfl, -, hN, hb⟩
            have hm : stE xLL (xLH.set 0 50001) (-1) = 1 := (stE_ch (by rw [HB.out.2.1]; decide)).trans HB.out.2.1
            obtain ⟨rfl, rfl⟩ := hN (by rw [hm]; decide)
            rw [hm]
            replace K := Lib.hid (And.intro ((K.out.1.keep hb).keep (below_alloc z3 (.cells #[.slice none 0 0, .slice none 0 0] 24))) ((K.out.2.keep hb).keep (below_alloc z3 (.cells #[.slice none 0 0, .slice none 0 0] 24))))
            clear hm hb hN o0 o1
            obtain ⟨o0, o1⟩ := two_cell K.out.2.1
            go_wp2_with fail
            generalize z3.alloc (.cells #[.slice none 0 0, .slice none 0 0] 24) = z4 at *
            have hc := pCon_call (some ⟨g1, 0, none⟩) (some ⟨g2, 0, none⟩) 201 201 c1 c2 xLL (xLH.set 0 50001) 0 0 _ K.out.2.2.1 K.out.2.2.2
            unfold bdV at hc
            refine hc.mono ?_; clear hc; rintro e z5 ⟨rfl, hb⟩
            rw [HB.out.2.1]
            generalize cnB xLL (xLH.set 0 50001) 0 0 = bq at *
            replace K := Lib.hid (And.intro (K.out.1.keep hb) (K.out.2.keep hb))
            clear hb o0 o1
            obtain ⟨o0, o1⟩ := two_cell K.out.2.1
            go_wp2_with fail
            have hc := pCheck_call (some ⟨g1, 0, none⟩) (some ⟨g2, 0, none⟩) 201 201 c1 c2 xLL (xLH.set 0 50001) _ K.out.2.2.1 K.out.2.2.2
            unfold bdV at hc
            refine hc.mono ?_; clear hc; rintro e z6 ⟨rfl, hb⟩
            rw [HB.out.2.1]
            replace K := Lib.hid (And.intro (K.out.1.keep hb) (K.out.2.keep hb))
            clear hb o0 o1
            go_wp2_with fail
            go_roundw
            case rel =>
              refine ⟨_, _, _, _, _, _, _, _, _, _, _, _, _, _, _, _, _, _, _, _, _, _, _, _, _, _, _, _, _, _, _, _, _, _, _, _, _, _, _, _, _, _, _, _, _, _, _, _, _, _, _, _, _, _, _, _, _, _, _, _, _, _, _, _, _, _, _, _, _, ⟨2, by decide, ?_, K.out.1⟩, rfl⟩
              go_num
            case measure => simp [intOf]
          · go_wp2_with fail
            have hc := copyBand_call (some ⟨fL, gL, none⟩) (some ⟨pL, qL, none⟩) 201 201 cL eL xLL xLH _ K.out.2.1.2.1 K.out.2.1.2.2 (by decide) (by decide)
            unfold bdV at hc
            refine hc.mono ?_; clear hc; rintro e z1 ⟨vL, vH, rfl, hT, hb⟩
            have hL := hT.L
            have hH := hT.H
            rw [HLn.out.1] at hL
            rw [HLn.out.2] at hH
            obtain ⟨g1, c1, cs1, rfl, hg1, hh1, hs1, hcap1, i1⟩ := own_open hL HLn.out.1 (by decide) (by decide)
            obtain ⟨g2, c2, cs2, rfl, hg2, hh2, hs2, hcap2, i2⟩ := own_open hH HLn.out.2 (by decide) (by decide)
            have hne : g1 ≠ g2 := fun e => hT.A g1 rfl (by rw [e]; rfl)
            have hl1 := lt_of_block hh1
            have hl2 := lt_of_block hh2
            have hB1 := hb.alloc hb.size (.cells #[.slice (some ⟨g1, 0, none⟩) 201 c1, .slice (some ⟨g2, 0, none⟩) 201 c2] 24)
            have hd1 : z1.heap.size < (z1.alloc (.cells #[.slice (some ⟨g1, 0, none⟩) 201 c1, .slice (some ⟨g2, 0, none⟩) 201 c2] 24)).heap.size := lt_of_block (block_new z1 (.cells #[.slice (some ⟨g1, 0, none⟩) 201 c1, .slice (some ⟨g2, 0, none⟩) 201 c2] 24) rfl)
            have hO := block_new z1 (.cells #[.slice (some ⟨g1, 0, none⟩) 201 c1, .slice (some ⟨g2, 0, none⟩) 201 c2] 24) rfl
            have j1 := block_alloc (o' := (.cells #[.slice (some ⟨g1, 0, none⟩) 201 c1, .slice (some ⟨g2, 0, none⟩) 201 c2] 24)) hh1
            have j2 := block_alloc (o' := (.cells #[.slice (some ⟨g1, 0, none⟩) 201 c1, .slice (some ⟨g2, 0, none⟩) 201 c2] 24)) hh2
            have i1' := i1.below (below_alloc z1 (.cells #[.slice (some ⟨g1, 0, none⟩) 201 c1, .slice (some ⟨g2, 0, none⟩) 201 c2] 24))
            have i2' := i2.below (below_alloc z1 (.cells #[.slice (some ⟨g1, 0, none⟩) 201 c1, .slice (some ⟨g2, 0, none⟩) 201 c2] 24))
            have hOn1 : Only g1 (z1.alloc (.cells #[.slice (some ⟨g1, 0, none⟩) 201 c1, .slice (some ⟨g2, 0, none⟩) 201 c2] 24)) ((z1.alloc (.cells #[.slice (some ⟨g1, 0, none⟩) 201 c1, .slice (some ⟨g2, 0, none⟩) 201 c2] 24)).setCell ⟨g1, 7, none⟩ (.int .i64 5)) := (Only.refl _ _).setCell 7 _
            have hOn2 : Only g2 ((z1.alloc (.cells #[.slice (some ⟨g1, 0, none⟩) 201 c1, .slice (some ⟨g2, 0, none⟩) 201 c2] 24)).setCell ⟨g1, 7, none⟩ (.int .i64 5)) (((z1.alloc (.cells #[.slice (some ⟨g1, 0, none⟩) 201 c1, .slice (some ⟨g2, 0, none⟩) 201 c2] 24)).setCell ⟨g1, 7, none⟩ (.int .i64 5)).setCell ⟨g2, 7, none⟩ (.int .i64 4)) := (Only.refl _ _).setCell 7 _
            have hBad : BdA z1.heap.size (some ⟨g1, 0, none⟩) 201 c1 (some ⟨g2, 0, none⟩) 201 c2 (xLL.set 7 5) (xLH.set 7 4) (((z1.alloc (.cells #[.slice (some ⟨g1, 0, none⟩) 201 c1, .slice (some ⟨g2, 0, none⟩) 201 c2] 24)).setCell ⟨g1, 7, none⟩ (.int .i64 5)).setCell ⟨g2, 7, none⟩ (.int .i64 4)) := ⟨hOn2.keeps (hOn1.keeps hO (by omega)) (by omega), ints_besides (ints_set i1' (by decide) j1 hs1) hOn2 hne, ints_set (ints_besides i2' hOn1 (fun e => hne e.symm)) (by decide) (hOn1.keeps j2 (fun e => hne e.symm)) hs2⟩
            have u0 := ints_cell i1' (k := 7) (by decide)
            have u1 : (z1.alloc (.cells #[.slice (some ⟨g1, 0, none⟩) 201 c1, .slice (some ⟨g2, 0, none⟩) 201 c2] 24)).frozen? ⟨g1, 7, none⟩ = false := free_of_block j1
            have u2 := ints_cell i2' (k := 7) (by decide)
            have u3 : (z1.alloc (.cells #[.slice (some ⟨g1, 0, none⟩) 201 c1, .slice (some ⟨g2, 0, none⟩) 201 c2] 24)).frozen? ⟨g2, 7, none⟩ = false := free_of_block j2
            have hB2 := (hB1.trans ((hOn1.below hg1 hB1.size).trans (hOn2.below hg2 (Nat.le_trans hB1.size hOn1.size))))
            obtain ⟨o0, o1, of0, of1⟩ := two_facts hO
            have HKB := Lib.hid (And.intro (K.out.keep hB2) hBad)
            clear hT hL hH i1 i2 hb hB1 hB2 hBad hg1 hg2 hl1 hl2
            go_upto_region 36 with fail
            go_region
            all_goals
              go_upto_region 39 with fail
            replace HKB := Lib.hid (And.intro (HKB.out.1.keep (Below.refl _ _).drew) (HKB.out.2.keep (Below.refl _ _).drew))
            generalize (((z1.alloc (.cells #[.slice (some ⟨g1, 0, none⟩) 201 c1, .slice (some ⟨g2, 0, none⟩) 201 c2] 24)).setCell ⟨g1, 7, none⟩ (.int .i64 5)).setCell ⟨g2, 7, none⟩ (.int .i64 4)).drew = z2 at *
            clear hO j1 j2 hh1 hh2 i1' i2' hd1 hne hs1 hs2 hcap1 hcap2 hOn1 hOn2 u0 u1 u2 u3
            clear K l0 l1 o0 o1 of0 of1
            have K := HKB
            clear HKB
            generalize z1.heap.size = zb at *
            obtain ⟨o0, o1⟩ := two_cell K.out.2.1
            go_wp2_with fail
            have hc := pStep_call (some ⟨g1, 0, none⟩) (some ⟨g2, 0, none⟩) 201 201 c1 c2 (xLL.set 7 5) (xLH.set 7 4) (-1) _ K.out.2.2.1 K.out.2.2.2
            unfold bdV at hc
            refine hc.mono ?_; clear hc; rintro e z3 ⟨vL, vH, rfl, -, hN, hb⟩
            have hm : stE (xLL.set 7 5) (xLH.set 7 4) (-1) = 1 := (stE_ch (by rw [HB.out.2.2.1]; decide)).trans HB.out.2.2.1
            obtain ⟨rfl, rfl⟩ := hN (by rw [hm]; decide)
            rw [hm]
            replace K := Lib.hid (And.intro ((K.out.1.keep hb).keep (below_alloc z3 (.cells #[.slice none 0 0, .slice none 0 0] 24))) ((K.out.2.keep hb).keep (below_alloc z3 (.cells #[.slice none 0 0, .slice none 0 0] 24))))
            clear hm hb hN o0 o1
            obtain ⟨o0, o1⟩ := two_cell K.out.2.1
            go_wp2_with fail
            generalize z3.alloc (.cells #[.slice none 0 0, .slice none 0 0] 24) = z4 at *
            have hc := pCon_call (some ⟨g1, 0, none⟩) (some ⟨g2, 0, none⟩) 201 201 c1 c2 (xLL.set 7 5) (xLH.set 7 4) 0 0 _ K.out.2.2.1 K.out.2.2.2
            unfold bdV at hc
            refine hc.mono ?_; clear hc; rintro e z5 ⟨rfl, hb⟩
            rw [HB.out.2.2.1]
            generalize cnB (xLL.set 7 5) (xLH.set 7 4) 0 0 = bq at *
            replace K := Lib.hid (And.intro (K.out.1.keep hb) (K.out.2.keep hb))
            clear hb o0 o1
            obtain ⟨o0, o1⟩ := two_cell K.out.2.1
            go_wp2_with fail
            have hc := pCheck_call (some ⟨g1, 0, none⟩) (some ⟨g2, 0, none⟩) 201 201 c1 c2 (xLL.set 7 5) (xLH.set 7 4) _ K.out.2.2.1 K.out.2.2.2
            unfold bdV at hc
            refine hc.mono ?_; clear hc; rintro e z6 ⟨rfl, hb⟩
            rw [HB.out.2.2.1]
            replace K := Lib.hid (And.intro (K.out.1.keep hb) (K.out.2.keep hb))
            clear hb o0 o1
            go_wp2_with fail
            go_roundw
            case rel =>
              refine ⟨_, _, _, _, _, _, _, _, _, _, _, _, _, _, _, _, _, _, _, _, _, _, _, _, _, _, _, _, _, _, _, _, _, _, _, _, _, _, _, _, _, _, _, _, _, _, _, _, _, _, _, _, _, _, _, _, _, _, _, _, _, _, _, _, _, _, _, _, _, ⟨3, by decide, ?_, K.out.1⟩, rfl⟩
              go_num
            case measure => simp [intOf]
          · go_wp2_with fail
            have hc := copyBand_call (some ⟨fL, gL, none⟩) (some ⟨pL, qL, none⟩) 201 201 cL eL xLL xLH _ K.out.2.1.2.1 K.out.2.1.2.2 (by decide) (by decide)
            unfold bdV at hc
            refine hc.mono ?_; clear hc; rintro e z1 ⟨vL, vH, rfl, hT, hb⟩
            have hL := hT.L
            have hH := hT.H
            rw [HLn.out.1] at hL
            rw [HLn.out.2] at hH
            obtain ⟨g1, c1, cs1, rfl, hg1, hh1, hs1, hcap1, i1⟩ := own_open hL HLn.out.1 (by decide) (by decide)
            obtain ⟨g2, c2, cs2, rfl, hg2, hh2, hs2, hcap2, i2⟩ := own_open hH HLn.out.2 (by decide) (by decide)
            have hne : g1 ≠ g2 := fun e => hT.A g1 rfl (by rw [e]; rfl)
            have hl1 := lt_of_block hh1
            have hl2 := lt_of_block hh2
            have hB1 := hb.alloc hb.size (.cells #[.slice (some ⟨g1, 0, none⟩) 201 c1, .slice (some ⟨g2, 0, none⟩) 201 c2] 24)
            have hd1 : z1.heap.size < (z1.alloc (.cells #[.slice (some ⟨g1, 0, none⟩) 201 c1, .slice (some ⟨g2, 0, none⟩) 201 c2] 24)).heap.size := lt_of_block (block_new z1 (.cells #[.slice (some ⟨g1, 0, none⟩) 201 c1, .slice (some ⟨g2, 0, none⟩) 201 c2] 24) rfl)
            have hO := block_new z1 (.cells #[.slice (some ⟨g1, 0, none⟩) 201 c1, .slice (some ⟨g2, 0, none⟩) 201 c2] 24) rfl
            have j1 := block_alloc (o' := (.cells #[.slice (some ⟨g1, 0, none⟩) 201 c1, .slice (some ⟨g2, 0, none⟩) 201 c2] 24)) hh1
            have j2 := block_alloc (o' := (.cells #[.slice (some ⟨g1, 0, none⟩) 201 c1, .slice (some ⟨g2, 0, none⟩) 201 c2] 24)) hh2
            have i1' := i1.below (below_alloc z1 (.cells #[.slice (some ⟨g1, 0, none⟩) 201 c1, .slice (some ⟨g2, 0, none⟩) 201 c2] 24))
            have i2' := i2.below (below_alloc z1 (.cells #[.slice (some ⟨g1, 0, none⟩) 201 c1, .slice (some ⟨g2, 0, none⟩) 201 c2] 24))
            have hBad : BdA z1.heap.size (some ⟨g1, 1, none⟩) 200 (c1 - 1) (some ⟨g2, 0, none⟩) 201 c2 xLL.tail xLH (z1.alloc (.cells #[.slice (some ⟨g1, 1, none⟩) 200 (c1 - 1), .slice (some ⟨g2, 0, none⟩) 201 c2] 24)) := ⟨block_new _ _ rfl, (ints_tail i1).below (below_alloc _ _), i2.below (below_alloc _ _)⟩
            have hB2 := hb.alloc hb.size (.cells #[.slice (some ⟨g1, 1, none⟩) 200 (c1 - 1), .slice (some ⟨g2, 0, none⟩) 201 c2] 24)
            obtain ⟨o0, o1, of0, of1⟩ := two_facts hO
            have HKB := Lib.hid (And.intro (K.out.keep hB2) hBad)
            clear hT hL hH i1 i2 hb hB1 hB2 hBad hg1 hg2 hl1 hl2
            go_upto_region 39 with fail
            generalize (z1.alloc (.cells #[.slice (some ⟨g1, 1, none⟩) 200 (c1 - 1), .slice (some ⟨g2, 0, none⟩) 201 c2] 24)) = z2 at *
            clear hO j1 j2 hh1 hh2 i1' i2' hd1 hne hs1 hs2 hcap1 hcap2 
            clear K l0 l1 o0 o1 of0 of1
            have K := HKB
            clear HKB
            generalize z1.heap.size = zb at *
            obtain ⟨o0, o1⟩ := two_cell K.out.2.1
            go_wp2_with fail
            have hc := pStep_call (some ⟨g1, 1, none⟩) (some ⟨g2, 0, none⟩) 200 201 (c1 - 1) c2 xLL.tail xLH (-1) _ K.out.2.2.1 K.out.2.2.2
            unfold bdV at hc
            refine hc.mono ?_; clear hc; rintro e z3 ⟨vL, vH, rfl, -, hN, hb⟩
            have hm : stE xLL.tail xLH (-1) = 2 := (stE_ch (by rw [HB.out.2.2.2.1]; decide)).trans HB.out.2.2.2.1
            obtain ⟨rfl, rfl⟩ := hN (by rw [hm]; decide)
            rw [hm]
            replace K := Lib.hid (And.intro ((K.out.1.keep hb).keep (below_alloc z3 (.cells #[.slice none 0 0, .slice none 0 0] 24))) ((K.out.2.keep hb).keep (below_alloc z3 (.cells #[.slice none 0 0, .slice none 0 0] 24))))
            clear hm hb hN o0 o1
            obtain ⟨o0, o1⟩ := two_cell K.out.2.1
            go_wp2_with fail
            generalize z3.alloc (.cells #[.slice none 0 0, .slice none 0 0] 24) = z4 at *
            have hc := pCon_call (some ⟨g1, 1, none⟩) (some ⟨g2, 0, none⟩) 200 201 (c1 - 1) c2 xLL.tail xLH 0 0 _ K.out.2.2.1 K.out.2.2.2
            unfold bdV at hc
            refine hc.mono ?_; clear hc; rintro e z5 ⟨rfl, hb⟩
            rw [HB.out.2.2.2.1]
            generalize cnB xLL.tail xLH 0 0 = bq at *
            replace K := Lib.hid (And.intro (K.out.1.keep hb) (K.out.2.keep hb))
            clear hb o0 o1
            obtain ⟨o0, o1⟩ := two_cell K.out.2.1
            go_wp2_with fail
            have hc := pCheck_call (some ⟨g1, 1, none⟩) (some ⟨g2, 0, none⟩) 200 201 (c1 - 1) c2 xLL.tail xLH _ K.out.2.2.1 K.out.2.2.2
            unfold bdV at hc
            refine hc.mono ?_; clear hc; rintro e z6 ⟨rfl, hb⟩
            rw [HB.out.2.2.2.1]
            replace K := Lib.hid (And.intro (K.out.1.keep hb) (K.out.2.keep hb))
            clear hb o0 o1
            go_wp2_with fail
            go_roundw
            case rel =>
              refine ⟨_, _, _, _, _, _, _, _, _, _, _, _, _, _, _, _, _, _, _, _, _, _, _, _, _, _, _, _, _, _, _, _, _, _, _, _, _, _, _, _, _, _, _, _, _, _, _, _, _, _, _, _, _, _, _, _, _, _, _, _, _, _, _, _, _, _, _, _, _, ⟨4, by decide, ?_, K.out.1⟩, rfl⟩
              go_num
            case measure => simp [intOf]
          · go_wp2_with fail
            have hc := copyBand_call (some ⟨fL, gL, none⟩) (some ⟨pL, qL, none⟩) 201 201 cL eL xLL xLH _ K.out.2.1.2.1 K.out.2.1.2.2 (by decide) (by decide)
            unfold bdV at hc
            refine hc.mono ?_; clear hc; rintro e z1 ⟨vL, vH, rfl, hT, hb⟩
            have hL := hT.L
            have hH := hT.H
            rw [HLn.out.1] at hL
            rw [HLn.out.2] at hH
            obtain ⟨g1, c1, cs1, rfl, hg1, hh1, hs1, hcap1, i1⟩ := own_open hL HLn.out.1 (by decide) (by decide)
            obtain ⟨g2, c2, cs2, rfl, hg2, hh2, hs2, hcap2, i2⟩ := own_open hH HLn.out.2 (by decide) (by decide)
            have hne : g1 ≠ g2 := fun e => hT.A g1 rfl (by rw [e]; rfl)
            have hl1 := lt_of_block hh1
            have hl2 := lt_of_block hh2
            have hB1 := hb.alloc hb.size (.cells #[.slice (some ⟨g1, 0, none⟩) 201 c1, .slice (some ⟨g2, 0, none⟩) 201 c2] 24)
            have hd1 : z1.heap.size < (z1.alloc (.cells #[.slice (some ⟨g1, 0, none⟩) 201 c1, .slice (some ⟨g2, 0, none⟩) 201 c2] 24)).heap.size := lt_of_block (block_new z1 (.cells #[.slice (some ⟨g1, 0, none⟩) 201 c1, .slice (some ⟨g2, 0, none⟩) 201 c2] 24) rfl)
            have hO := block_new z1 (.cells #[.slice (some ⟨g1, 0, none⟩) 201 c1, .slice (some ⟨g2, 0, none⟩) 201 c2] 24) rfl
            have j1 := block_alloc (o' := (.cells #[.slice (some ⟨g1, 0, none⟩) 201 c1, .slice (some ⟨g2, 0, none⟩) 201 c2] 24)) hh1
            have j2 := block_alloc (o' := (.cells #[.slice (some ⟨g1, 0, none⟩) 201 c1, .slice (some ⟨g2, 0, none⟩) 201 c2] 24)) hh2
            have i1' := i1.below (below_alloc z1 (.cells #[.slice (some ⟨g1, 0, none⟩) 201 c1, .slice (some ⟨g2, 0, none⟩) 201 c2] 24))
            have i2' := i2.below (below_alloc z1 (.cells #[.slice (some ⟨g1, 0, none⟩) 201 c1, .slice (some ⟨g2, 0, none⟩) 201 c2] 24))
            have hH2 := (hH.alloc (.cells #[.slice (some ⟨g1, 0, none⟩) 201 c1, .slice (some ⟨g2, 0, none⟩) 201 c2] 24)).alloc (.cells #[.int .i64 0] 3)
            obtain ⟨o0, o1, of0, of1⟩ := two_facts hO
            have HZ := Lib.hid (And.intro (And.intro hO i1') (And.intro hB1 (And.intro hH2 (And.intro (show g1 ≠ g2 from hne) (And.intro hl1 hl2)))))
            have HBB := Lib.hid hb
            clear hT hL hH i1 i2 hb hh1 hh2 j1 j2 i1' i2' hd1 hs1 hs2 hcap1 hcap2 hO hB1 hg1 hg2 hH2 hne hl1 hl2
            go_upto_region 39 with (at_builtin; refine wpList_append_own _ rfl _ _ 22 rfl wr.heap.size 3 i0 _ 1 8 Try.underlying22 HI.out.1 HI.out.2.1 HI.out.2.2.1 HI.out.2.2.2 rfl (by decide) _ 201 _ rfl HZ.out.2.2.1 ⟨z1.heap.size + 1, 0, none⟩ 1 1 [.int .i64 0] rfl rfl ?c1 ?c2 ?c3 ?c4 ?c5 ?_; rotate_right; intro v7 w7 hown7 hgrow _; have hO7 : w7.heap[z1.heap.size]? = some (.cells #[.slice (some ⟨g1, 0, none⟩) 201 c1, .slice (some ⟨g2, 0, none⟩) 201 c2] 24 (0, 0)) := (hgrow.block _ (lt_of_block (block_alloc HZ.out.1.1)) (fun e => by have e' : z1.heap.size = g2 := Option.some.inj e; have hl := HZ.out.2.2.2.2.2; omega)).trans (block_alloc HZ.out.1.1); obtain ⟨s0, s1, t0, t1⟩ := two_facts hO7; have hgB := grownB HZ.out.2.2.1 hgrow (Nat.le_refl _) (Nat.le_trans HZ.out.2.1.size (below_alloc _ _).size); have i17 := row_off HZ.out.1.2 (below_alloc _ (.cells #[.int .i64 0] 3)) hgrow (fun e => HZ.out.2.2.2.1 (Option.some.inj e)); obtain ⟨g3, c3, cs3, rfl, hg3, hh3, hs3, hcap3, i3⟩ := own_open (l := xLH ++ [0]) (n := 202) (by rw [flatI_snoc]; exact hown7) (by rw [List.length_append, HLn.out.2]; rfl) (by decide) (by decide); have HG := Lib.hid (And.intro (And.intro hO7 hgB) (And.intro i17 (And.intro hh3 i3))); clear hO7 hgB i17 hh3 i3 hown7 hgrow hs3 hcap3 hg3)
            case c1 => exact cells_one (by simp)
            case c2 => intro u hu; simp at hu; subst hu; rfl
            case c3 => decide
            case c4 => decide
            case c5 => exact Nat.le_trans HZ.out.2.1.size (below_alloc _ _).size
            have hn3 : g3 ≠ z1.heap.size := fun e => by have h1 := HG.out.2.2.1; rw [e, HG.out.1.1] at h1; simp at h1
            have hOn : Only z1.heap.size w7 (w7.setCell ⟨z1.heap.size, 1, none⟩ (.slice (some ⟨g3, 0, none⟩) 202 c3)) := (Only.refl _ _).setCell 1 _
            have hBad : BdA z1.heap.size (some ⟨g1, 0, none⟩) 201 c1 (some ⟨g3, 0, none⟩) 202 c3 xLL (xLH ++ [0]) (w7.setCell ⟨z1.heap.size, 1, none⟩ (.slice (some ⟨g3, 0, none⟩) 202 c3)) := ⟨by simpa using block_setCell (i := 1) (v := .slice (some ⟨g3, 0, none⟩) 202 c3) HG.out.1.1, ints_besides HG.out.2.1 hOn (by have := HZ.out.2.2.2.2.1; omega), ints_besides HG.out.2.2.2 hOn hn3⟩
            have hB2 := ((HZ.out.2.1.trans (below_alloc _ (.cells #[.int .i64 0] 3) |>.mono HZ.out.2.1.size)).trans HG.out.1.2).trans (hOn.below HBB.out.size (Nat.le_trans (Nat.le_trans HZ.out.2.1.size (below_alloc _ (.cells #[.int .i64 0] 3)).size) HG.out.1.2.size))
            have HKB := Lib.hid (And.intro (K.out.keep hB2) hBad)
            clear hBad hB2 hOn hn3 HG HZ HBB s0 s1 t0 t1
            generalize (w7.setCell ⟨z1.heap.size, 1, none⟩ (.slice (some ⟨g3, 0, none⟩) 202 c3)) = z2 at *
            clear K l0 l1 o0 o1 of0 of1
            have K := HKB
            clear HKB
            generalize z1.heap.size = zb at *
            obtain ⟨o0, o1⟩ := two_cell K.out.2.1
            go_wp2_with fail
            have hc := pStep_call (some ⟨g1, 0, none⟩) (some ⟨g3, 0, none⟩) 201 202 c1 c3 xLL (xLH ++ [0]) (-1) _ K.out.2.2.1 K.out.2.2.2
            unfold bdV at hc
            refine hc.mono ?_; clear hc; rintro e z3 ⟨vL, vH, rfl, -, hN, hb⟩
            have hm : stE xLL (xLH ++ [0]) (-1) = 2 := (stE_ch (by rw [HB.out.2.2.2.2]; decide)).trans HB.out.2.2.2.2
            obtain ⟨rfl, rfl⟩ := hN (by rw [hm]; decide)
            rw [hm]
            replace K := Lib.hid (And.intro ((K.out.1.keep hb).keep (below_alloc z3 (.cells #[.slice none 0 0, .slice none 0 0] 24))) ((K.out.2.keep hb).keep (below_alloc z3 (.cells #[.slice none 0 0, .slice none 0 0] 24))))
            clear hm hb hN o0 o1
            obtain ⟨o0, o1⟩ := two_cell K.out.2.1
            go_wp2_with fail
            generalize z3.alloc (.cells #[.slice none 0 0, .slice none 0 0] 24) = z4 at *
            have hc := pCon_call (some ⟨g1, 0, none⟩) (some ⟨g3, 0, none⟩) 201 202 c1 c3 xLL (xLH ++ [0]) 0 0 _ K.out.2.2.1 K.out.2.2.2
            unfold bdV at hc
            refine hc.mono ?_; clear hc; rintro e z5 ⟨rfl, hb⟩
            rw [HB.out.2.2.2.2]
            generalize cnB xLL (xLH ++ [0]) 0 0 = bq at *
            replace K := Lib.hid (And.intro (K.out.1.keep hb) (K.out.2.keep hb))
            clear hb o0 o1
            obtain ⟨o0, o1⟩ := two_cell K.out.2.1
            go_wp2_with fail
            have hc := pCheck_call (some ⟨g1, 0, none⟩) (some ⟨g3, 0, none⟩) 201 202 c1 c3 xLL (xLH ++ [0]) _ K.out.2.2.1 K.out.2.2.2
            unfold bdV at hc
            refine hc.mono ?_; clear hc; rintro e z6 ⟨rfl, hb⟩
            rw [HB.out.2.2.2.2]
            replace K := Lib.hid (And.intro (K.out.1.keep hb) (K.out.2.keep hb))
            clear hb o0 o1
            go_wp2_with fail
            go_roundw
            case rel =>
              refine ⟨_, _, _, _, _, _, _, _, _, _, _, _, _, _, _, _, _, _, _, _, _, _, _, _, _, _, _, _, _, _, _, _, _, _, _, _, _, _, _, _, _, _, _, _, _, _, _, _, _, _, _, _, _, _, _, _, _, _, _, _, _, _, _, _, _, _, _, _, _, ⟨5, by decide, ?_, K.out.1⟩, rfl⟩
              go_num
            case measure => simp [intOf]
        · obtain rfl : k = 5 := by omega
          go_wp2_with fail
          have hc := pStep_call (some ⟨fL, gL, none⟩) (some ⟨pL, qL, none⟩) 201 201 cL eL xLL xLH (-1) _ K.out.2.1.2.1 K.out.2.1.2.2
          unfold bdV at hc
          refine hc.mono ?_; clear hc; rintro e z3 ⟨vL, vH, rfl, -, hN, hb⟩
          obtain ⟨rfl, rfl⟩ := hN (by rw [F.out.2.2.2.2.2.2.2.2.2.1]; decide)
          rw [F.out.2.2.2.2.2.2.2.2.2.1]
          replace K := Lib.hid ((K.out.keep hb).keep (below_alloc z3 (.cells #[.slice none 0 0, .slice none 0 0] 24)))
          clear hb hN l0 l1
          obtain ⟨l0, l1⟩ := two_cell K.out.2.1.1
          go_wp2_with fail
          generalize z3.alloc (.cells #[.slice none 0 0, .slice none 0 0] 24) = z4 at *
          have hc := pStep_call (some ⟨fL, gL, none⟩) (some ⟨pL, qL, none⟩) 201 201 cL eL xLL xLH 33 _ K.out.2.1.2.1 K.out.2.1.2.2
          unfold bdV at hc
          refine hc.mono ?_; clear hc; rintro e z5 ⟨vL, vH, rfl, -, hN, hb⟩
          obtain ⟨rfl, rfl⟩ := hN (by rw [F.out.2.2.2.2.2.2.2.2.2.2]; decide)
          rw [F.out.2.2.2.2.2.2.2.2.2.2]
          replace K := Lib.hid ((K.out.keep hb).keep (below_alloc z5 (.cells #[.slice none 0 0, .slice none 0 0] 24)))
          clear hb hN l0 l1
          go_wp2_with fail
          go_ret
          exact bPost_of rfl K.out.1
end Go.Proofs.Ytojjhkahigdkoaa
