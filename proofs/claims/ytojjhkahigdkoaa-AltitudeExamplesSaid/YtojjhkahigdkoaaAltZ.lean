/-
  Layer 18 (altitude): the law Matches.
-/
import Derived.Test.YtojjhkahigdkoaaAltX
import Derived.Test.YtojjhkahigdkoaaAltY
import Derived.Test.YtojjhkahigdkoaaAltF
import Derived.Test.YtojjhkahigdkoaaHeldBy
namespace Go.Proofs.Ytojjhkahigdkoaa
open Go.RowKit AltMath MyHeap MyCopy MyOwn

/-- A list, or none where there is an error. -/
def eL (E : Int) (l : List Int) : List Int := if E = 0 then l else []
def eN (E : Int) : Nat := if E = 0 then 201 else 0
theorem eN_le (E : Int) : eN E ≤ 201 := by unfold eN; split <;> omega
theorem eL_len {E : Int} {l : List Int} (h : l.length = 201) : (eL E l).length = eN E := by unfold eL eN; split <;> simp [h]
theorem bo_two {E : Int} {lo hi : List Int} {w w' : World} {e : Ending} (h : BOPost E lo hi w e w') (h1 : lo.length = 201) (h2 : hi.length = 201) :
    ∃ aL cL aH cH, e = .returned (.tuple #[.agg #[.slice aL (eN E) cL, .slice aH (eN E) cH], .int .i64 E]) ∧ TwoOwn w.heap.size (.slice aL (eN E) cL) (.slice aH (eN E) cH) (eL E lo) (eL E hi) w' ∧ Ints w' aL (eN E) (eL E lo) ∧ Ints w' aH (eN E) (eL E hi) ∧ Below w.heap.size w w' := by
  obtain ⟨vL, vH, rfl, hT, hN, hb⟩ := h
  by_cases h0 : E = 0
  · have hT' := hT h0
    obtain ⟨a, c, b, d, rfl, rfl, i1, i2⟩ := two_ints hT' h1 h2 (by omega) (by omega)
    subst h0
    exact ⟨a, c, b, d, rfl, hT', i1, i2, hb⟩
  · obtain ⟨rfl, rfl⟩ := hN h0
    have e1 : eN E = 0 := if_neg h0
    have e2 : ∀ l, eL E l = [] := fun l => if_neg h0
    rw [e1, e2, e2]
    exact ⟨none, 0, none, 0, rfl, TwoOwn.nil _ _, ⟨rfl, by omega, Or.inl rfl⟩, ⟨rfl, by omega, Or.inl rfl⟩, hb⟩
/-- A band in a block. -/
def BdA (b : Nat) (aL : Option Addr) (nL cL : Nat) (aH : Option Addr) (nH cH : Nat) (lo hi : List Int) (W : World) : Prop := W.heap[b]? = some (.cells #[.slice aL nL cL, .slice aH nH cH] 24 (0, 0)) ∧ Ints W aL nL lo ∧ Ints W aH nH hi
theorem BdA.keep {b : Nat} {aL : Option Addr} {nL cL : Nat} {aH : Option Addr} {nH cH : Nat} {lo hi : List Int} {W W' : World} (h : BdA b aL nL cL aH nH cH lo hi W) (hb : Below W.heap.size W W') : BdA b aL nL cL aH nH cH lo hi W' := ⟨keepO hb h.1, h.2.1.below hb, h.2.2.below hb⟩
theorem BdA.new {aL : Option Addr} {nL cL : Nat} {aH : Option Addr} {nH cH : Nat} {lo hi : List Int} {W : World} (hL : Ints W aL nL lo) (hH : Ints W aH nH hi) : BdA W.heap.size aL nL cL aH nH cH lo hi (W.alloc (.cells #[.slice aL nL cL, .slice aH nH cH] 24)) := ⟨block_new _ _ rfl, hL.below (below_alloc _ _), hH.below (below_alloc _ _)⟩
theorem BdA.off {b : Nat} {aL : Option Addr} {nL cL : Nat} {aH : Option Addr} {nH cH : Nat} {lo hi : List Int} {W0 W W' : World} (h0 : BdA b aL nL cL aH nH cH lo hi W0) (h : Below W0.heap.size W0 W) (hb : Below W0.heap.size W W') : BdA b aL nL cL aH nH cH lo hi W' := h0.keep (h.trans hb)
theorem grown_below {W W' : World} {row : Option Nat} {B : Nat} (hg : W.grownBy W' row) (hr : ∀ g, row = some g → B ≤ g) (hB : B ≤ W.heap.size) : Below B W W' := ⟨hg.os, hg.tape, hg.output, hg.size, fun k hk => hg.block k (Nat.lt_of_lt_of_le hk hB) (fun e => by have := hr k e.symm; omega)⟩
theorem Only2.below {base : Nat} {vL vH : Value} {lo hi : List Int} {W W' : World} (h : Only2 vL vH W W') (hT : TwoOwn base vL vH lo hi W) (hB : base ≤ W.heap.size) : Below base W W' := by
  obtain ⟨wm, g1, g2⟩ := h
  exact (grown_below g1 (fun g e => (hT.L.lt g e).1) hB).trans (grown_below g2 (fun g e => (hT.H.lt g e).1) (Nat.le_trans hB g1.size))
theorem TwoOwn.apart {b1 b2 : Nat} {vL vH uL uH : Value} {lo hi lo' hi' : List Int} {W W' W0 : World} (h0 : TwoOwn b1 vL vH lo hi W0) (hb : W0.heap.size ≤ b2) (hu : TwoOwn b2 uL uH lo' hi' W) (h : Only2 vL vH W W') : TwoOwn b2 uL uH lo' hi' W' := by
  obtain ⟨wm, g1, g2⟩ := h
  have key : ∀ {v u : Value} {n n' : Nat} {xs xs' : List Value} {X : World}, W0.ownsRow b1 3 1 v n xs → X.ownsRow b2 3 1 u n' xs' → v.ownBlock = none ∨ u.ownBlock ≠ v.ownBlock := by
    intro v u n n' xs xs' X k1 k2
    cases hv : v.ownBlock with
    | none => exact Or.inl rfl
    | some g =>
      refine Or.inr fun e => ?_
      have a1 := (k1.lt g hv).2
      have a2 := (k2.lt g e).1
      omega
  have l1 := own_keep hu.L g1 (key h0.L hu.L)
  have l2 := own_keep hu.H g1 (key h0.L hu.H)
  exact ⟨own_keep l1 g2 (key h0.H l1), own_keep l2 g2 (key h0.H l2), hu.A⟩

structure MK (w0 : World) (aL : Option Addr) (nL cL : Nat) (aH : Option Addr) (nH cH : Nat) (lo hi : List Int) (b9 : Nat) (oL : Option Addr) (dL : Nat) (oH : Option Addr) (dH : Nat) (W : World) : Prop where
  B : Below w0.heap.size w0 W
  A : BdA w0.heap.size aL nL cL aH nH cH lo hi W
  O : BdA b9 oL nL dL oH nH dH lo hi W
theorem MK.keep {w0 : World} {aL : Option Addr} {nL cL : Nat} {aH : Option Addr} {nH cH : Nat} {lo hi : List Int} {b9 : Nat} {oL : Option Addr} {dL : Nat} {oH : Option Addr} {dH : Nat} {W W' : World} (h : MK w0 aL nL cL aH nH cH lo hi b9 oL dL oH dH W) (hb : Below W.heap.size W W') : MK w0 aL nL cL aH nH cH lo hi b9 oL dL oH dH W' := ⟨h.B.trans (hb.mono h.B.size), h.A.keep hb, h.O.keep hb⟩

/-- A result: its block and its rows, of the call's own. -/
def RK (bx b : Nat) (aL : Option Addr) (cL : Nat) (aH : Option Addr) (cH n : Nat) (lo hi : List Int) (W : World) : Prop := BdA b aL n cL aH n cH lo hi W ∧ TwoOwn bx (.slice aL n cL) (.slice aH n cH) lo hi W
theorem RK.keep {bx b : Nat} {aL : Option Addr} {cL : Nat} {aH : Option Addr} {cH n : Nat} {lo hi : List Int} {W W' : World} (h : RK bx b aL cL aH cH n lo hi W) (hb : Below W.heap.size W W') : RK bx b aL cL aH cH n lo hi W' := ⟨h.1.keep hb, h.2.below hb⟩
theorem Only2.above {b1 k : Nat} {vL vH : Value} {lo hi : List Int} {W W' W0 : World} {o : Obj} (h : Only2 vL vH W W') (h0 : TwoOwn b1 vL vH lo hi W0) (hk : W0.heap.size ≤ k) (ho : W.heap[k]? = some o) : W'.heap[k]? = some o := by
  obtain ⟨wm, g1, g2⟩ := h
  have l := lt_of_block ho
  have k1 : wm.heap[k]? = some o := (g1.block k l (fun e => by have := (h0.L.lt k e.symm).2; omega)).trans ho
  exact (g2.block k (lt_of_block k1) (fun e => by have := (h0.H.lt k e.symm).2; omega)).trans k1
/-- What is held at the drawn region. -/
structure M8 (w0 : World) (aL : Option Addr) (nL cL : Nat) (aH : Option Addr) (nH cH : Nat) (lo hi : List Int) (b9 : Nat) (oL : Option Addr) (dL : Nat) (oH : Option Addr) (dH : Nat)
    (bx b10 : Nat) (xL : Option Addr) (xc : Nat) (xH : Option Addr) (xd n1 : Nat) (l1 h1 : List Int) (b12 : Nat) (yL : Option Addr) (yc : Nat) (yH : Option Addr) (yd : Nat)
    (bu b14 : Nat) (uL : Option Addr) (uc : Nat) (uH : Option Addr) (ud n2 : Nat) (l2 h2 : List Int) (b16 : Nat) (vL : Option Addr) (vc : Nat) (vH : Option Addr) (vd : Nat) (ws : World) (W : World) : Prop where
  K : MK w0 aL nL cL aH nH cH lo hi b9 oL dL oH dH W
  X : RK bx b10 xL xc xH xd n1 l1 h1 W
  Y : BdA b12 yL n1 yc yH n1 yd l1 h1 W
  U : RK bu b14 uL uc uH ud n2 l2 h2 W
  V : BdA b16 vL n2 vc vH n2 vd l2 h2 W
  S : Below ws.heap.size ws W
theorem M8.keep {w0 : World} {aL : Option Addr} {nL cL : Nat} {aH : Option Addr} {nH cH : Nat} {lo hi : List Int} {b9 : Nat} {oL : Option Addr} {dL : Nat} {oH : Option Addr} {dH : Nat}
    {bx b10 : Nat} {xL : Option Addr} {xc : Nat} {xH : Option Addr} {xd n1 : Nat} {l1 h1 : List Int} {b12 : Nat} {yL : Option Addr} {yc : Nat} {yH : Option Addr} {yd : Nat}
    {bu b14 : Nat} {uL : Option Addr} {uc : Nat} {uH : Option Addr} {ud n2 : Nat} {l2 h2 : List Int} {b16 : Nat} {vL : Option Addr} {vc : Nat} {vH : Option Addr} {vd : Nat} {ws : World} {W W' : World}
    (h : M8 w0 aL nL cL aH nH cH lo hi b9 oL dL oH dH bx b10 xL xc xH xd n1 l1 h1 b12 yL yc yH yd bu b14 uL uc uH ud n2 l2 h2 b16 vL vc vH vd ws W) (hb : Below W.heap.size W W') : M8 w0 aL nL cL aH nH cH lo hi b9 oL dL oH dH bx b10 xL xc xH xd n1 l1 h1 b12 yL yc yH yd bu b14 uL uc uH ud n2 l2 h2 b16 vL vc vH vd ws W' :=
  ⟨h.K.keep hb, h.X.keep hb, h.Y.keep hb, h.U.keep hb, h.V.keep hb, h.S.trans (hb.mono h.S.size)⟩
theorem two_cell {W : World} {b : Nat} {x y : Value} {T : TypeId} (h : W.heap[b]? = some (.cells #[x, y] T (0, 0))) : W.cell? ⟨b, 0, none⟩ = some x ∧ W.cell? ⟨b, 1, none⟩ = some y := ⟨cell_of_block h rfl, cell_of_block h rfl⟩

set_option maxRecDepth 100000 in
set_option maxHeartbeats 16000000 in
theorem matches_go (aL aH : Option Addr) (nL nH cL cH : Nat) (lo hi : List Int) (pull alt size : Int) (w : World) (hL : Ints w aL nL lo) (hH : Ints w aH nH hi) (n1 : nL ≤ 250) (n2 : nH ≤ 250) :
    Calls Try.prog 3 #[bdV aL nL cL aH nH cH, .int .i64 pull, .int .i64 alt, .int .i64 size] w (BPost true w) := by
  have d1 : decide (250 < (nL : Int)) = false := decide_eq_false (by omega)
  have d2 : decide (250 < (nH : Int)) = false := decide_eq_false (by omega)
  have hlw : w.heap.size + 1 = (w.alloc (.cells #[.slice aL nL cL, .slice aH nH cH] 24)).heap.size := by simp
  have hcw := two_cell (block_new (w.alloc (.cells #[.slice aL nL cL, .slice aH nH cH] 24)) (.cells #[.slice aL nL cL, .slice aH nH cH] 24) hlw)
  have A := Lib.hid (show BdA w.heap.size aL nL cL aH nH cH lo hi ((w.alloc (.cells #[.slice aL nL cL, .slice aH nH cH] 24)).alloc (.cells #[.slice aL nL cL, .slice aH nH cH] 24)) from (BdA.new hL hH).keep (below_alloc _ _))
  have B := Lib.hid (show Below w.heap.size w ((w.alloc (.cells #[.slice aL nL cL, .slice aH nH cH] 24)).alloc (.cells #[.slice aL nL cL, .slice aH nH cH] 24)) from (below_alloc w _).alloc (by simp) _)
  have HLn := Lib.hid (And.intro hL.len hH.len)
  have HC := Lib.hid hcw
  clear hL hH hcw hlw
  unfold bdV
  go_enter Try.func3, Try.ntmps3
  go_wp2_with fail
  refine (long_call aL aH nL cL nH cH (w.heap.size + 1) 1 _ HC.out.1 HC.out.2).mono ?_; rintro e w1 ⟨rfl, hb⟩
  rw [d1, d2]
  replace A := Lib.hid (A.out.keep hb)
  replace B := Lib.hid (B.out.trans (hb.mono B.out.size))
  obtain ⟨k0, k1⟩ := two_cell A.out.1
  clear hb HC
  go_wp2_with fail
  refine (copyBand_call aL aH nL nH cL cH lo hi _ A.out.2.1 A.out.2.2 (by omega) (by omega)).mono ?_; rintro e w2 ⟨vL, vH, rfl, hT, hb⟩
  obtain ⟨oL, dL, oH, dH, rfl, rfl, i1, i2⟩ := two_ints hT HLn.out.1 HLn.out.2 (by omega) (by omega)
  have K := Lib.hid (show MK w aL nL cL aH nH cH lo hi w2.heap.size oL dL oH dH (w2.alloc (.cells #[.slice oL nL dL, .slice oH nH dH] 24)) from
    ⟨(B.out.trans (hb.mono B.out.size)).alloc (Nat.le_trans B.out.size hb.size) _, (A.out.keep hb).keep (below_alloc _ _), BdA.new i1 i2⟩)
  obtain ⟨b9, hb9⟩ : ∃ b, w2.heap.size = b := ⟨_, rfl⟩
  rw [hb9] at K
  clear A B hT hb i1 i2 k0 k1
  obtain ⟨k0, k1⟩ := two_cell K.out.A.1
  obtain ⟨o0, o1⟩ := two_cell K.out.O.1
  go_wp2_with fail
  clear hb9
  generalize w2.alloc (.cells #[.slice oL nL dL, .slice oH nH dH] 24) = ws at *
  have K0 := K
  refine (pStep_call oL oH nL nH dL dH lo hi pull _ K.out.O.2.1 K.out.O.2.2).mono ?_; rintro e w3 hP
  obtain ⟨xL, xc, xH, xd, rfl, hT, i1, i2, hb⟩ := bo_two hP (loK_len _ 201) (hiK_len _ 201)
  clear hP
  have hm1 := eN_le (stE lo hi pull)
  replace K := Lib.hid ((K.out.keep hb).keep (below_alloc w3 (.cells #[.slice xL (eN (stE lo hi pull)) xc, .slice xH (eN (stE lo hi pull)) xd] 24)))
  have X := Lib.hid (show RK ws.heap.size w3.heap.size xL xc xH xd (eN (stE lo hi pull)) (eL (stE lo hi pull) (loK (stF lo hi pull.toNat) 201)) (eL (stE lo hi pull) (hiK (stF lo hi pull.toNat) 201)) (w3.alloc (.cells #[.slice xL (eN (stE lo hi pull)) xc, .slice xH (eN (stE lo hi pull)) xd] 24)) from ⟨BdA.new i1 i2, hT.alloc _⟩)
  have HT := Lib.hid hT
  have S := Lib.hid (hb.alloc hb.size (.cells #[.slice xL (eN (stE lo hi pull)) xc, .slice xH (eN (stE lo hi pull)) xd] 24))
  obtain ⟨b10, hb10⟩ : ∃ b, w3.heap.size = b := ⟨_, rfl⟩
  have Q10 := Lib.hid (show w3.heap.size ≤ (w3.alloc (.cells #[.slice xL (eN (stE lo hi pull)) xc, .slice xH (eN (stE lo hi pull)) xd] 24)).heap.size from (below_alloc w3 _).size)
  rw [hb10] at X Q10
  have HB10 := Lib.hid hb10
  clear hT hb i1 i2 k0 k1 o0 o1
  obtain ⟨k0, k1⟩ := two_cell K.out.A.1
  go_wp2_with fail
  clear hb10
  generalize w3.alloc (.cells #[.slice xL (eN (stE lo hi pull)) xc, .slice xH (eN (stE lo hi pull)) xd] 24) = w4 at *
  refine (rStep_call aL aH nL nH cL cH lo hi pull _ K.out.A.2.1 K.out.A.2.2).mono ?_; rintro e w5 hP
  obtain ⟨yL, yc, yH, yd, rfl, -, i1, i2, hb⟩ := bo_two hP (loK_len _ 201) (hiK_len _ 201)
  clear hP
  replace K := Lib.hid ((K.out.keep hb).keep (below_alloc w5 (.cells #[.slice yL (eN (stE lo hi pull)) yc, .slice yH (eN (stE lo hi pull)) yd] 24)))
  replace X := Lib.hid ((X.out.keep hb).keep (below_alloc w5 (.cells #[.slice yL (eN (stE lo hi pull)) yc, .slice yH (eN (stE lo hi pull)) yd] 24)))
  have Y := Lib.hid (BdA.new (cL := yc) (cH := yd) i1 i2)
  replace S := Lib.hid ((S.out.trans (hb.mono S.out.size)).alloc (Nat.le_trans S.out.size hb.size) (.cells #[.slice yL (eN (stE lo hi pull)) yc, .slice yH (eN (stE lo hi pull)) yd] 24))
  replace Q10 := Lib.hid (Nat.le_trans Q10.out (Nat.le_trans hb.size (below_alloc w5 (.cells #[.slice yL (eN (stE lo hi pull)) yc, .slice yH (eN (stE lo hi pull)) yd] 24)).size))
  have ln1 := Lib.hid (And.intro (eL_len (E := stE lo hi pull) (loK_len (stF lo hi pull.toNat) 201)) (eL_len (E := stE lo hi pull) (hiK_len (stF lo hi pull.toNat) 201)))
  generalize eL (stE lo hi pull) (loK (stF lo hi pull.toNat) 201) = L1 at *
  generalize eL (stE lo hi pull) (hiK (stF lo hi pull.toNat) 201) = H1 at *
  obtain ⟨b12, hb12⟩ : ∃ b, w5.heap.size = b := ⟨_, rfl⟩
  rw [hb12] at Y
  clear hb i1 i2 k0 k1
  obtain ⟨o0, o1⟩ := two_cell K.out.O.1
  go_wp2_with fail
  clear hb12
  generalize w5.alloc (.cells #[.slice yL (eN (stE lo hi pull)) yc, .slice yH (eN (stE lo hi pull)) yd] 24) = w6 at *
  refine (pMea_call oL oH nL nH dL dH lo hi alt size _ K.out.O.2.1 K.out.O.2.2).mono ?_; rintro e w7 hP
  obtain ⟨uL, uc, uH, ud, rfl, hT, i1, i2, hb⟩ := bo_two hP (loK_len _ 201) (hiK_len _ 201)
  clear hP
  replace K := Lib.hid ((K.out.keep hb).keep (below_alloc w7 (.cells #[.slice uL (eN (maE lo hi alt size)) uc, .slice uH (eN (maE lo hi alt size)) ud] 24)))
  replace X := Lib.hid ((X.out.keep hb).keep (below_alloc w7 (.cells #[.slice uL (eN (maE lo hi alt size)) uc, .slice uH (eN (maE lo hi alt size)) ud] 24)))
  replace Y := Lib.hid ((Y.out.keep hb).keep (below_alloc w7 (.cells #[.slice uL (eN (maE lo hi alt size)) uc, .slice uH (eN (maE lo hi alt size)) ud] 24)))
  have U := Lib.hid (show RK w6.heap.size w7.heap.size uL uc uH ud (eN (maE lo hi alt size)) (eL (maE lo hi alt size) (loK (maF lo hi alt size) 201)) (eL (maE lo hi alt size) (hiK (maF lo hi alt size) 201)) (w7.alloc (.cells #[.slice uL (eN (maE lo hi alt size)) uc, .slice uH (eN (maE lo hi alt size)) ud] 24)) from ⟨BdA.new i1 i2, hT.alloc _⟩)
  replace S := Lib.hid (And.intro ((S.out.trans (hb.mono S.out.size)).alloc (Nat.le_trans S.out.size hb.size) (.cells #[.slice uL (eN (maE lo hi alt size)) uc, .slice uH (eN (maE lo hi alt size)) ud] 24)) (And.intro S.out.size (Nat.le_trans Q10.out hb.size)))
  have HS6 := Lib.hid (And.intro S.out.2.1 (And.intro Q10.out (And.intro S.out.2.2 (show w6.heap.size ≤ (w7.alloc (.cells #[.slice uL (eN (maE lo hi alt size)) uc, .slice uH (eN (maE lo hi alt size)) ud] 24)).heap.size from Nat.le_trans hb.size (below_alloc w7 _).size))))
  obtain ⟨b14, hb14⟩ : ∃ b, w7.heap.size = b := ⟨_, rfl⟩
  obtain ⟨bu, hbu⟩ : ∃ b, w6.heap.size = b := ⟨_, rfl⟩
  rw [hb14] at U HS6
  rw [hbu] at U HS6
  clear hT hb i1 i2 o0 o1 Q10 hbu
  obtain ⟨k0, k1⟩ := two_cell K.out.A.1
  go_wp2_with fail
  clear hb14
  replace S := Lib.hid S.out.1
  generalize w7.alloc (.cells #[.slice uL (eN (maE lo hi alt size)) uc, .slice uH (eN (maE lo hi alt size)) ud] 24) = w8 at *
  refine (rMea_call aL aH nL nH cL cH lo hi alt size _ K.out.A.2.1 K.out.A.2.2).mono ?_; rintro e w9 hP
  obtain ⟨vL, vc, vH, vd, rfl, -, i1, i2, hb⟩ := bo_two hP (loK_len _ 201) (hiK_len _ 201)
  clear hP
  have hb9' := hb.alloc hb.size (.cells #[.slice vL (eN (maE lo hi alt size)) vc, .slice vH (eN (maE lo hi alt size)) vd] 24)
  have V := BdA.new (cL := vc) (cH := vd) i1 i2
  have ln2 := Lib.hid (And.intro (eL_len (E := maE lo hi alt size) (loK_len (maF lo hi alt size) 201)) (eL_len (E := maE lo hi alt size) (hiK_len (maF lo hi alt size) 201)))
  generalize eL (maE lo hi alt size) (loK (maF lo hi alt size) 201) = L2 at *
  generalize eL (maE lo hi alt size) (hiK (maF lo hi alt size) 201) = H2 at *
  have hm2 := eN_le (maE lo hi alt size)
  obtain ⟨b16, hb16⟩ : ∃ b, w9.heap.size = b := ⟨_, rfl⟩
  rw [hb16] at V
  have M := Lib.hid (show M8 w aL nL cL aH nH cH lo hi b9 oL dL oH dH ws.heap.size b10 xL xc xH xd (eN (stE lo hi pull)) L1 H1 b12 yL yc yH yd bu b14 uL uc uH ud (eN (maE lo hi alt size)) L2 H2 b16 vL vc vH vd ws (w9.alloc (.cells #[.slice vL (eN (maE lo hi alt size)) vc, .slice vH (eN (maE lo hi alt size)) vd] 24)) from ⟨K.out.keep hb9', X.out.keep hb9', Y.out.keep hb9', U.out.keep hb9', V, S.out.trans (hb9'.mono S.out.size)⟩)
  have HS9 := Lib.hid (And.intro HS6.out.1 (And.intro HS6.out.2.1 (And.intro HS6.out.2.2.1 (Nat.le_trans HS6.out.2.2.2 hb9'.size))))
  clear hb hb9' i1 i2 k0 k1 V K X Y U S HS6
  have e1 : (chB lo hi != chB lo hi) = false := by simp
  have e2 : (stE lo hi pull != stE lo hi pull) = false := by simp
  have e3 : (maE lo hi alt size != maE lo hi alt size) = false := by simp
  go_wp2_with fail
  clear hb16
  generalize w9.alloc (.cells #[.slice vL (eN (maE lo hi alt size)) vc, .slice vH (eN (maE lo hi alt size)) vd] 24) = wa at *
  generalize stE lo hi pull = E1 at *
  generalize maE lo hi alt size = E2 at *
  generalize eN E1 = m1 at *
  generalize eN E2 = m2 at *
  replace M := Lib.hid (And.intro (M.out.keep (Below.refl wa.heap.size wa).drew) (show wa.heap.size ≤ wa.drew.heap.size from Nat.le_refl _))
  refine wp_region_held_drew (S := (fun w' => (w'.cell? ⟨w.heap.size, 0, none⟩ = some (.slice aL nL cL) ∧ w'.cell? ⟨w.heap.size, 1, none⟩ = some (.slice aH nH cH)) ∧ (w'.cell? ⟨b9, 0, none⟩ = some (.slice oL nL dL) ∧ w'.cell? ⟨b9, 1, none⟩ = some (.slice oH nH dH)) ∧ (w'.cell? ⟨b10, 0, none⟩ = some (.slice xL m1 xc) ∧ w'.cell? ⟨b10, 1, none⟩ = some (.slice xH m1 xd)) ∧ (w'.cell? ⟨b12, 0, none⟩ = some (.slice yL m1 yc) ∧ w'.cell? ⟨b12, 1, none⟩ = some (.slice yH m1 yd)) ∧ (w'.cell? ⟨b14, 0, none⟩ = some (.slice uL m2 uc) ∧ w'.cell? ⟨b14, 1, none⟩ = some (.slice uH m2 ud)) ∧ (w'.cell? ⟨b16, 0, none⟩ = some (.slice vL m2 vc) ∧ w'.cell? ⟨b16, 1, none⟩ = some (.slice vH m2 vd)))) (by kernel_rfl) (by (try dsimp only); (exact ⟨two_cell M.out.1.K.A.1, two_cell M.out.1.K.O.1, two_cell M.out.1.X.1.1, two_cell M.out.1.Y.1, two_cell M.out.1.U.1.1, two_cell M.out.1.V.1⟩)) (fun hHeld => ?_)
  refine MyHeld.take 0 (v := ?_) .z (by kernel_rfl) (by kernel_rfl) (by kernel_rfl) (fun _ _ _ h => h) (by rfl) (by assumption) ?_ ?_
  rotate_left
  · intro w hSw; (try dsimp only at hSw); go_simp; (try with_reducible rfl)
  try simp only [Act.put, List.setIfInBounds_toArray, List.set_cons_zero, List.set_cons_succ]
  refine MyHeld.take 2 (v := ?_) (.s (.s .z)) (by kernel_rfl) (by kernel_rfl) (by kernel_rfl) (fun _ _ _ h => h) (by rfl) (by assumption) ?_ ?_
  rotate_left
  · intro w hSw; (try dsimp only at hSw); go_simp; (try with_reducible rfl)
  try simp only [Act.put, List.setIfInBounds_toArray, List.set_cons_zero, List.set_cons_succ]
  refine wpAnyH_ready (rs := [1]) (by kernel_rfl) (by simp) ?_
  refine (MyHeld.next 1 (.s .z) (fun Kq hKq => ?_) AllReadyH.nil)
  go_simp
  (go_at_call 16; refine (pCheck_call oL oH nL nH dL dH lo hi _ M.out.1.K.O.2.1 M.out.1.K.O.2.2).mono ?_; rintro e wb ⟨rfl, hb⟩; replace M := Lib.hid (And.intro (M.out.1.keep hb) (Nat.le_trans M.out.2 hb.size)); clear hb)
  go_wp2_with fail
  refine hKq.out _ _ (by (try dsimp only); (exact ⟨two_cell M.out.1.K.A.1, two_cell M.out.1.K.O.1, two_cell M.out.1.X.1.1, two_cell M.out.1.Y.1, two_cell M.out.1.U.1.1, two_cell M.out.1.V.1⟩)) (fun hHeld' => ?_)
  clear hKq Kq hHeld; have hHeld := hHeld'; clear hHeld'
  try simp only [Act.put, List.setIfInBounds_toArray, List.set_cons_zero, List.set_cons_succ]
  refine wpAnyH_ready (rs := [3]) (by kernel_rfl) (by simp) ?_
  refine (MyHeld.next 3 (.s (.s (.s .z))) (fun Kq hKq => ?_) AllReadyH.nil)
  go_simp
  (go_at_call 17; refine (rCheck_call aL aH nL nH cL cH lo hi _ M.out.1.K.A.2.1 M.out.1.K.A.2.2).mono ?_; rintro e wb ⟨rfl, hb⟩; replace M := Lib.hid (And.intro (M.out.1.keep hb) (Nat.le_trans M.out.2 hb.size)); clear hb)
  go_wp2_with fail
  refine hKq.out _ _ (by (try dsimp only); (exact ⟨two_cell M.out.1.K.A.1, two_cell M.out.1.K.O.1, two_cell M.out.1.X.1.1, two_cell M.out.1.Y.1, two_cell M.out.1.U.1.1, two_cell M.out.1.V.1⟩)) (fun hHeld' => ?_)
  clear hKq Kq hHeld; have hHeld := hHeld'; clear hHeld'
  try simp only [Act.put, List.setIfInBounds_toArray, List.set_cons_zero, List.set_cons_succ]
  refine MyHeld.take 4 (v := ?_) (.s (.s (.s (.s .z)))) (by kernel_rfl) (by kernel_rfl) (by kernel_rfl) (fun _ _ _ h => h) (by rfl) (by assumption) ?_ ?_
  rotate_left
  · intro w hSw; (try dsimp only at hSw); go_simp; (try with_reducible rfl)
  try simp only [Act.put, List.setIfInBounds_toArray, List.set_cons_zero, List.set_cons_succ]
  refine MyHeld.take 5 (v := ?_) (.s (.s (.s (.s (.s .z))))) (by kernel_rfl) (by kernel_rfl) (by kernel_rfl) (fun _ _ _ h => h) (by rfl) (by assumption) ?_ ?_
  rotate_left
  · intro w hSw; (try dsimp only at hSw); go_simp; (try with_reducible rfl)
  try simp only [Act.put, List.setIfInBounds_toArray, List.set_cons_zero, List.set_cons_succ]
  refine MyHeld.take 6 (v := ?_) (.s (.s (.s (.s (.s (.s .z)))))) (by kernel_rfl) (by kernel_rfl) (by kernel_rfl) (fun _ _ _ h => h) (by rfl) (by assumption) ?_ ?_
  rotate_left
  · intro w hSw; (try dsimp only at hSw); go_simp; (try with_reducible rfl)
  try simp only [Act.put, List.setIfInBounds_toArray, List.set_cons_zero, List.set_cons_succ]
  refine MyHeld.take 7 (v := ?_) (.s (.s (.s (.s (.s (.s (.s .z))))))) (by kernel_rfl) (by kernel_rfl) (by kernel_rfl) (fun _ _ _ h => h) (by rfl) (by assumption) ?_ ?_
  rotate_left
  · intro w hSw; (try dsimp only at hSw); go_simp; (try with_reducible rfl)
  try simp only [Act.put, List.setIfInBounds_toArray, List.set_cons_zero, List.set_cons_succ]
  refine MyHeld.take 8 (v := ?_) (.s (.s (.s (.s (.s (.s (.s (.s .z)))))))) (by kernel_rfl) (by kernel_rfl) (by kernel_rfl) (fun _ _ _ h => h) (by rfl) (by assumption) ?_ ?_
  rotate_left
  · intro w hSw; (try dsimp only at hSw); go_simp; (try with_reducible rfl)
  try simp only [Act.put, List.setIfInBounds_toArray, List.set_cons_zero, List.set_cons_succ]
  refine MyHeld.take 9 (v := ?_) (.s (.s (.s (.s (.s (.s (.s (.s (.s .z))))))))) (by kernel_rfl) (by kernel_rfl) (by kernel_rfl) (fun _ _ _ h => h) (by rfl) (by assumption) ?_ ?_
  rotate_left
  · intro w hSw; (try dsimp only at hSw); go_simp; (try with_reducible rfl)
  try simp only [Act.put, List.setIfInBounds_toArray, List.set_cons_zero, List.set_cons_succ]
  refine MyHeld.take 10 (v := ?_) (.s (.s (.s (.s (.s (.s (.s (.s (.s (.s .z)))))))))) (by kernel_rfl) (by kernel_rfl) (by kernel_rfl) (fun _ _ _ h => h) (by rfl) (by assumption) ?_ ?_
  rotate_left
  · intro w hSw; (try dsimp only at hSw); go_simp; (try with_reducible rfl)
  try simp only [Act.put, List.setIfInBounds_toArray, List.set_cons_zero, List.set_cons_succ]
  refine MyHeld.take 11 (v := ?_) (.s (.s (.s (.s (.s (.s (.s (.s (.s (.s (.s .z))))))))))) (by kernel_rfl) (by kernel_rfl) (by kernel_rfl) (fun _ _ _ h => h) (by rfl) (by assumption) ?_ ?_
  rotate_left
  · intro w hSw; (try dsimp only at hSw); go_simp; (try with_reducible rfl)
  try simp only [Act.put, List.setIfInBounds_toArray, List.set_cons_zero, List.set_cons_succ]
  refine MyHeld.take 12 (v := ?_) (.s (.s (.s (.s (.s (.s (.s (.s (.s (.s (.s (.s .z)))))))))))) (by kernel_rfl) (by kernel_rfl) (by kernel_rfl) (fun _ _ _ h => h) (by rfl) (by assumption) ?_ ?_
  rotate_left
  · intro w hSw; (try dsimp only at hSw); go_simp; (try with_reducible rfl)
  try simp only [Act.put, List.setIfInBounds_toArray, List.set_cons_zero, List.set_cons_succ]
  refine MyHeld.take 13 (v := ?_) (.s (.s (.s (.s (.s (.s (.s (.s (.s (.s (.s (.s (.s .z))))))))))))) (by kernel_rfl) (by kernel_rfl) (by kernel_rfl) (fun _ _ _ h => h) (by rfl) (by assumption) ?_ ?_
  rotate_left
  · intro w hSw; (try dsimp only at hSw); go_simp; (try with_reducible rfl)
  try simp only [Act.put, List.setIfInBounds_toArray, List.set_cons_zero, List.set_cons_succ]
  refine MyHeld.take 14 (v := ?_) (.s (.s (.s (.s (.s (.s (.s (.s (.s (.s (.s (.s (.s (.s .z)))))))))))))) (by kernel_rfl) (by kernel_rfl) (by kernel_rfl) (fun _ _ _ h => h) (by rfl) (by assumption) ?_ ?_
  rotate_left
  · intro w hSw; (try dsimp only at hSw); go_simp; (try with_reducible rfl)
  try simp only [Act.put, List.setIfInBounds_toArray, List.set_cons_zero, List.set_cons_succ]
  refine MyHeld.take 15 (v := ?_) (.s (.s (.s (.s (.s (.s (.s (.s (.s (.s (.s (.s (.s (.s (.s .z))))))))))))))) (by kernel_rfl) (by kernel_rfl) (by kernel_rfl) (fun _ _ _ h => h) (by rfl) (by assumption) ?_ ?_
  rotate_left
  · intro w hSw; (try dsimp only at hSw); go_simp; (try with_reducible rfl)
  try simp only [Act.put, List.setIfInBounds_toArray, List.set_cons_zero, List.set_cons_succ]
  refine MyHeld.take 16 (v := ?_) (.s (.s (.s (.s (.s (.s (.s (.s (.s (.s (.s (.s (.s (.s (.s (.s .z)))))))))))))))) (by kernel_rfl) (by kernel_rfl) (by kernel_rfl) (fun _ _ _ h => h) (by rfl) (by assumption) ?_ ?_
  rotate_left
  · intro w hSw; (try dsimp only at hSw); go_simp; (try with_reducible rfl)
  try simp only [Act.put, List.setIfInBounds_toArray, List.set_cons_zero, List.set_cons_succ]
  refine MyHeld.take 17 (v := ?_) (.s (.s (.s (.s (.s (.s (.s (.s (.s (.s (.s (.s (.s (.s (.s (.s (.s .z))))))))))))))))) (by kernel_rfl) (by kernel_rfl) (by kernel_rfl) (fun _ _ _ h => h) (by rfl) (by assumption) ?_ ?_
  rotate_left
  · intro w hSw; (try dsimp only at hSw); go_simp; (try with_reducible rfl)
  try simp only [Act.put, List.setIfInBounds_toArray, List.set_cons_zero, List.set_cons_succ]
  refine wpAnyH_ready (rs := [18]) (by kernel_rfl) (by simp) ?_
  refine (MyHeld.next 18 (.s (.s (.s (.s (.s (.s (.s (.s (.s (.s (.s (.s (.s (.s (.s (.s (.s (.s .z)))))))))))))))))) (fun Kq hKq => ?_) AllReadyH.nil)
  go_simp
  (first | (go_at_call 16; refine (pCheck_call oL oH nL nH dL dH lo hi _ M.out.1.K.O.2.1 M.out.1.K.O.2.2).mono ?_; rintro e wb ⟨rfl, hb⟩; replace M := Lib.hid (And.intro (M.out.1.keep hb) (Nat.le_trans M.out.2 hb.size)); clear hb) | (go_at_call 17; refine (rCheck_call aL aH nL nH cL cH lo hi _ M.out.1.K.A.2.1 M.out.1.K.A.2.2).mono ?_; rintro e wb ⟨rfl, hb⟩; replace M := Lib.hid (And.intro (M.out.1.keep hb) (Nat.le_trans M.out.2 hb.size)); clear hb) | (have hchk := HQ.out; go_at_call 18; have q1 := M.out.1.U.1.2.1; have q2 := M.out.1.U.1.2.2; have q3 := M.out.1.V.2.1; have q4 := M.out.1.V.2.2; have hc := equalBand_call uL uH vL vH m2 m2 uc ud m2 m2 vc vd L2 H2 L2 H2 _ q1 q2 q3 q4; unfold bdV at hc; refine hc.mono ?_; clear hc q1 q2 q3 q4; rintro e wb ⟨rfl, hb⟩; rw [decide_eq_true (rfl : L2 = L2), decide_eq_true (rfl : H2 = H2)]; replace M := Lib.hid (And.intro (M.out.1.keep hb) (Nat.le_trans M.out.2 hb.size)); clear hb) | (go_at_call 18; have q1 := M.out.1.X.1.2.1; have q2 := M.out.1.X.1.2.2; have q3 := M.out.1.Y.2.1; have q4 := M.out.1.Y.2.2; have hc := equalBand_call xL xH yL yH m1 m1 xc xd m1 m1 yc yd L1 H1 L1 H1 _ q1 q2 q3 q4; unfold bdV at hc; refine hc.mono ?_; clear hc q1 q2 q3 q4; rintro e wb ⟨rfl, hb⟩; rw [decide_eq_true (rfl : L1 = L1), decide_eq_true (rfl : H1 = H1)]; replace M := Lib.hid (And.intro (M.out.1.keep hb) (Nat.le_trans M.out.2 hb.size)); have HQ := Lib.hid (show True from trivial); clear hb))
  go_wp2_with fail
  refine hKq.out _ _ (by (try dsimp only); (exact ⟨two_cell M.out.1.K.A.1, two_cell M.out.1.K.O.1, two_cell M.out.1.X.1.1, two_cell M.out.1.Y.1, two_cell M.out.1.U.1.1, two_cell M.out.1.V.1⟩)) (fun hHeld' => ?_)
  clear hKq Kq hHeld; have hHeld := hHeld'; clear hHeld'
  try simp only [Act.put, List.setIfInBounds_toArray, List.set_cons_zero, List.set_cons_succ]
  refine MyHeld.take 19 (v := ?_) (.s (.s (.s (.s (.s (.s (.s (.s (.s (.s (.s (.s (.s (.s (.s (.s (.s (.s (.s .z))))))))))))))))))) (by kernel_rfl) (by kernel_rfl) (by kernel_rfl) (fun _ _ _ h => h) (by rfl) (by assumption) ?_ ?_
  rotate_left
  · intro w hSw; (try dsimp only at hSw); go_simp; (try with_reducible rfl)
  try simp only [Act.put, List.setIfInBounds_toArray, List.set_cons_zero, List.set_cons_succ]
  refine MyHeld.take 20 (v := ?_) (.s (.s (.s (.s (.s (.s (.s (.s (.s (.s (.s (.s (.s (.s (.s (.s (.s (.s (.s (.s .z)))))))))))))))))))) (by kernel_rfl) (by kernel_rfl) (by kernel_rfl) (fun _ _ _ h => h) (by rfl) (by assumption) ?_ ?_
  rotate_left
  · intro w hSw; (try dsimp only at hSw); go_simp; (try with_reducible rfl)
  try simp only [Act.put, List.setIfInBounds_toArray, List.set_cons_zero, List.set_cons_succ]
  refine MyHeld.take 21 (v := ?_) (.s (.s (.s (.s (.s (.s (.s (.s (.s (.s (.s (.s (.s (.s (.s (.s (.s (.s (.s (.s (.s .z))))))))))))))))))))) (by kernel_rfl) (by kernel_rfl) (by kernel_rfl) (fun _ _ _ h => h) (by rfl) (by assumption) ?_ ?_
  rotate_left
  · intro w hSw; (try dsimp only at hSw); go_simp; (try with_reducible rfl)
  try simp only [Act.put, List.setIfInBounds_toArray, List.set_cons_zero, List.set_cons_succ]
  refine MyHeld.take 22 (v := ?_) (.s (.s (.s (.s (.s (.s (.s (.s (.s (.s (.s (.s (.s (.s (.s (.s (.s (.s (.s (.s (.s (.s .z)))))))))))))))))))))) (by kernel_rfl) (by kernel_rfl) (by kernel_rfl) (fun _ _ _ h => h) (by rfl) (by assumption) ?_ ?_
  rotate_left
  · intro w hSw; (try dsimp only at hSw); go_simp; (try with_reducible rfl)
  try simp only [Act.put, List.setIfInBounds_toArray, List.set_cons_zero, List.set_cons_succ]
  refine MyHeld.take 23 (v := ?_) (.s (.s (.s (.s (.s (.s (.s (.s (.s (.s (.s (.s (.s (.s (.s (.s (.s (.s (.s (.s (.s (.s (.s .z))))))))))))))))))))))) (by kernel_rfl) (by kernel_rfl) (by kernel_rfl) (fun _ _ _ h => h) (by rfl) (by assumption) ?_ ?_
  rotate_left
  · intro w hSw; (try dsimp only at hSw); go_simp; (try with_reducible rfl)
  try simp only [Act.put, List.setIfInBounds_toArray, List.set_cons_zero, List.set_cons_succ]
  refine wpAnyH_ready (rs := [24]) (by kernel_rfl) (by simp) ?_
  refine (MyHeld.next 24 (.s (.s (.s (.s (.s (.s (.s (.s (.s (.s (.s (.s (.s (.s (.s (.s (.s (.s (.s (.s (.s (.s (.s (.s .z)))))))))))))))))))))))) (fun Kq hKq => ?_) AllReadyH.nil)
  go_simp
  (first | (go_at_call 16; refine (pCheck_call oL oH nL nH dL dH lo hi _ M.out.1.K.O.2.1 M.out.1.K.O.2.2).mono ?_; rintro e wb ⟨rfl, hb⟩; replace M := Lib.hid (And.intro (M.out.1.keep hb) (Nat.le_trans M.out.2 hb.size)); clear hb) | (go_at_call 17; refine (rCheck_call aL aH nL nH cL cH lo hi _ M.out.1.K.A.2.1 M.out.1.K.A.2.2).mono ?_; rintro e wb ⟨rfl, hb⟩; replace M := Lib.hid (And.intro (M.out.1.keep hb) (Nat.le_trans M.out.2 hb.size)); clear hb) | (have hchk := HQ.out; go_at_call 18; have q1 := M.out.1.U.1.2.1; have q2 := M.out.1.U.1.2.2; have q3 := M.out.1.V.2.1; have q4 := M.out.1.V.2.2; have hc := equalBand_call uL uH vL vH m2 m2 uc ud m2 m2 vc vd L2 H2 L2 H2 _ q1 q2 q3 q4; unfold bdV at hc; refine hc.mono ?_; clear hc q1 q2 q3 q4; rintro e wb ⟨rfl, hb⟩; rw [decide_eq_true (rfl : L2 = L2), decide_eq_true (rfl : H2 = H2)]; replace M := Lib.hid (And.intro (M.out.1.keep hb) (Nat.le_trans M.out.2 hb.size)); clear hb) | (go_at_call 18; have q1 := M.out.1.X.1.2.1; have q2 := M.out.1.X.1.2.2; have q3 := M.out.1.Y.2.1; have q4 := M.out.1.Y.2.2; have hc := equalBand_call xL xH yL yH m1 m1 xc xd m1 m1 yc yd L1 H1 L1 H1 _ q1 q2 q3 q4; unfold bdV at hc; refine hc.mono ?_; clear hc q1 q2 q3 q4; rintro e wb ⟨rfl, hb⟩; rw [decide_eq_true (rfl : L1 = L1), decide_eq_true (rfl : H1 = H1)]; replace M := Lib.hid (And.intro (M.out.1.keep hb) (Nat.le_trans M.out.2 hb.size)); have HQ := Lib.hid (show True from trivial); clear hb))
  go_wp2_with fail
  refine hKq.out _ _ (by (try dsimp only); (exact ⟨two_cell M.out.1.K.A.1, two_cell M.out.1.K.O.1, two_cell M.out.1.X.1.1, two_cell M.out.1.Y.1, two_cell M.out.1.U.1.1, two_cell M.out.1.V.1⟩)) (fun hHeld' => ?_)
  clear hKq Kq hHeld; have hHeld := hHeld'; clear hHeld'
  try simp only [Act.put, List.setIfInBounds_toArray, List.set_cons_zero, List.set_cons_succ]
  refine MyHeld.take 25 (v := ?_) (.s (.s (.s (.s (.s (.s (.s (.s (.s (.s (.s (.s (.s (.s (.s (.s (.s (.s (.s (.s (.s (.s (.s (.s (.s .z))))))))))))))))))))))))) (by kernel_rfl) (by kernel_rfl) (by kernel_rfl) (fun _ _ _ h => h) (by rfl) (by assumption) ?_ ?_
  rotate_left
  · intro w hSw; (try dsimp only at hSw); go_simp; (try with_reducible rfl)
  try simp only [Act.put, List.setIfInBounds_toArray, List.set_cons_zero, List.set_cons_succ]
  refine MyHeld.take 26 (v := ?_) (.s (.s (.s (.s (.s (.s (.s (.s (.s (.s (.s (.s (.s (.s (.s (.s (.s (.s (.s (.s (.s (.s (.s (.s (.s (.s .z)))))))))))))))))))))))))) (by kernel_rfl) (by kernel_rfl) (by kernel_rfl) (fun _ _ _ h => h) (by rfl) (by assumption) ?_ ?_
  rotate_left
  · intro w hSw; (try dsimp only at hSw); go_simp; (try with_reducible rfl)
  try simp only [Act.put, List.setIfInBounds_toArray, List.set_cons_zero, List.set_cons_succ]
  refine wpAnyH_done (by kernel_rfl) ?_ _
  all_goals
    clear HQ hchk
    obtain ⟨k0, k1⟩ := two_cell M.out.1.X.1.1
    go_wp2_with fail
    have hx := M.out.1.X.2
    have hc := overBand_call ws.heap.size xL xH m1 m1 xc xd L1 H1 _ hx (by rw [ln1.out.1]; omega) (by rw [ln1.out.2]; omega)
    unfold bdV at hc
    refine hc.mono ?_; clear hc; rintro e wc ⟨rfl, hO⟩
    have hb := hO.below hx M.out.1.S.size
    have hw3 := HB10.out
    have hs := HS9.out
    have hu := TwoOwn.apart HT.out (by omega) M.out.1.U.2 hO
    have hub := hO.above HT.out (by omega) M.out.1.U.1.1
    have hS := M.out.1.S.trans hb
    have hbu : bu ≤ wc.heap.size := Nat.le_trans hs.2.2.2 (Nat.le_trans M.out.2 hb.size)
    have K := Lib.hid (And.intro hu (And.intro hS (And.intro hbu hs.1)))
    clear k0 k1 hx hO hb hu hS hbu hw3 hs M
    obtain ⟨k0, k1⟩ := two_cell hub
    clear hub
    go_wp2_with fail
    have hx := K.out.1
    have hc := overBand_call bu uL uH m2 m2 uc ud L2 H2 _ hx (by rw [ln2.out.1]; omega) (by rw [ln2.out.2]; omega)
    unfold bdV at hc
    refine hc.mono ?_; clear hc; rintro e wd ⟨rfl, hO⟩
    have hb := hO.below hx K.out.2.2.1
    replace K := Lib.hid (K0.out.keep (K.out.2.1.trans (hb.mono K.out.2.2.2)))
    clear k0 k1 hx hO hb K0 HT HB10 HS9 ln1 ln2
    go_wp2_with fail
    refine (pNew_call alt size _).mono ?_; rintro e we hP
    obtain ⟨nL', nc, nH', nd, rfl, -, i1, i2, hb⟩ := bo_two hP (loK_len _ 201) (hiK_len _ 201)
    clear hP
    replace K := Lib.hid ((K.out.keep hb).keep (below_alloc we (.cells #[.slice nL' (eN (meE alt size)) nc, .slice nH' (eN (meE alt size)) nd] 24)))
    have N := Lib.hid (BdA.new (cL := nc) (cH := nd) i1 i2)
    obtain ⟨b18, hb18⟩ : ∃ b, we.heap.size = b := ⟨_, rfl⟩
    rw [hb18] at N
    clear hb i1 i2
    go_wp2_with fail
    clear hb18
    generalize we.alloc (.cells #[.slice nL' (eN (meE alt size)) nc, .slice nH' (eN (meE alt size)) nd] 24) = wf at *
    refine (rNew_call alt size _).mono ?_; rintro e wg hP
    obtain ⟨mL, mc, mH, md, rfl, -, i1, i2, hb⟩ := bo_two hP (loK_len _ 201) (hiK_len _ 201)
    clear hP
    replace K := Lib.hid ((K.out.keep hb).keep (below_alloc wg (.cells #[.slice mL (eN (meE alt size)) mc, .slice mH (eN (meE alt size)) md] 24)))
    replace N := Lib.hid ((N.out.keep hb).keep (below_alloc wg (.cells #[.slice mL (eN (meE alt size)) mc, .slice mH (eN (meE alt size)) md] 24)))
    have Mm := Lib.hid (BdA.new (cL := mc) (cH := md) i1 i2)
    generalize eL (meE alt size) (loK (neF alt size) 201) = L3 at *
    generalize eL (meE alt size) (hiK (neF alt size) 201) = H3 at *
    generalize meE alt size = E3 at *
    generalize eN E3 = m3 at *
    obtain ⟨b20, hb20⟩ : ∃ b, wg.heap.size = b := ⟨_, rfl⟩
    rw [hb20] at Mm
    have e4 : (E3 == E3) = true := by simp
    clear hb i1 i2
    obtain ⟨k0, k1⟩ := two_cell K.out.A.1
    obtain ⟨o0, o1⟩ := two_cell K.out.O.1
    obtain ⟨n0, n1'⟩ := two_cell N.out.1
    obtain ⟨m0, m1'⟩ := two_cell Mm.out.1
    go_wp2_with fail
    have q1 := N.out.2.1
    have q2 := N.out.2.2
    have q3 := Mm.out.2.1
    have q4 := Mm.out.2.2
    clear hb20 k0 k1 o0 o1 n0 n1' m0 m1'
    generalize wg.alloc (.cells #[.slice mL m3 mc, .slice mH m3 md] 24) = wh at *
    have hc := equalBand_call nL' nH' mL mH m3 m3 nc nd m3 m3 mc md L3 H3 L3 H3 _ q1 q2 q3 q4
    unfold bdV at hc
    refine hc.mono ?_; clear hc q1 q2 q3 q4; rintro e wi ⟨rfl, hb⟩
    rw [decide_eq_true (rfl : L3 = L3), decide_eq_true (rfl : H3 = H3)]
    replace K := Lib.hid (K.out.keep hb)
    clear hb N Mm
    obtain ⟨k0, k1⟩ := two_cell K.out.A.1
    obtain ⟨o0, o1⟩ := two_cell K.out.O.1
    go_wp2_with fail
    have q1 := K.out.O.2.1
    have q2 := K.out.O.2.2
    have q3 := K.out.A.2.1
    have q4 := K.out.A.2.2
    have hc := equalBand_call oL oH aL aH nL nH dL dH nL nH cL cH lo hi lo hi _ q1 q2 q3 q4
    unfold bdV at hc
    refine hc.mono ?_; clear hc q1 q2 q3 q4; rintro e wj ⟨rfl, hb⟩
    rw [decide_eq_true (rfl : lo = lo), decide_eq_true (rfl : hi = hi)]
    replace K := Lib.hid (K.out.keep hb)
    clear hb k0 k1 o0 o1
    go_wp2_with fail
    refine (awake_call _).mono ?_; rintro e wk ⟨rfl, hb⟩
    replace K := Lib.hid (K.out.keep hb)
    clear hb
    go_wp2_with fail
    go_ret
    exact bPost_of rfl K.out.B

set_option maxRecDepth 100000 in
set_option maxHeartbeats 4000000 in
theorem matches_long (aL aH : Option Addr) (nL nH cL cH : Nat) (pull alt size : Int) (w : World) (hn : (decide (250 < (nL : Int)) || decide (250 < (nH : Int))) = true) :
    Calls Try.prog 3 #[bdV aL nL cL aH nH cH, .int .i64 pull, .int .i64 alt, .int .i64 size] w (BPost true w) := by
  have hlw : w.heap.size + 1 = (w.alloc (.cells #[.slice aL nL cL, .slice aH nH cH] 24)).heap.size := by simp
  have hcw := two_cell (block_new (w.alloc (.cells #[.slice aL nL cL, .slice aH nH cH] 24)) (.cells #[.slice aL nL cL, .slice aH nH cH] 24) hlw)
  have B := Lib.hid (show Below w.heap.size w ((w.alloc (.cells #[.slice aL nL cL, .slice aH nH cH] 24)).alloc (.cells #[.slice aL nL cL, .slice aH nH cH] 24)) from (below_alloc w _).alloc (by simp) _)
  have HC := Lib.hid hcw
  have HN := Lib.hid hn
  clear hcw hlw hn
  unfold bdV
  go_enter Try.func3, Try.ntmps3
  go_wp2_with fail
  refine (long_call aL aH nL cL nH cH (w.heap.size + 1) 1 _ HC.out.1 HC.out.2).mono ?_; rintro e w1 ⟨rfl, hb⟩
  rw [HN.out]
  replace B := Lib.hid (B.out.trans (hb.mono B.out.size))
  clear hb HC
  go_wp2_with fail
  refine (awake_call _).mono ?_; rintro e w2 ⟨rfl, hb⟩
  replace B := Lib.hid (B.out.trans (hb.mono B.out.size))
  clear hb
  go_wp2_with fail
  go_ret
  exact bPost_of rfl B.out
theorem matches_call (aL aH : Option Addr) (nL nH cL cH : Nat) (lo hi : List Int) (pull alt size : Int) (w : World) (hL : Ints w aL nL lo) (hH : Ints w aH nH hi) :
    Calls Try.prog 3 #[bdV aL nL cL aH nH cH, .int .i64 pull, .int .i64 alt, .int .i64 size] w (BPost true w) := by
  cases hn : (decide (250 < (nL : Int)) || decide (250 < (nH : Int))) with
  | true => exact matches_long aL aH nL nH cL cH pull alt size w hn
  | false =>
    rw [Bool.or_eq_false_iff] at hn
    have h1 := of_decide_eq_false hn.1
    have h2 := of_decide_eq_false hn.2
    exact matches_go aL aH nL nH cL cH lo hi pull alt size w hL hH (by omega) (by omega)
end Go.Proofs.Ytojjhkahigdkoaa
