/-
  Layer 18 (altitude): the law Truth.
-/
import Derived.Test.YtojjhkahigdkoaaAltTr
import Derived.Test.YtojjhkahigdkoaaAltM
import Derived.Test.YtojjhkahigdkoaaSliceLib
import Derived.Test.YtojjhkahigdkoaaHeldBy
import Derived.BigQuiet
import Derived.Deep.DeepCutAuto
namespace Go.Proofs.Ytojjhkahigdkoaa
open Go.RowKit AltMath MyHeap MyCopy MyOwn

set_option maxRecDepth 100000 in
set_option maxHeartbeats 4000000 in
theorem truth_out (z v pull : Int) (aP aK : Option Addr) (nP cP nK cK : Nat) (w : World) (p0 : 0 ≤ pull) (p1 : pull ≤ 255) (h : z < -1000 ∨ 50000 < z ∨ v < -100 ∨ 100 < v ∨ 60 < (nP : Int)) :
    Calls Try.prog 5 #[.agg #[.int .i64 z, .int .i64 v], .int .u8 pull, .slice aP nP cP, .slice aK nK cK] w (BPost true w) := by
  have B := Lib.hid (below_alloc w (.cells #[.int .i64 z, .int .i64 v] 40))
  by_cases c0 : z < -1000
  · have e0 : decide (z < -1000) = true := decide_eq_true c0
    clear h
    go_enter Try.func5, Try.ntmps5
    go_wp2_with fail
    go_quiet (fail)
    go_wp2_with fail
    refine (awake_call _).mono ?_; rintro e w2 ⟨rfl, hb⟩
    have B2 := Lib.hid ((below_drewN B.out nq).trans (hb.mono (below_drewN B.out nq).size))
    clear hb
    go_wp2_with fail
    go_ret
    exact bPost_of rfl B2.out
  · have _ := c0
    by_cases c1 : 50000 < z
    · have e1 : decide (50000 < z) = true := decide_eq_true c1
      have e0 : decide (z < -1000) = false := decide_eq_false c0
      clear h
      go_enter Try.func5, Try.ntmps5
      go_wp2_with fail
      go_quiet (fail)
      go_wp2_with fail
      refine (awake_call _).mono ?_; rintro e w2 ⟨rfl, hb⟩
      have B2 := Lib.hid ((below_drewN B.out nq).trans (hb.mono (below_drewN B.out nq).size))
      clear hb
      go_wp2_with fail
      go_ret
      exact bPost_of rfl B2.out
    · have _ := c1
      by_cases c2 : v < -100
      · have e2 : decide (v < -100) = true := decide_eq_true c2
        have e0 : decide (z < -1000) = false := decide_eq_false c0
        have e1 : decide (50000 < z) = false := decide_eq_false c1
        clear h
        go_enter Try.func5, Try.ntmps5
        go_wp2_with fail
        go_quiet (fail)
        go_wp2_with fail
        refine (awake_call _).mono ?_; rintro e w2 ⟨rfl, hb⟩
        have B2 := Lib.hid ((below_drewN B.out nq).trans (hb.mono (below_drewN B.out nq).size))
        clear hb
        go_wp2_with fail
        go_ret
        exact bPost_of rfl B2.out
      · have _ := c2
        by_cases c3 : 100 < v
        · have e3 : decide (100 < v) = true := decide_eq_true c3
          have e0 : decide (z < -1000) = false := decide_eq_false c0
          have e1 : decide (50000 < z) = false := decide_eq_false c1
          have e2 : decide (v < -100) = false := decide_eq_false c2
          clear h
          go_enter Try.func5, Try.ntmps5
          go_wp2_with fail
          go_quiet (fail)
          go_wp2_with fail
          refine (awake_call _).mono ?_; rintro e w2 ⟨rfl, hb⟩
          have B2 := Lib.hid ((below_drewN B.out nq).trans (hb.mono (below_drewN B.out nq).size))
          clear hb
          go_wp2_with fail
          go_ret
          exact bPost_of rfl B2.out
        · have _ := c3
          have c4 : 60 < (nP : Int) := by omega
          have e4 : decide (60 < (nP : Int)) = true := decide_eq_true c4
          have e0 : decide (z < -1000) = false := decide_eq_false c0
          have e1 : decide (50000 < z) = false := decide_eq_false c1
          have e2 : decide (v < -100) = false := decide_eq_false c2
          have e3 : decide (100 < v) = false := decide_eq_false c3
          clear h
          go_enter Try.func5, Try.ntmps5
          go_wp2_with fail
          go_quiet (fail)
          go_wp2_with fail
          refine (awake_call _).mono ?_; rintro e w2 ⟨rfl, hb⟩
          have B2 := Lib.hid ((below_drewN B.out nq).trans (hb.mono (below_drewN B.out nq).size))
          clear hb
          go_wp2_with fail
          go_ret
          exact bPost_of rfl B2.out

/-- What stays: the band in its block, and the truth in it. -/
structure TrE (w0 : World) (m : Nat) (aL : Option Addr) (cL : Nat) (aH : Option Addr) (cH : Nat) (lo hi : List Int) (z v : Int) (W : World) : Prop where
  B : Below w0.heap.size w0 W
  A : BdA m aL 201 cL aH 201 cH lo hi W
  c : chB lo hi = 0
  i : inB lo hi z v
  z0 : -1000 ≤ z
  z1 : z ≤ 50000
  v0 : -100 ≤ v
  v1 : v ≤ 100
  l : w0.heap.size ≤ m
theorem TrE.keep {w0 : World} {m : Nat} {aL : Option Addr} {cL : Nat} {aH : Option Addr} {cH : Nat} {lo hi : List Int} {z v : Int} {W W' : World} (h : TrE w0 m aL cL aH cH lo hi z v W) (hb : Below W.heap.size W W') : TrE w0 m aL cL aH cH lo hi z v W' := ⟨h.B.trans (hb.mono h.B.size), h.A.keep hb, h.c, h.i, h.z0, h.z1, h.v0, h.v1, h.l⟩
def TrK (w0 : World) (m : Nat) (z v : Int) (W : World) : Prop := ∃ aL cL aH cH lo hi, TrE w0 m aL cL aH cH lo hi z v W
theorem at_get {k : IntKind} {w : World} {a : Option Addr} {n : Nat} {zs : List Int} (h : MySlice.IntsAt k w a n zs) {i : Nat} (hi : i < n) : ∃ b o, a = some ⟨b, o, none⟩ ∧ w.cell? ⟨b, o + i, none⟩ = some (.int k (zs[i]?.getD 0)) := by
  rcases h.cells with h0 | ⟨b, o, rfl, hc⟩
  · omega
  · exact ⟨b, o, rfl, hc i hi⟩
/-- A band that is stored into its block. -/
theorem store_band {m : Nat} {c0 c1 : Value} {W W' : World} {aL aH : Option Addr} {cL cH : Nat} {lo hi : List Int} {base : Nat} (hm : W.heap[m]? = some (.cells #[c0, c1] 24 (0, 0))) (hl : m < base) (hT : TwoOwn base (.slice aL 201 cL) (.slice aH 201 cH) lo hi W) (l1 : lo.length = 201) (l2 : hi.length = 201)
    (hW : W' = (W.setCell ⟨m, 0, none⟩ (.slice aL 201 cL)).setCell ⟨m, 1, none⟩ (.slice aH 201 cH)) : BdA m aL 201 cL aH 201 cH lo hi W' := by
  have hO : Only m W W' := by rw [hW]; exact ((Only.refl m W).setCell 0 _).setCell 1 _
  have hT' : TwoOwn base (.slice aL 201 cL) (.slice aH 201 cH) lo hi W' := ⟨own_keep hT.L hO (Or.inr fun e => by have := (hT.L.lt _ e).1; omega), own_keep hT.H hO (Or.inr fun e => by have := (hT.H.lt _ e).1; omega), hT.A⟩
  obtain ⟨a, c, b, d, e1, e2, i1, i2⟩ := two_ints hT' l1 l2 (by decide) (by decide)
  cases e1
  cases e2
  refine ⟨?_, i1, i2⟩
  rw [hW]
  have := block_setCell (i := 1) (v := .slice aH 201 cH) (block_setCell (i := 0) (v := .slice aL 201 cL) hm)
  simpa using this

theorem TrE.store {w0 : World} {m : Nat} {aL : Option Addr} {cL : Nat} {aH : Option Addr} {cH : Nat} {lo hi : List Int} {z v : Int} {W W1 : World} (h : TrE w0 m aL cL aH cH lo hi z v W) (hb : Below W.heap.size W W1) {sL : Option Addr} {sc : Nat} {sH : Option Addr} {sd : Nat} {lo' hi' : List Int} {z' v' : Int}
    (hT : TwoOwn W.heap.size (.slice sL 201 sc) (.slice sH 201 sd) lo' hi' W1) (l1 : lo'.length = 201) (l2 : hi'.length = 201) (hc : chB lo' hi' = 0) (hi2 : inB lo' hi' z' v') (z0 : -1000 ≤ z') (z1 : z' ≤ 50000) (v0 : -100 ≤ v') (v1 : v' ≤ 100) :
    TrE w0 m sL sc sH sd lo' hi' z' v' ((W1.setCell ⟨m, 0, none⟩ (.slice sL 201 sc)).setCell ⟨m, 1, none⟩ (.slice sH 201 sd)) :=
  have hl := lt_of_block h.A.1
  have hO : Only m W1 ((W1.setCell ⟨m, 0, none⟩ (.slice sL 201 sc)).setCell ⟨m, 1, none⟩ (.slice sH 201 sd)) := ((Only.refl m W1).setCell 0 _).setCell 1 _
  ⟨(h.B.trans (hb.mono h.B.size)).trans (hO.below h.l (Nat.le_trans h.B.size hb.size)), store_band (keepO hb h.A.1) hl hT l1 l2 rfl, hc, hi2, z0, z1, v0, v1, h.l⟩
theorem leS_hund {z : Int} (h : -1000 ≤ z) : -1000 ≤ leS z 100 := by unfold leS; omega
theorem me_least {z size : Int} (hs : size = 25 ∨ size = 100) (h0 : -1000 ≤ z) (h1 : z ≤ 50000) : meE (leS z size) size = 0 ∧ ¬ leS z size < -1000 ∧ leS z size ≤ z ∧ z ≤ leS z size + size - 1 := by
  have hb := leS_bd (z := z) (size := size) (by omega)
  have hm : -1000 ≤ leS z size := by
    rcases hs with rfl | rfl
    · exact leS_min h0
    · exact leS_hund h0
  refine ⟨?_, by omega, hb⟩
  unfold meE
  rw [if_neg]
  omega

set_option maxRecDepth 100000 in
set_option maxHeartbeats 32000000 in
theorem truth_go (z v pull : Int) (aP aK : Option Addr) (nP cP nK cK : Nat) (ps ks : List Int) (w : World) (p0 : 0 ≤ pull) (p1 : pull ≤ 255) (hP : MySlice.IntsAt .i8 w aP nP ps) (hK : MySlice.IntsAt .u8 w aK nK ks)
    (hps : ∀ i : Nat, -128 ≤ ps[i]?.getD 0 ∧ ps[i]?.getD 0 ≤ 127) (hks : ∀ i : Nat, 0 ≤ ks[i]?.getD 0 ∧ ks[i]?.getD 0 ≤ 255) (z0 : -1000 ≤ z) (z1 : z ≤ 50000) (v0 : -100 ≤ v) (v1 : v ≤ 100) (hn : (nP : Int) ≤ 60) :
    Calls Try.prog 5 #[.agg #[.int .i64 z, .int .i64 v], .int .u8 pull, .slice aP nP cP, .slice aK nK cK] w (BPost true w) := by
  have B := Lib.hid (below_alloc w (.cells #[.int .i64 z, .int .i64 v] 40))
  have e0 : decide (z < -1000) = false := decide_eq_false (by omega)
  have e1 : decide (50000 < z) = false := decide_eq_false (by omega)
  have e2 : decide (v < -100) = false := decide_eq_false (by omega)
  have e3 : decide (100 < v) = false := decide_eq_false (by omega)
  have e4 : decide (60 < (nP : Int)) = false := decide_eq_false (by omega)
  obtain ⟨Mx, hM⟩ : ∃ P : Nat, pull % 33 = (P : Int) := ⟨(pull % 33).toNat, by omega⟩
  have M1 : (Mx : Int) ≤ 32 := by omega
  have H := Lib.hid (And.intro (And.intro hP hK) (And.intro hps hks))
  have hls := leS_bd (z := z) (size := 25) (by decide)
  have hlm := leS_min z0
  have hmE : meE (leS z 25) 25 = 0 := by
    unfold meE
    rw [if_neg]
    omega
  have HM := Lib.hid (And.intro hmE (And.intro hls hlm))
  clear hP hK hps hks hmE hls hlm
  go_enter Try.func5, Try.ntmps5
  go_wp2_with fail
  go_quiet (fail)
  go_wp2_with fail
  refine (awake_call _).mono ?_; rintro e w1 ⟨rfl, hb⟩
  replace B := Lib.hid ((below_drewN B.out nq).trans (hb.mono (below_drewN B.out nq).size))
  clear hb
  go_wp2_with fail
  refine (least_call z 25 _ z0 z1 (by decide) (by decide)).mono ?_; rintro e w2 ⟨rfl, rfl⟩
  go_wp2_with fail
  refine (pNew_call (leS z 25) 25 _).mono ?_; rintro e w3 ⟨vL, vH, rfl, hT, -, hb⟩
  have hT' := hT HM.out.1
  obtain ⟨xL, xc, xH, xd, rfl, rfl, i1, i2⟩ := two_ints hT' (loK_len _ 201) (hiK_len _ 201) (by decide) (by decide)
  rw [HM.out.1]
  have K := Lib.hid (show TrK w w3.heap.size z v (w3.alloc (.cells #[.slice xL 201 xc, .slice xH 201 xd] 24)) from
    ⟨xL, xc, xH, xd, _, _, (B.out.trans (hb.mono B.out.size)).alloc (Nat.le_trans B.out.size hb.size) _, BdA.new i1 i2, ch_nm (fun i _ => ⟨by unfold neF; have := HM.out.2.2; simp only []; omega, by unfold neF; simp only []; omega⟩), in_new ⟨v0, v1⟩ HM.out.2.1.1 HM.out.2.1.2 z1, z0, z1, v0, v1, Nat.le_trans B.out.size hb.size⟩)
  clear hT hT' hb i1 i2 B
  obtain ⟨m, hm⟩ : ∃ m, w3.heap.size = m := ⟨_, rfl⟩
  rw [hm] at K
  go_wp2_with fail
  clear hm hM HM e0 e1 e2 e3 e4
  go_loopw [10, 11, 14] (fun zv vv kv wr => ∃ (k : Nat) (Z V : Int), k ≤ nP ∧ kv = .int .i64 k ∧ zv = .int .i64 Z ∧ vv = .int .i64 V ∧ TrK w m Z V wr) (fun _ _ kv _ => nP - (intOf kv).toNat)
  case atStart => exact ⟨0, z, v, Nat.zero_le _, rfl, rfl, rfl, K.out⟩
  case round =>
    clear K z0 z1 v0 v1
    obtain ⟨k, Z, V, hk, rfl, rfl, rfl, aL, cL, aH, cH, lo, hi, hK⟩ := hrel
    have K := Lib.hid hK
    have z0 := hK.z0
    have z1 := hK.z1
    have v0 := hK.v0
    have v1 := hK.v1
    clear hK
    by_cases hlt : k < nP
    · have hk0 : (0 : Int) ≤ (k : Int) := by omega
      have hk1 : (k : Int) < (nP : Int) := by omega
      obtain ⟨bP, oP, rfl, hpc⟩ := at_get H.out.1.1 hlt
      have hq0 := H.out.2.1 k
      obtain ⟨PV, hPV⟩ : ∃ x, ps[k]?.getD 0 = x := ⟨_, rfl⟩
      rw [hPV] at hpc hq0
      have hpc2 := keep1 K.out.B hpc
      clear hpc hPV
      go_upto_if 68 with fail
      go_cut [15] (fun s15 wx => ∃ A : Int, s15 = .int .i64 A ∧ -(Mx : Int) ≤ A ∧ A ≤ (Mx : Int) ∧ wx = wr)
      case first =>
        by_cases hM0 : 0 < (Mx : Int)
        · have hd0 : decide (0 < (Mx : Int)) = true := decide_eq_true hM0
          have hA := tmod_bd (z := PV) (size := (Mx : Int) + 1) (by omega)
          have hne : ((Mx : Int) + 1 == 0) = false := by simp; omega
          have hw : IntKind.i64.wrap (PV.tmod ((Mx : Int) + 1)) = PV.tmod ((Mx : Int) + 1) := by rw [IntKind.wrap_i64] <;> omega
          obtain ⟨A, hAA⟩ : ∃ A, PV.tmod ((Mx : Int) + 1) = A := ⟨_, rfl⟩
          rw [hAA] at hA hw
          go_wp2_with fail
          go_meet
          exact ⟨A, rfl, by omega, by omega, rfl⟩
        · have hd0 : decide (0 < (Mx : Int)) = false := decide_eq_false hM0
          go_wp2_with fail
          go_meet
          exact ⟨0, rfl, by omega, by omega, rfl⟩
      case rest =>
        obtain ⟨A, rfl, a0, a1, rfl⟩ := hcut
        clear hpc2 hq0
        go_upto_region 14 with fail
        go_cut [10, 11] (fun s10 s11 wx => ∃ Vn : Int, s10 = .int .i64 (Z + V) ∧ s11 = .int .i64 Vn ∧ (-100 ≤ Vn ∧ Vn ≤ 100) ∧ (Vn - V ≤ (Mx : Int) ∧ V - Vn ≤ (Mx : Int)) ∧ wx = wc)
        case first =>
          by_cases c1 : V + A < -100
          · have e7 : decide (V + A < -100) = true := decide_eq_true c1
            go_wp2_with fail
            go_meet
            exact ⟨-100, rfl, rfl, ⟨by omega, by omega⟩, ⟨by omega, by omega⟩, rfl⟩
          · by_cases c2 : 100 < V + A
            · have e8 : decide (100 < V + A) = true := decide_eq_true c2
              go_wp2_with fail
              go_meet
              exact ⟨100, rfl, rfl, ⟨by omega, by omega⟩, ⟨by omega, by omega⟩, rfl⟩
            · go_wp2_with fail
              go_meet
              exact ⟨V + A, rfl, rfl, ⟨by omega, by omega⟩, ⟨by omega, by omega⟩, rfl⟩
        case rest =>
          obtain ⟨Vn, rfl, rfl, ⟨u0, u1⟩, ⟨t1, t2⟩, rfl⟩ := hcut
          obtain ⟨k0, k1⟩ := two_cell K.out.A.1
          by_cases y0 : Z + V < -1000
          · have e0 : decide (Z + V < -1000) = true := decide_eq_true y0
            go_wp2_with fail
            go_ret
            exact bPost_of rfl K.out.B
          · have e0 : decide (Z + V < -1000) = false := decide_eq_false y0
            by_cases y1 : 50000 < Z + V
            · have e1 : decide (50000 < Z + V) = true := decide_eq_true y1
              go_wp2_with fail
              go_ret
              exact bPost_of rfl K.out.B
            · have e1 : decide (50000 < Z + V) = false := decide_eq_false y1
              replace y0 : -1000 ≤ Z + V := by omega
              replace y1 : Z + V ≤ 50000 := by omega
              go_wp2_with fail
              clear e0 e1
              have hc := pStep_call aL aH 201 201 cL cH lo hi (Mx : Int) _ K.out.A.2.1 K.out.A.2.2
              unfold bdV at hc
              refine hc.mono ?_; clear hc; rintro e w5 ⟨vL, vH, rfl, hT, -, hb⟩
              have hT' := hT (stE_ok K.out.c (by omega))
              obtain ⟨sL, sc, sH, sd, rfl, rfl, -, -⟩ := two_ints hT' (loK_len _ 201) (hiK_len _ 201) (by decide) (by decide)
              rw [show stE lo hi (Mx : Int) = 0 from stE_ok K.out.c (by omega)]
              rw [Int.toNat_natCast] at hT'
              have K6 := Lib.hid (K.out.store hb hT' (loK_len _ 201) (hiK_len _ 201) ch_st (in_step K.out.c K.out.i rfl y0 y1 u0 u1 t1 t2) y0 y1 u0 u1)
              clear k0 k1
              obtain ⟨g0, g1, f0, f1⟩ := two_facts (keepO hb K.out.A.1)
              replace K := K6
              clear hT hT' hb K6
              generalize loK (stF lo hi Mx) 201 = lo' at *
              generalize hiK (stF lo hi Mx) 201 = hi' at *
              go_upto_if 102 with fail
              clear g0 g1 f0 f1
              generalize (w5.setCell ⟨m, 0, none⟩ (.slice sL 201 sc)).setCell ⟨m, 1, none⟩ (.slice sH 201 sd) = W6 at *
              go_cut [16] (fun s16 wx => ∃ kd : Int, s16 = .int .u8 kd ∧ (kd = 0 ∨ kd = 1 ∨ kd = 2) ∧ wx = W6)
              case first =>
                by_cases hkk : k < nK
                · have hk2 : (k : Int) < (nK : Int) := by omega
                  obtain ⟨bK, oK, rfl, hkc⟩ := at_get H.out.1.2 hkk
                  have hq0 := H.out.2.2 k
                  obtain ⟨KV, hKV⟩ : ∃ x, ks[k]?.getD 0 = x := ⟨_, rfl⟩
                  rw [hKV] at hkc hq0
                  have hkc2 := keep1 K.out.B hkc
                  clear hkc hKV
                  go_wp2_with fail
                  go_meet
                  exact ⟨KV % 3, rfl, by omega, rfl⟩
                · have hk2 : ¬ (k : Int) < (nK : Int) := by omega
                  go_wp2_with fail
                  go_meet
                  exact ⟨0, rfl, by omega, rfl⟩
              case rest =>
                obtain ⟨kd, rfl, hkd, rfl⟩ := hcut
                go_upto_if 109 with fail
                go_cut [13] (fun s13 wx => ∃ bL cc bH dd lo2 hi2, TrE w m bL cc bH dd lo2 hi2 (Z + V) Vn wx)
                case first =>
                  rcases hkd with rfl | rfl | rfl
                  · go_wp2_with fail
                    go_meet
                    exact ⟨_, _, _, _, _, _, K.out⟩
                  · go_wp2_with fail
                    replace K := Lib.hid (K.out.keep (below_alloc wc (.cells #[.int .i64 0, .int .i64 25, .int .i64 100] 3)))
                    generalize wc.alloc (.cells #[.int .i64 0, .int .i64 25, .int .i64 100] 3) = W7 at *
                    obtain ⟨hmE, hdl, hl1, hl2⟩ := me_least (z := Z + V) (size := 25) (by decide) y0 y1
                    obtain ⟨g0, g1, f0, f1⟩ := two_facts K.out.A.1
                    replace K := Lib.hid (K.out.keep (Below.refl W7.heap.size W7).drew)
                    have HL := Lib.hid (And.intro hmE (And.intro hl1 hl2))
                    clear hmE hl1 hl2
                    obtain ⟨AL, hAL⟩ : ∃ A, leS (Z + V) 25 = A := ⟨_, rfl⟩
                    rw [hAL] at HL hdl
                    refine wp_region_held_drew (S := (fun _ => True)) (by kernel_rfl) (by (try dsimp only); (first | done | exact trivial)) (fun hHeld => ?_)
                    refine MyHeld.take 1 (v := ?_) (.s .z) (by kernel_rfl) (by kernel_rfl) (by kernel_rfl) (fun _ _ _ h => h) (by rfl) (by assumption) ?_ ?_
                    rotate_left
                    · intro w hSw; (try dsimp only at hSw); go_simp; (try with_reducible rfl)
                    try simp only [Act.put, List.setIfInBounds_toArray, List.set_cons_zero, List.set_cons_succ]
                    refine MyHeld.take 2 (v := ?_) (.s (.s .z)) (by kernel_rfl) (by kernel_rfl) (by kernel_rfl) (fun _ _ _ h => h) (by rfl) (by assumption) ?_ ?_
                    rotate_left
                    · intro w hSw; (try dsimp only at hSw); go_simp; (try with_reducible rfl)
                    try simp only [Act.put, List.setIfInBounds_toArray, List.set_cons_zero, List.set_cons_succ]
                    refine MyHeld.take 5 (v := ?_) (.s (.s (.s (.s (.s .z))))) (by kernel_rfl) (by kernel_rfl) (by kernel_rfl) (fun _ _ _ h => h) (by rfl) (by assumption) ?_ ?_
                    rotate_left
                    · intro w hSw; (try dsimp only at hSw); go_simp; (try with_reducible rfl)
                    try simp only [Act.put, List.setIfInBounds_toArray, List.set_cons_zero, List.set_cons_succ]
                    refine wpAnyH_ready (rs := [0, 3]) (by kernel_rfl) (by simp) ?_
                    refine (MyHeld.next 0 .z (fun Kq hKq => ?_) (MyHeld.next 3 (.s (.s (.s .z))) (fun Kq hKq => ?_) AllReadyH.nil))
                    focus
                      go_simp
                      refine hKq.out _ _ (by (try dsimp only); (first | done | exact trivial)) (fun hHeld' => ?_)
                      clear hKq Kq hHeld; have hHeld := hHeld'; clear hHeld'
                      try simp only [Act.put, List.setIfInBounds_toArray, List.set_cons_zero, List.set_cons_succ]
                      refine wpAnyH_ready (rs := [3]) (by kernel_rfl) (by simp) ?_
                      refine (MyHeld.next 3 (.s (.s (.s .z))) (fun Kq hKq => ?_) AllReadyH.nil)
                      go_simp
                      (go_at_call 23; refine (least_call (Z + V) 25 _ y0 y1 (by decide) (by decide)).mono ?_; rintro e w7 ⟨rfl, rfl⟩; rw [hAL])
                      go_wp2_with fail
                      refine hKq.out _ _ (by (try dsimp only); (first | done | exact trivial)) (fun hHeld' => ?_)
                      clear hKq Kq hHeld; have hHeld := hHeld'; clear hHeld'
                      try simp only [Act.put, List.setIfInBounds_toArray, List.set_cons_zero, List.set_cons_succ]
                      refine wpAnyH_ready (rs := [4]) (by kernel_rfl) (by simp) ?_
                      refine (MyHeld.next 4 (.s (.s (.s (.s .z)))) (fun Kq hKq => ?_) AllReadyH.nil)
                      go_simp
                      refine hKq.out _ _ (by (try dsimp only); (first | done | exact trivial)) (fun hHeld' => ?_)
                      clear hKq Kq hHeld; have hHeld := hHeld'; clear hHeld'
                      try simp only [Act.put, List.setIfInBounds_toArray, List.set_cons_zero, List.set_cons_succ]
                      refine wpAnyH_ready (rs := [6]) (by kernel_rfl) (by simp) ?_
                      refine (MyHeld.next 6 (.s (.s (.s (.s (.s (.s .z)))))) (fun Kq hKq => ?_) AllReadyH.nil)
                      go_simp
                      (go_at_call 14; rw [if_neg (show ¬ AL < -1000 by omega)]; have hc := pMea_call sL sH 201 201 sc sd lo' hi' AL 25 _ K.out.A.2.1 K.out.A.2.2; unfold bdV at hc; refine hc.mono ?_; clear hc; rintro e w8 ⟨vL, vH, rfl, hT, -, hb⟩; have hT' := hT (maE_ok K.out.c HL.out.1); obtain ⟨mL, mc, mH, md, rfl, rfl, -, -⟩ := two_ints hT' (loK_len _ 201) (hiK_len _ 201) (by decide) (by decide); rw [show maE lo' hi' AL 25 = 0 from maE_ok K.out.c HL.out.1]; have K8 := Lib.hid (K.out.store hb hT' (loK_len _ 201) (hiK_len _ 201) (ch_ma K.out.c HL.out.1) (in_mea K.out.c K.out.i HL.out.2.1 HL.out.2.2) y0 y1 u0 u1); clear g0 g1 f0 f1; obtain ⟨g0, g1, f0, f1⟩ := two_facts (keepO hb K.out.A.1); clear hT hT' hb)
                      go_wp2_with fail
                      refine hKq.out _ _ (by (try dsimp only); (first | done | exact trivial)) (fun hHeld' => ?_)
                      clear hKq Kq hHeld; have hHeld := hHeld'; clear hHeld'
                      try simp only [Act.put, List.setIfInBounds_toArray, List.set_cons_zero, List.set_cons_succ]
                      refine MyHeld.take 7 (v := ?_) (.s (.s (.s (.s (.s (.s (.s .z))))))) (by kernel_rfl) (by kernel_rfl) (by kernel_rfl) (fun _ _ _ h => h) (by rfl) (by assumption) ?_ ?_
                      rotate_left
                      · intro w hSw; (try dsimp only at hSw); go_simp; (try with_reducible rfl)
                      try simp only [Act.put, List.setIfInBounds_toArray, List.set_cons_zero, List.set_cons_succ]
                      refine MyHeld.take 8 (v := ?_) (.s (.s (.s (.s (.s (.s (.s (.s .z)))))))) (by kernel_rfl) (by kernel_rfl) (by kernel_rfl) (fun _ _ _ h => h) (by rfl) (by assumption) ?_ ?_
                      rotate_left
                      · intro w hSw; (try dsimp only at hSw); go_simp; (try with_reducible rfl)
                      try simp only [Act.put, List.setIfInBounds_toArray, List.set_cons_zero, List.set_cons_succ]
                      refine MyHeld.take 9 (v := ?_) (.s (.s (.s (.s (.s (.s (.s (.s (.s .z))))))))) (by kernel_rfl) (by kernel_rfl) (by kernel_rfl) (fun _ _ _ h => h) (by rfl) (by assumption) ?_ ?_
                      rotate_left
                      · intro w hSw; (try dsimp only at hSw); go_simp; (try with_reducible rfl)
                      try simp only [Act.put, List.setIfInBounds_toArray, List.set_cons_zero, List.set_cons_succ]
                      refine wpAnyH_ready (rs := [10]) (by kernel_rfl) (by simp) ?_
                      refine (MyHeld.next 10 (.s (.s (.s (.s (.s (.s (.s (.s (.s (.s .z)))))))))) (fun Kq hKq => ?_) AllReadyH.nil)
                      go_simp
                      refine hKq.out _ _ (by (try dsimp only); (first | done | exact trivial)) (fun hHeld' => ?_)
                      clear hKq Kq hHeld; have hHeld := hHeld'; clear hHeld'
                      try simp only [Act.put, List.setIfInBounds_toArray, List.set_cons_zero, List.set_cons_succ]
                      refine MyHeld.take 11 (v := ?_) (.s (.s (.s (.s (.s (.s (.s (.s (.s (.s (.s .z))))))))))) (by kernel_rfl) (by kernel_rfl) (by kernel_rfl) (fun _ _ _ h => h) (by rfl) (by assumption) ?_ ?_
                      rotate_left
                      · intro w hSw; (try dsimp only at hSw); go_simp; (try with_reducible rfl)
                      try simp only [Act.put, List.setIfInBounds_toArray, List.set_cons_zero, List.set_cons_succ]
                      refine wpAnyH_done (by kernel_rfl) ?_ _
                    rotate_left 1
                    focus
                      go_simp
                      (go_at_call 23; refine (least_call (Z + V) 25 _ y0 y1 (by decide) (by decide)).mono ?_; rintro e w7 ⟨rfl, rfl⟩; rw [hAL])
                      go_wp2_with fail
                      refine hKq.out _ _ (by (try dsimp only); (first | done | exact trivial)) (fun hHeld' => ?_)
                      clear hKq Kq hHeld; have hHeld := hHeld'; clear hHeld'
                      try simp only [Act.put, List.setIfInBounds_toArray, List.set_cons_zero, List.set_cons_succ]
                      refine wpAnyH_ready (rs := [0, 4]) (by kernel_rfl) (by simp) ?_
                      refine (MyHeld.next 0 .z (fun Kq hKq => ?_) (MyHeld.next 4 (.s (.s (.s (.s .z)))) (fun Kq hKq => ?_) AllReadyH.nil))
                      focus
                        go_simp
                        refine hKq.out _ _ (by (try dsimp only); (first | done | exact trivial)) (fun hHeld' => ?_)
                        clear hKq Kq hHeld; have hHeld := hHeld'; clear hHeld'
                        try simp only [Act.put, List.setIfInBounds_toArray, List.set_cons_zero, List.set_cons_succ]
                        refine wpAnyH_ready (rs := [4]) (by kernel_rfl) (by simp) ?_
                        refine (MyHeld.next 4 (.s (.s (.s (.s .z)))) (fun Kq hKq => ?_) AllReadyH.nil)
                        go_simp
                        refine hKq.out _ _ (by (try dsimp only); (first | done | exact trivial)) (fun hHeld' => ?_)
                        clear hKq Kq hHeld; have hHeld := hHeld'; clear hHeld'
                        try simp only [Act.put, List.setIfInBounds_toArray, List.set_cons_zero, List.set_cons_succ]
                        refine wpAnyH_ready (rs := [6]) (by kernel_rfl) (by simp) ?_
                        refine (MyHeld.next 6 (.s (.s (.s (.s (.s (.s .z)))))) (fun Kq hKq => ?_) AllReadyH.nil)
                        go_simp
                        (go_at_call 14; rw [if_neg (show ¬ AL < -1000 by omega)]; have hc := pMea_call sL sH 201 201 sc sd lo' hi' AL 25 _ K.out.A.2.1 K.out.A.2.2; unfold bdV at hc; refine hc.mono ?_; clear hc; rintro e w8 ⟨vL, vH, rfl, hT, -, hb⟩; have hT' := hT (maE_ok K.out.c HL.out.1); obtain ⟨mL, mc, mH, md, rfl, rfl, -, -⟩ := two_ints hT' (loK_len _ 201) (hiK_len _ 201) (by decide) (by decide); rw [show maE lo' hi' AL 25 = 0 from maE_ok K.out.c HL.out.1]; have K8 := Lib.hid (K.out.store hb hT' (loK_len _ 201) (hiK_len _ 201) (ch_ma K.out.c HL.out.1) (in_mea K.out.c K.out.i HL.out.2.1 HL.out.2.2) y0 y1 u0 u1); clear g0 g1 f0 f1; obtain ⟨g0, g1, f0, f1⟩ := two_facts (keepO hb K.out.A.1); clear hT hT' hb)
                        go_wp2_with fail
                        refine hKq.out _ _ (by (try dsimp only); (first | done | exact trivial)) (fun hHeld' => ?_)
                        clear hKq Kq hHeld; have hHeld := hHeld'; clear hHeld'
                        try simp only [Act.put, List.setIfInBounds_toArray, List.set_cons_zero, List.set_cons_succ]
                        refine MyHeld.take 7 (v := ?_) (.s (.s (.s (.s (.s (.s (.s .z))))))) (by kernel_rfl) (by kernel_rfl) (by kernel_rfl) (fun _ _ _ h => h) (by rfl) (by assumption) ?_ ?_
                        rotate_left
                        · intro w hSw; (try dsimp only at hSw); go_simp; (try with_reducible rfl)
                        try simp only [Act.put, List.setIfInBounds_toArray, List.set_cons_zero, List.set_cons_succ]
                        refine MyHeld.take 8 (v := ?_) (.s (.s (.s (.s (.s (.s (.s (.s .z)))))))) (by kernel_rfl) (by kernel_rfl) (by kernel_rfl) (fun _ _ _ h => h) (by rfl) (by assumption) ?_ ?_
                        rotate_left
                        · intro w hSw; (try dsimp only at hSw); go_simp; (try with_reducible rfl)
                        try simp only [Act.put, List.setIfInBounds_toArray, List.set_cons_zero, List.set_cons_succ]
                        refine MyHeld.take 9 (v := ?_) (.s (.s (.s (.s (.s (.s (.s (.s (.s .z))))))))) (by kernel_rfl) (by kernel_rfl) (by kernel_rfl) (fun _ _ _ h => h) (by rfl) (by assumption) ?_ ?_
                        rotate_left
                        · intro w hSw; (try dsimp only at hSw); go_simp; (try with_reducible rfl)
                        try simp only [Act.put, List.setIfInBounds_toArray, List.set_cons_zero, List.set_cons_succ]
                        refine wpAnyH_ready (rs := [10]) (by kernel_rfl) (by simp) ?_
                        refine (MyHeld.next 10 (.s (.s (.s (.s (.s (.s (.s (.s (.s (.s .z)))))))))) (fun Kq hKq => ?_) AllReadyH.nil)
                        go_simp
                        refine hKq.out _ _ (by (try dsimp only); (first | done | exact trivial)) (fun hHeld' => ?_)
                        clear hKq Kq hHeld; have hHeld := hHeld'; clear hHeld'
                        try simp only [Act.put, List.setIfInBounds_toArray, List.set_cons_zero, List.set_cons_succ]
                        refine MyHeld.take 11 (v := ?_) (.s (.s (.s (.s (.s (.s (.s (.s (.s (.s (.s .z))))))))))) (by kernel_rfl) (by kernel_rfl) (by kernel_rfl) (fun _ _ _ h => h) (by rfl) (by assumption) ?_ ?_
                        rotate_left
                        · intro w hSw; (try dsimp only at hSw); go_simp; (try with_reducible rfl)
                        try simp only [Act.put, List.setIfInBounds_toArray, List.set_cons_zero, List.set_cons_succ]
                        refine wpAnyH_done (by kernel_rfl) ?_ _
                      rotate_left 1
                      focus
                        go_simp
                        refine hKq.out _ _ (by (try dsimp only); (first | done | exact trivial)) (fun hHeld' => ?_)
                        clear hKq Kq hHeld; have hHeld := hHeld'; clear hHeld'
                        try simp only [Act.put, List.setIfInBounds_toArray, List.set_cons_zero, List.set_cons_succ]
                        refine wpAnyH_ready (rs := [0]) (by kernel_rfl) (by simp) ?_
                        refine (MyHeld.next 0 .z (fun Kq hKq => ?_) AllReadyH.nil)
                        go_simp
                        refine hKq.out _ _ (by (try dsimp only); (first | done | exact trivial)) (fun hHeld' => ?_)
                        clear hKq Kq hHeld; have hHeld := hHeld'; clear hHeld'
                        try simp only [Act.put, List.setIfInBounds_toArray, List.set_cons_zero, List.set_cons_succ]
                        refine wpAnyH_ready (rs := [6]) (by kernel_rfl) (by simp) ?_
                        refine (MyHeld.next 6 (.s (.s (.s (.s (.s (.s .z)))))) (fun Kq hKq => ?_) AllReadyH.nil)
                        go_simp
                        (go_at_call 14; rw [if_neg (show ¬ AL < -1000 by omega)]; have hc := pMea_call sL sH 201 201 sc sd lo' hi' AL 25 _ K.out.A.2.1 K.out.A.2.2; unfold bdV at hc; refine hc.mono ?_; clear hc; rintro e w8 ⟨vL, vH, rfl, hT, -, hb⟩; have hT' := hT (maE_ok K.out.c HL.out.1); obtain ⟨mL, mc, mH, md, rfl, rfl, -, -⟩ := two_ints hT' (loK_len _ 201) (hiK_len _ 201) (by decide) (by decide); rw [show maE lo' hi' AL 25 = 0 from maE_ok K.out.c HL.out.1]; have K8 := Lib.hid (K.out.store hb hT' (loK_len _ 201) (hiK_len _ 201) (ch_ma K.out.c HL.out.1) (in_mea K.out.c K.out.i HL.out.2.1 HL.out.2.2) y0 y1 u0 u1); clear g0 g1 f0 f1; obtain ⟨g0, g1, f0, f1⟩ := two_facts (keepO hb K.out.A.1); clear hT hT' hb)
                        go_wp2_with fail
                        refine hKq.out _ _ (by (try dsimp only); (first | done | exact trivial)) (fun hHeld' => ?_)
                        clear hKq Kq hHeld; have hHeld := hHeld'; clear hHeld'
                        try simp only [Act.put, List.setIfInBounds_toArray, List.set_cons_zero, List.set_cons_succ]
                        refine MyHeld.take 7 (v := ?_) (.s (.s (.s (.s (.s (.s (.s .z))))))) (by kernel_rfl) (by kernel_rfl) (by kernel_rfl) (fun _ _ _ h => h) (by rfl) (by assumption) ?_ ?_
                        rotate_left
                        · intro w hSw; (try dsimp only at hSw); go_simp; (try with_reducible rfl)
                        try simp only [Act.put, List.setIfInBounds_toArray, List.set_cons_zero, List.set_cons_succ]
                        refine MyHeld.take 8 (v := ?_) (.s (.s (.s (.s (.s (.s (.s (.s .z)))))))) (by kernel_rfl) (by kernel_rfl) (by kernel_rfl) (fun _ _ _ h => h) (by rfl) (by assumption) ?_ ?_
                        rotate_left
                        · intro w hSw; (try dsimp only at hSw); go_simp; (try with_reducible rfl)
                        try simp only [Act.put, List.setIfInBounds_toArray, List.set_cons_zero, List.set_cons_succ]
                        refine MyHeld.take 9 (v := ?_) (.s (.s (.s (.s (.s (.s (.s (.s (.s .z))))))))) (by kernel_rfl) (by kernel_rfl) (by kernel_rfl) (fun _ _ _ h => h) (by rfl) (by assumption) ?_ ?_
                        rotate_left
                        · intro w hSw; (try dsimp only at hSw); go_simp; (try with_reducible rfl)
                        try simp only [Act.put, List.setIfInBounds_toArray, List.set_cons_zero, List.set_cons_succ]
                        refine wpAnyH_ready (rs := [10]) (by kernel_rfl) (by simp) ?_
                        refine (MyHeld.next 10 (.s (.s (.s (.s (.s (.s (.s (.s (.s (.s .z)))))))))) (fun Kq hKq => ?_) AllReadyH.nil)
                        go_simp
                        refine hKq.out _ _ (by (try dsimp only); (first | done | exact trivial)) (fun hHeld' => ?_)
                        clear hKq Kq hHeld; have hHeld := hHeld'; clear hHeld'
                        try simp only [Act.put, List.setIfInBounds_toArray, List.set_cons_zero, List.set_cons_succ]
                        refine MyHeld.take 11 (v := ?_) (.s (.s (.s (.s (.s (.s (.s (.s (.s (.s (.s .z))))))))))) (by kernel_rfl) (by kernel_rfl) (by kernel_rfl) (fun _ _ _ h => h) (by rfl) (by assumption) ?_ ?_
                        rotate_left
                        · intro w hSw; (try dsimp only at hSw); go_simp; (try with_reducible rfl)
                        try simp only [Act.put, List.setIfInBounds_toArray, List.set_cons_zero, List.set_cons_succ]
                        refine wpAnyH_done (by kernel_rfl) ?_ _
                      rotate_left 1
                    rotate_left 2
                    all_goals
                      clear g0 g1 f0 f1 hdl HL K hAL
                      generalize loK (maF lo' hi' AL 25) 201 = lo2 at *
                      generalize hiK (maF lo' hi' AL 25) 201 = hi2 at *
                      have K := K8
                      clear K8
                      go_wp2_with fail
                      go_meet
                      exact ⟨_, _, _, _, _, _, K.out⟩
                  · go_wp2_with fail
                    replace K := Lib.hid (K.out.keep (below_alloc wc (.cells #[.int .i64 0, .int .i64 25, .int .i64 100] 3)))
                    generalize wc.alloc (.cells #[.int .i64 0, .int .i64 25, .int .i64 100] 3) = W7 at *
                    obtain ⟨hmE, hdl, hl1, hl2⟩ := me_least (z := Z + V) (size := 100) (by decide) y0 y1
                    obtain ⟨g0, g1, f0, f1⟩ := two_facts K.out.A.1
                    replace K := Lib.hid (K.out.keep (Below.refl W7.heap.size W7).drew)
                    have HL := Lib.hid (And.intro hmE (And.intro hl1 hl2))
                    clear hmE hl1 hl2
                    obtain ⟨AL, hAL⟩ : ∃ A, leS (Z + V) 100 = A := ⟨_, rfl⟩
                    rw [hAL] at HL hdl
                    refine wp_region_held_drew (S := (fun _ => True)) (by kernel_rfl) (by (try dsimp only); (first | done | exact trivial)) (fun hHeld => ?_)
                    refine MyHeld.take 1 (v := ?_) (.s .z) (by kernel_rfl) (by kernel_rfl) (by kernel_rfl) (fun _ _ _ h => h) (by rfl) (by assumption) ?_ ?_
                    rotate_left
                    · intro w hSw; (try dsimp only at hSw); go_simp; (try with_reducible rfl)
                    try simp only [Act.put, List.setIfInBounds_toArray, List.set_cons_zero, List.set_cons_succ]
                    refine MyHeld.take 2 (v := ?_) (.s (.s .z)) (by kernel_rfl) (by kernel_rfl) (by kernel_rfl) (fun _ _ _ h => h) (by rfl) (by assumption) ?_ ?_
                    rotate_left
                    · intro w hSw; (try dsimp only at hSw); go_simp; (try with_reducible rfl)
                    try simp only [Act.put, List.setIfInBounds_toArray, List.set_cons_zero, List.set_cons_succ]
                    refine MyHeld.take 5 (v := ?_) (.s (.s (.s (.s (.s .z))))) (by kernel_rfl) (by kernel_rfl) (by kernel_rfl) (fun _ _ _ h => h) (by rfl) (by assumption) ?_ ?_
                    rotate_left
                    · intro w hSw; (try dsimp only at hSw); go_simp; (try with_reducible rfl)
                    try simp only [Act.put, List.setIfInBounds_toArray, List.set_cons_zero, List.set_cons_succ]
                    refine wpAnyH_ready (rs := [0, 3]) (by kernel_rfl) (by simp) ?_
                    refine (MyHeld.next 0 .z (fun Kq hKq => ?_) (MyHeld.next 3 (.s (.s (.s .z))) (fun Kq hKq => ?_) AllReadyH.nil))
                    focus
                      go_simp
                      refine hKq.out _ _ (by (try dsimp only); (first | done | exact trivial)) (fun hHeld' => ?_)
                      clear hKq Kq hHeld; have hHeld := hHeld'; clear hHeld'
                      try simp only [Act.put, List.setIfInBounds_toArray, List.set_cons_zero, List.set_cons_succ]
                      refine wpAnyH_ready (rs := [3]) (by kernel_rfl) (by simp) ?_
                      refine (MyHeld.next 3 (.s (.s (.s .z))) (fun Kq hKq => ?_) AllReadyH.nil)
                      go_simp
                      (go_at_call 23; refine (least_call (Z + V) 100 _ y0 y1 (by decide) (by decide)).mono ?_; rintro e w7 ⟨rfl, rfl⟩; rw [hAL])
                      go_wp2_with fail
                      refine hKq.out _ _ (by (try dsimp only); (first | done | exact trivial)) (fun hHeld' => ?_)
                      clear hKq Kq hHeld; have hHeld := hHeld'; clear hHeld'
                      try simp only [Act.put, List.setIfInBounds_toArray, List.set_cons_zero, List.set_cons_succ]
                      refine wpAnyH_ready (rs := [4]) (by kernel_rfl) (by simp) ?_
                      refine (MyHeld.next 4 (.s (.s (.s (.s .z)))) (fun Kq hKq => ?_) AllReadyH.nil)
                      go_simp
                      refine hKq.out _ _ (by (try dsimp only); (first | done | exact trivial)) (fun hHeld' => ?_)
                      clear hKq Kq hHeld; have hHeld := hHeld'; clear hHeld'
                      try simp only [Act.put, List.setIfInBounds_toArray, List.set_cons_zero, List.set_cons_succ]
                      refine wpAnyH_ready (rs := [6]) (by kernel_rfl) (by simp) ?_
                      refine (MyHeld.next 6 (.s (.s (.s (.s (.s (.s .z)))))) (fun Kq hKq => ?_) AllReadyH.nil)
                      go_simp
                      (go_at_call 14; rw [if_neg (show ¬ AL < -1000 by omega)]; have hc := pMea_call sL sH 201 201 sc sd lo' hi' AL 100 _ K.out.A.2.1 K.out.A.2.2; unfold bdV at hc; refine hc.mono ?_; clear hc; rintro e w8 ⟨vL, vH, rfl, hT, -, hb⟩; have hT' := hT (maE_ok K.out.c HL.out.1); obtain ⟨mL, mc, mH, md, rfl, rfl, -, -⟩ := two_ints hT' (loK_len _ 201) (hiK_len _ 201) (by decide) (by decide); rw [show maE lo' hi' AL 100 = 0 from maE_ok K.out.c HL.out.1]; have K8 := Lib.hid (K.out.store hb hT' (loK_len _ 201) (hiK_len _ 201) (ch_ma K.out.c HL.out.1) (in_mea K.out.c K.out.i HL.out.2.1 HL.out.2.2) y0 y1 u0 u1); clear g0 g1 f0 f1; obtain ⟨g0, g1, f0, f1⟩ := two_facts (keepO hb K.out.A.1); clear hT hT' hb)
                      go_wp2_with fail
                      refine hKq.out _ _ (by (try dsimp only); (first | done | exact trivial)) (fun hHeld' => ?_)
                      clear hKq Kq hHeld; have hHeld := hHeld'; clear hHeld'
                      try simp only [Act.put, List.setIfInBounds_toArray, List.set_cons_zero, List.set_cons_succ]
                      refine MyHeld.take 7 (v := ?_) (.s (.s (.s (.s (.s (.s (.s .z))))))) (by kernel_rfl) (by kernel_rfl) (by kernel_rfl) (fun _ _ _ h => h) (by rfl) (by assumption) ?_ ?_
                      rotate_left
                      · intro w hSw; (try dsimp only at hSw); go_simp; (try with_reducible rfl)
                      try simp only [Act.put, List.setIfInBounds_toArray, List.set_cons_zero, List.set_cons_succ]
                      refine MyHeld.take 8 (v := ?_) (.s (.s (.s (.s (.s (.s (.s (.s .z)))))))) (by kernel_rfl) (by kernel_rfl) (by kernel_rfl) (fun _ _ _ h => h) (by rfl) (by assumption) ?_ ?_
                      rotate_left
                      · intro w hSw; (try dsimp only at hSw); go_simp; (try with_reducible rfl)
                      try simp only [Act.put, List.setIfInBounds_toArray, List.set_cons_zero, List.set_cons_succ]
                      refine MyHeld.take 9 (v := ?_) (.s (.s (.s (.s (.s (.s (.s (.s (.s .z))))))))) (by kernel_rfl) (by kernel_rfl) (by kernel_rfl) (fun _ _ _ h => h) (by rfl) (by assumption) ?_ ?_
                      rotate_left
                      · intro w hSw; (try dsimp only at hSw); go_simp; (try with_reducible rfl)
                      try simp only [Act.put, List.setIfInBounds_toArray, List.set_cons_zero, List.set_cons_succ]
                      refine wpAnyH_ready (rs := [10]) (by kernel_rfl) (by simp) ?_
                      refine (MyHeld.next 10 (.s (.s (.s (.s (.s (.s (.s (.s (.s (.s .z)))))))))) (fun Kq hKq => ?_) AllReadyH.nil)
                      go_simp
                      refine hKq.out _ _ (by (try dsimp only); (first | done | exact trivial)) (fun hHeld' => ?_)
                      clear hKq Kq hHeld; have hHeld := hHeld'; clear hHeld'
                      try simp only [Act.put, List.setIfInBounds_toArray, List.set_cons_zero, List.set_cons_succ]
                      refine MyHeld.take 11 (v := ?_) (.s (.s (.s (.s (.s (.s (.s (.s (.s (.s (.s .z))))))))))) (by kernel_rfl) (by kernel_rfl) (by kernel_rfl) (fun _ _ _ h => h) (by rfl) (by assumption) ?_ ?_
                      rotate_left
                      · intro w hSw; (try dsimp only at hSw); go_simp; (try with_reducible rfl)
                      try simp only [Act.put, List.setIfInBounds_toArray, List.set_cons_zero, List.set_cons_succ]
                      refine wpAnyH_done (by kernel_rfl) ?_ _
                    rotate_left 1
                    focus
                      go_simp
                      (go_at_call 23; refine (least_call (Z + V) 100 _ y0 y1 (by decide) (by decide)).mono ?_; rintro e w7 ⟨rfl, rfl⟩; rw [hAL])
                      go_wp2_with fail
                      refine hKq.out _ _ (by (try dsimp only); (first | done | exact trivial)) (fun hHeld' => ?_)
                      clear hKq Kq hHeld; have hHeld := hHeld'; clear hHeld'
                      try simp only [Act.put, List.setIfInBounds_toArray, List.set_cons_zero, List.set_cons_succ]
                      refine wpAnyH_ready (rs := [0, 4]) (by kernel_rfl) (by simp) ?_
                      refine (MyHeld.next 0 .z (fun Kq hKq => ?_) (MyHeld.next 4 (.s (.s (.s (.s .z)))) (fun Kq hKq => ?_) AllReadyH.nil))
                      focus
                        go_simp
                        refine hKq.out _ _ (by (try dsimp only); (first | done | exact trivial)) (fun hHeld' => ?_)
                        clear hKq Kq hHeld; have hHeld := hHeld'; clear hHeld'
                        try simp only [Act.put, List.setIfInBounds_toArray, List.set_cons_zero, List.set_cons_succ]
                        refine wpAnyH_ready (rs := [4]) (by kernel_rfl) (by simp) ?_
                        refine (MyHeld.next 4 (.s (.s (.s (.s .z)))) (fun Kq hKq => ?_) AllReadyH.nil)
                        go_simp
                        refine hKq.out _ _ (by (try dsimp only); (first | done | exact trivial)) (fun hHeld' => ?_)
                        clear hKq Kq hHeld; have hHeld := hHeld'; clear hHeld'
                        try simp only [Act.put, List.setIfInBounds_toArray, List.set_cons_zero, List.set_cons_succ]
                        refine wpAnyH_ready (rs := [6]) (by kernel_rfl) (by simp) ?_
                        refine (MyHeld.next 6 (.s (.s (.s (.s (.s (.s .z)))))) (fun Kq hKq => ?_) AllReadyH.nil)
                        go_simp
                        (go_at_call 14; rw [if_neg (show ¬ AL < -1000 by omega)]; have hc := pMea_call sL sH 201 201 sc sd lo' hi' AL 100 _ K.out.A.2.1 K.out.A.2.2; unfold bdV at hc; refine hc.mono ?_; clear hc; rintro e w8 ⟨vL, vH, rfl, hT, -, hb⟩; have hT' := hT (maE_ok K.out.c HL.out.1); obtain ⟨mL, mc, mH, md, rfl, rfl, -, -⟩ := two_ints hT' (loK_len _ 201) (hiK_len _ 201) (by decide) (by decide); rw [show maE lo' hi' AL 100 = 0 from maE_ok K.out.c HL.out.1]; have K8 := Lib.hid (K.out.store hb hT' (loK_len _ 201) (hiK_len _ 201) (ch_ma K.out.c HL.out.1) (in_mea K.out.c K.out.i HL.out.2.1 HL.out.2.2) y0 y1 u0 u1); clear g0 g1 f0 f1; obtain ⟨g0, g1, f0, f1⟩ := two_facts (keepO hb K.out.A.1); clear hT hT' hb)
                        go_wp2_with fail
                        refine hKq.out _ _ (by (try dsimp only); (first | done | exact trivial)) (fun hHeld' => ?_)
                        clear hKq Kq hHeld; have hHeld := hHeld'; clear hHeld'
                        try simp only [Act.put, List.setIfInBounds_toArray, List.set_cons_zero, List.set_cons_succ]
                        refine MyHeld.take 7 (v := ?_) (.s (.s (.s (.s (.s (.s (.s .z))))))) (by kernel_rfl) (by kernel_rfl) (by kernel_rfl) (fun _ _ _ h => h) (by rfl) (by assumption) ?_ ?_
                        rotate_left
                        · intro w hSw; (try dsimp only at hSw); go_simp; (try with_reducible rfl)
                        try simp only [Act.put, List.setIfInBounds_toArray, List.set_cons_zero, List.set_cons_succ]
                        refine MyHeld.take 8 (v := ?_) (.s (.s (.s (.s (.s (.s (.s (.s .z)))))))) (by kernel_rfl) (by kernel_rfl) (by kernel_rfl) (fun _ _ _ h => h) (by rfl) (by assumption) ?_ ?_
                        rotate_left
                        · intro w hSw; (try dsimp only at hSw); go_simp; (try with_reducible rfl)
                        try simp only [Act.put, List.setIfInBounds_toArray, List.set_cons_zero, List.set_cons_succ]
                        refine MyHeld.take 9 (v := ?_) (.s (.s (.s (.s (.s (.s (.s (.s (.s .z))))))))) (by kernel_rfl) (by kernel_rfl) (by kernel_rfl) (fun _ _ _ h => h) (by rfl) (by assumption) ?_ ?_
                        rotate_left
                        · intro w hSw; (try dsimp only at hSw); go_simp; (try with_reducible rfl)
                        try simp only [Act.put, List.setIfInBounds_toArray, List.set_cons_zero, List.set_cons_succ]
                        refine wpAnyH_ready (rs := [10]) (by kernel_rfl) (by simp) ?_
                        refine (MyHeld.next 10 (.s (.s (.s (.s (.s (.s (.s (.s (.s (.s .z)))))))))) (fun Kq hKq => ?_) AllReadyH.nil)
                        go_simp
                        refine hKq.out _ _ (by (try dsimp only); (first | done | exact trivial)) (fun hHeld' => ?_)
                        clear hKq Kq hHeld; have hHeld := hHeld'; clear hHeld'
                        try simp only [Act.put, List.setIfInBounds_toArray, List.set_cons_zero, List.set_cons_succ]
                        refine MyHeld.take 11 (v := ?_) (.s (.s (.s (.s (.s (.s (.s (.s (.s (.s (.s .z))))))))))) (by kernel_rfl) (by kernel_rfl) (by kernel_rfl) (fun _ _ _ h => h) (by rfl) (by assumption) ?_ ?_
                        rotate_left
                        · intro w hSw; (try dsimp only at hSw); go_simp; (try with_reducible rfl)
                        try simp only [Act.put, List.setIfInBounds_toArray, List.set_cons_zero, List.set_cons_succ]
                        refine wpAnyH_done (by kernel_rfl) ?_ _
                      rotate_left 1
                      focus
                        go_simp
                        refine hKq.out _ _ (by (try dsimp only); (first | done | exact trivial)) (fun hHeld' => ?_)
                        clear hKq Kq hHeld; have hHeld := hHeld'; clear hHeld'
                        try simp only [Act.put, List.setIfInBounds_toArray, List.set_cons_zero, List.set_cons_succ]
                        refine wpAnyH_ready (rs := [0]) (by kernel_rfl) (by simp) ?_
                        refine (MyHeld.next 0 .z (fun Kq hKq => ?_) AllReadyH.nil)
                        go_simp
                        refine hKq.out _ _ (by (try dsimp only); (first | done | exact trivial)) (fun hHeld' => ?_)
                        clear hKq Kq hHeld; have hHeld := hHeld'; clear hHeld'
                        try simp only [Act.put, List.setIfInBounds_toArray, List.set_cons_zero, List.set_cons_succ]
                        refine wpAnyH_ready (rs := [6]) (by kernel_rfl) (by simp) ?_
                        refine (MyHeld.next 6 (.s (.s (.s (.s (.s (.s .z)))))) (fun Kq hKq => ?_) AllReadyH.nil)
                        go_simp
                        (go_at_call 14; rw [if_neg (show ¬ AL < -1000 by omega)]; have hc := pMea_call sL sH 201 201 sc sd lo' hi' AL 100 _ K.out.A.2.1 K.out.A.2.2; unfold bdV at hc; refine hc.mono ?_; clear hc; rintro e w8 ⟨vL, vH, rfl, hT, -, hb⟩; have hT' := hT (maE_ok K.out.c HL.out.1); obtain ⟨mL, mc, mH, md, rfl, rfl, -, -⟩ := two_ints hT' (loK_len _ 201) (hiK_len _ 201) (by decide) (by decide); rw [show maE lo' hi' AL 100 = 0 from maE_ok K.out.c HL.out.1]; have K8 := Lib.hid (K.out.store hb hT' (loK_len _ 201) (hiK_len _ 201) (ch_ma K.out.c HL.out.1) (in_mea K.out.c K.out.i HL.out.2.1 HL.out.2.2) y0 y1 u0 u1); clear g0 g1 f0 f1; obtain ⟨g0, g1, f0, f1⟩ := two_facts (keepO hb K.out.A.1); clear hT hT' hb)
                        go_wp2_with fail
                        refine hKq.out _ _ (by (try dsimp only); (first | done | exact trivial)) (fun hHeld' => ?_)
                        clear hKq Kq hHeld; have hHeld := hHeld'; clear hHeld'
                        try simp only [Act.put, List.setIfInBounds_toArray, List.set_cons_zero, List.set_cons_succ]
                        refine MyHeld.take 7 (v := ?_) (.s (.s (.s (.s (.s (.s (.s .z))))))) (by kernel_rfl) (by kernel_rfl) (by kernel_rfl) (fun _ _ _ h => h) (by rfl) (by assumption) ?_ ?_
                        rotate_left
                        · intro w hSw; (try dsimp only at hSw); go_simp; (try with_reducible rfl)
                        try simp only [Act.put, List.setIfInBounds_toArray, List.set_cons_zero, List.set_cons_succ]
                        refine MyHeld.take 8 (v := ?_) (.s (.s (.s (.s (.s (.s (.s (.s .z)))))))) (by kernel_rfl) (by kernel_rfl) (by kernel_rfl) (fun _ _ _ h => h) (by rfl) (by assumption) ?_ ?_
                        rotate_left
                        · intro w hSw; (try dsimp only at hSw); go_simp; (try with_reducible rfl)
                        try simp only [Act.put, List.setIfInBounds_toArray, List.set_cons_zero, List.set_cons_succ]
                        refine MyHeld.take 9 (v := ?_) (.s (.s (.s (.s (.s (.s (.s (.s (.s .z))))))))) (by kernel_rfl) (by kernel_rfl) (by kernel_rfl) (fun _ _ _ h => h) (by rfl) (by assumption) ?_ ?_
                        rotate_left
                        · intro w hSw; (try dsimp only at hSw); go_simp; (try with_reducible rfl)
                        try simp only [Act.put, List.setIfInBounds_toArray, List.set_cons_zero, List.set_cons_succ]
                        refine wpAnyH_ready (rs := [10]) (by kernel_rfl) (by simp) ?_
                        refine (MyHeld.next 10 (.s (.s (.s (.s (.s (.s (.s (.s (.s (.s .z)))))))))) (fun Kq hKq => ?_) AllReadyH.nil)
                        go_simp
                        refine hKq.out _ _ (by (try dsimp only); (first | done | exact trivial)) (fun hHeld' => ?_)
                        clear hKq Kq hHeld; have hHeld := hHeld'; clear hHeld'
                        try simp only [Act.put, List.setIfInBounds_toArray, List.set_cons_zero, List.set_cons_succ]
                        refine MyHeld.take 11 (v := ?_) (.s (.s (.s (.s (.s (.s (.s (.s (.s (.s (.s .z))))))))))) (by kernel_rfl) (by kernel_rfl) (by kernel_rfl) (fun _ _ _ h => h) (by rfl) (by assumption) ?_ ?_
                        rotate_left
                        · intro w hSw; (try dsimp only at hSw); go_simp; (try with_reducible rfl)
                        try simp only [Act.put, List.setIfInBounds_toArray, List.set_cons_zero, List.set_cons_succ]
                        refine wpAnyH_done (by kernel_rfl) ?_ _
                      rotate_left 1
                    rotate_left 2
                    all_goals
                      clear g0 g1 f0 f1 hdl HL K hAL
                      generalize loK (maF lo' hi' AL 100) 201 = lo2 at *
                      generalize hiK (maF lo' hi' AL 100) 201 = hi2 at *
                      have K := K8
                      clear K8
                      go_wp2_with fail
                      go_meet
                      exact ⟨_, _, _, _, _, _, K.out⟩
                case rest =>
                  obtain ⟨sL', sc', sH', sd', lo2, hi2, hK2⟩ := hcut
                  clear K
                  have K := Lib.hid hK2
                  clear hK2
                  obtain ⟨k0, k1⟩ := two_cell K.out.A.1
                  go_wp2_with fail
                  clear k0 k1
                  obtain ⟨k0, k1⟩ := two_cell K.out.A.1
                  have hc := pCon_call sL' sH' 201 201 sc' sd' lo2 hi2 (Z + V) Vn _ K.out.A.2.1 K.out.A.2.2
                  unfold bdV at hc
                  refine hc.mono ?_; clear hc; rintro e w9 ⟨rfl, hb⟩
                  rw [in_con K.out.c K.out.i, K.out.c]
                  replace K := Lib.hid (K.out.keep hb)
                  clear hb k0 k1
                  obtain ⟨k0, k1⟩ := two_cell K.out.A.1
                  go_wp2_with fail
                  have hc := pSpread_call sL' sH' 201 201 sc' sd' lo2 hi2 _ K.out.A.2.1 K.out.A.2.2
                  unfold bdV at hc
                  refine hc.mono ?_; clear hc; rintro e w10 ⟨rfl, hb⟩
                  obtain ⟨q0, q1, q2, q3, q4⟩ := in_spread K.out.c K.out.i
                  unfold exC
                  rw [q0]
                  clear q0
                  generalize spX lo2 hi2 = X at *
                  obtain ⟨X1, X2, X3, X4⟩ := X
                  simp only [] at q1 q2 q3 q4
                  have r1 : decide (Z + V < X1) = false := decide_eq_false (by omega)
                  have r2 : decide (X2 < Z + V) = false := decide_eq_false (by omega)
                  have r3 : decide (Vn < X3) = false := decide_eq_false (by omega)
                  have r4 : decide (X4 < Vn) = false := decide_eq_false (by omega)
                  replace K := Lib.hid ((K.out.keep hb).keep (below_alloc w10 (.cells #[.int .i64 X1, .int .i64 X2, .int .i64 X3, .int .i64 X4] 48)))
                  clear hb k0 k1 q1 q2 q3 q4
                  go_wp2_with fail
                  go_roundw
                  case rel => exact ⟨k + 1, Z + V, Vn, by omega, by go_num, rfl, rfl, _, _, _, _, _, _, K.out⟩
                  case measure => simp [intOf]; omega
    · obtain rfl : k = nP := by omega
      go_wp2_with fail
      go_ret
      exact bPost_of rfl K.out.B
end Go.Proofs.Ytojjhkahigdkoaa
