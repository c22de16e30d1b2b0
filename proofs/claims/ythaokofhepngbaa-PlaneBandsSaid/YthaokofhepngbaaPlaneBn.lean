/-
  Layer 36 (plane): the law PlaneBands.
-/
import Derived.Test.YthaokofhepngbaaPlaneR
import Derived.Test.YthaokofhepngbaaBdH
import Derived.Test.YthaokofhepngbaaBdL
import Derived.Test.YthaokofhepngbaaBdP
import Derived.Test.YthaokofhepngbaaBdLaw
import Derived.Test.YthaokofhepngbaaPairLib
import Derived.Deep.RegionHeld3
namespace Go.Proofs.Ythaokofhepngbaa
open Go.RowKit PlaneMath MyHeap MyOwn MyCopy

theorem belowDrewN {b : Nat} {w w' : World} (h : Below b w w') (d : Nat) : Below b w (w'.drewN d) := ⟨h.os, h.tape, h.output, h.size, h.block⟩
/-- Rows of the call's own, as they read. -/
theorem ints_of {W : World} {base n : Nat} {v : Value} {l : List Int} (hl : l.length = n) (h : W.ownsRow base 3 1 v l.length (Alt.flatI l)) (hm : n ≤ 1000000) : ∃ a c, v = .slice a n c ∧ Alt.Ints W a n l ∧ ∀ b o, a = some ⟨b, o, none⟩ → base ≤ b := by
  subst hl
  rcases h.2 with ⟨rfl, h0⟩ | ⟨g, cap, cur, rfl, hg, hh, hc, hcm, hcs, htake⟩
  · exact ⟨none, 0, by rw [h0], ⟨rfl, by omega, Or.inl h0⟩, fun _ _ e => by cases e⟩
  · refine ⟨some ⟨g, 0, none⟩, cap, rfl, ⟨rfl, by omega, Or.inr ⟨g, 0, rfl, fun i hi => ?_⟩⟩, fun b o e => by cases e; exact hg⟩
    have hx : (Alt.flatI l)[i]? = some (.int .i64 (AltMath.gi l i)) := by
      unfold Alt.flatI AltMath.gi
      rw [List.getElem?_map, List.getElem?_eq_getElem hi]
      simp
    rw [← htake, List.getElem?_take_of_lt (by omega)] at hx
    rw [Nat.zero_add]
    exact cell_of_block hh (by simpa using hx)
theorem ints_off {W W' : World} {a : Option Addr} {n p : Nat} {l : List Int} (h : Alt.Ints W a n l) (ho : Only p W W') (hne : ∀ b o, a = some ⟨b, o, none⟩ → b ≠ p) : Alt.Ints W' a n l := by
  refine ⟨h.len, h.bound, ?_⟩
  rcases h.cells with h0 | ⟨b, off, e, hc⟩
  · exact Or.inl h0
  · exact Or.inr ⟨b, off, e, fun i hi => ho.cell (hc i hi) (hne b off e)⟩
/-- Between two rounds: the band lies in block w6.heap.size. -/
structure Bn (w6 : World) (aL : Option Addr) (cL : Nat) (aH : Option Addr) (cH : Nat) (lo hi : List Int) (W : World) : Prop where
  B : Below w6.heap.size w6 W
  C : W.heap[w6.heap.size]? = some (.cells #[.slice aL 201 cL, .slice aH 201 cH] 50 (0, 0))
  L : Alt.Ints W aL 201 lo
  H : Alt.Ints W aH 201 hi
theorem Bn.keep {w6 : World} {aL : Option Addr} {cL : Nat} {aH : Option Addr} {cH : Nat} {lo hi : List Int} {W W' : World} (h : Bn w6 aL cL aH cH lo hi W) (hb : Below W.heap.size W W') : Bn w6 aL cL aH cH lo hi W' := ⟨h.B.trans (hb.mono h.B.size), keepO hb h.C, h.L.below hb, h.H.below hb⟩
/-- The band is stored. -/
theorem Bn.store {w6 : World} {aL : Option Addr} {cL : Nat} {aH : Option Addr} {cH : Nat} {lo hi lo' hi' : List Int} {aL' aH' : Option Addr} {cL' cH' base : Nat} {W : World} (h : Bn w6 aL cL aH cH lo hi W) (hL : Alt.Ints W aL' 201 lo') (hH : Alt.Ints W aH' 201 hi') (h1 : ∀ b o, aL' = some ⟨b, o, none⟩ → base ≤ b) (h2 : ∀ b o, aH' = some ⟨b, o, none⟩ → base ≤ b) (hb : w6.heap.size < base) :
    Bn w6 aL' cL' aH' cH' lo' hi' ((W.setCell ⟨w6.heap.size, 0, none⟩ (.slice aL' 201 cL')).setCell ⟨w6.heap.size, 1, none⟩ (.slice aH' 201 cH')) := by
  have o : Only w6.heap.size W ((W.setCell ⟨w6.heap.size, 0, none⟩ (.slice aL' 201 cL')).setCell ⟨w6.heap.size, 1, none⟩ (.slice aH' 201 cH')) := ((Only.refl _ _).setCell _ _).setCell _ _
  exact ⟨h.B.trans (o.below (Nat.le_refl _) h.B.size), by simpa using block_setCell (i := 1) (v := .slice aH' 201 cH') (block_setCell (i := 0) (v := .slice aL' 201 cL') h.C), ints_off hL o (fun b q e => by have := h1 b q e; omega), ints_off hH o (fun b q e => by have := h2 b q e; omega)⟩
theorem prs_rd' {w : World} {a : Option Addr} {n : Nat} {l : List (Int × Int)} (h : Go.MyPair.Rd w a n l) (hm : n ≤ 1000000) : Prs w a n l := ⟨h.len, hm, h.cells⟩
theorem prs_at' {w : World} {a : Option Addr} {n : Nat} {ps : List (Int × Int)} (h : Prs w a n ps) {k : Nat} (hk : k < n) : ∃ b off, a = some ⟨b, off, none⟩ ∧ w.cell? ⟨b, off + k * 2, none⟩ = some (.int .i64 (ps[k]?.getD (0, 0)).1) ∧ w.cell? ⟨b, off + k * 2 + 1, none⟩ = some (.int .i64 (ps[k]?.getD (0, 0)).2) := by
  rcases h.cells with h0 | ⟨b, off, e, hc⟩
  · omega
  · exact ⟨b, off, e, hc k hk⟩

set_option maxRecDepth 100000 in
set_option maxHeartbeats 16000000 in
theorem bands_call (a : Option Addr) (n c : Nat) (l : List (Int × Int)) (z v pull : Int) (w : World) (hl : Go.MyPair.Rd w a n l) :
    Calls Try.prog 8 #[.agg #[.int .i64 z, .int .i64 v], .slice a n c, .int .i64 pull] w fun e w' => e = .returned (.bool true) ∧ Below w.heap.size w w' := by
  have HL0 := Lib.hid hl
  have hb0 : Below w.heap.size w (w.alloc (.cells #[.int .i64 z, .int .i64 v] 23)) := (Below.refl _ _).alloc (Nat.le_refl _) _
  have HB0 := Lib.hid (And.intro hb0 (block_new w (.cells #[.int .i64 z, .int .i64 v] 23 (0, 0)) rfl))
  clear hl hb0
  go_enter Try.func8, Try.ntmps8
  go_wp2_with fail
  refine (long_nil _ _ _ _).mono ?_; rintro e w1 ⟨rfl, rfl⟩
  by_cases h300 : 300 < (n : Int)
  · rw [decide_eq_true h300]
    go_wp2_with fail
    refine (awake_call _).mono ?_; rintro e w2 ⟨rfl, hb⟩
    go_wp2_with fail
    go_ret
    exact ⟨rfl, HB0.out.1.trans (hb.mono HB0.out.1.size)⟩
  · rw [decide_eq_false h300]
    by_cases h40 : 40 < (n : Int)
    · go_wp2_with fail
      refine (awake_call _).mono ?_; rintro e w2 ⟨rfl, hb⟩
      go_wp2_with fail
      go_ret
      exact ⟨rfl, HB0.out.1.trans (hb.mono HB0.out.1.size)⟩
    · have hn40 : n ≤ 40 := by omega
      have HP := Lib.hid (prs_rd' HL0.out (by omega))
      have d40 : decide (40 < (n : Int)) = false := decide_eq_false h40
      clear h40 h300
      go_wp2_with fail
      refine (awake_call _).mono ?_; rintro e w2 ⟨rfl, hb⟩
      have K := Lib.hid (And.intro (HB0.out.1.trans (hb.mono HB0.out.1.size)) (keepO hb HB0.out.2))
      clear hb HB0
      have p0 := cell_of_block (i := 0) K.out.2 rfl
      have p1 := cell_of_block (i := 1) K.out.2 rfl
      have pl := lt_of_block K.out.2
      go_wp2_with fail
      refine (Path_call a n c l z v pull _ (HP.out.below K.out.1)).mono ?_; intro e w3 hpost
      have hlb : (pthL z v pull l).length ≤ 1000000 := by
        unfold pthL
        split
        · rw [psts_length, HP.out.len]; omega
        · simp
      obtain ⟨a5, c5, rfl, hP, -, hb⟩ := pthPost_at hpost rfl rfl hlb
      replace K := Lib.hid (And.intro (K.out.1.trans (hb.mono K.out.1.size)) (And.intro (keepO hb K.out.2) hP))
      clear hpost hb hP hlb p0 p1 pl
      by_cases hE : pthE z v pull l = 0
      · obtain ⟨q1, q2, q3, q4, q5⟩ := pth_ok hE
        have HS := Lib.hid (show ∀ k, k ≤ n → stB (pst pull l k z v).1 (pst pull l k z v).2 = true from fun k hk => pst_st q2 q1 k (fun i hi => q5 i (by have := HP.out.len; omega)))
        have hlen : (pthL z v pull l).length = n + 1 := by unfold pthL; rw [if_pos hE, psts_length, HP.out.len]
        have HG := Lib.hid (show ∀ k, k < n + 1 → (pthL z v pull l)[k]?.getD (0, 0) = pst pull l k z v from fun k hk => by unfold pthL; rw [if_pos hE]; exact psts_get pull l z v (by rw [HP.out.len]; exact hk))
        rw [hE]
        rw [hlen] at K ⊢
        obtain ⟨N, hN⟩ : ∃ N, n + 1 = N := ⟨_, rfl⟩
        have HN := Lib.hid hN
        rw [hN] at K ⊢
        have hst := stB_iff.1 q1
        clear hlen hN q5 q1
        obtain ⟨b5, o5, rfl, x0, x1⟩ := prs_at' K.out.2.2 (k := 0) (by have := HN.out; omega)
        rw [HG.out 0 (by omega)] at x0 x1
        have x0' : w3.cell? ⟨b5, o5, none⟩ = some (.int .i64 z) := by simpa [pst] using x0
        have x1' : w3.cell? ⟨b5, o5 + 1, none⟩ = some (.int .i64 v) := by simpa [pst] using x1
        have ql := World.block_lt_of_cell? w3 _ x0'
        have hN0 : (0 : Int) < (N : Int) := by have := HN.out; omega
        have d0 : ((N : Int) != (n : Int) + 1) = false := by rw [bne_eq_false_iff_eq]; have := HN.out; omega
        have p0 := cell_of_block (i := 0) K.out.2.1 rfl
        have p1 := cell_of_block (i := 1) K.out.2.1 rfl
        have pl := lt_of_block K.out.2.1
        have ng := pln_neq
        have gd := pln_guard
        have hpr : prB (z, v) (z, v) = true := by unfold prB; simp
        have hv1 : IntKind.i64.wrap ((n : Int) + 1) = (n : Int) + 1 := IntWalk.i64_in _ (by omega)
        clear x0 x1
        go_wp2_with fail
        go_quiet (fail)
        have K4 := Lib.hid (show Below w.heap.size w (w3.drewN nq) ∧ (w3.drewN nq).heap[w.heap.size]? = some (.cells #[.int .i64 z, .int .i64 v] 23 (0, 0)) ∧ Prs (w3.drewN nq) (some ⟨b5, o5, none⟩) N (pthL z v pull l) from ⟨belowDrewN K.out.1 nq, K.out.2.1, K.out.2.2.below (belowDrewN (Below.refl _ _) nq)⟩)
        clear hv1 d0 K p0 p1 pl x0' x1' ql ng gd hpr d40
        generalize w3.drewN nq = w4 at *
        have p0 : w4.cell? ⟨w.heap.size, 0, none⟩ = some (.int .i64 z) := cell_of_block K4.out.2.1 rfl
        have pl := lt_of_block K4.out.2.1
        go_wp2_with fail
        refine (Alt.pNew_call z 25 _).mono ?_; intro e w6 hpost
        have hme : AltMath.meE z 25 = 0 := by unfold AltMath.meE; rw [if_neg (by omega)]
        obtain ⟨vL, vH, rfl, hT, -, hb⟩ := hpost
        obtain ⟨aL, cL, rfl, hIL, -⟩ := ints_of (AltMath.loK_len _ _) (hT hme).L (by decide)
        obtain ⟨aH, cH, rfl, hIH, -⟩ := ints_of (AltMath.hiK_len _ _) (hT hme).H (by decide)
        have K6 := Lib.hid (And.intro (K4.out.1.trans (hb.mono K4.out.1.size)) (K4.out.2.2.below hb))
        have HB6 := Lib.hid (show Bn w6 aL cL aH cH (AltMath.loK (AltMath.neF z 25) 201) (AltMath.hiK (AltMath.neF z 25) 201) (w6.alloc (.cells #[.slice aL 201 cL, .slice aH 201 cH] 50)) from ⟨(Below.refl _ _).alloc (Nat.le_refl _) _, block_new _ _ rfl, hIL.below ((Below.refl _ _).alloc (Nat.le_refl _) _), hIH.below ((Below.refl _ _).alloc (Nat.le_refl _) _)⟩)
        have HF := Lib.hid (show AltMath.chB (AltMath.loK (AltMath.neF z 25) 201) (AltMath.hiK (AltMath.neF z 25) 201) = 0 ∧ AltMath.inB (AltMath.loK (AltMath.neF z 25) 201) (AltMath.hiK (AltMath.neF z 25) 201) z v from ⟨AltMath.ch_nm (fun i _ => by unfold AltMath.neF; exact ⟨hst.1, Int.min_le_right _ _⟩), AltMath.in_new ⟨hst.2.2.1, hst.2.2.2⟩ (Int.le_refl _) (by omega) hst.2.1⟩)
        rw [hme]
        clear hT hb hIL hIH p0 pl K4 hme
        go_wp2_with fail
        have hb6 : ∀ W : World, Below w6.heap.size w6 W → Below w.heap.size w W := fun W h => K6.out.1.trans (h.mono K6.out.1.size)
        have HB := Lib.hid hb6
        clear hb6
        go_loopw [11] (fun iv wr => ∃ (j i : Nat) (aL : Option Addr) (cL : Nat) (aH : Option Addr) (cH : Nat) (lo hi : List Int), j ≤ n ∧ i = j + 1 ∧ iv = .int .i64 (i : Int) ∧ Bn w6 aL cL aH cH lo hi wr ∧ AltMath.chB lo hi = 0 ∧ AltMath.inB lo hi (pst pull l j z v).1 (pst pull l j z v).2) (fun iv _ => n + 2 - (intOf iv).toNat)
        case atStart => exact ⟨0, 1, aL, cL, aH, cH, _, _, Nat.zero_le _, rfl, rfl, HB6.out, HF.out.1, HF.out.2⟩
        case round =>
          clear HB6 HF
          obtain ⟨j, i, aL, cL, aH, cH, lo, hi, hj, hji, rfl, hB, hch, hin⟩ := hrel
          have HJ := Lib.hid hji
          have K := Lib.hid (And.intro hB (And.intro hch hin))
          clear hB hch hin
          by_cases hlt : j < n
          · obtain ⟨b, o, e, y0, y1⟩ := prs_at' (K6.out.2.below K.out.1.B) (k := j) (by have := HN.out; omega)
            cases e
            obtain ⟨b, o, e, y2, y3⟩ := prs_at' (K6.out.2.below K.out.1.B) (k := i) (by have := HN.out; have := HJ.out; omega)
            cases e
            rw [HG.out j (by omega)] at y0 y1
            rw [HG.out i (by have := HJ.out; omega)] at y2 y3
            have hnear := pst_near (l := l) (z := z) (v := v) q2 j
            rw [← hji] at hnear
            have hs0 := stB_iff.1 (HS.out j (by omega))
            have hs1 := HS.out i (by omega)
            have hin := K.out.2.2
            obtain ⟨Z, hZ⟩ : ∃ x, (pst pull l j z v).1 = x := ⟨_, rfl⟩
            obtain ⟨V, hV⟩ : ∃ x, (pst pull l j z v).2 = x := ⟨_, rfl⟩
            obtain ⟨Z', hZ'⟩ : ∃ x, (pst pull l i z v).1 = x := ⟨_, rfl⟩
            obtain ⟨V', hV'⟩ : ∃ x, (pst pull l i z v).2 = x := ⟨_, rfl⟩
            rw [hZ, hV] at hnear hs0 hin
            rw [hZ] at y0
            rw [hV] at y1
            rw [hZ'] at y2 hnear hs1
            rw [hV'] at y3 hnear hs1
            have HE1 := Lib.hid (And.intro hZ' hV')
            have HIn := Lib.hid hin
            have hse : stE Z' V' = 0 := by unfold stE; rw [hs1]; rfl
            have hs2 := stB_iff.1 hs1
            have HSe := Lib.hid hse
            have hi0 : (0 : Int) ≤ (j : Int) := by omega
            have hi1 : (i : Int) < (N : Int) := by have := HN.out; omega
            have hi2 : (j : Int) < (N : Int) := by have := HN.out; omega
            have hi4 : (i : Int) - 1 = (j : Int) := by omega
            have hi5 : (0 : Int) ≤ (i : Int) := by omega
            have ql := World.block_lt_of_cell? wr _ y0
            have hzl : w6.heap.size < wr.heap.size := lt_of_block K.out.1.C
            clear hZ hV hZ' hV' hin hse hs1 hji
            go_wp2_with fail
            refine (Check_call Z' V' _).mono ?_; rintro e w7 ⟨rfl, hb⟩
            rw [HSe.out]
            have hb1 : Below wr.heap.size wr (wr.alloc (.cells #[.int .i64 Z, .int .i64 V] 23)) := (Below.refl _ _).alloc (Nat.le_refl _) _
            have hbb := hb1.trans (hb.mono hb1.size)
            have HX := Lib.hid (keepO hb (block_new wr (.cells #[.int .i64 Z, .int .i64 V] 23 (0, 0)) rfl))
            replace K := Lib.hid (And.intro (K.out.1.keep hbb) K.out.2.1)
            replace y2 := keep1 hbb y2
            replace y3 := keep1 hbb y3
            have hpx : w6.heap.size < wr.heap.size := hzl
            clear hb hb1 hbb y0 y1 ql hzl
            generalize wr.heap.size = px at *
            have q0 : w7.cell? ⟨px, 0, none⟩ = some (.int .i64 Z) := cell_of_block HX.out rfl
            have q1 : w7.cell? ⟨px, 1, none⟩ = some (.int .i64 V) := cell_of_block HX.out rfl
            have ql := lt_of_block HX.out
            have ql2 := World.block_lt_of_cell? w7 _ y2
            by_cases hc : -1000 ≤ Z + V ∧ Z + V ≤ 50000
            · obtain ⟨hz', hd1, hd2⟩ : Z' = Z + V ∧ V' - V ≤ pull ∧ V - V' ≤ pull := by
                rcases hnear with ⟨h, -⟩ | ⟨-, h⟩
                · exact absurd hc h
                · exact h
              have HStep := Lib.hid (show AltMath.inB (AltMath.loK (AltMath.stF lo hi pull.toNat) 201) (AltMath.hiK (AltMath.stF lo hi pull.toNat) 201) Z' V' from AltMath.in_step K.out.2 HIn.out hz' hs2.1 hs2.2.1 hs2.2.2.1 hs2.2.2.2 (by omega) (by omega))
              have c1 : ¬ (Z + V < -1000) := by omega
              have c2 : ¬ (50000 < Z + V) := by omega
              have v1 : IntKind.i64.wrap (Z + V) = Z + V := IntWalk.i64_in _ (by omega)
              have v2 : IntKind.i64.wrap (V' - V) = V' - V := IntWalk.i64_in _ (by omega)
              have v3 : IntKind.i64.wrap (V - V') = V - V' := IntWalk.i64_in _ (by omega)
              have f1 : (Z' != Z + V) = false := by rw [bne_eq_false_iff_eq]; exact hz'
              have f2 : decide (pull < V' - V) = false := decide_eq_false (by omega)
              have f3 : decide (pull < V - V') = false := decide_eq_false (by omega)
              clear hnear hc hd1 hd2 hz'
              go_wp2_with fail
              go_quiet (fail)
              have K8 := Lib.hid (show Bn w6 aL cL aH cH lo hi (w7.drewN nq) ∧ AltMath.chB lo hi = 0 from ⟨K.out.1.keep (belowDrewN (Below.refl _ _) nq), K.out.2⟩)
              have z2 : (w7.drewN nq).cell? ⟨b5, o5 + i * 2, none⟩ = some (.int .i64 Z') := y2
              have z3 : (w7.drewN nq).cell? ⟨b5, o5 + i * 2 + 1, none⟩ = some (.int .i64 V') := y3
              have hsz : w7.heap.size = (w7.drewN nq).heap.size := rfl
              clear v1 v2 v3 f1 f2 f3 c1 c2 K y2 y3 q0 q1 HX
              rw [hsz] at ql ql2
              clear hsz
              generalize w7.drewN nq = w8 at *
              have t0 : w8.cell? ⟨w6.heap.size, 0, none⟩ = some (.slice aL 201 cL) := cell_of_block K8.out.1.C rfl
              have t1 : w8.cell? ⟨w6.heap.size, 1, none⟩ = some (.slice aH 201 cH) := cell_of_block K8.out.1.C rfl
              have tf0 : w8.frozen? ⟨w6.heap.size, 0, none⟩ = false := free_of_block K8.out.1.C
              have tf1 : w8.frozen? ⟨w6.heap.size, 1, none⟩ = false := free_of_block K8.out.1.C
              have tl := lt_of_block K8.out.1.C
              go_wp2_with fail
              refine (Alt.pStep_call aL aH 201 201 cL cH lo hi pull _ K8.out.1.L K8.out.1.H).mono ?_; intro e w9 hpost
              have hse : AltMath.stE lo hi pull = 0 := by unfold AltMath.stE; rw [if_neg (by rw [K8.out.2]; decide), if_neg (by omega)]
              obtain ⟨vL, vH, rfl, hT, -, hb⟩ := hpost
              obtain ⟨aL', cL', rfl, hIL, hoL⟩ := ints_of (AltMath.loK_len _ _) (hT hse).L (by decide)
              obtain ⟨aH', cH', rfl, hIH, hoH⟩ := ints_of (AltMath.hiK_len _ _) (hT hse).H (by decide)
              have hK9 := K8.out.1.keep hb
              have K9 := Lib.hid (hK9.store (cL' := cL') (cH' := cH') hIL hIH hoL hoH tl)
              have s0 : w9.cell? ⟨w6.heap.size, 0, none⟩ = some (.slice aL 201 cL) := cell_of_block hK9.C rfl
              have s1 : w9.cell? ⟨w6.heap.size, 1, none⟩ = some (.slice aH 201 cH) := cell_of_block hK9.C rfl
              have sf0 : w9.frozen? ⟨w6.heap.size, 0, none⟩ = false := free_of_block hK9.C
              have sf1 : w9.frozen? ⟨w6.heap.size, 1, none⟩ = false := free_of_block hK9.C
              have sl := lt_of_block hK9.C
              have HCh := Lib.hid (AltMath.ch_st (lo := lo) (hi := hi) (p := pull.toNat))
              rw [hse]
              clear hT hb hIL hIH hoL hoH
              generalize AltMath.loK (AltMath.stF lo hi pull.toNat) 201 = lo' at *
              generalize AltMath.hiK (AltMath.stF lo hi pull.toNat) 201 = hi' at *
              clear hK9 t0 t1 tf0 tf1 tl hse z2 z3 ql ql2
              go_wp2_with fail
              generalize (w9.setCell ⟨w6.heap.size, 0, none⟩ (.slice aL' 201 cL')).setCell ⟨w6.heap.size, 1, none⟩ (.slice aH' 201 cH') = w10 at *
              clear s0 s1 sf0 sf1 sl K8
              obtain ⟨b, o, e, y2, y3⟩ := prs_at' (K6.out.2.below K9.out.B) (k := i) (by have := HN.out; have := HJ.out; omega)
              cases e
              rw [HG.out i (by have := HJ.out; omega)] at y2 y3
              rw [HE1.out.1] at y2
              rw [HE1.out.2] at y3
              have t0 : w10.cell? ⟨w6.heap.size, 0, none⟩ = some (.slice aL' 201 cL') := cell_of_block K9.out.C rfl
              have t1 : w10.cell? ⟨w6.heap.size, 1, none⟩ = some (.slice aH' 201 cH') := cell_of_block K9.out.C rfl
              have HCells := Lib.hid (And.intro (And.intro t0 t1) (And.intro y2 y3))
              have hcn := AltMath.in_con HCh.out HStep.out
              have HCn := Lib.hid hcn
              have tl := lt_of_block K9.out.C
              have ql2 := World.block_lt_of_cell? w10 _ y2
              clear t0 t1 y2 y3 hcn
              have KD := Lib.hid (show Below w10.heap.size w10 w10.drew from belowDrewN (Below.refl _ _) 1)
              go_region_held3 (fun w' => (w'.cell? ⟨w6.heap.size, 0, none⟩ = some (.slice aL' 201 cL') ∧ w'.cell? ⟨w6.heap.size, 1, none⟩ = some (.slice aH' 201 cH')) ∧ (w'.cell? ⟨b5, o5 + i * 2, none⟩ = some (.int .i64 Z') ∧ w'.cell? ⟨b5, o5 + i * 2 + 1, none⟩ = some (.int .i64 V'))) (exact ⟨⟨keep1 KD.out HCells.out.1.1, keep1 KD.out HCells.out.1.2⟩, ⟨keep1 KD.out HCells.out.2.1, keep1 KD.out HCells.out.2.2⟩⟩)
                ((go_at_call 26; refine (Alt.pCon_call aL' aH' 201 201 cL' cH' lo' hi' Z' V' _ (K9.out.L.below KD.out) (K9.out.H.below KD.out)).mono ?_; rintro e w11 ⟨rfl, hb⟩; rw [HCn.out, HCh.out]; replace KD := Lib.hid (KD.out.trans (hb.mono KD.out.size)); clear hb))
              all_goals
                go_wp2_with fail
                go_roundw
                case rel => exact ⟨j + 1, i + 1, aL', cL', aH', cH', lo', hi', by omega, by have := HJ.out; omega, by go_num, K9.out.keep KD.out, HCh.out, by rw [← HJ.out, HE1.out.1, HE1.out.2]; exact HStep.out⟩
                case measure => simp [intOf]; omega
            · have hv0 : V' = 0 := by
                rcases hnear with ⟨-, h⟩ | ⟨h, -⟩
                · exact h
                · exact absurd h hc
              subst hv0
              by_cases c1 : Z + V < -1000
              · go_wp2_with fail
                go_ret
                exact ⟨rfl, HB.out _ K.out.1.B⟩
              · have c2 : 50000 < Z + V := by omega
                go_wp2_with fail
                go_ret
                exact ⟨rfl, HB.out _ K.out.1.B⟩
          · have hend : ¬ ((i : Int) < (N : Int)) := by have := HN.out; omega
            clear hji
            go_wp2_with fail
            go_ret
            exact ⟨rfl, HB.out _ K.out.1.B⟩
      · have hne : (pthE z v pull l != 0) = true := by rw [bne_iff_ne]; exact hE
        have hlen : (pthL z v pull l).length = 0 := by unfold pthL; rw [if_neg hE]; rfl
        rw [hlen]
        obtain ⟨E, hE2⟩ : ∃ E, pthE z v pull l = E := ⟨_, rfl⟩
        rw [hE2] at hne ⊢
        clear hE hE2 hlen
        go_wp2_with fail
        go_ret
        exact ⟨rfl, K.out.1⟩
end Go.Proofs.Ythaokofhepngbaa
