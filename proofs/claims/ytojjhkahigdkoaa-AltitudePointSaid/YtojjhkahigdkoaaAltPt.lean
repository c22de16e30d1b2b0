/-
  Layer 18 (altitude): the law Point.
-/
import Derived.Test.YtojjhkahigdkoaaAltPo
import Derived.Test.YtojjhkahigdkoaaAltO
import Derived.Test.YtojjhkahigdkoaaAltP
import Derived.Test.YtojjhkahigdkoaaHeldBy
namespace Go.Proofs.Ytojjhkahigdkoaa
open Go.RowKit AltMath MyHeap MyCopy MyOwn

theorem on_beP {z v : Int} (h1 : -1000 ≤ z) (h2 : z ≤ 50000) (v1 : -100 ≤ v) (v2 : v ≤ 100) : beP (onL z v) (onH z v) = (z, v) := by
  obtain ⟨e0, eX⟩ := on_spread h1 h2 v1 v2
  have hb : beR (onL z v) (onH z v) = v := by
    unfold beR
    rw [eX]
    exact on_best
  obtain ⟨g1, g2⟩ := on_get (z := z) (v := v) (i := (v + 100).toNat) (by omega)
  rw [onF_yes (by omega)] at g1 g2
  unfold beP
  rw [if_pos e0, hb, g1, g2]
  refine Prod.ext ?_ rfl
  show (z + z) / 2 = z
  omega
theorem on_len (z v : Int) : (onL z v).length = 201 ∧ (onH z v).length = 201 := ⟨loK_len _ _, hiK_len _ _⟩

/-- What is held: the plane's block, the band's. -/
structure QtK (w0 : World) (z v : Int) (b3 : Nat) (aL : Option Addr) (cL : Nat) (aH : Option Addr) (cH : Nat) (W : World) : Prop where
  B : Below w0.heap.size w0 W
  P : W.heap[w0.heap.size]? = some (.cells #[.int .i64 z, .int .i64 v] 40 (0, 0))
  A : BdA b3 aL 201 cL aH 201 cH (onL z v) (onH z v) W
theorem QtK.keep {w0 : World} {z v : Int} {b3 : Nat} {aL : Option Addr} {cL : Nat} {aH : Option Addr} {cH : Nat} {W W' : World} (h : QtK w0 z v b3 aL cL aH cH W) (hb : Below W.heap.size W W') : QtK w0 z v b3 aL cL aH cH W' := ⟨h.B.trans (hb.mono h.B.size), keepO hb h.P, h.A.keep hb⟩

set_option maxRecDepth 100000 in
set_option maxHeartbeats 4000000 in
theorem pt_out (z v : Int) (w : World) (h : z < -1000 ∨ 50000 < z ∨ v < -100 ∨ 100 < v) : Calls Try.prog 7 #[.agg #[.int .i64 z, .int .i64 v]] w (BPost true w) := by
  have B := Lib.hid (below_alloc w (.cells #[.int .i64 z, .int .i64 v] 40))
  by_cases c0 : z < -1000
  · have e0 : decide (z < -1000) = true := decide_eq_true c0
    clear h
    go_enter Try.func7, Try.ntmps7
    go_wp2_with fail
    refine (awake_call _).mono ?_; rintro e w2 ⟨rfl, hb⟩
    have B2 := Lib.hid (B.out.trans (hb.mono B.out.size))
    clear hb
    go_wp2_with fail
    go_ret
    exact bPost_of rfl B2.out
  · have _ := c0
    by_cases c1 : 50000 < z
    · have e1 : decide (50000 < z) = true := decide_eq_true c1
      have e0 : decide (z < -1000) = false := decide_eq_false c0
      clear h
      go_enter Try.func7, Try.ntmps7
      go_wp2_with fail
      refine (awake_call _).mono ?_; rintro e w2 ⟨rfl, hb⟩
      have B2 := Lib.hid (B.out.trans (hb.mono B.out.size))
      clear hb
      go_wp2_with fail
      go_ret
      exact bPost_of rfl B2.out
    · have _ := c1
      by_cases c2 : v < -100
      · have e2 : decide (v < -100) = true := decide_eq_true c2
        have e0 : decide (z < -1000) = false := decide_eq_false c0
        have e1 : decide (50000 < z) = false := decide_eq_false c1
        clear h
        go_enter Try.func7, Try.ntmps7
        go_wp2_with fail
        refine (awake_call _).mono ?_; rintro e w2 ⟨rfl, hb⟩
        have B2 := Lib.hid (B.out.trans (hb.mono B.out.size))
        clear hb
        go_wp2_with fail
        go_ret
        exact bPost_of rfl B2.out
      · have _ := c2
        have c3 : 100 < v := by omega
        have e3 : decide (100 < v) = true := decide_eq_true c3
        have e0 : decide (z < -1000) = false := decide_eq_false c0
        have e1 : decide (50000 < z) = false := decide_eq_false c1
        have e2 : decide (v < -100) = false := decide_eq_false c2
        clear h
        go_enter Try.func7, Try.ntmps7
        go_wp2_with fail
        refine (awake_call _).mono ?_; rintro e w2 ⟨rfl, hb⟩
        have B2 := Lib.hid (B.out.trans (hb.mono B.out.size))
        clear hb
        go_wp2_with fail
        go_ret
        exact bPost_of rfl B2.out

set_option maxRecDepth 100000 in
set_option maxHeartbeats 16000000 in
theorem pt_in (z v : Int) (w : World) (z0 : -1000 ≤ z) (z1 : z ≤ 50000) (v0 : -100 ≤ v) (v1 : v ≤ 100) : Calls Try.prog 7 #[.agg #[.int .i64 z, .int .i64 v]] w (BPost true w) := by
  have B := Lib.hid (And.intro (below_alloc w (.cells #[.int .i64 z, .int .i64 v] 40)) (block_new w (.cells #[.int .i64 z, .int .i64 v] 40) rfl))
  have e0 : decide (z < -1000) = false := decide_eq_false (by omega)
  have e1 : decide (50000 < z) = false := decide_eq_false (by omega)
  have e2 : decide (v < -100) = false := decide_eq_false (by omega)
  have e3 : decide (100 < v) = false := decide_eq_false (by omega)
  have hc := on_ch (z := z) (v := v) z0 z1
  have HF := Lib.hid (And.intro hc (And.intro (in_con hc (on_in (z := z) v0 v1)) (And.intro (on_spread z0 z1 v0 v1).1 (And.intro (on_beP z0 z1 v0 v1) (stE_ok (p := 0) hc (by omega))))))
  clear hc
  go_enter Try.func7, Try.ntmps7
  go_wp2_with fail
  refine (awake_call _).mono ?_; rintro e w1 ⟨rfl, hb⟩
  replace B := Lib.hid (And.intro (B.out.1.trans (hb.mono B.out.1.size)) (keepO hb B.out.2))
  obtain ⟨p0, p1⟩ := two_cell B.out.2
  clear hb
  go_wp2_with fail
  refine (point_call z v _).mono ?_; rintro e w2 ⟨vL, vH, rfl, hT, hb⟩
  obtain ⟨aL, cL, aH, cH, rfl, rfl, i1, i2⟩ := two_ints hT (on_len z v).1 (on_len z v).2 (by decide) (by decide)
  have K := Lib.hid (show QtK w z v w2.heap.size aL cL aH cH (w2.alloc (.cells #[.slice aL 201 cL, .slice aH 201 cH] 24)) from
    ⟨(B.out.1.trans (hb.mono B.out.1.size)).alloc (Nat.le_trans B.out.1.size hb.size) _, block_alloc (keepO hb B.out.2), BdA.new i1 i2⟩)
  obtain ⟨b3, hb3⟩ : ∃ b, w2.heap.size = b := ⟨_, rfl⟩
  rw [hb3] at K
  clear B hT hb i1 i2 p0 p1
  obtain ⟨p0, p1⟩ := two_cell K.out.P
  obtain ⟨k0, k1⟩ := two_cell K.out.A.1
  go_wp2_with fail
  clear hb3
  generalize w2.alloc (.cells #[.slice aL 201 cL, .slice aH 201 cH] 24) = w3 at *
  have hc := pCon_call aL aH 201 201 cL cH (onL z v) (onH z v) z v _ K.out.A.2.1 K.out.A.2.2
  unfold bdV at hc
  refine hc.mono ?_; clear hc; rintro e w4 ⟨rfl, hb⟩
  rw [HF.out.1, HF.out.2.1]
  replace K := Lib.hid (K.out.keep hb)
  clear hb k0 k1 p0 p1
  obtain ⟨p0, p1⟩ := two_cell K.out.P
  obtain ⟨k0, k1⟩ := two_cell K.out.A.1
  go_wp2_with fail
  have hc := pBest_call aL aH 201 201 cL cH (onL z v) (onH z v) _ K.out.A.2.1 K.out.A.2.2
  unfold bdV at hc
  refine hc.mono ?_; clear hc; rintro e w5 ⟨rfl, hb⟩
  rw [HF.out.2.2.1, HF.out.2.2.2.1]
  replace K := Lib.hid ((K.out.keep hb).keep (below_alloc w5 (.cells #[.int .i64 z, .int .i64 v] 40)))
  have E6 := Lib.hid (block_new w5 (.cells #[.int .i64 z, .int .i64 v] 40) rfl)
  obtain ⟨b6, hb6⟩ : ∃ b, w5.heap.size = b := ⟨_, rfl⟩
  rw [hb6] at E6
  clear hb k0 k1 p0 p1
  obtain ⟨k0, k1⟩ := two_cell K.out.A.1
  go_wp2_with fail
  clear hb6
  generalize w5.alloc (.cells #[.int .i64 z, .int .i64 v] 40) = w6 at *
  have hc := pStep_call aL aH 201 201 cL cH (onL z v) (onH z v) 0 _ K.out.A.2.1 K.out.A.2.2
  unfold bdV at hc
  refine hc.mono ?_; clear hc; rintro e w7 ⟨vL, vH, rfl, hT, -, hb⟩
  have hT' := hT HF.out.2.2.2.2
  obtain ⟨sL, sc, sH, sd, rfl, rfl, i1, i2⟩ := two_ints hT' (loK_len _ 201) (hiK_len _ 201) (by decide) (by decide)
  rw [HF.out.2.2.2.2]
  rw [show (0 : Int).toNat = 0 from rfl] at i1 i2
  replace K := Lib.hid ((K.out.keep hb).keep (below_alloc w7 (.cells #[.slice sL 201 sc, .slice sH 201 sd] 24)))
  replace E6 := Lib.hid (block_alloc (o' := .cells #[.slice sL 201 sc, .slice sH 201 sd] 24) (keepO hb E6.out))
  have N := Lib.hid (BdA.new (cL := sc) (cH := sd) i1 i2)
  obtain ⟨b8, hb8⟩ : ∃ b, w7.heap.size = b := ⟨_, rfl⟩
  rw [hb8] at N
  clear hb hT hT' i1 i2 k0 k1
  obtain ⟨p0, p1⟩ := two_cell K.out.P
  obtain ⟨k0, k1⟩ := two_cell K.out.A.1
  obtain ⟨q0, q1⟩ := two_cell E6.out
  obtain ⟨n0, n1⟩ := two_cell N.out.1
  go_wp2_with fail
  clear hb8 E6 q0 q1 k0 k1
  generalize w7.alloc (.cells #[.slice sL 201 sc, .slice sH 201 sd] 24) = w8 at *
  by_cases hin : -1000 ≤ z + v ∧ z + v ≤ 50000
  · obtain ⟨y1, y2⟩ := hin
    have hl := on_next z0 z1 (v := v) ⟨y1, y2⟩
    rw [hl.1, hl.2] at N
    have HS := Lib.hid (on_spread y1 y2 v0 v1).1
    have HM := Lib.hid (show emB (onL (z + v) v) (onH (z + v) v) = false ∧ emE (onL (z + v) v) (onH (z + v) v) = 0 from by
      unfold emB emE
      rw [HS.out]
      exact ⟨rfl, rfl⟩)
    clear hl HS
    have hc := pEmpty_call sL sH 201 201 sc sd (onL (z + v) v) (onH (z + v) v) _ N.out.2.1 N.out.2.2
    unfold bdV at hc
    refine hc.mono ?_; clear hc; rintro e w9 ⟨rfl, hb⟩
    rw [HM.out.1, HM.out.2]
    replace K := Lib.hid (And.intro (K.out.keep hb) (N.out.keep hb))
    clear hb p0 p1 n0 n1 N
    have c0 : decide (z + v < -1000) = false := decide_eq_false (by omega)
    have c1 : decide (50000 < z + v) = false := decide_eq_false (by omega)
    obtain ⟨p0, p1⟩ := two_cell K.out.1.P
    have hw : IntKind.i64.wrap (z + v) = z + v := by rw [IntKind.wrap_i64] <;> omega
    go_wp2_with fail
    replace K := Lib.hid (And.intro (K.out.1.keep (Below.refl w9.heap.size w9).drew) (K.out.2.keep (Below.refl w9.heap.size w9).drew))
    refine wp_region_held_drew (S := (fun w' => (w'.cell? ⟨w.heap.size, 0, none⟩ = some (.int .i64 z) ∧ w'.cell? ⟨w.heap.size, 1, none⟩ = some (.int .i64 v)) ∧ (w'.cell? ⟨b8, 0, none⟩ = some (.slice sL 201 sc) ∧ w'.cell? ⟨b8, 1, none⟩ = some (.slice sH 201 sd)))) (by kernel_rfl) (by (try dsimp only); (exact ⟨two_cell K.out.1.P, two_cell K.out.2.1⟩)) (fun hHeld => ?_)
    refine MyHeld.take 0 (v := ?_) .z (by kernel_rfl) (by kernel_rfl) (by kernel_rfl) (fun _ _ _ h => h) (by rfl) (by assumption) ?_ ?_
    rotate_left
    · intro w hSw; (try dsimp only at hSw); go_simp; (try with_reducible rfl)
    try simp only [Act.put, List.setIfInBounds_toArray, List.set_cons_zero, List.set_cons_succ]
    refine MyHeld.take 1 (v := ?_) (.s .z) (by kernel_rfl) (by kernel_rfl) (by kernel_rfl) (fun _ _ _ h => h) (by rfl) (by assumption) ?_ ?_
    rotate_left
    · intro w hSw; (try dsimp only at hSw); go_simp; (try with_reducible rfl)
    try simp only [Act.put, List.setIfInBounds_toArray, List.set_cons_zero, List.set_cons_succ]
    refine MyHeld.take 2 (v := ?_) (.s (.s .z)) (by kernel_rfl) (by kernel_rfl) (by kernel_rfl) (fun _ _ _ h => h) (by rfl) (by assumption) ?_ ?_
    rotate_left
    · intro w hSw; (try dsimp only at hSw); go_simp; (try with_reducible rfl)
    try simp only [Act.put, List.setIfInBounds_toArray, List.set_cons_zero, List.set_cons_succ]
    refine MyHeld.take 3 (v := ?_) (.s (.s (.s .z))) (by kernel_rfl) (by kernel_rfl) (by kernel_rfl) (fun _ _ _ h => h) (by rfl) (by assumption) ?_ ?_
    rotate_left
    · intro w hSw; (try dsimp only at hSw); go_simp; (try with_reducible rfl)
    try simp only [Act.put, List.setIfInBounds_toArray, List.set_cons_zero, List.set_cons_succ]
    refine MyHeld.take 4 (v := ?_) (.s (.s (.s (.s .z)))) (by kernel_rfl) (by kernel_rfl) (by kernel_rfl) (fun _ _ _ h => h) (by rfl) (by assumption) ?_ ?_
    rotate_left
    · intro w hSw; (try dsimp only at hSw); go_simp; (try with_reducible rfl)
    try simp only [Act.put, List.setIfInBounds_toArray, List.set_cons_zero, List.set_cons_succ]
    refine MyHeld.take 5 (v := ?_) (.s (.s (.s (.s (.s .z))))) (by kernel_rfl) (by kernel_rfl) (by kernel_rfl) (fun _ _ _ h => h) (by rfl) (by assumption) ?_ ?_
    rotate_left
    · intro w hSw; (try dsimp only at hSw); go_simp; (try with_reducible rfl)
    try simp only [Act.put, List.setIfInBounds_toArray, List.set_cons_zero, List.set_cons_succ]
    refine MyHeld.take 6 (v := ?_) (.s (.s (.s (.s (.s (.s .z)))))) (by kernel_rfl) (by kernel_rfl) (by kernel_rfl) (fun _ _ _ h => h) (by rfl) (by assumption) ?_ ?_
    rotate_left
    · intro w hSw; (try dsimp only at hSw); go_simp; (try with_reducible rfl)
    try simp only [Act.put, List.setIfInBounds_toArray, List.set_cons_zero, List.set_cons_succ]
    refine MyHeld.take 7 (v := ?_) (.s (.s (.s (.s (.s (.s (.s .z))))))) (by kernel_rfl) (by kernel_rfl) (by kernel_rfl) (fun _ _ _ h => h) (by rfl) (by assumption) ?_ ?_
    rotate_left
    · intro w hSw; (try dsimp only at hSw); go_simp; (try with_reducible rfl)
    try simp only [Act.put, List.setIfInBounds_toArray, List.set_cons_zero, List.set_cons_succ]
    refine MyHeld.take 8 (v := ?_) (.s (.s (.s (.s (.s (.s (.s (.s .z)))))))) (by kernel_rfl) (by kernel_rfl) (by kernel_rfl) (fun _ _ _ h => h) (by rfl) (by assumption) ?_ ?_
    rotate_left
    · intro w hSw; (try dsimp only at hSw); go_simp; (try with_reducible rfl)
    try simp only [Act.put, List.setIfInBounds_toArray, List.set_cons_zero, List.set_cons_succ]
    refine MyHeld.take 9 (v := ?_) (.s (.s (.s (.s (.s (.s (.s (.s (.s .z))))))))) (by kernel_rfl) (by kernel_rfl) (by kernel_rfl) (fun _ _ _ h => h) (by rfl) (by assumption) ?_ ?_
    rotate_left
    · intro w hSw; (try dsimp only at hSw); go_simp; (try with_reducible rfl)
    try simp only [Act.put, List.setIfInBounds_toArray, List.set_cons_zero, List.set_cons_succ]
    refine MyHeld.take 10 (v := ?_) (.s (.s (.s (.s (.s (.s (.s (.s (.s (.s .z)))))))))) (by kernel_rfl) (by kernel_rfl) (by kernel_rfl) (fun _ _ _ h => h) (by rfl) (by assumption) ?_ ?_
    rotate_left
    · intro w hSw; (try dsimp only at hSw); go_simp; (try with_reducible rfl)
    try simp only [Act.put, List.setIfInBounds_toArray, List.set_cons_zero, List.set_cons_succ]
    refine MyHeld.take 11 (v := ?_) (.s (.s (.s (.s (.s (.s (.s (.s (.s (.s (.s .z))))))))))) (by kernel_rfl) (by kernel_rfl) (by kernel_rfl) (fun _ _ _ h => h) (by rfl) (by assumption) ?_ ?_
    rotate_left
    · intro w hSw; (try dsimp only at hSw); go_simp; (try with_reducible rfl)
    try simp only [Act.put, List.setIfInBounds_toArray, List.set_cons_zero, List.set_cons_succ]
    refine MyHeld.take 12 (v := ?_) (.s (.s (.s (.s (.s (.s (.s (.s (.s (.s (.s (.s .z)))))))))))) (by kernel_rfl) (by kernel_rfl) (by kernel_rfl) (fun _ _ _ h => h) (by rfl) (by assumption) ?_ ?_
    rotate_left
    · intro w hSw; (try dsimp only at hSw); go_simp; (try with_reducible rfl)
    try simp only [Act.put, List.setIfInBounds_toArray, List.set_cons_zero, List.set_cons_succ]
    refine MyHeld.take 13 (v := ?_) (.s (.s (.s (.s (.s (.s (.s (.s (.s (.s (.s (.s (.s .z))))))))))))) (by kernel_rfl) (by kernel_rfl) (by kernel_rfl) (fun _ _ _ h => h) (by rfl) (by assumption) ?_ ?_
    rotate_left
    · intro w hSw; (try dsimp only at hSw); go_simp; (try with_reducible rfl)
    try simp only [Act.put, List.setIfInBounds_toArray, List.set_cons_zero, List.set_cons_succ]
    refine MyHeld.take 14 (v := ?_) (.s (.s (.s (.s (.s (.s (.s (.s (.s (.s (.s (.s (.s (.s .z)))))))))))))) (by kernel_rfl) (by kernel_rfl) (by kernel_rfl) (fun _ _ _ h => h) (by rfl) (by assumption) ?_ ?_
    rotate_left
    · intro w hSw; (try dsimp only at hSw); go_simp; (try with_reducible rfl)
    try simp only [Act.put, List.setIfInBounds_toArray, List.set_cons_zero, List.set_cons_succ]
    refine MyHeld.take 15 (v := ?_) (.s (.s (.s (.s (.s (.s (.s (.s (.s (.s (.s (.s (.s (.s (.s .z))))))))))))))) (by kernel_rfl) (by kernel_rfl) (by kernel_rfl) (fun _ _ _ h => h) (by rfl) (by assumption) ?_ ?_
    rotate_left
    · intro w hSw; (try dsimp only at hSw); go_simp; (try with_reducible rfl)
    try simp only [Act.put, List.setIfInBounds_toArray, List.set_cons_zero, List.set_cons_succ]
    refine wpAnyH_ready (rs := [16]) (by kernel_rfl) (by simp) ?_
    refine (MyHeld.next 16 (.s (.s (.s (.s (.s (.s (.s (.s (.s (.s (.s (.s (.s (.s (.s (.s .z)))))))))))))))) (fun Kq hKq => ?_) AllReadyH.nil)
    go_simp
    (go_at_call 32; refine (point_call (z + v) v _).mono ?_; rintro e wa ⟨vL, vH, rfl, hT, hb⟩; obtain ⟨tL, tc, tH, td, rfl, rfl, i1, i2⟩ := two_ints hT (on_len (z + v) v).1 (on_len (z + v) v).2 (by decide) (by decide); replace K := Lib.hid (And.intro (K.out.1.keep hb) (K.out.2.keep hb)); have T := Lib.hid (And.intro i1 i2); clear hT hb i1 i2)
    go_wp2_with fail
    refine hKq.out _ _ (by (try dsimp only); (exact ⟨two_cell K.out.1.P, two_cell K.out.2.1⟩)) (fun hHeld' => ?_)
    clear hKq Kq hHeld; have hHeld := hHeld'; clear hHeld'
    try simp only [Act.put, List.setIfInBounds_toArray, List.set_cons_zero, List.set_cons_succ]
    refine wpAnyH_ready (rs := [17]) (by kernel_rfl) (by simp) ?_
    refine (MyHeld.next 17 (.s (.s (.s (.s (.s (.s (.s (.s (.s (.s (.s (.s (.s (.s (.s (.s (.s .z))))))))))))))))) (fun Kq hKq => ?_) AllReadyH.nil)
    go_simp
    (go_at_call 18; have hc := equalBand_call sL sH tL tH 201 201 sc sd 201 201 tc td (onL (z + v) v) (onH (z + v) v) (onL (z + v) v) (onH (z + v) v) _ K.out.2.2.1 K.out.2.2.2 T.out.1 T.out.2; unfold bdV at hc; refine hc.mono ?_; clear hc; rintro e wb ⟨rfl, hb⟩; rw [decide_eq_true (rfl : onL (z + v) v = onL (z + v) v), decide_eq_true (rfl : onH (z + v) v = onH (z + v) v)]; replace K := Lib.hid (And.intro (K.out.1.keep hb) (K.out.2.keep hb)); clear hb)
    go_wp2_with fail
    refine hKq.out _ _ (by (try dsimp only); (exact ⟨two_cell K.out.1.P, two_cell K.out.2.1⟩)) (fun hHeld' => ?_)
    clear hKq Kq hHeld; have hHeld := hHeld'; clear hHeld'
    try simp only [Act.put, List.setIfInBounds_toArray, List.set_cons_zero, List.set_cons_succ]
    refine MyHeld.take 18 (v := ?_) (.s (.s (.s (.s (.s (.s (.s (.s (.s (.s (.s (.s (.s (.s (.s (.s (.s (.s .z)))))))))))))))))) (by kernel_rfl) (by kernel_rfl) (by kernel_rfl) (fun _ _ _ h => h) (by rfl) (by assumption) ?_ ?_
    rotate_left
    · intro w hSw; (try dsimp only at hSw); go_simp; (try with_reducible rfl)
    try simp only [Act.put, List.setIfInBounds_toArray, List.set_cons_zero, List.set_cons_succ]
    refine MyHeld.take 19 (v := ?_) (.s (.s (.s (.s (.s (.s (.s (.s (.s (.s (.s (.s (.s (.s (.s (.s (.s (.s (.s .z))))))))))))))))))) (by kernel_rfl) (by kernel_rfl) (by kernel_rfl) (fun _ _ _ h => h) (by rfl) (by assumption) ?_ ?_
    rotate_left
    · intro w hSw; (try dsimp only at hSw); go_simp; (try with_reducible rfl)
    try simp only [Act.put, List.setIfInBounds_toArray, List.set_cons_zero, List.set_cons_succ]
    refine wpAnyH_done (by kernel_rfl) ?_ _
    all_goals
      clear p0 p1
      go_wp2_with fail
      go_ret
      exact bPost_of rfl K.out.1.B
  · have HM := Lib.hid (show emB (loK (stF (onL z v) (onH z v) 0) 201) (hiK (stF (onL z v) (onH z v) 0) 201) = true ∧ emE (loK (stF (onL z v) (onH z v) 0) 201) (hiK (stF (onL z v) (onH z v) 0) 201) = 0 from by
      have h9 := on_gone z0 z1 hin
      unfold emB emE
      rw [h9]
      exact ⟨rfl, rfl⟩)
    have hc := pEmpty_call sL sH 201 201 sc sd (loK (stF (onL z v) (onH z v) 0) 201) (hiK (stF (onL z v) (onH z v) 0) 201) _ N.out.2.1 N.out.2.2
    unfold bdV at hc
    refine hc.mono ?_; clear hc; rintro e w9 ⟨rfl, hb⟩
    rw [HM.out.1, HM.out.2]
    replace K := Lib.hid (K.out.keep hb)
    clear hb p0 p1 n0 n1 N HM
    obtain ⟨p0, p1⟩ := two_cell K.out.P
    by_cases hlo : z + v < -1000
    · have c0 : decide (z + v < -1000) = true := decide_eq_true hlo
      clear hin
      go_wp2_with fail
      go_ret
      exact bPost_of rfl K.out.B
    · have c0 : decide (z + v < -1000) = false := decide_eq_false hlo
      have c1 : decide (50000 < z + v) = true := decide_eq_true (by omega)
      clear hin
      go_wp2_with fail
      go_ret
      exact bPost_of rfl K.out.B
theorem pt_call (z v : Int) (w : World) : Calls Try.prog 7 #[.agg #[.int .i64 z, .int .i64 v]] w (BPost true w) := by
  by_cases h : z < -1000 ∨ 50000 < z ∨ v < -100 ∨ 100 < v
  · exact pt_out z v w h
  · exact pt_in z v w (by omega) (by omega) (by omega) (by omega)
end Go.Proofs.Ytojjhkahigdkoaa
