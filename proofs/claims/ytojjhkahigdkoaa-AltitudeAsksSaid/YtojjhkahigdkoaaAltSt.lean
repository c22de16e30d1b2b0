/-
  Layer 18 (altitude): the reference's Best.
-/
import Derived.Test.YtojjhkahigdkoaaAltSr
import Derived.Test.YtojjhkahigdkoaaAltW
import Derived.Test.YtojjhkahigdkoaaHeldBy
import Derived.BigQuiet
namespace Go.Proofs.Ytojjhkahigdkoaa
open Go.RowKit AltMath MyHeap MyCopy MyOwn

/-- Between two rounds of Best. -/
structure BsK (w0 : World) (R m : Nat) (b1 o1 b2 o2 cL cH : Nat) (lo hi : List Int) (b3 o3 n : Nat) (x : Ext) (W : World) : Prop where
  B : Below w0.heap.size w0 W
  P : W.heap[w0.heap.size]? = some (.cells #[.slice (some ⟨b1, o1, none⟩) 201 cL, .slice (some ⟨b2, o2, none⟩) 201 cH] 24 (0, 0))
  RR : W.heap[R]? = some (.cells #[.int .i64 0, .int .i64 0] 40 (0, 0))
  M : W.heap[m]? = some (.cells #[.int .i64 x.low, .int .i64 x.high, .int .i64 x.slow, .int .i64 x.fast] 53 (0, 0))
  L : Ints W (some ⟨b1, o1, none⟩) 201 lo
  H : Ints W (some ⟨b2, o2, none⟩) 201 hi
  I : Ints W (some ⟨b3, o3, none⟩) n (rL lo hi 201)
theorem BsK.keep {w0 : World} {R m b1 o1 b2 o2 cL cH : Nat} {lo hi : List Int} {b3 o3 n : Nat} {x : Ext} {W W' : World} (h : BsK w0 R m b1 o1 b2 o2 cL cH lo hi b3 o3 n x W) (hb : Below W.heap.size W W') : BsK w0 R m b1 o1 b2 o2 cL cH lo hi b3 o3 n x W' :=
  ⟨h.B.trans (hb.mono h.B.size), keepO hb h.P, keepO hb h.RR, keepO hb h.M, h.L.below hb, h.H.below hb, h.I.below hb⟩
theorem put2 {w0 W : World} {R : Nat} {x y : Value} (a b : Value) (hB : Below w0.heap.size w0 W) (hR : W.heap[R]? = some (.cells #[x, y] 40 (0, 0))) (hw : w0.heap.size ≤ R) :
    ∀ W', W' = ((W.setCell ⟨R, 0, none⟩ a).setCell ⟨R, 1, none⟩ b) → Below w0.heap.size w0 W' ∧ W'.cell? ⟨R, 0, none⟩ = some a ∧ W'.cell? ⟨R, 1, none⟩ = some b := by
  rintro W' rfl
  have hx := block_setCell (i := 1) (v := b) (block_setCell (i := 0) (v := a) hR)
  have hO : Only R W ((W.setCell ⟨R, 0, none⟩ a).setCell ⟨R, 1, none⟩ b) := ((Only.refl _ _).setCell 0 _).setCell 1 _
  exact ⟨hB.trans (hO.below hw hB.size), cell_of_block (i := 0) (v := a) (by simpa using hx) rfl, cell_of_block (i := 1) (v := b) (by simpa using hx) rfl⟩

theorem half_neg {a : Int} (h : a < 0) : (a - 1).tdiv 2 = a / 2 := by
  rw [Int.tdiv_eq_ediv]
  split
  · rename_i hh
    rcases hh with hh | ⟨c, hc⟩
    · omega
    · omega
  · rename_i hh
    have : ¬ (2 : Int) ∣ (a - 1) := fun e => hh (Or.inr e)
    have e : (2 : Int).sign = 1 := rfl
    rw [e]
    omega

set_option maxRecDepth 100000 in
set_option maxHeartbeats 4000000 in
theorem rBest_no (aL aH : Option Addr) (nL nH cL cH : Nat) (lo hi : List Int) (w : World) (hL : Ints w aL nL lo) (hH : Ints w aH nH hi) (hE : spE lo hi ≠ 0) :
    Calls Try.prog 31 #[bdV aL nL cL aH nH cH] w (BePost lo hi w) := by
  have d1 : (spE lo hi != 0) = true := bne_iff_ne.2 hE
  have HE := Lib.hid (show beP lo hi = (0, 0) from if_neg hE)
  have H := Lib.hid (And.intro hL hH)
  have B := Lib.hid ((below_alloc w (.cells (bdC aL nL cL aH nH cH) 24)).alloc (by simp) (.cells #[.int .i64 0, .int .i64 0] 40))
  have R := Lib.hid (block_new (w.alloc (.cells (bdC aL nL cL aH nH cH) 24)) (.cells #[.int .i64 0, .int .i64 0] 40) (n := w.heap.size + 1) (by simp))
  clear hL hH hE
  unfold bdV
  unfold bdC at *
  go_enter Try.func31, Try.ntmps31
  go_wp2_with fail
  refine (rSpread_call aL aH nL nH cL cH lo hi _ (H.out.1.below B.out) (H.out.2.below B.out)).mono ?_; rintro e w1 ⟨rfl, hb⟩
  unfold exC
  replace R := Lib.hid (block_alloc (o' := .cells #[.int .i64 (spX lo hi).low, .int .i64 (spX lo hi).high, .int .i64 (spX lo hi).slow, .int .i64 (spX lo hi).fast] 53) (keepO hb R.out))
  replace B := Lib.hid ((B.out.trans (hb.mono B.out.size)).alloc (Nat.le_trans B.out.size hb.size) (.cells #[.int .i64 (spX lo hi).low, .int .i64 (spX lo hi).high, .int .i64 (spX lo hi).slow, .int .i64 (spX lo hi).fast] 53))
  obtain ⟨r0, r1, g0, g1⟩ := two_facts R.out
  clear hb
  go_wp2_with fail
  obtain ⟨hB, s0, s1⟩ := put2 (.int .i64 0) (.int .i64 0) B.out R.out (by omega) _ rfl
  refine bodyPost_ret (v := .tuple #[.agg #[.int .i64 0, .int .i64 0], .int .i64 (spE lo hi)]) ?_ rfl ⟨by rw [HE.out], hB⟩
  simp [results, Try.f31, go_sem, s0, s1]

set_option maxRecDepth 100000 in
set_option maxHeartbeats 16000000 in
theorem rBest_ok (b1 o1 b2 o2 cL cH : Nat) (lo hi : List Int) (n : Nat) (w : World) (hE : chB lo hi = 0) (hn : (rL lo hi 201).length = n + 1) (hL : Ints w (some ⟨b1, o1, none⟩) 201 lo) (hH : Ints w (some ⟨b2, o2, none⟩) 201 hi) :
    Calls Try.prog 31 #[bdV (some ⟨b1, o1, none⟩) 201 cL (some ⟨b2, o2, none⟩) 201 cH] w (BePost lo hi w) := by
  have hX := spX_list hE hn
  have hbd := spX_bd hX.1
  have HX := Lib.hid (And.intro hX.1 (And.intro hbd (beR_list hE hn)))
  have HE := Lib.hid hE
  have HN := Lib.hid hn
  have HV := Lib.hid (fun (i : Nat) (h : i < 201) => ok_bd (chB_ok hE).2.2 h)
  have hle := rL_le lo hi 201
  have hn1 : (n : Int) + 1 ≤ 201 := by omega
  have hn2 : n + 1 ≤ 201 := by omega
  have H := Lib.hid (And.intro hL hH)
  have B := Lib.hid ((below_alloc w (.cells (bdC (some ⟨b1, o1, none⟩) 201 cL (some ⟨b2, o2, none⟩) 201 cH) 24)).alloc (by simp) (.cells #[.int .i64 0, .int .i64 0] 40))
  have R := Lib.hid (And.intro (block_new (w.alloc (.cells (bdC (some ⟨b1, o1, none⟩) 201 cL (some ⟨b2, o2, none⟩) 201 cH) 24)) (.cells #[.int .i64 0, .int .i64 0] 40) (n := w.heap.size + 1) (by simp)) (block_alloc (o' := .cells #[.int .i64 0, .int .i64 0] 40) (block_new w (.cells (bdC (some ⟨b1, o1, none⟩) 201 cL (some ⟨b2, o2, none⟩) 201 cH) 24) rfl)))
  clear hL hH hE hn hle hX hbd
  unfold bdV
  unfold bdC at *
  go_enter Try.func31, Try.ntmps31
  go_wp2_with fail
  refine (rSpread_call (some ⟨b1, o1, none⟩) (some ⟨b2, o2, none⟩) 201 201 cL cH lo hi _ (H.out.1.below B.out) (H.out.2.below B.out)).mono ?_; rintro e w1 ⟨rfl, hb⟩
  unfold exC
  rw [HX.out.1]
  replace R := Lib.hid (And.intro (block_alloc (o' := .cells #[.int .i64 (spX lo hi).low, .int .i64 (spX lo hi).high, .int .i64 (spX lo hi).slow, .int .i64 (spX lo hi).fast] 53) (keepO hb R.out.1)) (And.intro (block_alloc (o' := .cells #[.int .i64 (spX lo hi).low, .int .i64 (spX lo hi).high, .int .i64 (spX lo hi).slow, .int .i64 (spX lo hi).fast] 53) (keepO hb R.out.2)) (block_new w1 (.cells #[.int .i64 (spX lo hi).low, .int .i64 (spX lo hi).high, .int .i64 (spX lo hi).slow, .int .i64 (spX lo hi).fast] 53) rfl)))
  replace B := Lib.hid ((B.out.trans (hb.mono B.out.size)).alloc (Nat.le_trans B.out.size hb.size) (.cells #[.int .i64 (spX lo hi).low, .int .i64 (spX lo hi).high, .int .i64 (spX lo hi).slow, .int .i64 (spX lo hi).fast] 53))
  obtain ⟨k0, k1, -, -⟩ := two_facts R.out.2.1
  obtain ⟨m, hm⟩ : ∃ m, w1.heap.size = m := ⟨_, rfl⟩
  rw [hm] at R
  clear hb
  go_wp2_with fail
  clear hm
  generalize w1.alloc (.cells #[.int .i64 (spX lo hi).low, .int .i64 (spX lo hi).high, .int .i64 (spX lo hi).slow, .int .i64 (spX lo hi).fast] 53) = w2 at *
  refine (rates_call (some ⟨b1, o1, none⟩) (some ⟨b2, o2, none⟩) cL cH lo hi _ HE.out (H.out.1.below B.out) (H.out.2.below B.out)).mono ?_; rintro e w3 ⟨a, c, rfl, hI, hb⟩
  rw [HN.out] at hI ⊢
  obtain ⟨b3, o3, rfl, x0⟩ := ints_at hI (k := 0) (by omega)
  rw [lg_get, Nat.add_zero] at x0
  have q0 : (0 : Int) < (n : Int) + 1 := by omega
  have hBB := B.out.trans (hb.mono B.out.size)
  have K := Lib.hid (show BsK w (w.heap.size + 1) m b1 o1 b2 o2 cL cH lo hi b3 o3 (n + 1) (spX lo hi) w3 from ⟨hBB, keepO hb R.out.2.1, keepO hb R.out.1, keepO hb R.out.2.2, H.out.1.below hBB, H.out.2.below hBB, hI⟩)
  clear hb k0 k1 B R H hI hBB
  obtain ⟨hbd1, hbd2, hbd3, hbd4⟩ := HX.out.2.1
  have HR := Lib.hid HX.out.2.2
  have HX1 := Lib.hid HX.out.1
  clear HX
  generalize spX lo hi = x at *
  obtain ⟨l, h, s, f⟩ := x
  have hb0 : bR lo hi s f 0 = lg lo hi 0 := rfl
  go_wp2_with fail
  rw [← hb0]
  go_loopw [7, 8] (fun bv kv wr => ∃ k : Nat, k ≤ n + 1 ∧ kv = .int .i64 k ∧ bv = .int .i64 (bR lo hi s f k : Nat) ∧ BsK w (w.heap.size + 1) m b1 o1 b2 o2 cL cH lo hi b3 o3 (n + 1) ⟨l, h, s, f⟩ wr) (fun _ kv _ => n + 1 - (intOf kv).toNat)
  case atStart => exact ⟨0, Nat.zero_le _, rfl, rfl, K.out⟩
  case round =>
    clear K x0 hb0
    obtain ⟨k, hk, rfl, rfl, hK⟩ := hrel
    have K := Lib.hid hK
    clear hK
    have hbl := bR_lt (lo := lo) (hi := hi) (s := s) (f := f) k (by rw [HN.out]; exact hk) (by rw [HN.out]; omega)
    by_cases hlt : k < n + 1
    · have hk0 : (0 : Int) ≤ (k : Int) := by omega
      have hk1 : (k : Int) < (n : Int) + 1 := by omega
      have x0 := ints_cell K.out.I hlt
      rw [lg_get] at x0
      have hgl := (lg_on (lo := lo) (hi := hi) (k := k) (by rw [HN.out]; exact hlt)).1
      have hstep : bR lo hi s f (k + 1) = if farV s f ((lg lo hi k : Int) - 100) < farV s f ((bR lo hi s f k : Int) - 100) then lg lo hi k else bR lo hi s f k := rfl
      have HS := Lib.hid hstep
      clear hstep
      generalize lg lo hi k = J at *
      generalize bR lo hi s f k = V at *
      obtain ⟨⟨m0, m1, m2, m3⟩, -⟩ := four_facts K.out.M
      go_wp2_with fail
      replace K := Lib.hid (K.out.keep (Below.refl wr.heap.size wr).drew)
      by_cases hc : farV s f ((J : Int) - 100) < farV s f ((V : Int) - 100)
      · have hd : decide (farV s f ((J : Int) - 100) < farV s f ((V : Int) - 100)) = true := decide_eq_true hc
        have HC := Lib.hid (show bR lo hi s f (k + 1) = J from by rw [HS.out, if_pos hc])
        clear hc HS
        refine wp_region_held_drew (S := (fun w' => w'.cell? ⟨b3, o3 + k, none⟩ = some (.int .i64 (J : Int)) ∧ ((w'.cell? ⟨m, 0, none⟩ = some (.int .i64 l) ∧ w'.cell? ⟨m, 1, none⟩ = some (.int .i64 h)) ∧ (w'.cell? ⟨m, 2, none⟩ = some (.int .i64 s) ∧ w'.cell? ⟨m, 3, none⟩ = some (.int .i64 f))))) (by kernel_rfl) (by (try dsimp only); (exact ⟨x0, ⟨m0, m1⟩, ⟨m2, m3⟩⟩)) (fun hHeld => ?_)
        refine MyHeld.take 0 (v := ?_) .z (by kernel_rfl) (by kernel_rfl) (by kernel_rfl) (fun _ _ _ h => h) (by rfl) (by assumption) ?_ ?_
        rotate_left
        · intro w hSw; (try dsimp only at hSw); go_simp; (try with_reducible rfl)
        try simp only [Act.put, List.setIfInBounds_toArray, List.set_cons_zero, List.set_cons_succ]
        refine MyHeld.take 1 (v := ?_) (.s .z) (by kernel_rfl) (by kernel_rfl) (by kernel_rfl) (fun _ _ _ h => h) (by rfl) (by assumption) ?_ ?_
        rotate_left
        · intro w hSw; (try dsimp only at hSw); go_simp; (try with_reducible rfl)
        try simp only [Act.put, List.setIfInBounds_toArray, List.set_cons_zero, List.set_cons_succ]
        refine MyHeld.take 2 (v := ?_) (.s (.s .z)) (by kernel_rfl) (by kernel_rfl) (by kernel_rfl) (fun _ _ _ h => h) (by rfl) (by assumption) ?_ ?_
        rotate_left
        · intro w hSw; (try dsimp only at hSw); go_simp; (try with_reducible rfl)
        try simp only [Act.put, List.setIfInBounds_toArray, List.set_cons_zero, List.set_cons_succ]
        refine MyHeld.take 3 (v := ?_) (.s (.s (.s .z))) (by kernel_rfl) (by kernel_rfl) (by kernel_rfl) (fun _ _ _ h => h) (by rfl) (by assumption) ?_ ?_
        rotate_left
        · intro w hSw; (try dsimp only at hSw); go_simp; (try with_reducible rfl)
        try simp only [Act.put, List.setIfInBounds_toArray, List.set_cons_zero, List.set_cons_succ]
        refine MyHeld.take 4 (v := ?_) (.s (.s (.s (.s .z)))) (by kernel_rfl) (by kernel_rfl) (by kernel_rfl) (fun _ _ _ h => h) (by rfl) (by assumption) ?_ ?_
        rotate_left
        · intro w hSw; (try dsimp only at hSw); go_simp; (try with_reducible rfl)
        try simp only [Act.put, List.setIfInBounds_toArray, List.set_cons_zero, List.set_cons_succ]
        refine MyHeld.take 6 (v := ?_) (.s (.s (.s (.s (.s (.s .z)))))) (by kernel_rfl) (by kernel_rfl) (by kernel_rfl) (fun _ _ _ h => h) (by rfl) (by assumption) ?_ ?_
        rotate_left
        · intro w hSw; (try dsimp only at hSw); go_simp; (try with_reducible rfl)
        try simp only [Act.put, List.setIfInBounds_toArray, List.set_cons_zero, List.set_cons_succ]
        refine MyHeld.take 7 (v := ?_) (.s (.s (.s (.s (.s (.s (.s .z))))))) (by kernel_rfl) (by kernel_rfl) (by kernel_rfl) (fun _ _ _ h => h) (by rfl) (by assumption) ?_ ?_
        rotate_left
        · intro w hSw; (try dsimp only at hSw); go_simp; (try with_reducible rfl)
        try simp only [Act.put, List.setIfInBounds_toArray, List.set_cons_zero, List.set_cons_succ]
        refine wpAnyH_ready (rs := [5]) (by kernel_rfl) (by simp) ?_
        refine (MyHeld.next 5 (.s (.s (.s (.s (.s .z))))) (fun Kq hKq => ?_) AllReadyH.nil)
        go_simp
        (first | (have hchk := HQ.out; go_at_call 50; refine (dist_call l h s f V _ hbl (by omega) (by omega) (by omega) (by omega)).mono ?_; rintro e w5 ⟨rfl, hb⟩; replace K := Lib.hid (K.out.keep hb); replace x0 := keep1 hb x0; replace m0 := keep1 hb m0; replace m1 := keep1 hb m1; replace m2 := keep1 hb m2; replace m3 := keep1 hb m3; clear hb) | (go_at_call 50; refine (dist_call l h s f J _ hgl (by omega) (by omega) (by omega) (by omega)).mono ?_; rintro e w5 ⟨rfl, hb⟩; replace K := Lib.hid (K.out.keep hb); replace x0 := keep1 hb x0; replace m0 := keep1 hb m0; replace m1 := keep1 hb m1; replace m2 := keep1 hb m2; replace m3 := keep1 hb m3; have HQ := Lib.hid (show True from trivial); clear hb))
        go_wp2_with fail
        refine hKq.out _ _ (by (try dsimp only); (exact ⟨x0, ⟨m0, m1⟩, ⟨m2, m3⟩⟩)) (fun hHeld' => ?_)
        clear hKq Kq hHeld; have hHeld := hHeld'; clear hHeld'
        try simp only [Act.put, List.setIfInBounds_toArray, List.set_cons_zero, List.set_cons_succ]
        refine wpAnyH_ready (rs := [8]) (by kernel_rfl) (by simp) ?_
        refine (MyHeld.next 8 (.s (.s (.s (.s (.s (.s (.s (.s .z)))))))) (fun Kq hKq => ?_) AllReadyH.nil)
        go_simp
        (first | (have hchk := HQ.out; go_at_call 50; refine (dist_call l h s f V _ hbl (by omega) (by omega) (by omega) (by omega)).mono ?_; rintro e w5 ⟨rfl, hb⟩; replace K := Lib.hid (K.out.keep hb); replace x0 := keep1 hb x0; replace m0 := keep1 hb m0; replace m1 := keep1 hb m1; replace m2 := keep1 hb m2; replace m3 := keep1 hb m3; clear hb) | (go_at_call 50; refine (dist_call l h s f J _ hgl (by omega) (by omega) (by omega) (by omega)).mono ?_; rintro e w5 ⟨rfl, hb⟩; replace K := Lib.hid (K.out.keep hb); replace x0 := keep1 hb x0; replace m0 := keep1 hb m0; replace m1 := keep1 hb m1; replace m2 := keep1 hb m2; replace m3 := keep1 hb m3; have HQ := Lib.hid (show True from trivial); clear hb))
        go_wp2_with fail
        refine hKq.out _ _ (by (try dsimp only); (exact ⟨x0, ⟨m0, m1⟩, ⟨m2, m3⟩⟩)) (fun hHeld' => ?_)
        clear hKq Kq hHeld; have hHeld := hHeld'; clear hHeld'
        try simp only [Act.put, List.setIfInBounds_toArray, List.set_cons_zero, List.set_cons_succ]
        refine MyHeld.take 9 (v := ?_) (.s (.s (.s (.s (.s (.s (.s (.s (.s .z))))))))) (by kernel_rfl) (by kernel_rfl) (by kernel_rfl) (fun _ _ _ h => h) (by rfl) (by assumption) ?_ ?_
        rotate_left
        · intro w hSw; (try dsimp only at hSw); go_simp; (try with_reducible rfl)
        try simp only [Act.put, List.setIfInBounds_toArray, List.set_cons_zero, List.set_cons_succ]
        refine wpAnyH_done (by kernel_rfl) ?_ _
        all_goals
          clear HQ hchk
          go_wp2_with fail
          go_roundw
          case rel => exact ⟨k + 1, by omega, by go_num, by rw [HC.out], K.out⟩
          case measure => simp [intOf]; omega
      · have hd : decide (farV s f ((J : Int) - 100) < farV s f ((V : Int) - 100)) = false := decide_eq_false hc
        have HC := Lib.hid (show bR lo hi s f (k + 1) = V from by rw [HS.out, if_neg hc])
        clear hc HS
        refine wp_region_held_drew (S := (fun w' => w'.cell? ⟨b3, o3 + k, none⟩ = some (.int .i64 (J : Int)) ∧ ((w'.cell? ⟨m, 0, none⟩ = some (.int .i64 l) ∧ w'.cell? ⟨m, 1, none⟩ = some (.int .i64 h)) ∧ (w'.cell? ⟨m, 2, none⟩ = some (.int .i64 s) ∧ w'.cell? ⟨m, 3, none⟩ = some (.int .i64 f))))) (by kernel_rfl) (by (try dsimp only); (exact ⟨x0, ⟨m0, m1⟩, ⟨m2, m3⟩⟩)) (fun hHeld => ?_)
        refine MyHeld.take 0 (v := ?_) .z (by kernel_rfl) (by kernel_rfl) (by kernel_rfl) (fun _ _ _ h => h) (by rfl) (by assumption) ?_ ?_
        rotate_left
        · intro w hSw; (try dsimp only at hSw); go_simp; (try with_reducible rfl)
        try simp only [Act.put, List.setIfInBounds_toArray, List.set_cons_zero, List.set_cons_succ]
        refine MyHeld.take 1 (v := ?_) (.s .z) (by kernel_rfl) (by kernel_rfl) (by kernel_rfl) (fun _ _ _ h => h) (by rfl) (by assumption) ?_ ?_
        rotate_left
        · intro w hSw; (try dsimp only at hSw); go_simp; (try with_reducible rfl)
        try simp only [Act.put, List.setIfInBounds_toArray, List.set_cons_zero, List.set_cons_succ]
        refine MyHeld.take 2 (v := ?_) (.s (.s .z)) (by kernel_rfl) (by kernel_rfl) (by kernel_rfl) (fun _ _ _ h => h) (by rfl) (by assumption) ?_ ?_
        rotate_left
        · intro w hSw; (try dsimp only at hSw); go_simp; (try with_reducible rfl)
        try simp only [Act.put, List.setIfInBounds_toArray, List.set_cons_zero, List.set_cons_succ]
        refine MyHeld.take 3 (v := ?_) (.s (.s (.s .z))) (by kernel_rfl) (by kernel_rfl) (by kernel_rfl) (fun _ _ _ h => h) (by rfl) (by assumption) ?_ ?_
        rotate_left
        · intro w hSw; (try dsimp only at hSw); go_simp; (try with_reducible rfl)
        try simp only [Act.put, List.setIfInBounds_toArray, List.set_cons_zero, List.set_cons_succ]
        refine MyHeld.take 4 (v := ?_) (.s (.s (.s (.s .z)))) (by kernel_rfl) (by kernel_rfl) (by kernel_rfl) (fun _ _ _ h => h) (by rfl) (by assumption) ?_ ?_
        rotate_left
        · intro w hSw; (try dsimp only at hSw); go_simp; (try with_reducible rfl)
        try simp only [Act.put, List.setIfInBounds_toArray, List.set_cons_zero, List.set_cons_succ]
        refine MyHeld.take 6 (v := ?_) (.s (.s (.s (.s (.s (.s .z)))))) (by kernel_rfl) (by kernel_rfl) (by kernel_rfl) (fun _ _ _ h => h) (by rfl) (by assumption) ?_ ?_
        rotate_left
        · intro w hSw; (try dsimp only at hSw); go_simp; (try with_reducible rfl)
        try simp only [Act.put, List.setIfInBounds_toArray, List.set_cons_zero, List.set_cons_succ]
        refine MyHeld.take 7 (v := ?_) (.s (.s (.s (.s (.s (.s (.s .z))))))) (by kernel_rfl) (by kernel_rfl) (by kernel_rfl) (fun _ _ _ h => h) (by rfl) (by assumption) ?_ ?_
        rotate_left
        · intro w hSw; (try dsimp only at hSw); go_simp; (try with_reducible rfl)
        try simp only [Act.put, List.setIfInBounds_toArray, List.set_cons_zero, List.set_cons_succ]
        refine wpAnyH_ready (rs := [5]) (by kernel_rfl) (by simp) ?_
        refine (MyHeld.next 5 (.s (.s (.s (.s (.s .z))))) (fun Kq hKq => ?_) AllReadyH.nil)
        go_simp
        (first | (have hchk := HQ.out; go_at_call 50; refine (dist_call l h s f V _ hbl (by omega) (by omega) (by omega) (by omega)).mono ?_; rintro e w5 ⟨rfl, hb⟩; replace K := Lib.hid (K.out.keep hb); replace x0 := keep1 hb x0; replace m0 := keep1 hb m0; replace m1 := keep1 hb m1; replace m2 := keep1 hb m2; replace m3 := keep1 hb m3; clear hb) | (go_at_call 50; refine (dist_call l h s f J _ hgl (by omega) (by omega) (by omega) (by omega)).mono ?_; rintro e w5 ⟨rfl, hb⟩; replace K := Lib.hid (K.out.keep hb); replace x0 := keep1 hb x0; replace m0 := keep1 hb m0; replace m1 := keep1 hb m1; replace m2 := keep1 hb m2; replace m3 := keep1 hb m3; have HQ := Lib.hid (show True from trivial); clear hb))
        go_wp2_with fail
        refine hKq.out _ _ (by (try dsimp only); (exact ⟨x0, ⟨m0, m1⟩, ⟨m2, m3⟩⟩)) (fun hHeld' => ?_)
        clear hKq Kq hHeld; have hHeld := hHeld'; clear hHeld'
        try simp only [Act.put, List.setIfInBounds_toArray, List.set_cons_zero, List.set_cons_succ]
        refine wpAnyH_ready (rs := [8]) (by kernel_rfl) (by simp) ?_
        refine (MyHeld.next 8 (.s (.s (.s (.s (.s (.s (.s (.s .z)))))))) (fun Kq hKq => ?_) AllReadyH.nil)
        go_simp
        (first | (have hchk := HQ.out; go_at_call 50; refine (dist_call l h s f V _ hbl (by omega) (by omega) (by omega) (by omega)).mono ?_; rintro e w5 ⟨rfl, hb⟩; replace K := Lib.hid (K.out.keep hb); replace x0 := keep1 hb x0; replace m0 := keep1 hb m0; replace m1 := keep1 hb m1; replace m2 := keep1 hb m2; replace m3 := keep1 hb m3; clear hb) | (go_at_call 50; refine (dist_call l h s f J _ hgl (by omega) (by omega) (by omega) (by omega)).mono ?_; rintro e w5 ⟨rfl, hb⟩; replace K := Lib.hid (K.out.keep hb); replace x0 := keep1 hb x0; replace m0 := keep1 hb m0; replace m1 := keep1 hb m1; replace m2 := keep1 hb m2; replace m3 := keep1 hb m3; have HQ := Lib.hid (show True from trivial); clear hb))
        go_wp2_with fail
        refine hKq.out _ _ (by (try dsimp only); (exact ⟨x0, ⟨m0, m1⟩, ⟨m2, m3⟩⟩)) (fun hHeld' => ?_)
        clear hKq Kq hHeld; have hHeld := hHeld'; clear hHeld'
        try simp only [Act.put, List.setIfInBounds_toArray, List.set_cons_zero, List.set_cons_succ]
        refine MyHeld.take 9 (v := ?_) (.s (.s (.s (.s (.s (.s (.s (.s (.s .z))))))))) (by kernel_rfl) (by kernel_rfl) (by kernel_rfl) (fun _ _ _ h => h) (by rfl) (by assumption) ?_ ?_
        rotate_left
        · intro w hSw; (try dsimp only at hSw); go_simp; (try with_reducible rfl)
        try simp only [Act.put, List.setIfInBounds_toArray, List.set_cons_zero, List.set_cons_succ]
        refine wpAnyH_done (by kernel_rfl) ?_ _
        all_goals
          clear HQ hchk
          go_wp2_with fail
          go_roundw
          case rel => exact ⟨k + 1, by omega, by go_num, by rw [HC.out], K.out⟩
          case measure => simp [intOf]; omega
    · obtain rfl : k = n + 1 := by omega
      have hv1 : (0 : Int) ≤ (bR lo hi s f (n + 1) : Int) := by omega
      have hv2 : (bR lo hi s f (n + 1) : Int) < 201 := by omega
      have y0 := ints_cell K.out.L hbl
      have z0 := ints_cell K.out.H hbl
      obtain ⟨v1, v2, v3, v4⟩ := HV.out _ hbl
      have hP : beP lo hi = ((gi lo (bR lo hi s f (n + 1)) + gi hi (bR lo hi s f (n + 1))) / 2, (bR lo hi s f (n + 1) : Int) - 100) := by
        unfold beP
        rw [if_pos HX1.out, HR.out]
        have e : ((bR lo hi s f (n + 1) : Int) - 100 + 100).toNat = bR lo hi s f (n + 1) := by omega
        rw [e]
      have HP := Lib.hid hP
      obtain ⟨k0, k1, -, -⟩ := two_facts K.out.P
      obtain ⟨r0, r1, g0, g1⟩ := two_facts K.out.RR
      clear hP
      generalize bR lo hi s f (n + 1) = V at *
      generalize gi lo V = X at *
      generalize gi hi V = Y at *
      go_wp2_with fail
      go_quiet (fail)
      by_cases hc : X + Y < 0
      · have hd : decide (X + Y < 0) = true := decide_eq_true hc
        have HQ := Lib.hid (half_neg hc)
        go_wp2_with fail
        obtain ⟨hB, s0, s1⟩ := put2 (.int .i64 ((X + Y - 1).tdiv 2)) (.int .i64 ((V : Int) - 100)) (W := wr.drewN nq) (below_drewN K.out.B _) K.out.RR (by omega) _ rfl
        refine bodyPost_ret (v := .tuple #[.agg #[.int .i64 ((X + Y - 1).tdiv 2), .int .i64 ((V : Int) - 100)], .int .i64 0]) ?_ rfl ⟨by rw [HX1.out, HP.out]; simp only [HQ.out], hB⟩
        simp [results, Try.f31, go_sem, s0, s1]
      · have hd : decide (X + Y < 0) = false := decide_eq_false hc
        go_wp2_with fail
        obtain ⟨hB, s0, s1⟩ := put2 (.int .i64 ((X + Y) / 2)) (.int .i64 ((V : Int) - 100)) (W := wr.drewN nq) (below_drewN K.out.B _) K.out.RR (by omega) _ rfl
        refine bodyPost_ret (v := .tuple #[.agg #[.int .i64 ((X + Y) / 2), .int .i64 ((V : Int) - 100)], .int .i64 0]) ?_ rfl ⟨by rw [HX1.out, HP.out], hB⟩
        simp [results, Try.f31, go_sem, s0, s1]
theorem rBest_call (aL aH : Option Addr) (nL nH cL cH : Nat) (lo hi : List Int) (w : World) (hL : Ints w aL nL lo) (hH : Ints w aH nH hi) :
    Calls Try.prog 31 #[bdV aL nL cL aH nH cH] w (BePost lo hi w) := by
  by_cases h0 : spE lo hi = 0
  · have hE := sp_zero h0
    obtain ⟨e1, e2, -⟩ := chB_ok hE
    obtain rfl : nL = 201 := by rw [← hL.len]; exact e1
    obtain rfl : nH = 201 := by rw [← hH.len]; exact e2
    have hp := (rL_pos hE).2 h0
    cases hn : (rL lo hi 201).length with
    | zero => omega
    | succ n =>
      obtain ⟨b1, o1, rfl, -⟩ := ints_at hL (k := 0) (by decide)
      obtain ⟨b2, o2, rfl, -⟩ := ints_at hH (k := 0) (by decide)
      exact rBest_ok b1 o1 b2 o2 cL cH lo hi n w hE hn hL hH
  · exact rBest_no aL aH nL nH cL cH lo hi w hL hH h0
end Go.Proofs.Ytojjhkahigdkoaa
