/-
  Layer 18 (altitude): the reference's Empty and Spread.
-/
import Derived.Test.YtojjhkahigdkoaaAltSp
namespace Go.Proofs.Ytojjhkahigdkoaa
open Go.RowKit AltMath MyHeap MyCopy MyOwn

theorem ch_le {lo hi : List Int} : chB lo hi ≠ 9 := by
  unfold chB
  split
  · split <;> decide
  · decide
set_option maxRecDepth 100000 in
set_option maxHeartbeats 4000000 in
theorem rEmpty_call (aL aH : Option Addr) (nL nH cL cH : Nat) (lo hi : List Int) (w : World) (hL : Ints w aL nL lo) (hH : Ints w aH nH hi) :
    Calls Try.prog 28 #[bdV aL nL cL aH nH cH] w fun e w' => e = .returned (.tuple #[.bool (emB lo hi), .int .i64 (emE lo hi)]) ∧ Below w.heap.size w w' := by
  have B := Lib.hid (below_alloc w (.cells (bdC aL nL cL aH nH cH) 24))
  by_cases hE : chB lo hi = 0
  · obtain ⟨l1, l2, -⟩ := chB_ok hE
    obtain rfl : nL = 201 := by rw [← hL.len]; exact l1
    obtain rfl : nH = 201 := by rw [← hH.len]; exact l2
    have H := Lib.hid (And.intro hL hH)
    have HE := Lib.hid hE
    have hA : emB lo hi = (((rL lo hi 201).length : Int) == 0) ∧ emE lo hi = 0 := by
      have hp := rL_pos hE
      have hs : spE lo hi = 0 ∨ spE lo hi = 9 := by
        unfold spE
        rw [if_neg (fun e => e hE)]
        split
        · exact Or.inr rfl
        · exact Or.inl rfl
      unfold emB emE
      rcases hs with h0 | h0
      · rw [h0]
        have := hp.2 h0
        refine ⟨?_, rfl⟩
        have h9 : (((rL lo hi 201).length : Int) == 0) = false := by
          rw [beq_eq_false_iff_ne]; omega
        rw [h9]; rfl
      · rw [h0]
        have : ¬ 0 < (rL lo hi 201).length := fun e => by have := hp.1 e; omega
        refine ⟨?_, rfl⟩
        have h9 : (((rL lo hi 201).length : Int) == 0) = true := by
          rw [beq_iff_eq]; omega
        rw [h9]; rfl
    have HA := Lib.hid hA
    clear hA hE hL hH l1 l2
    unfold bdV
    unfold bdC at B
    go_enter Try.func28, Try.ntmps28
    go_wp2_with fail
    refine (rCheck_call aL aH 201 201 cL cH lo hi _ (H.out.1.below B.out) (H.out.2.below B.out)).mono ?_; rintro e w1 ⟨rfl, hb⟩
    rw [HE.out]
    have h0 := keepO hb (block_new w (.cells #[.slice aL 201 cL, .slice aH 201 cH] 24) rfl)
    obtain ⟨k0, k1, -, -⟩ := two_facts h0
    replace B := Lib.hid (B.out.trans (hb.mono B.out.size))
    clear hb h0
    go_wp2_with fail
    refine (rates_call aL aH cL cH lo hi _ HE.out (H.out.1.below B.out) (H.out.2.below B.out)).mono ?_; rintro e w2 ⟨a, c, rfl, -, hb⟩
    replace B := Lib.hid (B.out.trans (hb.mono B.out.size))
    clear hb k0 k1
    go_wp2_with fail
    go_ret2
    exact ⟨by rw [HA.out.1, HA.out.2]; rfl, B.out⟩
  · have d1 : (chB lo hi != 0) = true := bne_iff_ne.2 hE
    have HE := Lib.hid (show emB lo hi = false ∧ emE lo hi = chB lo hi from by
      have e : spE lo hi = chB lo hi := if_pos hE
      unfold emB emE
      rw [e, if_neg ch_le]
      exact ⟨by simpa using ch_le, rfl⟩)
    have H := Lib.hid (And.intro hL hH)
    clear hE hL hH
    unfold bdV
    unfold bdC at B
    go_enter Try.func28, Try.ntmps28
    go_wp2_with fail
    refine (rCheck_call aL aH nL nH cL cH lo hi _ (H.out.1.below B.out) (H.out.2.below B.out)).mono ?_; rintro e w1 ⟨rfl, hb⟩
    replace B := Lib.hid (B.out.trans (hb.mono B.out.size))
    clear hb
    go_wp2_with fail
    go_ret2
    exact ⟨by rw [HE.out.1, HE.out.2]; rfl, B.out⟩

theorem put4 {w0 W : World} {R : Nat} {x y z u : Value} (a b c d : Value) (hB : Below w0.heap.size w0 W) (hR : W.heap[R]? = some (.cells #[x, y, z, u] 53 (0, 0))) (hw : w0.heap.size ≤ R) :
    ∀ W', W' = ((((W.setCell ⟨R, 0, none⟩ a).setCell ⟨R, 1, none⟩ b).setCell ⟨R, 2, none⟩ c).setCell ⟨R, 3, none⟩ d) → Below w0.heap.size w0 W' ∧ W'.cell? ⟨R, 0, none⟩ = some a ∧ W'.cell? ⟨R, 1, none⟩ = some b ∧ W'.cell? ⟨R, 2, none⟩ = some c ∧ W'.cell? ⟨R, 3, none⟩ = some d := by
  rintro W' rfl
  have hx := block_setCell (i := 3) (v := d) (block_setCell (i := 2) (v := c) (block_setCell (i := 1) (v := b) (block_setCell (i := 0) (v := a) hR)))
  have hO : Only R W ((((W.setCell ⟨R, 0, none⟩ a).setCell ⟨R, 1, none⟩ b).setCell ⟨R, 2, none⟩ c).setCell ⟨R, 3, none⟩ d) := ((((Only.refl _ _).setCell 0 _).setCell 1 _).setCell 2 _).setCell 3 _
  obtain ⟨⟨s0, s1, s2, s3⟩, -⟩ := four_facts (T := 53) (x := a) (y := b) (z := c) (u := d) (by simpa using hx)
  exact ⟨hB.trans (hO.below hw hB.size), s0, s1, s2, s3⟩

set_option maxRecDepth 100000 in
set_option maxHeartbeats 4000000 in
theorem rSpread_ch (aL aH : Option Addr) (nL nH cL cH : Nat) (lo hi : List Int) (w : World) (hE : chB lo hi ≠ 0) (hL : Ints w aL nL lo) (hH : Ints w aH nH hi) :
    Calls Try.prog 29 #[bdV aL nL cL aH nH cH] w (SpPost lo hi w) := by
  have d1 : (chB lo hi != 0) = true := bne_iff_ne.2 hE
  have HE := Lib.hid (And.intro hE (sp_ch hE))
  have H := Lib.hid (And.intro hL hH)
  have B := Lib.hid ((below_alloc w (.cells (bdC aL nL cL aH nH cH) 24)).alloc (by simp) (.cells #[.int .i64 0, .int .i64 0, .int .i64 0, .int .i64 0] 53))
  have R := Lib.hid (block_new (w.alloc (.cells (bdC aL nL cL aH nH cH) 24)) (.cells #[.int .i64 0, .int .i64 0, .int .i64 0, .int .i64 0] 53) (n := w.heap.size + 1) (by simp))
  clear hL hH hE
  unfold bdV
  unfold bdC at *
  go_enter Try.func29, Try.ntmps29
  go_wp2_with fail
  refine (rCheck_call aL aH nL nH cL cH lo hi _ (H.out.1.below B.out) (H.out.2.below B.out)).mono ?_; rintro e w1 ⟨rfl, hb⟩
  obtain ⟨⟨r0, r1, r2, r3⟩, g0, g1, g2, g3⟩ := four_facts (keepO hb R.out)
  replace B := Lib.hid (B.out.trans (hb.mono B.out.size))
  replace R := Lib.hid (keepO hb R.out)
  clear hb
  go_wp2_with fail
  obtain ⟨hB, s0, s1, s2, s3⟩ := put4 (.int .i64 0) (.int .i64 0) (.int .i64 0) (.int .i64 0) B.out R.out (by omega) _ rfl
  refine bodyPost_ret (v := .tuple #[.agg #[.int .i64 0, .int .i64 0, .int .i64 0, .int .i64 0], .int .i64 (chB lo hi)]) ?_ rfl ⟨by rw [HE.out.2.1, HE.out.2.2]; rfl, hB⟩
  simp [results, Try.f29, go_sem, s0, s1, s2, s3]

set_option maxRecDepth 100000 in
set_option maxHeartbeats 4000000 in
theorem rSpread_none (aL aH : Option Addr) (cL cH : Nat) (lo hi : List Int) (w : World) (hE : chB lo hi = 0) (hn : (rL lo hi 201).length = 0) (hL : Ints w aL 201 lo) (hH : Ints w aH 201 hi) :
    Calls Try.prog 29 #[bdV aL 201 cL aH 201 cH] w (SpPost lo hi w) := by
  have hs : spE lo hi = 9 ∧ spX lo hi = ⟨0, 0, 0, 0⟩ := by
    apply sp_none hE
    cases hz : spZ lo hi 201 with
    | none => rfl
    | some q =>
      have : spE lo hi = 0 := by unfold spE; rw [if_neg (fun e => e hE), hz]; rfl
      have := (rL_pos hE).2 this
      omega
  have HE := Lib.hid (And.intro hE hs)
  have HN := Lib.hid hn
  have H := Lib.hid (And.intro hL hH)
  have B := Lib.hid ((below_alloc w (.cells (bdC aL 201 cL aH 201 cH) 24)).alloc (by simp) (.cells #[.int .i64 0, .int .i64 0, .int .i64 0, .int .i64 0] 53))
  have R := Lib.hid (And.intro (block_new (w.alloc (.cells (bdC aL 201 cL aH 201 cH) 24)) (.cells #[.int .i64 0, .int .i64 0, .int .i64 0, .int .i64 0] 53) (n := w.heap.size + 1) (by simp)) (block_alloc (o' := .cells #[.int .i64 0, .int .i64 0, .int .i64 0, .int .i64 0] 53) (block_new w (.cells (bdC aL 201 cL aH 201 cH) 24) rfl)))
  clear hL hH hE hn hs
  unfold bdV
  unfold bdC at *
  go_enter Try.func29, Try.ntmps29
  go_wp2_with fail
  refine (rCheck_call aL aH 201 201 cL cH lo hi _ (H.out.1.below B.out) (H.out.2.below B.out)).mono ?_; rintro e w1 ⟨rfl, hb⟩
  rw [HE.out.1]
  replace B := Lib.hid (B.out.trans (hb.mono B.out.size))
  replace R := Lib.hid (And.intro (keepO hb R.out.1) (keepO hb R.out.2))
  obtain ⟨k0, k1, -, -⟩ := two_facts R.out.2
  clear hb
  go_wp2_with fail
  refine (rates_call aL aH cL cH lo hi _ HE.out.1 (H.out.1.below B.out) (H.out.2.below B.out)).mono ?_; rintro e w2 ⟨a, c, rfl, -, hb⟩
  rw [HN.out]
  replace B := Lib.hid (B.out.trans (hb.mono B.out.size))
  replace R := Lib.hid (And.intro (keepO hb R.out.1) (keepO hb R.out.2))
  obtain ⟨⟨r0, r1, r2, r3⟩, g0, g1, g2, g3⟩ := four_facts R.out.1
  clear hb k0 k1
  go_wp2_with fail
  obtain ⟨hB, s0, s1, s2, s3⟩ := put4 (.int .i64 0) (.int .i64 0) (.int .i64 0) (.int .i64 0) B.out R.out.1 (by omega) _ rfl
  refine bodyPost_ret (v := .tuple #[.agg #[.int .i64 0, .int .i64 0, .int .i64 0, .int .i64 0], .int .i64 9]) ?_ rfl ⟨by rw [HE.out.2.1, HE.out.2.2]; rfl, hB⟩
  simp [results, Try.f29, go_sem, s0, s1, s2, s3]
end Go.Proofs.Ytojjhkahigdkoaa
