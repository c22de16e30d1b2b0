/-
  Layer 38 (rules): the errors of the scene.
-/
import Derived.Test.YtfgalaalopkclaaRulesA
import Derived.Test.YtfgalaalopkclaaPlaneE
namespace Go.Proofs.Ytfgalaalopkclaa
open Go.RowKit PlaneMath PilotMath RulesMath MyHeap

/-- A scene as a value. -/
def scnV (a : Option Addr) (n c : Nat) (s : RulesMath.Set) (z v z' v' t fl k : Int) : Value := .agg #[.slice a n c, .int .i64 s.alim, .int .i64 s.d, .int .i64 s.pl, .int .i64 z, .int .i64 v, .int .i64 z', .int .i64 v', .int .i64 t, .int .i64 fl, .int .u8 k]
def scnC (a : Option Addr) (n c : Nat) (s : RulesMath.Set) (z v z' v' t fl k : Int) : Array Value := #[.slice a n c, .int .i64 s.alim, .int .i64 s.d, .int .i64 s.pl, .int .i64 z, .int .i64 v, .int .i64 z', .int .i64 v', .int .i64 t, .int .i64 fl, .int .u8 k]
theorem eleven {w : World} {b : Nat} {c0 c1 c2 c3 c4 c5 c6 c7 c8 c9 c10 : Value} {T : TypeId} (h : w.heap[b]? = some (.cells #[c0, c1, c2, c3, c4, c5, c6, c7, c8, c9, c10] T (0, 0))) :
    w.cell? ⟨b, 0, none⟩ = some c0 ∧ w.cell? ⟨b, 1, none⟩ = some c1 ∧ w.cell? ⟨b, 2, none⟩ = some c2 ∧ w.cell? ⟨b, 3, none⟩ = some c3 ∧ w.cell? ⟨b, 4, none⟩ = some c4 ∧ w.cell? ⟨b, 5, none⟩ = some c5 ∧ w.cell? ⟨b, 6, none⟩ = some c6 ∧ w.cell? ⟨b, 7, none⟩ = some c7 ∧ w.cell? ⟨b, 8, none⟩ = some c8 ∧ w.cell? ⟨b, 9, none⟩ = some c9 ∧ w.cell? ⟨b, 10, none⟩ = some c10 :=
  ⟨cell_of_block h rfl, cell_of_block h rfl, cell_of_block h rfl, cell_of_block h rfl, cell_of_block h rfl, cell_of_block h rfl, cell_of_block h rfl, cell_of_block h rfl, cell_of_block h rfl, cell_of_block h rfl, cell_of_block h rfl⟩
theorem below_alloc (w : World) (o : Obj) : Below w.heap.size w (w.alloc o) := (Below.refl _ _).alloc (Nat.le_refl _) _
/-- Only new blocks: an error came back. -/
def EPost (E : Int) (w : World) (e : Ending) (w' : World) : Prop := e = .returned (.int .i64 E) ∧ Below w.heap.size w w'
theorem ePost_of {E E' : Int} {w w' : World} (h : E = E') (hB : Below w.heap.size w w') : EPost E w (.returned (.int .i64 E')) w' := ⟨by rw [h], hB⟩
theorem plnE_set {s : RulesMath.Set} {z v z' v' : Int} (h : setE s ≠ 0) : plnE s z v z' v' = setE s := if_pos h
theorem plnE_own {s : RulesMath.Set} {z v z' v' : Int} (h : setE s = 0) (h2 : stE z v ≠ 0) : plnE s z v z' v' = stE z v := by unfold plnE; rw [if_neg (by simpa using h), if_pos h2]
theorem plnE_oth {s : RulesMath.Set} {z v z' v' : Int} (h : setE s = 0) (h2 : stE z v = 0) : plnE s z v z' v' = stE z' v' := by unfold plnE; rw [if_neg (by simpa using h), if_neg (by simpa using h2)]
theorem plnE_zero {s : RulesMath.Set} {z v z' v' : Int} (h : plnE s z v z' v' = 0) : setE s = 0 ∧ stE z v = 0 ∧ stE z' v' = 0 := by
  unfold plnE at h
  by_cases h1 : setE s ≠ 0
  · rw [if_pos h1] at h; exact absurd h h1
  · rw [if_neg h1] at h
    by_cases h2 : stE z v ≠ 0
    · rw [if_pos h2] at h; exact absurd h h2
    · rw [if_neg h2] at h; exact ⟨by omega, by omega, h⟩

set_option maxRecDepth 100000 in
set_option maxHeartbeats 4000000 in
theorem scheck_call (a : Option Addr) (n c : Nat) (s : RulesMath.Set) (z v z' v' t fl k : Int) (w : World) (h : Ints w a n s.rs) :
    Calls Try.prog 34 #[scnV a n c s z v z' v' t fl k] w (EPost (plnE s z v z' v') w) := by
  have HL := Lib.hid h
  clear h
  unfold scnV
  go_enter Try.func34, Try.ntmps34
  go_wp2_with fail
  refine (pCheckS a n c s _ (HL.out.below (below_alloc _ _))).mono ?_; rintro e w1 ⟨rfl, hb1⟩
  have k0 := keepO hb1 (block_new w (.cells (scnC a n c s z v z' v' t fl k) 76) rfl)
  have hB : Below w.heap.size w w1 := (below_alloc _ _).trans (hb1.mono (by simp))
  have H1 := Lib.hid (And.intro k0 hB)
  clear hb1 hB
  obtain ⟨_, _, _, _, y4, y5, y6, y7, _, _, _⟩ := eleven k0
  clear k0
  by_cases h1 : setE s = 0
  · have HS := Lib.hid h1
    rw [h1]
    clear h1
    go_wp2_with fail
    refine (Check_call _ _ _).mono ?_; rintro e w2 ⟨rfl, hb2⟩
    have k0 := keepO hb2 H1.out.1
    have H2 := Lib.hid (And.intro k0 (H1.out.2.trans (hb2.mono H1.out.2.size)))
    clear hb2 y4 y5 y6 y7
    obtain ⟨_, _, _, _, y4, y5, y6, y7, _, _, _⟩ := eleven k0
    clear k0
    by_cases h2 : stE z v = 0
    · have HO := Lib.hid h2
      rw [h2]
      clear h2
      go_wp2_with fail
      refine (Check_call _ _ _).mono ?_; rintro e w3 ⟨rfl, hb3⟩
      have HB := Lib.hid (H2.out.2.trans (hb3.mono H2.out.2.size))
      clear hb3 y4 y5 y6 y7
      go_wp2
      go_ret
      exact ePost_of (plnE_oth HS.out HO.out) HB.out
    · have hne : (stE z v != 0) = true := by simp [h2]
      have HO := Lib.hid h2
      clear h2 y4 y5 y6 y7
      go_wp2
      go_ret
      exact ePost_of (plnE_own HS.out HO.out) H2.out.2
  · have hne : (setE s != 0) = true := by simp [h1]
    have HS := Lib.hid h1
    clear h1 y4 y5 y6 y7
    go_wp2
    go_ret
    exact ePost_of (plnE_set HS.out) H1.out.2

set_option maxRecDepth 100000 in
set_option maxHeartbeats 4000000 in
theorem rplanes_call (a : Option Addr) (n c : Nat) (s : RulesMath.Set) (z v z' v' : Int) (w : World) (h : Ints w a n s.rs) :
    Calls Try.prog 36 #[setV a n c s, .agg #[.int .i64 z, .int .i64 v], .agg #[.int .i64 z', .int .i64 v']] w (EPost (plnE s z v z' v') w) := by
  have HL := Lib.hid h
  clear h
  unfold setV
  go_enter Try.func36, Try.ntmps36
  go_wp2_with fail
  refine (rCheckS a n c s _ (HL.out.below (((below_alloc _ _).alloc (by simp) _).alloc (by simp; omega) _))).mono ?_; rintro e w1 ⟨rfl, hb1⟩
  have k1 := keepO hb1 (block_alloc (block_new (w.alloc (.cells (setC a n c s) 34)) (.cells #[.int .i64 z, .int .i64 v] 26) (n := w.heap.size + 1) (by simp)))
  have k2 := keepO hb1 (block_new ((w.alloc (.cells (setC a n c s) 34)).alloc (.cells #[.int .i64 z, .int .i64 v] 26)) (.cells #[.int .i64 z', .int .i64 v'] 26) (n := w.heap.size + 1 + 1) (by simp))
  have hB : Below w.heap.size w w1 := (((below_alloc _ _).alloc (by simp) _).alloc (by simp; omega) _).trans (hb1.mono (by simp; omega))
  have H1 := Lib.hid (And.intro k1 (And.intro k2 hB))
  clear hb1 hB
  obtain ⟨y0, y1, _, _⟩ := two_old k1
  clear k1 k2
  by_cases h1 : setE s = 0
  · have HS := Lib.hid h1
    rw [h1]
    clear h1
    go_wp2_with fail
    refine (refCheck_call _ _ _).mono ?_; rintro e w2 ⟨rfl, hb2⟩
    have k2 := keepO hb2 H1.out.2.1
    have H2 := Lib.hid (H1.out.2.2.trans (hb2.mono H1.out.2.2.size))
    clear hb2 y0 y1
    obtain ⟨y0, y1, _, _⟩ := two_old k2
    clear k2
    by_cases h2 : stE z v = 0
    · have HO := Lib.hid h2
      rw [h2]
      clear h2
      go_wp2_with fail
      refine (refCheck_call _ _ _).mono ?_; rintro e w3 ⟨rfl, hb3⟩
      have HB := Lib.hid (H2.out.trans (hb3.mono H2.out.size))
      clear hb3 y0 y1
      go_wp2
      go_ret
      exact ePost_of (plnE_oth HS.out HO.out) HB.out
    · have hne : (stE z v != 0) = true := by simp [h2]
      have HO := Lib.hid h2
      clear h2 y0 y1
      go_wp2
      go_ret
      exact ePost_of (plnE_own HS.out HO.out) H2.out
  · have hne : (setE s != 0) = true := by simp [h1]
    have HS := Lib.hid h1
    clear h1 y0 y1
    go_wp2
    go_ret
    exact ePost_of (plnE_set HS.out) H1.out.2.2

theorem whlE_pln {s : RulesMath.Set} {z v z' v' t k : Int} (h : plnE s z v z' v' ≠ 0) : whlE s z v z' v' t k = plnE s z v z' v' := if_pos h
theorem whlE_t {s : RulesMath.Set} {z v z' v' t k : Int} (h : plnE s z v z' v' = 0) (ht : t < 0 ∨ 120 < t) : whlE s z v z' v' t k = 1 := by unfold whlE; rw [if_neg (by simpa using h), if_pos ht]
theorem whlE_k {s : RulesMath.Set} {z v z' v' t k : Int} (h : plnE s z v z' v' = 0) (ht : ¬ (t < 0 ∨ 120 < t)) (hk : 2 < k) : whlE s z v z' v' t k = 6 := by unfold whlE; rw [if_neg (by simpa using h), if_neg ht, if_pos hk]
theorem whlE_ok {s : RulesMath.Set} {z v z' v' t k : Int} (h : plnE s z v z' v' = 0) (ht : ¬ (t < 0 ∨ 120 < t)) (hk : ¬ 2 < k) : whlE s z v z' v' t k = 0 := by unfold whlE; rw [if_neg (by simpa using h), if_neg ht, if_neg hk]
theorem whlE_zero {s : RulesMath.Set} {z v z' v' t k : Int} (h : whlE s z v z' v' t k = 0) : plnE s z v z' v' = 0 ∧ 0 ≤ t ∧ t ≤ 120 ∧ k ≤ 2 := by
  unfold whlE at h
  by_cases h1 : plnE s z v z' v' ≠ 0
  · rw [if_pos h1] at h; exact absurd h h1
  · rw [if_neg h1] at h
    by_cases h2 : t < 0 ∨ 120 < t
    · rw [if_pos h2] at h; exact absurd h (by decide)
    · rw [if_neg h2] at h
      by_cases h3 : 2 < k
      · rw [if_pos h3] at h; exact absurd h (by decide)
      · exact ⟨by omega, by omega, by omega, by omega⟩

set_option maxRecDepth 100000 in
set_option maxHeartbeats 4000000 in
theorem whole_call (a : Option Addr) (n c : Nat) (s : RulesMath.Set) (z v z' v' t fl k : Int) (w : World) (h : Ints w a n s.rs) :
    Calls Try.prog 45 #[scnV a n c s z v z' v' t fl k] w (EPost (whlE s z v z' v' t k) w) := by
  have HL := Lib.hid h
  clear h
  unfold scnV
  go_enter Try.func45, Try.ntmps45
  go_wp2_with fail
  refine (scheck_call a n c s z v z' v' t fl k _ (HL.out.below (below_alloc _ _))).mono ?_; rintro e w1 ⟨rfl, hb1⟩
  have k0 := keepO hb1 (block_new w (.cells (scnC a n c s z v z' v' t fl k) 76) rfl)
  have HB := Lib.hid (show Below w.heap.size w w1 from (below_alloc _ _).trans (hb1.mono (by simp)))
  clear hb1
  obtain ⟨_, _, _, _, _, _, _, _, y8, _, y10⟩ := eleven k0
  clear k0
  by_cases h1 : plnE s z v z' v' = 0
  · have HP := Lib.hid h1
    rw [h1]
    clear h1
    by_cases h2 : t < 0
    · have d2 : decide (t < 0) = true := decide_eq_true h2
      have HE := Lib.hid (whlE_t (k := k) HP.out (Or.inl h2))
      clear h2
      go_wp2
      go_ret
      exact ePost_of HE.out HB.out
    · have d2 : decide (t < 0) = false := decide_eq_false h2
      by_cases h3 : 120 < t
      · have d3 : decide (120 < t) = true := decide_eq_true h3
        have HE := Lib.hid (whlE_t (k := k) HP.out (Or.inr h3))
        clear h2 h3
        go_wp2
        go_ret
        exact ePost_of HE.out HB.out
      · have d3 : decide (120 < t) = false := decide_eq_false h3
        by_cases h4 : 2 < k
        · have d4 : decide (2 < k) = true := decide_eq_true h4
          have HE := Lib.hid (whlE_k (t := t) HP.out (by omega) h4)
          clear h2 h3 h4
          go_wp2
          go_ret
          exact ePost_of HE.out HB.out
        · have d4 : decide (2 < k) = false := decide_eq_false h4
          have HE := Lib.hid (whlE_ok (t := t) HP.out (by omega) h4)
          clear h2 h3 h4
          go_wp2
          go_ret
          exact ePost_of HE.out HB.out
  · have hne : (plnE s z v z' v' != 0) = true := by simp [h1]
    have HP := Lib.hid h1
    clear h1
    go_wp2
    go_ret
    exact ePost_of (whlE_pln HP.out) HB.out

set_option maxRecDepth 100000 in
set_option maxHeartbeats 4000000 in
theorem rwrong_call (a : Option Addr) (n c : Nat) (s : RulesMath.Set) (z v z' v' t k : Int) (w : World) (h : Ints w a n s.rs) :
    Calls Try.prog 39 #[setV a n c s, .agg #[.int .i64 z, .int .i64 v], .agg #[.int .i64 z', .int .i64 v'], .int .i64 t, .int .u8 k] w (EPost (whlE s z v z' v' t k) w) := by
  have HL := Lib.hid h
  clear h
  unfold setV
  go_enter Try.func39, Try.ntmps39
  go_wp2_with fail
  refine (rplanes_call a n c s z v z' v' _ (HL.out.below (((below_alloc _ _).alloc (by simp) _).alloc (by simp; omega) _))).mono ?_; rintro e w1 ⟨rfl, hb1⟩
  have HB := Lib.hid (show Below w.heap.size w w1 from (((below_alloc _ _).alloc (by simp) _).alloc (by simp; omega) _).trans (hb1.mono (by simp; omega)))
  clear hb1
  by_cases h1 : plnE s z v z' v' = 0
  · have HP := Lib.hid h1
    rw [h1]
    clear h1
    by_cases h2 : t < 0
    · have d2 : decide (t < 0) = true := decide_eq_true h2
      have HE := Lib.hid (whlE_t (k := k) HP.out (Or.inl h2))
      clear h2
      go_wp2
      go_ret
      exact ePost_of HE.out HB.out
    · have d2 : decide (t < 0) = false := decide_eq_false h2
      by_cases h3 : 120 < t
      · have d3 : decide (120 < t) = true := decide_eq_true h3
        have HE := Lib.hid (whlE_t (k := k) HP.out (Or.inr h3))
        clear h2 h3
        go_wp2
        go_ret
        exact ePost_of HE.out HB.out
      · have d3 : decide (120 < t) = false := decide_eq_false h3
        by_cases h4 : 2 < k
        · have d4 : decide (2 < k) = true := decide_eq_true h4
          have HE := Lib.hid (whlE_k (t := t) HP.out (by omega) h4)
          clear h2 h3 h4
          go_wp2
          go_ret
          exact ePost_of HE.out HB.out
        · have d4 : decide (2 < k) = false := decide_eq_false h4
          have HE := Lib.hid (whlE_ok (t := t) HP.out (by omega) h4)
          clear h2 h3 h4
          go_wp2
          go_ret
          exact ePost_of HE.out HB.out
  · have hne : (plnE s z v z' v' != 0) = true := by simp [h1]
    have HP := Lib.hid h1
    clear h1
    go_wp2
    go_ret
    exact ePost_of (whlE_pln HP.out) HB.out
end Go.Proofs.Ytfgalaalopkclaa
