/-
  Layer 38 (rules): Separation of the program and of the reference.
-/
import Derived.Test.YtfgalaalopkclaaRulesD
namespace Go.Proofs.Ytfgalaalopkclaa
open Go.RowKit PlaneMath PilotMath RulesMath MyHeap

/-- What Separation leaves. -/
def SrPost (s : RulesMath.Set) (z v z' v' : Int) (x : Adv) (t : Int) (w : World) (e : Ending) (w' : World) : Prop :=
  e = .returned (.tuple #[.int .i64 (sepR s z v z' v' x t), .int .i64 (sepE s z v z' v' x t)]) ∧ Below w.heap.size w w'
theorem srPost_err {s : RulesMath.Set} {z v z' v' : Int} {x : Adv} {t E : Int} {w w' : World} (h : sepE s z v z' v' x t = E) (h0 : E ≠ 0) (hB : Below w.heap.size w w') : SrPost s z v z' v' x t w (.returned (.tuple #[.int .i64 0, .int .i64 E])) w' := by
  refine ⟨?_, hB⟩
  unfold sepR
  rw [if_neg (by rw [h]; exact h0), h]
theorem srPost_ok {s : RulesMath.Set} {z v z' v' : Int} {x : Adv} {t : Int} {w w' : World} (h : sepE s z v z' v' x t = 0) (hB : Below w.heap.size w w') : SrPost s z v z' v' x t w (.returned (.tuple #[.int .i64 (sepV s z v z' v' x t), .int .i64 0])) w' := by
  refine ⟨?_, hB⟩
  unfold sepR
  rw [if_pos h, h]
section
variable {s : RulesMath.Set} {z v z' v' : Int} {x : Adv} {t : Int}
theorem sepE_pln (h : plnE s z v z' v' ≠ 0) : sepE s z v z' v' x t = plnE s z v z' v' := if_pos h
theorem sepE_bnd (h : plnE s z v z' v' = 0) (h2 : bndE x ≠ 0) : sepE s z v z' v' x t = bndE x := by unfold sepE; rw [if_neg (by simpa using h), if_pos h2]
theorem sepE_none (h : plnE s z v z' v' = 0) (h2 : bndE x = 0) (h3 : x.s = 0) : sepE s z v z' v' x t = 6 := by unfold sepE; rw [if_neg (by simpa using h), if_neg (by simpa using h2), if_pos h3]
theorem sepE_t (h : plnE s z v z' v' = 0) (h2 : bndE x = 0) (h3 : x.s ≠ 0) (h4 : t < 0 ∨ 120 < t) : sepE s z v z' v' x t = 1 := by unfold sepE; rw [if_neg (by simpa using h), if_neg (by simpa using h2), if_neg h3, if_pos h4]
theorem sepE_ok (h : plnE s z v z' v' = 0) (h2 : bndE x = 0) (h3 : x.s ≠ 0) (h4 : ¬ (t < 0 ∨ 120 < t)) : sepE s z v z' v' x t = 0 := by unfold sepE; rw [if_neg (by simpa using h), if_neg (by simpa using h2), if_neg h3, if_neg h4]
end
theorem set_pl {s : RulesMath.Set} (h : setE s = 0) : 1 ≤ s.rs.length ∧ s.rs.length ≤ 8 ∧ 1 ≤ s.alim ∧ s.alim ≤ 5000 ∧ 0 ≤ s.d ∧ s.d ≤ 16 ∧ 1 ≤ s.pl ∧ s.pl ≤ 32 := numB_iff.1 (setE_zero h).1

set_option maxRecDepth 100000 in
set_option maxHeartbeats 8000000 in
theorem pSeparation_call (a : Option Addr) (n c : Nat) (s : RulesMath.Set) (z v z' v' t : Int) (x : Adv) (w : World) (h : Ints w a n s.rs) (hx : 0 ≤ x.s) :
    Calls Try.prog 13 #[setV a n c s, .agg #[.int .i64 z, .int .i64 v], .agg #[.int .i64 z', .int .i64 v'], .agg #[.int .u8 x.s, .int .i64 x.r, .bool x.k], .int .i64 t] w (SrPost s z v z' v' x t w) := by
  have HL := Lib.hid h
  have HX := Lib.hid hx
  clear h hx
  unfold setV
  go_enter Try.func13, Try.ntmps13
  go_wp2_with fail
  have hBs : Below w.heap.size w (((((w.alloc (.cells (setC a n c s) 24)).alloc (.cells #[.int .i64 z, .int .i64 v] 26)).alloc (.cells #[.int .i64 z', .int .i64 v'] 26)).alloc (.cells #[.int .u8 x.s, .int .i64 x.r, .bool x.k] 30)).alloc (.cells (scnC a n c s z v z' v' t 0 0) 76)) :=
    ((((below_alloc _ _).alloc (by simp) _).alloc (by simp; omega) _).alloc (by simp; omega) _).alloc (by simp; omega) _
  have k3 : (((((w.alloc (.cells (setC a n c s) 24)).alloc (.cells #[.int .i64 z, .int .i64 v] 26)).alloc (.cells #[.int .i64 z', .int .i64 v'] 26)).alloc (.cells #[.int .u8 x.s, .int .i64 x.r, .bool x.k] 30)).alloc (.cells (scnC a n c s z v z' v' t 0 0) 76)).heap[w.heap.size + 3]? = some (.cells #[.int .u8 x.s, .int .i64 x.r, .bool x.k] 30 (0, 0)) := block_alloc (block_new _ _ (by simp))
  have k4 : (((((w.alloc (.cells (setC a n c s) 24)).alloc (.cells #[.int .i64 z, .int .i64 v] 26)).alloc (.cells #[.int .i64 z', .int .i64 v'] 26)).alloc (.cells #[.int .u8 x.s, .int .i64 x.r, .bool x.k] 30)).alloc (.cells (scnC a n c s z v z' v' t 0 0) 76)).heap[w.heap.size + 4]? = some (.cells (scnC a n c s z v z' v' t 0 0) 76 (0, 0)) := block_new _ _ (by simp)
  have H0 := Lib.hid (And.intro k3 (And.intro k4 hBs))
  clear k3 k4 hBs
  refine (scheck_call a n c s z v z' v' t 0 0 _ (HL.out.below H0.out.2.2)).mono ?_; rintro e w1 ⟨rfl, hb1⟩
  have H1 := Lib.hid (And.intro (keepO hb1 H0.out.1) (And.intro (keepO hb1 H0.out.2.1) (H0.out.2.2.trans (hb1.mono H0.out.2.2.size))))
  clear hb1 H0
  by_cases h1 : plnE s z v z' v' = 0
  · have HP := Lib.hid h1
    rw [h1]
    clear h1
    obtain ⟨a0, a1, a2⟩ := three_old' H1.out.1
    go_wp2_with fail
    refine (Bounds_call x _ HX.out).mono ?_; rintro e w2 ⟨rfl, hb2⟩
    have H2 := Lib.hid (And.intro (keepO hb2 H1.out.1) (And.intro (keepO hb2 H1.out.2.1) (H1.out.2.2.trans (hb2.mono H1.out.2.2.size))))
    clear hb2 H1 a0 a1 a2
    by_cases h2 : bndE x = 0
    · have HBE := Lib.hid h2
      rw [h2]
      clear h2
      obtain ⟨a0, a1, a2⟩ := three_old' H2.out.1
      obtain ⟨e0, e1, e2, e3, e4, e5, e6, e7, e8, e9, e10⟩ := eleven H2.out.2.1
      by_cases h3 : x.s = 0
      · have d3 : (x.s == 0) = true := by simp [h3]
        have HE := Lib.hid (sepE_none (t := t) HP.out HBE.out h3)
        clear h3
        go_wp2
        go_ret2
        exact srPost_err HE.out (by decide) H2.out.2.2
      · have d3 : (x.s == 0) = false := by simp [h3]
        have HS0 := Lib.hid h3
        clear h3
        by_cases h4 : t < 0
        · have d4 : decide (t < 0) = true := decide_eq_true h4
          have HE := Lib.hid (sepE_t HP.out HBE.out HS0.out (Or.inl h4))
          clear h4
          go_wp2
          go_ret2
          exact srPost_err HE.out (by decide) H2.out.2.2
        · have d4 : decide (t < 0) = false := decide_eq_false h4
          by_cases h5 : 120 < t
          · have d5 : decide (120 < t) = true := decide_eq_true h5
            have HE := Lib.hid (sepE_t HP.out HBE.out HS0.out (Or.inr h5))
            clear h4 h5
            go_wp2
            go_ret2
            exact srPost_err HE.out (by decide) H2.out.2.2
          · have d5 : decide (120 < t) = false := decide_eq_false h5
            have HE := Lib.hid (sepE_ok HP.out HBE.out HS0.out (t := t) (by omega))
            have HT := Lib.hid (show 0 ≤ t ∧ t ≤ 120 by omega)
            clear h4 h5
            go_wp2_with fail
            have hz := plnE_zero HP.out
            have hn := set_pl hz.1
            refine (psep_call a n c s z v z' v' t 0 0 x _ (stE_B hz.2.1) (stE_B hz.2.2) HT.out HX.out HBE.out (by omega)).mono ?_; rintro e w3 ⟨rfl, hb3⟩
            have HB := Lib.hid (H2.out.2.2.trans (hb3.mono H2.out.2.2.size))
            clear hb3 hz hn a0 a1 a2 e0 e1 e2 e3 e4 e5 e6 e7 e8 e9 e10
            go_wp2
            go_ret2
            exact srPost_ok HE.out HB.out
    · have hne : (bndE x != 0) = true := by simp [h2]
      have HE := Lib.hid (sepE_bnd (t := t) HP.out h2)
      have HB0 := Lib.hid h2
      clear h2
      go_wp2
      go_ret2
      exact srPost_err HE.out HB0.out H2.out.2.2
  · have hne : (plnE s z v z' v' != 0) = true := by simp [h1]
    have HE := Lib.hid (sepE_pln (x := x) (t := t) h1)
    have HB0 := Lib.hid h1
    clear h1
    go_wp2
    go_ret2
    exact srPost_err HE.out HB0.out H1.out.2.2

set_option maxRecDepth 100000 in
set_option maxHeartbeats 8000000 in
theorem rSeparation_call (a : Option Addr) (n c : Nat) (s : RulesMath.Set) (z v z' v' t : Int) (x : Adv) (w : World) (h : Ints w a n s.rs) (hx : 0 ≤ x.s) :
    Calls Try.prog 14 #[setV a n c s, .agg #[.int .i64 z, .int .i64 v], .agg #[.int .i64 z', .int .i64 v'], .agg #[.int .u8 x.s, .int .i64 x.r, .bool x.k], .int .i64 t] w (SrPost s z v z' v' x t w) := by
  have HL := Lib.hid h
  have HX := Lib.hid hx
  clear h hx
  unfold setV
  go_enter Try.func14, Try.ntmps14
  go_wp2_with fail
  have hBs : Below w.heap.size w ((((w.alloc (.cells (setC a n c s) 34)).alloc (.cells #[.int .i64 z, .int .i64 v] 26)).alloc (.cells #[.int .i64 z', .int .i64 v'] 26)).alloc (.cells #[.int .u8 x.s, .int .i64 x.r, .bool x.k] 30)) :=
    (((below_alloc _ _).alloc (by simp) _).alloc (by simp; omega) _).alloc (by simp; omega) _
  have k0 : ((((w.alloc (.cells (setC a n c s) 34)).alloc (.cells #[.int .i64 z, .int .i64 v] 26)).alloc (.cells #[.int .i64 z', .int .i64 v'] 26)).alloc (.cells #[.int .u8 x.s, .int .i64 x.r, .bool x.k] 30)).heap[w.heap.size]? = some (.cells (setC a n c s) 34 (0, 0)) := block_alloc (block_alloc (block_alloc (block_new _ _ rfl)))
  have k1 : ((((w.alloc (.cells (setC a n c s) 34)).alloc (.cells #[.int .i64 z, .int .i64 v] 26)).alloc (.cells #[.int .i64 z', .int .i64 v'] 26)).alloc (.cells #[.int .u8 x.s, .int .i64 x.r, .bool x.k] 30)).heap[w.heap.size + 1]? = some (.cells #[.int .i64 z, .int .i64 v] 26 (0, 0)) := block_alloc (block_alloc (block_new _ _ (by simp)))
  have k2 : ((((w.alloc (.cells (setC a n c s) 34)).alloc (.cells #[.int .i64 z, .int .i64 v] 26)).alloc (.cells #[.int .i64 z', .int .i64 v'] 26)).alloc (.cells #[.int .u8 x.s, .int .i64 x.r, .bool x.k] 30)).heap[w.heap.size + 2]? = some (.cells #[.int .i64 z', .int .i64 v'] 26 (0, 0)) := block_alloc (block_new _ _ (by simp))
  have k3 : ((((w.alloc (.cells (setC a n c s) 34)).alloc (.cells #[.int .i64 z, .int .i64 v] 26)).alloc (.cells #[.int .i64 z', .int .i64 v'] 26)).alloc (.cells #[.int .u8 x.s, .int .i64 x.r, .bool x.k] 30)).heap[w.heap.size + 3]? = some (.cells #[.int .u8 x.s, .int .i64 x.r, .bool x.k] 30 (0, 0)) := block_new _ _ (by simp)
  have H0 := Lib.hid (And.intro k0 (And.intro k1 (And.intro k2 (And.intro k3 hBs))))
  clear k0 k1 k2 k3 hBs
  refine (rplanes_call a n c s z v z' v' _ (HL.out.below H0.out.2.2.2.2)).mono ?_; rintro e w1 ⟨rfl, hb1⟩
  have H1 := Lib.hid (And.intro (keepO hb1 H0.out.1) (And.intro (keepO hb1 H0.out.2.1) (And.intro (keepO hb1 H0.out.2.2.1) (And.intro (keepO hb1 H0.out.2.2.2.1) (H0.out.2.2.2.2.trans (hb1.mono H0.out.2.2.2.2.size))))))
  clear hb1 H0
  by_cases h1 : plnE s z v z' v' = 0
  · have HP := Lib.hid h1
    rw [h1]
    clear h1
    obtain ⟨a0, a1, a2⟩ := three_old' H1.out.2.2.2.1
    go_wp2_with fail
    refine (refBounds_call x _ HX.out).mono ?_; rintro e w2 ⟨rfl, hb2⟩
    have H2 := Lib.hid (And.intro (keepO hb2 H1.out.1) (And.intro (keepO hb2 H1.out.2.1) (And.intro (keepO hb2 H1.out.2.2.1) (And.intro (keepO hb2 H1.out.2.2.2.1) (H1.out.2.2.2.2.trans (hb2.mono H1.out.2.2.2.2.size))))))
    clear hb2 H1 a0 a1 a2
    by_cases h2 : bndE x = 0
    · have HBE := Lib.hid h2
      rw [h2]
      clear h2
      obtain ⟨a0, a1, a2⟩ := three_old' H2.out.2.2.2.1
      obtain ⟨e0, e1, e2, e3⟩ := four_cells H2.out.1
      obtain ⟨b0, b1, _, _⟩ := two_old H2.out.2.1
      obtain ⟨c0, c1, _, _⟩ := two_old H2.out.2.2.1
      by_cases h3 : x.s = 0
      · have d3 : (x.s == 0) = true := by simp [h3]
        have HE := Lib.hid (sepE_none (t := t) HP.out HBE.out h3)
        clear h3
        go_wp2
        go_ret2
        exact srPost_err HE.out (by decide) H2.out.2.2.2.2
      · have d3 : (x.s == 0) = false := by simp [h3]
        have HS0 := Lib.hid h3
        clear h3
        by_cases h4 : t < 0
        · have d4 : decide (t < 0) = true := decide_eq_true h4
          have HE := Lib.hid (sepE_t HP.out HBE.out HS0.out (Or.inl h4))
          clear h4
          go_wp2
          go_ret2
          exact srPost_err HE.out (by decide) H2.out.2.2.2.2
        · have d4 : decide (t < 0) = false := decide_eq_false h4
          by_cases h5 : 120 < t
          · have d5 : decide (120 < t) = true := decide_eq_true h5
            have HE := Lib.hid (sepE_t HP.out HBE.out HS0.out (Or.inr h5))
            clear h4 h5
            go_wp2
            go_ret2
            exact srPost_err HE.out (by decide) H2.out.2.2.2.2
          · have d5 : decide (120 < t) = false := decide_eq_false h5
            have HE := Lib.hid (sepE_ok HP.out HBE.out HS0.out (t := t) (by omega))
            have HT := Lib.hid (show 0 ≤ t ∧ t ≤ 120 by omega)
            clear h4 h5
            go_wp2_with fail
            have hz := plnE_zero HP.out
            have hn := set_pl hz.1
            refine (rsep_call a n c s z v z' v' t x _ (stE_B hz.2.1) (stE_B hz.2.2) HT.out HX.out HBE.out (by omega)).mono ?_; rintro e w3 ⟨rfl, hb3⟩
            have HB := Lib.hid (H2.out.2.2.2.2.trans (hb3.mono H2.out.2.2.2.2.size))
            clear hb3 hz hn a0 a1 a2 e0 e1 e2 e3 b0 b1 c0 c1
            go_wp2
            go_ret2
            exact srPost_ok HE.out HB.out
    · have hne : (bndE x != 0) = true := by simp [h2]
      have HE := Lib.hid (sepE_bnd (t := t) HP.out h2)
      have HB0 := Lib.hid h2
      clear h2
      go_wp2
      go_ret2
      exact srPost_err HE.out HB0.out H2.out.2.2.2.2
  · have hne : (plnE s z v z' v' != 0) = true := by simp [h1]
    have HE := Lib.hid (sepE_pln (x := x) (t := t) h1)
    have HB0 := Lib.hid h1
    clear h1
    go_wp2
    go_ret2
    exact srPost_err HE.out HB0.out H1.out.2.2.2.2
end Go.Proofs.Ytfgalaalopkclaa
