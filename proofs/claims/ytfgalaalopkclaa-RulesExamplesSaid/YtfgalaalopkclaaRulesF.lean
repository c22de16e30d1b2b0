/-
  Layer 38 (rules): which senses are allowed; the separation of a sense.
-/
import Derived.Test.YtfgalaalopkclaaRulesE
import Derived.Deep.RegionHeld3
namespace Go.Proofs.Ytfgalaalopkclaa
open Go.RowKit PlaneMath PilotMath RulesMath MyHeap

/-- Only new blocks: a bool came back. -/
def BPost (b : Bool) (w : World) (e : Ending) (w' : World) : Prop := e = .returned (.bool b) ∧ Below w.heap.size w w'
theorem bPost_of {b b' : Bool} {w w' : World} (h : b = b') (hB : Below w.heap.size w w') : BPost b w (.returned (.bool b')) w' := ⟨by rw [h], hB⟩
theorem alw_lock {z fl k g : Int} (h : g = k) : alwB z fl k g = false := by subst h; unfold alwB; simp
theorem alw_up {z fl k g : Int} (h : g ≠ k) (h1 : g = 1) : alwB z fl k g = true := by unfold alwB; rw [Bool.and_eq_true]; exact ⟨bne_iff_ne.2 h, by rw [h1]; rfl⟩
theorem alw_dn {z fl k g : Int} (h : g ≠ k) (h1 : g ≠ 1) : alwB z fl k g = decide (fl ≤ z) := by unfold alwB; rw [show (g != k) = true from bne_iff_ne.2 h, show (g == 1) = false from beq_eq_false_iff_ne.2 h1]; rfl

set_option maxRecDepth 100000 in
set_option maxHeartbeats 4000000 in
theorem allowed_call (a : Option Addr) (n c : Nat) (s : RulesMath.Set) (z v z' v' t fl k g : Int) (w : World) :
    Calls Try.prog 47 #[scnV a n c s z v z' v' t fl k, .int .u8 g] w (BPost (alwB z fl k g) w) := by
  have HB := Lib.hid (below_alloc w (.cells (scnC a n c s z v z' v' t fl k) 76))
  by_cases h1 : g = k
  · have d1 : (g != k) = false := by simp [h1]
    have HE := Lib.hid (alw_lock (z := z) (fl := fl) h1)
    clear h1
    unfold scnV
    go_enter Try.func47, Try.ntmps47
    go_wp2
    go_ret
    exact bPost_of HE.out HB.out
  · have d1 : (g != k) = true := by simp [h1]
    by_cases h2 : g = 1
    · have d2 : (g == 1) = true := by simp [h2]
      have HE := Lib.hid (alw_up (z := z) (fl := fl) h1 h2)
      clear h1 h2
      unfold scnV
      go_enter Try.func47, Try.ntmps47
      go_wp2
      go_ret
      exact bPost_of HE.out HB.out
    · have d2 : (g == 1) = false := by simp [h2]
      have HE := Lib.hid (alw_dn (z := z) (fl := fl) h1 h2)
      clear h1 h2
      unfold scnV
      go_enter Try.func47, Try.ntmps47
      go_wp2
      go_ret
      exact bPost_of HE.out HB.out

set_option maxRecDepth 100000 in
set_option maxHeartbeats 4000000 in
theorem rallowed_call (z v fl k g : Int) (w : World) (hg : g = 1 ∨ g = 2) :
    Calls Try.prog 40 #[.agg #[.int .i64 z, .int .i64 v], .int .i64 fl, .int .u8 k, .int .u8 g] w (BPost (alwB z fl k g) w) := by
  have HB := Lib.hid (below_alloc w (.cells #[.int .i64 z, .int .i64 v] 26))
  by_cases h1 : g = k
  · have d1 : (g != k) = false := by simp [h1]
    have HE := Lib.hid (alw_lock (z := z) (fl := fl) h1)
    clear h1 hg
    go_enter Try.func40, Try.ntmps40
    go_wp2
    go_ret
    exact bPost_of HE.out HB.out
  · have d1 : (g != k) = true := by simp [h1]
    by_cases h2 : g = 1
    · have d2 : (g != 2) = true := by simp [h2]
      have HE := Lib.hid (alw_up (z := z) (fl := fl) h1 h2)
      clear h1 h2 hg
      go_enter Try.func40, Try.ntmps40
      go_wp2
      go_ret
      exact bPost_of HE.out HB.out
    · have d2 : (g != 2) = false := by simp; omega
      have HE := Lib.hid (alw_dn (z := z) (fl := fl) h1 h2)
      clear h1 h2 hg
      go_enter Try.func40, Try.ntmps40
      go_wp2
      go_ret
      exact bPost_of HE.out HB.out

/-- A scene in which nothing is wrong. -/
structure ScOk (s : RulesMath.Set) (z v z' v' t : Int) : Prop where
  set : setE s = 0
  own : stB z v = true
  oth : stB z' v' = true
  t : 0 ≤ t ∧ t ≤ 120
theorem scOk_of {s : RulesMath.Set} {z v z' v' t : Int} (h : plnE s z v z' v' = 0) (ht : 0 ≤ t ∧ t ≤ 120) : ScOk s z v z' v' t := ⟨(plnE_zero h).1, stE_B (plnE_zero h).2.1, stE_B (plnE_zero h).2.2, ht⟩
theorem lastA_ok {s : RulesMath.Set} {g : Int} (h : setE s = 0) (hg : g = 1 ∨ g = 2) : bndE (lastA s g) = 0 := by
  have hn := set_pl h
  rw [← lst_last s g (by omega)]
  exact lst_ok (setE_zero h).2 hg _ (Nat.le_refl _)

set_option maxRecDepth 100000 in
set_option maxHeartbeats 4000000 in
theorem best_call (a : Option Addr) (n c : Nat) (s : RulesMath.Set) (z v z' v' t fl k g : Int) (w : World) (h : Ints w a n s.rs) (hok : ScOk s z v z' v' t) (hg : g = 1 ∨ g = 2) :
    Calls Try.prog 49 #[scnV a n c s z v z' v' t fl k, .int .u8 g] w (EPost (bestV s z v z' v' g t) w) := by
  have hn := set_pl hok.set
  have hl := h.len
  have hm := h.bound
  obtain ⟨j, rfl⟩ : ∃ j : Nat, n = j + 1 := ⟨n - 1, by omega⟩
  obtain ⟨b, off, rfl, y0⟩ := ints_at (h.below (below_alloc w (.cells (scnC a (j + 1) c s z v z' v' t fl k) 76))) (k := j) (by omega)
  have HL := Lib.hid (show lastA s g = ⟨g, gr s.rs j, false⟩ by unfold lastA; rw [hl, Nat.add_sub_cancel])
  have hj0 : (0 : Int) ≤ (j : Int) := by omega
  have hj1 : (j : Int) < (j : Int) + 1 := by omega
  have hj2 : IntKind.i64.wrap ((j : Int) + 1 - 1) = (j : Int) := by rw [Int.add_sub_cancel]; exact IntWalk.i64_in _ (by omega)
  have hj3 : IntKind.i64.wrap (j : Int) = (j : Int) := IntWalk.i64_in _ (by omega)
  have HO := Lib.hid hok
  have HG := Lib.hid hg
  have HN := Lib.hid (And.intro hn h)
  clear hn hl h hok hg
  unfold scnV
  go_enter Try.func49, Try.ntmps49
  go_wp2_with fail
  have k0 : (w.alloc (.cells (scnC (some ⟨b, off, none⟩) (j + 1) c s z v z' v' t fl k) 76)).drew.heap[w.heap.size]? = some (.cells (scnC (some ⟨b, off, none⟩) (j + 1) c s z v z' v' t fl k) 76 (0, 0)) := block_new w _ rfl
  have y1 : (w.alloc (.cells (scnC (some ⟨b, off, none⟩) (j + 1) c s z v z' v' t fl k) 76)).drew.cell? ⟨b, off + j, none⟩ = some (.int .i64 (gr s.rs j)) := y0
  have hB := (below_alloc w (.cells (scnC (some ⟨b, off, none⟩) (j + 1) c s z v z' v' t fl k) 76)).drew
  have hL := HN.out.2.below hB
  have K := Lib.hid (And.intro hB hL)
  clear y0 hB hL
  go_region_held3 (fun w' => (w'.cell? ⟨w.heap.size, 0, none⟩ = some (.slice (some ⟨b, off, none⟩) (j + 1) c) ∧ w'.cell? ⟨w.heap.size, 1, none⟩ = some (.int .i64 s.alim) ∧ w'.cell? ⟨w.heap.size, 2, none⟩ = some (.int .i64 s.d) ∧ w'.cell? ⟨w.heap.size, 3, none⟩ = some (.int .i64 s.pl) ∧ w'.cell? ⟨w.heap.size, 4, none⟩ = some (.int .i64 z) ∧ w'.cell? ⟨w.heap.size, 5, none⟩ = some (.int .i64 v) ∧ w'.cell? ⟨w.heap.size, 6, none⟩ = some (.int .i64 z') ∧ w'.cell? ⟨w.heap.size, 7, none⟩ = some (.int .i64 v') ∧ w'.cell? ⟨w.heap.size, 8, none⟩ = some (.int .i64 t) ∧ w'.cell? ⟨w.heap.size, 9, none⟩ = some (.int .i64 fl) ∧ w'.cell? ⟨w.heap.size, 10, none⟩ = some (.int .u8 k)) ∧ w'.cell? ⟨b, off + j, none⟩ = some (.int .i64 (gr s.rs j))) (exact ⟨eleven k0, y1⟩)
    ((go_at_call 35; refine (psep_call (some ⟨b, off, none⟩) (j + 1) c s z v z' v' t fl k ⟨g, gr s.rs j, false⟩ _ HO.out.own HO.out.oth HO.out.t (by rcases HG.out with h | h <;> (show 0 ≤ g; omega)) (by rw [← HL.out]; exact lastA_ok HO.out.set HG.out) (by have := HN.out.1; omega)).mono ?_; rintro e w3 ⟨rfl, hb3⟩; replace k0 := keepO hb3 k0; replace y1 := keep1 hb3 y1; replace K := Lib.hid (K.out.1.trans (hb3.mono K.out.1.size)); clear hb3))
  go_wp2_with fail
  go_ret
  exact ePost_of (by unfold bestV; rw [HL.out]) K.out
end Go.Proofs.Ytfgalaalopkclaa
