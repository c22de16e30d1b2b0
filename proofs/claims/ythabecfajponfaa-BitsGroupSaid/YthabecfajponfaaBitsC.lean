/-
  Layer 1 (bits): Get.
-/
import Derived.Test.YthabecfajponfaaBitsB
namespace Go.Proofs.Ythabecfajponfaa
open Go.RowKit Go.Shelf Go.MyRange BitsMath
attribute [local go_sem] Oper.semAt_some

theorem get_step (xs : List Nat) (p N v j b : Nat) (hx : xs[p + N - 1 - j]?.getD 0 = b) (hb : b ≤ 1) (hj : j < 64) (hv : v < 2 ^ 64) :
    bits .or .u64 (v : Int) (IntKind.u64.wrap ((b : Int) * 2 ^ j)) = ((getStep xs p N v j : Nat) : Int) ∧ getStep xs p N v j < 2 ^ 64 := by
  have hp : 2 ^ j ≤ 2 ^ 63 := Nat.pow_le_pow_right (by decide) (by omega)
  have hm : b * 2 ^ j ≤ 2 ^ 63 := by
    have : b * 2 ^ j ≤ 1 * 2 ^ j := Nat.mul_le_mul_right _ hb
    omega
  have e : (b : Int) * 2 ^ j = ((b * 2 ^ j : Nat) : Int) := by push_cast; rfl
  unfold getStep
  rw [hx, Nat.shiftLeft_eq]
  constructor
  · rw [e, IntKind.wrap_u64, Int.emod_eq_of_lt (by omega) (by omega), u64_or_nat _ _ (by omega) (by omega)]
  · exact Nat.or_lt_two_pow hv (by omega)

set_option maxRecDepth 100000 in
set_option maxHeartbeats 2000000 in
theorem Get_ok (a : Option Addr) (m c : Nat) (xs : List Nat) (p N : Nat) (w : World) (h : U8s w a m xs) (he : fldE xs p N = 0) (hN : N ≤ 64) (hm : m ≤ 128) (hp : p + N ≤ m) (hs : Small xs m) :
    Calls Try.prog 10 #[.slice a m c, .int .i64 p, .int .i64 N] w fun e w' => e = .returned (.tuple #[.int .u64 (getV xs p N : Nat), .int .i64 0]) ∧ Below w.heap.size w w' := by
  have HF := Lib.hid h
  have HE := Lib.hid he
  clear h he
  refine (callsIn_wide (n := 6)).1 ?_
  refine callsIn_of_wp_marks Try.func10 rfl trivial ?_ rfl
  simp only [Try.ntmps10, List.size_toArray, List.length_cons, List.length_nil, Nat.reduceAdd, Nat.reduceSub, Array.replicate_succ, Array.replicate_zero, List.push_toArray, List.append_toArray, List.nil_append, List.cons_append]
  have HB1 := Lib.hid (show ∀ o : Obj, Below w.heap.size w (w.alloc o) from fun o => (Below.refl _ _).alloc (Nat.le_refl _) _)
  have HB2 := Lib.hid (show ∀ o o' : Obj, Below w.heap.size w ((w.alloc o).alloc o') from fun o o' => ((Below.refl _ _).alloc (Nat.le_refl _) _).alloc (by simp) _)
  gi_wp2_with fail
  refine ⟨trivial, ?_⟩
  refine (callsIn_wide.2 (field_call a m c xs (p : Int) (N : Int) _ (HF.out.below (HB2.out _ _)) (by omega) (by omega))).mono ?_
  rw [HE.out]
  rintro e w1 ⟨rfl, hb1⟩
  obtain ⟨hc1, hf1⟩ : (∀ b o, b < w.heap.size + 1 + 1 → w1.cell? ⟨b, o, none⟩ = ((w.alloc (.cells #[.slice a m c] 23)).alloc (.cells #[.int .u64 0] 24)).cell? ⟨b, o, none⟩) ∧ (∀ b o, b < w.heap.size + 1 + 1 → w1.frozen? ⟨b, o, none⟩ = ((w.alloc (.cells #[.slice a m c] 23)).alloc (.cells #[.int .u64 0] 24)).frozen? ⟨b, o, none⟩) :=
    ⟨fun b o hh => hb1.cell (p := ⟨b, o, none⟩) (by simpa using hh), fun b o hh => hb1.frozen (p := ⟨b, o, none⟩) (by simpa using hh)⟩
  gi_wp2_with fail
  refine ⟨trivial, ?_⟩
  refine (callsIn_wide.2 (positions_call _ _ _)).mono ?_
  rintro e w2 ⟨rfl, rfl⟩
  gi_wp2_with fail
  have hv1 : w1.cell? ⟨w.heap.size + 1, 0, none⟩ = some (.int .u64 (getL xs p N (posList ([] : List (Pos N))) : Nat)) := (hc1 _ _ (by omega)).trans (by simp [go_sem]; rfl)
  have hv2 : w1.frozen? ⟨w.heap.size + 1, 0, none⟩ = false := (hf1 _ _ (by omega)).trans (by simp [go_sem])
  have hv3 : w1.cell? ⟨w.heap.size, 0, none⟩ = some (.slice a m c) := (hc1 _ _ (by omega)).trans (by simp [go_sem])
  have hz1 : w.heap.size + 1 < w1.heap.size := by have := hb1.size; simp at this; omega
  have hB0 : Below w.heap.size w ((w1.alloc (.cells #[.int .i64 (p : Int)] 3)).alloc (.cells #[.int .i64 (N : Int)] 3)) :=
    (((HB2.out _ _).trans (hb1.mono (by simp; omega))).alloc (by omega) _).alloc (by simp; omega) _
  have hU0 : U8s ((w1.alloc (.cells #[.int .i64 (p : Int)] 3)).alloc (.cells #[.int .i64 (N : Int)] 3)) a m xs := HF.out.below hB0
  refine wpIn_rangeFunc_ownF rfl (by omega) (gf := 44) (lb := #[.pointer (some ⟨w1.heap.size + 1, 0, none⟩), .pointer (some ⟨w1.heap.size, 0, none⟩)]) rfl trivial (enters_of Try.func44 (by kernel_rfl) rfl)
    (positions_stops Fence.wide _ trivial rfl (by omega) (w1.heap.size + 1) w1.heap.size N (p : Int) hN (by omega) (by omega) _ (by simp) (by simp; omega) (by simp [go_sem]) (by simp [go_sem])) KeepB.trans (keepB_b (by simp; omega)) (Below.refl _ _) (fun _ => rfl)
    (fun pre W => ((W.cell? ⟨w.heap.size + 1, 0, none⟩ = some (.int .u64 (getL xs p N (posList pre) : Nat)) ∧ W.frozen? ⟨w.heap.size + 1, 0, none⟩ = false) ∧ (W.cell? ⟨w.heap.size, 0, none⟩ = some (.slice a m c) ∧ getL xs p N (posList pre) < 2 ^ 64)) ∧ Below w.heap.size w W)
    (fun _ _ _ => False)
    (OwnFrom.and (Own.from (fun s A B row hs hg hr => ⟨⟨cell_kept hs.1.1 hg hr, (frozen_kept hs.1.1 hg hr).trans hs.1.2⟩, cell_kept hs.2.1 hg hr, hs.2.2⟩) _) (ownFrom_below (Nat.le_refl _) (by simp; omega)))
    (fun _ _ _ _ _ hs _ _ => hs)
    ⟨⟨⟨cell_alloc_l _ (cell_alloc_l _ hv1), frozen_alloc_l _ (cell_alloc_l _ hv1) (frozen_alloc_l _ hv1 hv2)⟩, cell_alloc_l _ (cell_alloc_l _ hv3), by show (0 : Nat) < 2 ^ 64; decide⟩, hB0⟩
    (fun x => { tmps := #[.slice a m c, .int .i64 (p : Int), .int .i64 (N : Int), .pointer (some ⟨w.heap.size, 0, none⟩), undef, undef, .pointer (some ⟨w.heap.size + 1, 0, none⟩), .int .i64 0, .int .i64 0,
      .int .i64 ((p : Int) + (N : Int) - 1 - (x.1 : Int)), .int .i64 (x.1 : Int), .slice a m c, .int .i64 (p : Int), .int .i64 (N : Int), .int .i64 0, .int .i64 0, .bool false, undef, .int .i64 (p : Int), .int .i64 (N : Int),
      .func (.func 44) #[] #[.pointer (some ⟨w1.heap.size + 1, 0, none⟩), .pointer (some ⟨w1.heap.size, 0, none⟩)], .int .i64 ((p : Int) + (N : Int) - 1 - (x.1 : Int)), .int .i64 (x.1 : Int), undef, undef, undef, undef, undef, undef, undef, undef, undef, undef], defers := [] }) ?assign ?body ?done ?stop
  case assign =>
    intro l x W K hK
    simp only [posVals]
    gi_wp2
    exact hK
  case body =>
    rintro l pre x W ⟨⟨⟨hcv, hfv⟩, hcb, hlt⟩, hB⟩ _
    obtain ⟨j, hj⟩ := x
    have hU := HF.out.below hB
    rcases hU.cells with h0 | ⟨b, off, ha, hcs⟩
    · omega
    · subst ha
      obtain ⟨q, hq⟩ : ∃ q : Nat, p + N - 1 - j = q := ⟨_, rfl⟩
      have hqi : (p : Int) + (N : Int) - 1 - (j : Int) = (q : Int) := by omega
      have hqm : q < m := by omega
      have hcq := hcs q hqm
      have hx1 : xs[p + N - 1 - j]?.getD 0 = xs[q]?.getD 0 := by rw [hq]
      have hx2 : xs[q]?.getD 0 ≤ 1 := hs q hqm
      obtain ⟨hs1, hs2⟩ := get_step xs p N (getL xs p N (posList pre)) j _ hx1 hx2 (by omega) hlt
      have HS := Lib.hid hs1
      have hw : IntKind.u64.wrap ((xs[q]?.getD 0 : Nat) : Int) = ((xs[q]?.getD 0 : Nat) : Int) := by rw [IntKind.wrap_u64]; omega
      rw [hqi]
      have HQ := Lib.hid hs2
      clear hcs hq hqi hlt hs1 hs2 hx1 hx2 hU hU0 hB0 hc1 hf1 hb1 HB1 HB2 HE HF hs hp hm
      have hj64 : j < 64 := by omega
      clear hN
      gi_wp2
      gi_region
      all_goals
        rw [HS.out]
        refine ⟨(KeepsOthers.setCell _ _ _).trans (KeepsOthers.drew _), ((KeepB.refl _ _).setCell (p := ⟨w.heap.size + 1, 0, none⟩) (by simp; omega) _).drew, ⟨⟨⟨?_, ?_⟩, ?_, ?_⟩, ?_⟩⟩
        · show (W.setCell _ _).cell? _ = _
          rw [posList_snoc, getL_snoc]
          exact World.cell?_setCell_same' _ _ _ (by rw [hcv]; rfl)
        · show (W.setCell _ _).frozen? _ = _
          rw [World.frozen?_setCell]; exact hfv
        · exact (World.cell?_of_block (w := W) (a := ⟨w.heap.size, 0, none⟩) (Below.heap_setCell W ⟨w.heap.size + 1, 0, none⟩ _ w.heap.size (by show w.heap.size ≠ w.heap.size + 1; omega))).trans hcb
        · rw [posList_snoc, getL_snoc]; exact HQ.out
        · exact (hB.setCell (p := ⟨w.heap.size + 1, 0, none⟩) (by simp) _).drew
  case done =>
    rintro D ys W hD hys ⟨⟨⟨hcv, hfv⟩, hcb, hlt⟩, hB⟩ hK
    have HY := Lib.hid hys
    clear hys
    gi_wp2
    have hK' := (KeepsOthers.setCell W ⟨w.heap.size + 1, 0, none⟩ (.int .u64 (getL xs p N (posList ys) : Nat))).same D _ hK rfl
    refine ⟨by simp, .inl ⟨_, _, rfl, run_takeDeferred hK', ?_⟩⟩
    have hc5 := cell_kept (World.cell?_setCell_same' W ⟨w.heap.size + 1, 0, none⟩ (.int .u64 (getL xs p N (posList ys) : Nat)) (by rw [hcv]; rfl)) (grownBy_putObj' _ D (.deferred none)) (fun r e => by cases e; exact ⟨_, hK', rfl⟩)
    refine ⟨.tuple #[.int .u64 (getL xs p N (posList ys) : Nat), .int .i64 0], ?_, by rw [getV, HY.out], (hB.setCell (p := ⟨w.heap.size + 1, 0, none⟩) (by simp) _).trans (belowK_b (w := w) (Nat.le_refl _) _ D _ _ (by simp at hD; omega) hK' rfl rfl)⟩
    simp [results, Try.f10, go_sem, hc5]
  case stop =>
    rintro D c pre W _ _ h _
    exact h.elim
end Go.Proofs.Ythabecfajponfaa
