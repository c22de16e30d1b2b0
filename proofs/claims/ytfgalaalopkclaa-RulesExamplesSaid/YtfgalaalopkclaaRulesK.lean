/-
  Layer 38 (rules): the program's enough.
-/
import Derived.Test.YtfgalaalopkclaaRulesJ
import Derived.Test.YtfgalaalopkclaaRangeMid
namespace Go.Proofs.Ytfgalaalopkclaa
open Go.RowKit Go.Shelf Go.MyRange PlaneMath PilotMath RulesMath MyHeap
attribute [local go_sem] Oper.semAt_some

def advCl (x : Adv) : Array Value := #[.int .u8 x.s, .int .i64 x.r, .bool x.k]
/-- The advisory that came last. -/
def lastP {m : Nat} (s : RulesMath.Set) (g : Int) (pre : List (LPos m)) : Adv := match pre.getLast? with
  | none => adv0
  | some x => ga (lstL s g) x.1
theorem lastP_snoc {m : Nat} (s : RulesMath.Set) (g : Int) (pre : List (LPos m)) (x : LPos m) : lastP s g (pre ++ [x]) = ga (lstL s g) x.1 := by simp [lastP]
theorem lastP_all {n : Nat} (s : RulesMath.Set) (g : Int) {xs : List (LPos (n + 1))} (h : lposs xs = List.range (n + 1)) : lastP s g xs = ga (lstL s g) n := by
  unfold lastP
  have h2 : (lposs xs).getLast? = some n := by rw [h]; simp [List.range_succ]
  unfold lposs at h2
  rw [List.getLast?_map] at h2
  cases hx : xs.getLast? with
  | none => rw [hx] at h2; simp at h2
  | some x => rw [hx] at h2; simp at h2; simp [h2]
theorem scn_cells {w : World} {bk : Nat} {a : Option Addr} {n c : Nat} {s : RulesMath.Set} {z v z' v' t fl k : Int} {T : TypeId} (h : w.heap[bk]? = some (.cells (scnC a n c s z v z' v' t fl k) T (0, 0))) :
    w.cell? ⟨bk, 0, none⟩ = some (.slice a n c) ∧ w.cell? ⟨bk, 1, none⟩ = some (.int .i64 s.alim) ∧ w.cell? ⟨bk, 2, none⟩ = some (.int .i64 s.d) ∧ w.cell? ⟨bk, 3, none⟩ = some (.int .i64 s.pl) ∧ w.cell? ⟨bk, 4, none⟩ = some (.int .i64 z) ∧ w.cell? ⟨bk, 5, none⟩ = some (.int .i64 v) ∧
      w.cell? ⟨bk, 6, none⟩ = some (.int .i64 z') ∧ w.cell? ⟨bk, 7, none⟩ = some (.int .i64 v') ∧ w.cell? ⟨bk, 8, none⟩ = some (.int .i64 t) ∧ w.cell? ⟨bk, 9, none⟩ = some (.int .i64 fl) ∧ w.cell? ⟨bk, 10, none⟩ = some (.int .u8 k) :=
  ⟨cell_of_block h rfl, cell_of_block h rfl, cell_of_block h rfl, cell_of_block h rfl, cell_of_block h rfl, cell_of_block h rfl, cell_of_block h rfl, cell_of_block h rfl, cell_of_block h rfl, cell_of_block h rfl, cell_of_block h rfl⟩
def NoPre {m : Nat} (s : RulesMath.Set) (z v z' v' g t : Int) (pre : List (LPos m)) : Prop := ∀ i ∈ lposs pre, ¬ s.alim ≤ sepV s z v z' v' (ga (lstL s g) i) t
theorem noPre_snoc {m : Nat} {s : RulesMath.Set} {z v z' v' g t : Int} {pre : List (LPos m)} {x : LPos m} (h : NoPre s z v z' v' g t pre) (hx : ¬ s.alim ≤ sepV s z v z' v' (ga (lstL s g) x.1) t) : NoPre s z v z' v' g t (pre ++ [x]) := fun i hi => by
  rw [lposs_snoc] at hi
  rcases List.mem_append.1 hi with h1 | h1
  · exact h i h1
  · rw [List.mem_singleton.1 h1]; exact hx
theorem below_undrew {W W' : World} (h : Below W.drew.heap.size W.drew W') : Below W.heap.size W W' := ((Below.refl W.heap.size W).drew).trans (show Below W.heap.size W.drew W' from h)
theorem keepsFrom_below {B : Nat} {W W' : World} (h : Below W.heap.size W W') : KeepsFrom B W W' := ⟨h.size, fun _ _ _ hk _ => keepO h hk⟩
/-- Between two rounds: the scene, the result's cells, and nothing of w0 written. -/
def EnK (w0 : World) (C : Array Value) (y : Adv) (W : World) : Prop := W.heap[w0.heap.size]? = some (.cells C 76 (0, 0)) ∧ W.heap[w0.heap.size + 1]? = some (.cells (advCl y) 30 (0, 0)) ∧ Below w0.heap.size w0 W ∧ w0.heap.size + 4 ≤ W.heap.size
theorem EnK.grown {w0 : World} {C : Array Value} {y : Adv} {W W' : World} {row : Option Nat} {B : Nat} (h : EnK w0 C y W) (hB : w0.heap.size ≤ B) (hg : W.grownBy W' row) (hr : ∀ r, row = some r → B ≤ r ∧ ∃ o : Obj, W.heap[r]? = some o ∧ o.isCells = false) : EnK w0 C y W' :=
  ⟨(grownBy_keeps_cells hg (fun r e => (hr r e).2) h.1 rfl).trans h.1, (grownBy_keeps_cells hg (fun r e => (hr r e).2) h.2.1 rfl).trans h.2.1, h.2.2.1.grown hg h.2.2.1.size (fun k e => Nat.le_trans hB (hr k e).1), Nat.le_trans h.2.2.2 ((Below.refl w0.heap.size W).grown hg h.2.2.1.size (fun k e => Nat.le_trans hB (hr k e).1)).size⟩
theorem EnK.keep {w0 : World} {C : Array Value} {y : Adv} {W W' : World} (h : EnK w0 C y W) (hb : Below W.heap.size W W') : EnK w0 C y W' := ⟨keepO hb h.1, keepO hb h.2.1, h.2.2.1.trans (hb.mono h.2.2.1.size), Nat.le_trans h.2.2.2 hb.size⟩
theorem EnK.store {w0 : World} {C : Array Value} {y : Adv} {W : World} (h : EnK w0 C y W) (x : Adv) : EnK w0 C x (((W.setCell ⟨w0.heap.size + 1, 0, none⟩ (.int .u8 x.s)).setCell ⟨w0.heap.size + 1, 1, none⟩ (.int .i64 x.r)).setCell ⟨w0.heap.size + 1, 2, none⟩ (.bool x.k)) := by
  refine ⟨?_, block_setCell (block_setCell (block_setCell h.2.1)), ?_, ?_⟩
  · have hk : ∀ (V : World) (i : Nat) (u : Value), (V.setCell ⟨w0.heap.size + 1, i, none⟩ u).heap[w0.heap.size]? = V.heap[w0.heap.size]? := fun V i u => Below.heap_setCell V ⟨w0.heap.size + 1, i, none⟩ u w0.heap.size (by show w0.heap.size ≠ w0.heap.size + 1; omega)
    rw [hk, hk, hk]; exact h.1
  · exact ((h.2.2.1.setCell (p := ⟨w0.heap.size + 1, 0, none⟩) (by simp) _).setCell (p := ⟨w0.heap.size + 1, 1, none⟩) (by simp) _).setCell (p := ⟨w0.heap.size + 1, 2, none⟩) (by simp) _
  · exact Nat.le_trans h.2.2.2 ((((Below.refl w0.heap.size W).setCell (p := ⟨w0.heap.size + 1, 0, none⟩) (by simp) (.int .u8 x.s)).setCell (p := ⟨w0.heap.size + 1, 1, none⟩) (by simp) (.int .i64 x.r)).setCell (p := ⟨w0.heap.size + 1, 2, none⟩) (by simp) (.bool x.k)).size

set_option maxRecDepth 100000 in
set_option maxHeartbeats 8000000 in
theorem enough_call (a : Option Addr) (n c : Nat) (s : RulesMath.Set) (z v z' v' t fl k g : Int) (w : World) (h : Ints w a n s.rs) (hok : ScOk s z v z' v' t) (hg : g = 1 ∨ g = 2) :
    Calls Try.prog 48 #[scnV a n c s z v z' v' t fl k, .int .u8 g] w (APost (enA s z v z' v' g t) w) := by
  have hn := set_pl hok.set
  have hl := h.len
  have HN := Lib.hid hn
  have HL := Lib.hid h
  have HLen := Lib.hid hl
  have HO := Lib.hid hok
  have HG := Lib.hid hg
  have hn8 : n ≤ 8 := by omega
  have hn1 : 0 < n := by omega
  rcases h.cells with h0 | ⟨b, off, rfl, hcs⟩
  · omega
  have hbw : b < w.heap.size := World.block_lt_of_cell? w _ (hcs 0 hn1)
  have HC := Lib.hid hcs
  clear hn hl h hok hg hcs
  unfold scnV
  refine (callsIn_wide (n := 6)).1 ?_
  refine callsIn_of_wp_marks Try.func48 rfl trivial ?_ rfl
  simp only [Try.ntmps48, List.size_toArray, List.length_cons, List.length_nil, Nat.reduceAdd, Nat.reduceSub, Array.replicate_succ, Array.replicate_zero, List.push_toArray, List.append_toArray, List.nil_append, List.cons_append]
  gi_wp2_with fail
  refine ⟨trivial, ?_⟩
  refine (callsIn_wide.2 (list_call (some ⟨b, off, none⟩) n c s g _)).mono ?_
  rintro e w2 ⟨rfl, rfl⟩
  gi_wp2_with fail
  have hB4 : Below w.heap.size w ((((w.alloc (.cells (scnC (some ⟨b, off, none⟩) n c s z v z' v' t fl k) 76)).alloc (.cells (advCl adv0) 30)).alloc (.cells (setC (some ⟨b, off, none⟩) n c s) 24)).alloc (.cells #[.int .u8 g] 5)) :=
    (((below_alloc _ _).alloc (by simp) _).alloc (by simp; omega) _).alloc (by simp; omega) _
  have hK : EnK w (scnC (some ⟨b, off, none⟩) n c s z v z' v' t fl k) adv0 ((((w.alloc (.cells (scnC (some ⟨b, off, none⟩) n c s z v z' v' t fl k) 76)).alloc (.cells (advCl adv0) 30)).alloc (.cells (setC (some ⟨b, off, none⟩) n c s) 24)).alloc (.cells #[.int .u8 g] 5)) :=
    ⟨block_alloc (block_alloc (block_alloc (block_new _ _ rfl))), block_alloc (block_alloc (block_new _ _ (by simp))), hB4, by simp⟩
  have hG : ((((w.alloc (.cells (scnC (some ⟨b, off, none⟩) n c s z v z' v' t fl k) 76)).alloc (.cells (advCl adv0) 30)).alloc (.cells (setC (some ⟨b, off, none⟩) n c s) 24)).alloc (.cells #[.int .u8 g] 5)).heap[w.heap.size + 1 + 1 + 1]? = some (.cells #[.int .u8 g] 5 (0, 0)) := block_new _ _ (by simp)
  have hS : ((((w.alloc (.cells (scnC (some ⟨b, off, none⟩) n c s z v z' v' t fl k) 76)).alloc (.cells (advCl adv0) 30)).alloc (.cells (setC (some ⟨b, off, none⟩) n c s) 24)).alloc (.cells #[.int .u8 g] 5)).heap[w.heap.size + 1 + 1]? = some (.cells (setC (some ⟨b, off, none⟩) n c s) 24 (0, 0)) := block_alloc (block_new _ _ (by simp))
  have HK := Lib.hid hK
  have HGS := Lib.hid (And.intro hG hS)
  have HR := Lib.hid (fun i hi => keep1 hB4 (HC.out i hi))
  have hsz : ((((w.alloc (.cells (scnC (some ⟨b, off, none⟩) n c s z v z' v' t fl k) 76)).alloc (.cells (advCl adv0) 30)).alloc (.cells (setC (some ⟨b, off, none⟩) n c s) 24)).alloc (.cells #[.int .u8 g] 5)).heap.size = w.heap.size + 4 := by simp
  change Code.wpIn _ _ _ _ _ _ ((((w.alloc (.cells (scnC (some ⟨b, off, none⟩) n c s z v z' v' t fl k) 76)).alloc (.cells (advCl adv0) 30)).alloc (.cells (setC (some ⟨b, off, none⟩) n c s) 24)).alloc (.cells #[.int .u8 g] 5))
  clear hK hG hS hB4
  generalize ((((w.alloc (.cells (scnC (some ⟨b, off, none⟩) n c s z v z' v' t fl k) 76)).alloc (.cells (advCl adv0) 30)).alloc (.cells (setC (some ⟨b, off, none⟩) n c s) 24)).alloc (.cells #[.int .u8 g] 5)) = wS at *
  refine wpIn_rangeFunc_mid rfl (by omega) (gf := 62) (lb := #[.pointer (some ⟨w.heap.size + 1 + 1 + 1, 0, none⟩), .pointer (some ⟨w.heap.size + 1 + 1, 0, none⟩)]) rfl trivial (enters_of Try.func62 (by kernel_rfl) rfl)
    (list_stops Fence.wide _ trivial rfl (by omega) (w.heap.size + 1 + 1 + 1) (w.heap.size + 1 + 1) b off n c s g HLen.out hn8 wS (by omega) (by omega) (cell_of_block HGS.out.1 rfl) (four_cells HGS.out.2).1 HR.out) KeepB.trans (keepB_b (by simp; omega)) (fun _ => rfl)
    (fun pre W => EnK w (scnC (some ⟨b, off, none⟩) n c s z v z' v' t fl k) (lastP s g pre) W ∧ NoPre s z v z' v' g t pre)
    (fun cd pre W => cd = .exit 0 ∧ ∃ p x, pre = p ++ [x] ∧ NoPre s z v z' v' g t p ∧ s.alim ≤ sepV s z v z' v' (ga (lstL s g) x.1) t ∧ EnK w (scnC (some ⟨b, off, none⟩) n c s z v z' v' t fl k) (ga (lstL s g) x.1) W)
    (fun _ _ _ _ hs hg hr => ⟨hs.1.grown (by omega) hg hr, hs.2⟩)
    (fun _ _ _ _ _ hs hg hr => by obtain ⟨e, p, x, e2, h1, h2, h3⟩ := hs; exact ⟨e, p, x, e2, h1, h2, h3.grown (by omega) hg hr⟩)
    ⟨HK.out, fun i hi => by cases hi⟩
    (fun pre x a' W => (a' = { tmps := #[.agg (scnC (some ⟨b, off, none⟩) n c s z v z' v' t fl k), .int .u8 g, .pointer (some ⟨w.heap.size, 0, none⟩), undef, .pointer (some ⟨w.heap.size + 1, 0, none⟩), .pointer (some ⟨w.heap.size, 0, none⟩), .agg (setC (some ⟨b, off, none⟩) n c s), .int .u8 g,
      .func (.func 62) #[] #[.pointer (some ⟨w.heap.size + 1 + 1 + 1, 0, none⟩), .pointer (some ⟨w.heap.size + 1 + 1, 0, none⟩)], .agg (advCl (ga (lstL s g) x.1)), undef, undef, undef, undef, undef, undef, undef, undef], defers := [] }) ∧
      EnK w (scnC (some ⟨b, off, none⟩) n c s z v z' v' t fl k) (ga (lstL s g) x.1) W ∧ NoPre s z v z' v' g t pre)
    (fun _ _ _ _ _ _ _ hs hg hr => ⟨hs.1, hs.2.1.grown (by omega) hg hr, hs.2.2⟩) ?assign ?body ?done ?stop
  case assign =>
    rintro l pre x W K ⟨hi, hno⟩ hK
    simp only [lVals]
    have f0 : W.frozen? ⟨w.heap.size + 1, 0, none⟩ = false := free_of_block hi.2.1
    have f1 : W.frozen? ⟨w.heap.size + 1, 1, none⟩ = false := free_of_block hi.2.1
    have f2 : W.frozen? ⟨w.heap.size + 1, 2, none⟩ = false := free_of_block hi.2.1
    obtain ⟨c0, c1, c2⟩ := three_old' hi.2.1
    have HI := Lib.hid (And.intro hi (And.intro hno hK))
    clear hi hno hK
    gi_wp2
    refine HI.out.2.2 _ _ ((((KeepsOthers.setCell _ _ _).trans (KeepsOthers.setCell _ _ _)).trans (KeepsOthers.setCell _ _ _)).from _) ((((KeepB.refl _ _).setCell (p := ⟨w.heap.size + 1, 0, none⟩) (by simp; omega) _).setCell (p := ⟨w.heap.size + 1, 1, none⟩) (by simp; omega) _).setCell (p := ⟨w.heap.size + 1, 2, none⟩) (by simp; omega) _) ⟨rfl, HI.out.1.store _, HI.out.2.1⟩
  case body =>
    rintro l pre x a' W ⟨rfl, hi, hno⟩ _
    have hd : 1 ≤ 6 - 1 - 1 := by omega
    have hmx : Try.prog.follows .mixedOrders = true := by kernel_rfl
    have hx1 : x.1 ≤ s.rs.length := by have := x.2; have := HLen.out; omega
    have HX := Lib.hid (And.intro (lst_s (s := s) HG.out x.1) (lst_ok (setE_zero HO.out.set).2 HG.out x.1 hx1))
    have HI := Lib.hid (And.intro hi hno)
    obtain ⟨q0, q1, q2, q3, q4, q5, q6, q7, q8, q9, qa⟩ := scn_cells (w := W.drew) hi.1
    obtain ⟨y0, y1, y2⟩ := three_old' (w := W.drew) hi.2.1
    clear hi hno hx1
    by_cases hh : s.alim ≤ sepV s z v z' v' (ga (lstL s g) x.1) t
    · have hdec : decide (s.alim ≤ sepV s z v z' v' (ga (lstL s g) x.1) t) = true := decide_eq_true hh
      have HH := Lib.hid hh
      clear hh
      gi_wp2
      gi_region_with_o (refine ⟨trivial, ?_⟩; refine (CallsIn.inRound l (callsIn_wide.2 (psep_call (some ⟨b, off, none⟩) n c s z v z' v' t fl k (ga (lstL s g) x.1) _ HO.out.own HO.out.oth HO.out.t HX.out.1 HX.out.2 (by have := HN.out; omega)))).mono ?_; rintro e w3 ⟨rfl, hb3⟩; have p1 := keep1 hb3 q1; have HB3 := Lib.hid hb3; clear hb3)
      all_goals (
        gi_wp2
        have hb3 : Below W.heap.size W w3 := below_undrew HB3.out
        have hsz3 := HI.out.1.2.2.2
        refine ⟨keepsFrom_below hb3, rfl, pre, x, rfl, HI.out.2, HH.out, HI.out.1.keep hb3⟩)
    · have hdec : decide (s.alim ≤ sepV s z v z' v' (ga (lstL s g) x.1) t) = false := decide_eq_false hh
      have HH := Lib.hid hh
      clear hh
      gi_wp2
      gi_region_with_o (refine ⟨trivial, ?_⟩; refine (CallsIn.inRound l (callsIn_wide.2 (psep_call (some ⟨b, off, none⟩) n c s z v z' v' t fl k (ga (lstL s g) x.1) _ HO.out.own HO.out.oth HO.out.t HX.out.1 HX.out.2 (by have := HN.out; omega)))).mono ?_; rintro e w3 ⟨rfl, hb3⟩; have p1 := keep1 hb3 q1; have HB3 := Lib.hid hb3; clear hb3)
      all_goals (
        gi_wp2
        have hb3 : Below W.heap.size W w3 := below_undrew HB3.out
        have hsz3 := HI.out.1.2.2.2
        refine ⟨keepsFrom_below hb3, (KeepB.refl _ _).below (n := W.heap.size) (by simp; omega) hb3, by rw [lastP_snoc]; exact HI.out.1.keep hb3, noPre_snoc HI.out.2 (by have := HH.out; omega)⟩)
  case done =>
    rintro D ys W hD hys ⟨hi, hno⟩ hK
    have hE : lastP s g ys = enA s z v z' v' g t := by
      rw [lastP_all s g hys, enA_last (show NoTo s z v z' v' g t (s.rs.length + 1) from fun i hi' => hno i (by rw [hys]; exact List.mem_range.2 (by rw [← HLen.out]; exact hi'))), HLen.out]
    rw [hE] at hi
    have f0 : W.frozen? ⟨w.heap.size + 1, 0, none⟩ = false := free_of_block hi.2.1
    have f1 : W.frozen? ⟨w.heap.size + 1, 1, none⟩ = false := free_of_block hi.2.1
    have f2 : W.frozen? ⟨w.heap.size + 1, 2, none⟩ = false := free_of_block hi.2.1
    obtain ⟨c0, c1, c2⟩ := three_old' hi.2.1
    have hi2 := hi.store (enA s z v z' v' g t)
    have hK2 := (((KeepsOthers.setCell W ⟨w.heap.size + 1, 0, none⟩ (.int .u8 (enA s z v z' v' g t).s)).trans (KeepsOthers.setCell _ ⟨w.heap.size + 1, 1, none⟩ (.int .i64 (enA s z v z' v' g t).r))).trans (KeepsOthers.setCell _ ⟨w.heap.size + 1, 2, none⟩ (.bool (enA s z v z' v' g t).k))).same D _ hK rfl
    clear hi hno hys hE
    gi_wp2
    refine ⟨by simp, .inl ⟨_, _, rfl, run_takeDeferred hK2, ?_⟩⟩
    have hi3 := hi2.grown (B := wS.heap.size) (by omega) (grownBy_putObj' _ D (.deferred none)) (fun r e => by cases e; exact ⟨hD, _, hK2, rfl⟩)
    obtain ⟨z0, z1, z2⟩ := three_old' hi3.2.1
    refine ⟨.agg #[.int .u8 (enA s z v z' v' g t).s, .int .i64 (enA s z v z' v' g t).r, .bool (enA s z v z' v' g t).k], ?_, rfl, hi3.2.2.1⟩
    simp [results, Try.f48, go_sem, z0, z1, z2]
  case stop =>
    rintro D cd pre W hD hpre ⟨rfl, p, x, rfl, hno, hh, hi⟩ hK
    have hE : ga (lstL s g) x.1 = enA s z v z' v' g t := by
      obtain ⟨q, hq⟩ := hpre
      rw [lposs_snoc] at hq
      obtain ⟨q, rfl⟩ : ∃ j, q = j + 1 := ⟨q - 1, by have := congrArg List.length hq; simp at this; omega⟩
      rw [List.range_succ] at hq
      obtain ⟨h1, h2⟩ := List.append_inj' hq rfl
      have h3 : x.1 = q := by simpa using h2
      have hx1 : x.1 ≤ s.rs.length := by have := x.2; have := HLen.out; omega
      exact (enA_hit hx1 (fun i hi' => hno i (by rw [h1]; exact List.mem_range.2 (by omega))) hh).symm
    rw [hE] at hi
    have f0 : W.frozen? ⟨w.heap.size + 1, 0, none⟩ = false := free_of_block hi.2.1
    have f1 : W.frozen? ⟨w.heap.size + 1, 1, none⟩ = false := free_of_block hi.2.1
    have f2 : W.frozen? ⟨w.heap.size + 1, 2, none⟩ = false := free_of_block hi.2.1
    obtain ⟨c0, c1, c2⟩ := three_old' hi.2.1
    have hi2 := hi.store (enA s z v z' v' g t)
    have hK2 := (((KeepsOthers.setCell W ⟨w.heap.size + 1, 0, none⟩ (.int .u8 (enA s z v z' v' g t).s)).trans (KeepsOthers.setCell _ ⟨w.heap.size + 1, 1, none⟩ (.int .i64 (enA s z v z' v' g t).r))).trans (KeepsOthers.setCell _ ⟨w.heap.size + 1, 2, none⟩ (.bool (enA s z v z' v' g t).k))).same D _ hK rfl
    clear hi hno hh hE
    gi_wp2
    refine ⟨by simp, .inl ⟨_, _, rfl, run_takeDeferred hK2, ?_⟩⟩
    have hi3 := hi2.grown (B := wS.heap.size) (by omega) (grownBy_putObj' _ D (.deferred none)) (fun r e => by cases e; exact ⟨hD, _, hK2, rfl⟩)
    obtain ⟨z0, z1, z2⟩ := three_old' hi3.2.1
    refine ⟨.agg #[.int .u8 (enA s z v z' v' g t).s, .int .i64 (enA s z v z' v' g t).r, .bool (enA s z v z' v' g t).k], ?_, rfl, hi3.2.2.1⟩
    simp [results, Try.f48, go_sem, z0, z1, z2]
end Go.Proofs.Ytfgalaalopkclaa
