/-
  Layer 38 (rules): the law's awake. Printed by genRulesP.py.
-/
import Derived.Test.YtfgalaalopkclaaRulesO
namespace Go.Proofs.Ytfgalaalopkclaa
open Go.RowKit PlaneMath PilotMath RulesMath MyHeap MyOwn MyCopy

theorem ch_ex0 : chR exS 5000 0 5100 0 25 0 0 = ⟨2, 25, false⟩ ∧ chE exS 5000 0 5100 0 25 0 0 = 0 := ⟨by kernel_rfl, by kernel_rfl⟩
theorem ch_ex2 : chR exS 5000 0 5100 0 25 0 2 = ⟨1, 42, false⟩ ∧ chE exS 5000 0 5100 0 25 0 2 = 0 := ⟨by kernel_rfl, by kernel_rfl⟩
/-- In awake: the two states, and nothing of w0 written. -/
def AwK (w0 : World) (W : World) : Prop :=
  W.heap[w0.heap.size]? = some (.cells #[.int .i64 5000, .int .i64 0] 26 (0, 0)) ∧ W.heap[w0.heap.size + 1]? = some (.cells #[.int .i64 5100, .int .i64 0] 26 (0, 0)) ∧ Below w0.heap.size w0 W
theorem AwK.keep {w0 W W' : World} (h : AwK w0 W) (hb : Below W.heap.size W W') : AwK w0 W' := ⟨keepO hb h.1, keepO hb h.2.1, h.2.2.trans (hb.mono h.2.2.size)⟩
theorem AwK.new {w0 W : World} (h : AwK w0 W) (o : Obj) : AwK w0 (W.alloc o) := h.keep (below_alloc W o)
theorem AwK.lt {w0 W : World} (h : AwK w0 W) : w0.heap.size + 1 < W.heap.size := (Array.getElem?_eq_some_iff.1 h.2.1).1
theorem AwK.at {w0 W : World} (h : AwK w0 W) : (W.cell? ⟨w0.heap.size, 0, none⟩ = some (.int .i64 5000) ∧ W.cell? ⟨w0.heap.size, 1, none⟩ = some (.int .i64 0)) ∧ (W.cell? ⟨w0.heap.size + 1, 0, none⟩ = some (.int .i64 5100) ∧ W.cell? ⟨w0.heap.size + 1, 1, none⟩ = some (.int .i64 0)) :=
  ⟨⟨(two_old h.1).1, (two_old h.1).2.1⟩, ⟨(two_old h.2.1).1, (two_old h.2.1).2.1⟩⟩
theorem AwK.only {w0 W W' : World} (h : AwK w0 W) {b : Nat} (hO : Only b W W') (hb : w0.heap.size + 1 < b) : AwK w0 W' := ⟨hO.keeps h.1 (by omega), hO.keeps h.2.1 (by omega), h.2.2.trans (hO.below (by omega) h.2.2.size)⟩
theorem AwK.put {w0 W : World} (h : AwK w0 W) {b : Nat} (hb : w0.heap.size + 1 < b) (x y z : Value) : AwK w0 (((W.setCell ⟨b, 0, none⟩ x).setCell ⟨b, 1, none⟩ y).setCell ⟨b, 2, none⟩ z) :=
  h.only ((((Only.refl b W).setCell 0 x).setCell 1 y).setCell 2 z) hb
def advO (x : Adv) : Obj := .cells #[.int .u8 x.s, .int .i64 x.r, .bool x.k] 30 (0, 0)
theorem adv_put {W : World} {b : Nat} {y : Adv} (h : W.heap[b]? = some (advO y)) (x : Adv) : (((W.setCell ⟨b, 0, none⟩ (.int .u8 x.s)).setCell ⟨b, 1, none⟩ (.int .i64 x.r)).setCell ⟨b, 2, none⟩ (.bool x.k)).heap[b]? = some (advO x) := block_setCell (block_setCell (block_setCell h))

theorem free3 {W : World} {b : Nat} {y : Adv} (h : W.heap[b]? = some (advO y)) : W.frozen? ⟨b, 0, none⟩ = false ∧ W.frozen? ⟨b, 1, none⟩ = false ∧ W.frozen? ⟨b, 2, none⟩ = false := ⟨free_of_block h, free_of_block h, free_of_block h⟩
/-- The same, and the first answer's block. -/
def AwL (w0 : World) (bA : Nat) (W : World) : Prop := AwK w0 W ∧ w0.heap.size + 1 < bA ∧ W.heap[bA]? = some (advO ⟨2, 25, false⟩)
theorem AwL.keep {w0 W W' : World} {bA : Nat} (h : AwL w0 bA W) (hb : Below W.heap.size W W') : AwL w0 bA W' := ⟨h.1.keep hb, h.2.1, keepO hb h.2.2⟩
theorem AwL.new {w0 W : World} {bA : Nat} (h : AwL w0 bA W) (o : Obj) : AwL w0 bA (W.alloc o) := h.keep (below_alloc W o)
theorem AwL.lt {w0 W : World} {bA : Nat} (h : AwL w0 bA W) : bA < W.heap.size := (Array.getElem?_eq_some_iff.1 h.2.2).1
theorem AwL.at {w0 W : World} {bA : Nat} (h : AwL w0 bA W) : (W.cell? ⟨w0.heap.size, 0, none⟩ = some (.int .i64 5000) ∧ W.cell? ⟨w0.heap.size, 1, none⟩ = some (.int .i64 0)) ∧ (W.cell? ⟨w0.heap.size + 1, 0, none⟩ = some (.int .i64 5100) ∧ W.cell? ⟨w0.heap.size + 1, 1, none⟩ = some (.int .i64 0)) := h.1.at
theorem AwL.put {w0 W : World} {bA : Nat} (h : AwL w0 bA W) {b : Nat} (hb : bA < b) (x y z : Value) : AwL w0 bA (((W.setCell ⟨b, 0, none⟩ x).setCell ⟨b, 1, none⟩ y).setCell ⟨b, 2, none⟩ z) :=
  ⟨h.1.put (Nat.lt_trans h.2.1 hb) x y z, h.2.1, ((((Only.refl b W).setCell 0 x).setCell 1 y).setCell 2 z).keeps h.2.2 (by omega)⟩
/-- Between the two answers, and behind them. -/
def AwR (w0 : World) (v : Value) (W : World) : Prop := ∃ bA, v = .pointer (some ⟨bA, 0, none⟩) ∧ AwL w0 bA W
def AwS (w0 : World) (bA : Nat) (v : Value) (W : World) : Prop := ∃ bB, v = .pointer (some ⟨bB, 0, none⟩) ∧ AwL w0 bA W ∧ W.heap[bB]? = some (advO ⟨1, 42, false⟩)
theorem ap1 : sepR exS 5000 0 5100 0 ⟨2, 25, false⟩ 25 = 548 ∧ sepE exS 5000 0 5100 0 ⟨2, 25, false⟩ 25 = 0 := ⟨by kernel_rfl, by kernel_rfl⟩
theorem ap2 : sepR exS 5000 0 5100 0 ⟨2, 0, true⟩ 25 = 100 ∧ sepE exS 5000 0 5100 0 ⟨2, 0, true⟩ 25 = 0 := ⟨by kernel_rfl, by kernel_rfl⟩
theorem ap3 : sepR exS 5000 0 5100 0 ⟨2, 42, false⟩ 25 = 808 ∧ sepE exS 5000 0 5100 0 ⟨2, 42, false⟩ 25 = 0 := ⟨by kernel_rfl, by kernel_rfl⟩
theorem ap4 : sepR exS 5000 0 5100 0 ⟨1, 42, false⟩ 25 = 608 ∧ sepE exS 5000 0 5100 0 ⟨1, 42, false⟩ 25 = 0 := ⟨by kernel_rfl, by kernel_rfl⟩
theorem ap5 : sepR exS 5000 0 5100 0 ⟨1, 25, false⟩ 25 = 348 ∧ sepE exS 5000 0 5100 0 ⟨1, 25, false⟩ 25 = 0 := ⟨by kernel_rfl, by kernel_rfl⟩

set_option maxRecDepth 100000 in
set_option maxHeartbeats 8000000 in
theorem awake_call (w : World) : Calls Try.prog 11 #[] w (BPost true w) := by
  have H0 := Lib.hid ch_ex0
  have H2 := Lib.hid ch_ex2
  go_enter Try.func11, Try.ntmps11
  go_wp2_with fail
  have K : AwK w ((w.alloc (.cells #[.int .i64 5000, .int .i64 0] 26)).alloc (.cells #[.int .i64 5100, .int .i64 0] 26)) :=
    ⟨block_alloc (block_new _ _ rfl), block_new _ _ (by simp), (below_alloc _ _).alloc (by simp) _⟩
  generalize (w.alloc (.cells #[.int .i64 5000, .int .i64 0] 26)).alloc (.cells #[.int .i64 5100, .int .i64 0] 26) = w1 at *
  replace K := K.keep ((Below.refl w1.heap.size w1).drew)
  have hl1 : w.heap.size + 1 < w1.heap.size := K.lt
  go_upto_region 3 with fail
  go_cut [3, 4] (fun x3 x4 wx => AwR w x3 wx ∧ x4 = .int .i64 0)
  case first =>
    refine wp_region_held_drew (S := (fun w' => (w'.cell? ⟨w.heap.size, 0, none⟩ = some (.int .i64 5000) ∧ w'.cell? ⟨w.heap.size, 1, none⟩ = some (.int .i64 0)) ∧ (w'.cell? ⟨w.heap.size + 1, 0, none⟩ = some (.int .i64 5100) ∧ w'.cell? ⟨w.heap.size + 1, 1, none⟩ = some (.int .i64 0)))) (by kernel_rfl) (by (try dsimp only); (first | exact K.at | exact (K.new _).at | exact (K.put (by have := K.lt; omega) _ _ _).at)) (fun hHeld => ?_)
    refine MyHeld.take 1 (v := ?_) (.s .z) (by kernel_rfl) (by kernel_rfl) (by kernel_rfl) (fun _ _ _ h => h) (by rfl) (by assumption) ?_ ?_
    rotate_left
    · intro w hSw; (try dsimp only at hSw); go_simp; (try with_reducible rfl)
    try simp only [Act.put, List.setIfInBounds_toArray, List.set_cons_zero, List.set_cons_succ]
    refine MyHeld.take 2 (v := ?_) (.s (.s .z)) (by kernel_rfl) (by kernel_rfl) (by kernel_rfl) (fun _ _ _ h => h) (by rfl) (by assumption) ?_ ?_
    rotate_left
    · intro w hSw; (try dsimp only at hSw); go_simp; (try with_reducible rfl)
    try simp only [Act.put, List.setIfInBounds_toArray, List.set_cons_zero, List.set_cons_succ]
    refine wpAnyH_ready (rs := [0, 7]) (by kernel_rfl) (by simp) ?_
    refine (MyHeld.next 0 .z (fun Kq hKq => ?_) (MyHeld.next 7 (.s (.s (.s (.s (.s (.s (.s .z))))))) (fun Kq hKq => ?_) AllReadyH.nil))
    focus
      go_simp
      (go_at_call 29; refine (example_call _).mono ?_; rintro e w3 ⟨bx, rfl, HI, hb3⟩; have hl3 : w1.heap.size ≤ w3.heap.size := (by have := hb3.size; simp at this; omega); (try have ZA : w3.heap[w1.heap.size]? = some (advO adv0) := keepO hb3 (block_new _ _ (by simp))); (first | replace K := K.keep hb3 | replace K := (K.new _).keep hb3); clear hb3)
      go_wp2_with fail
      refine hKq.out _ _ (by (try dsimp only); (first | exact K.at | exact (K.new _).at | exact (K.put (by have := K.lt; omega) _ _ _).at)) (fun hHeld' => ?_)
      clear hKq Kq hHeld; have hHeld := hHeld'; clear hHeld'
      try simp only [Act.put, List.setIfInBounds_toArray, List.set_cons_zero, List.set_cons_succ]
      refine wpAnyH_ready (rs := [3, 7]) (by kernel_rfl) (by simp) ?_
      refine (MyHeld.next 3 (.s (.s (.s .z))) (fun Kq hKq => ?_) (MyHeld.next 7 (.s (.s (.s (.s (.s (.s (.s .z))))))) (fun Kq hKq => ?_) AllReadyH.nil))
      focus
        go_simp
        (go_at_call 30; refine (pChoose_call _ _ 2 _ 5000 0 5100 0 25 0 0 _ (by first | exact HI | exact HI.below (below_alloc _ _))).mono ?_; rintro e w4 ⟨rfl, hb4⟩; rw [H0.out.1, H0.out.2]; (first | replace ZA := keepO hb4 ZA | have ZA : w4.heap[w3.heap.size]? = some (advO adv0) := keepO hb4 (block_new _ _ (by simp)) | skip); (try (have ZB := three_old' ZA; have ZF := free3 ZA; obtain ⟨c0, c1, c2⟩ := ZB; obtain ⟨f0, f1, f2⟩ := ZF)); (first | replace K := K.keep hb4 | replace K := (K.new _).keep hb4); clear hb4 HI)
        go_wp2_with fail
        refine hKq.out _ _ (by (try dsimp only); (first | exact K.at | exact (K.new _).at | exact (K.put (by have := K.lt; omega) _ _ _).at)) (fun hHeld' => ?_)
        clear hKq Kq hHeld; have hHeld := hHeld'; clear hHeld'
        try simp only [Act.put, List.setIfInBounds_toArray, List.set_cons_zero, List.set_cons_succ]
        refine MyHeld.take 4 (v := ?_) (.s (.s (.s (.s .z)))) (by kernel_rfl) (by kernel_rfl) (by kernel_rfl) (fun _ _ _ h => h) (by rfl) (by assumption) ?_ ?_
        rotate_left
        · intro w hSw; (try dsimp only at hSw); go_simp; (try with_reducible rfl)
        try simp only [Act.put, List.setIfInBounds_toArray, List.set_cons_zero, List.set_cons_succ]
        refine MyHeld.take 5 (v := ?_) (.s (.s (.s (.s (.s .z))))) (by kernel_rfl) (by kernel_rfl) (by kernel_rfl) (fun _ _ _ h => h) (by rfl) (by assumption) ?_ ?_
        rotate_left
        · intro w hSw; (try dsimp only at hSw); go_simp; (try with_reducible rfl)
        try simp only [Act.put, List.setIfInBounds_toArray, List.set_cons_zero, List.set_cons_succ]
        refine MyHeld.take 6 (v := ?_) (.s (.s (.s (.s (.s (.s .z)))))) (by kernel_rfl) (by kernel_rfl) (by kernel_rfl) (fun _ _ _ h => h) (by rfl) (by assumption) ?_ ?_
        rotate_left
        · intro w hSw; (try dsimp only at hSw); go_simp; (try with_reducible rfl)
        try simp only [Act.put, List.setIfInBounds_toArray, List.set_cons_zero, List.set_cons_succ]
        refine wpAnyH_ready (rs := [7]) (by kernel_rfl) (by simp) ?_
        refine (MyHeld.next 7 (.s (.s (.s (.s (.s (.s (.s .z))))))) (fun Kq hKq => ?_) AllReadyH.nil)
        go_simp
        refine hKq.out _ _ (by (try dsimp only); (first | exact K.at | exact (K.new _).at | exact (K.put (by have := K.lt; omega) _ _ _).at)) (fun hHeld' => ?_)
        clear hKq Kq hHeld; have hHeld := hHeld'; clear hHeld'
        try simp only [Act.put, List.setIfInBounds_toArray, List.set_cons_zero, List.set_cons_succ]
        refine wpAnyH_ready (rs := [8]) (by kernel_rfl) (by simp) ?_
        refine (MyHeld.next 8 (.s (.s (.s (.s (.s (.s (.s (.s .z)))))))) (fun Kq hKq => ?_) AllReadyH.nil)
        go_simp
        refine hKq.out _ _ (by (try dsimp only); (first | exact K.at | exact (K.new _).at | exact (K.put (by have := K.lt; omega) _ _ _).at)) (fun hHeld' => ?_)
        clear hKq Kq hHeld; have hHeld := hHeld'; clear hHeld'
        try simp only [Act.put, List.setIfInBounds_toArray, List.set_cons_zero, List.set_cons_succ]
        refine MyHeld.take 9 (v := ?_) (.s (.s (.s (.s (.s (.s (.s (.s (.s .z))))))))) (by kernel_rfl) (by kernel_rfl) (by kernel_rfl) (fun _ _ _ h => h) (by rfl) (by assumption) ?_ ?_
        rotate_left
        · intro w hSw; (try dsimp only at hSw); go_simp; (try with_reducible rfl)
        try simp only [Act.put, List.setIfInBounds_toArray, List.set_cons_zero, List.set_cons_succ]
        refine wpAnyH_done (by kernel_rfl) ?_ _
      rotate_left 1
      focus
        go_simp
        refine hKq.out _ _ (by (try dsimp only); (first | exact K.at | exact (K.new _).at | exact (K.put (by have := K.lt; omega) _ _ _).at)) (fun hHeld' => ?_)
        clear hKq Kq hHeld; have hHeld := hHeld'; clear hHeld'
        try simp only [Act.put, List.setIfInBounds_toArray, List.set_cons_zero, List.set_cons_succ]
        refine wpAnyH_ready (rs := [3]) (by kernel_rfl) (by simp) ?_
        refine (MyHeld.next 3 (.s (.s (.s .z))) (fun Kq hKq => ?_) AllReadyH.nil)
        go_simp
        (go_at_call 30; refine (pChoose_call _ _ 2 _ 5000 0 5100 0 25 0 0 _ (by first | exact HI | exact HI.below (below_alloc _ _))).mono ?_; rintro e w4 ⟨rfl, hb4⟩; rw [H0.out.1, H0.out.2]; (first | replace ZA := keepO hb4 ZA | have ZA : w4.heap[w3.heap.size]? = some (advO adv0) := keepO hb4 (block_new _ _ (by simp)) | skip); (try (have ZB := three_old' ZA; have ZF := free3 ZA; obtain ⟨c0, c1, c2⟩ := ZB; obtain ⟨f0, f1, f2⟩ := ZF)); (first | replace K := K.keep hb4 | replace K := (K.new _).keep hb4); clear hb4 HI)
        go_wp2_with fail
        refine hKq.out _ _ (by (try dsimp only); (first | exact K.at | exact (K.new _).at | exact (K.put (by have := K.lt; omega) _ _ _).at)) (fun hHeld' => ?_)
        clear hKq Kq hHeld; have hHeld := hHeld'; clear hHeld'
        try simp only [Act.put, List.setIfInBounds_toArray, List.set_cons_zero, List.set_cons_succ]
        refine MyHeld.take 4 (v := ?_) (.s (.s (.s (.s .z)))) (by kernel_rfl) (by kernel_rfl) (by kernel_rfl) (fun _ _ _ h => h) (by rfl) (by assumption) ?_ ?_
        rotate_left
        · intro w hSw; (try dsimp only at hSw); go_simp; (try with_reducible rfl)
        try simp only [Act.put, List.setIfInBounds_toArray, List.set_cons_zero, List.set_cons_succ]
        refine MyHeld.take 5 (v := ?_) (.s (.s (.s (.s (.s .z))))) (by kernel_rfl) (by kernel_rfl) (by kernel_rfl) (fun _ _ _ h => h) (by rfl) (by assumption) ?_ ?_
        rotate_left
        · intro w hSw; (try dsimp only at hSw); go_simp; (try with_reducible rfl)
        try simp only [Act.put, List.setIfInBounds_toArray, List.set_cons_zero, List.set_cons_succ]
        refine MyHeld.take 6 (v := ?_) (.s (.s (.s (.s (.s (.s .z)))))) (by kernel_rfl) (by kernel_rfl) (by kernel_rfl) (fun _ _ _ h => h) (by rfl) (by assumption) ?_ ?_
        rotate_left
        · intro w hSw; (try dsimp only at hSw); go_simp; (try with_reducible rfl)
        try simp only [Act.put, List.setIfInBounds_toArray, List.set_cons_zero, List.set_cons_succ]
        refine wpAnyH_ready (rs := [8]) (by kernel_rfl) (by simp) ?_
        refine (MyHeld.next 8 (.s (.s (.s (.s (.s (.s (.s (.s .z)))))))) (fun Kq hKq => ?_) AllReadyH.nil)
        go_simp
        refine hKq.out _ _ (by (try dsimp only); (first | exact K.at | exact (K.new _).at | exact (K.put (by have := K.lt; omega) _ _ _).at)) (fun hHeld' => ?_)
        clear hKq Kq hHeld; have hHeld := hHeld'; clear hHeld'
        try simp only [Act.put, List.setIfInBounds_toArray, List.set_cons_zero, List.set_cons_succ]
        refine MyHeld.take 9 (v := ?_) (.s (.s (.s (.s (.s (.s (.s (.s (.s .z))))))))) (by kernel_rfl) (by kernel_rfl) (by kernel_rfl) (fun _ _ _ h => h) (by rfl) (by assumption) ?_ ?_
        rotate_left
        · intro w hSw; (try dsimp only at hSw); go_simp; (try with_reducible rfl)
        try simp only [Act.put, List.setIfInBounds_toArray, List.set_cons_zero, List.set_cons_succ]
        refine wpAnyH_done (by kernel_rfl) ?_ _
      rotate_left 1
    rotate_left 2
    focus
      go_simp
      refine hKq.out _ _ (by (try dsimp only); (first | exact K.at | exact (K.new _).at | exact (K.put (by have := K.lt; omega) _ _ _).at)) (fun hHeld' => ?_)
      clear hKq Kq hHeld; have hHeld := hHeld'; clear hHeld'
      try simp only [Act.put, List.setIfInBounds_toArray, List.set_cons_zero, List.set_cons_succ]
      refine wpAnyH_ready (rs := [0]) (by kernel_rfl) (by simp) ?_
      refine (MyHeld.next 0 .z (fun Kq hKq => ?_) AllReadyH.nil)
      go_simp
      (go_at_call 29; refine (example_call _).mono ?_; rintro e w3 ⟨bx, rfl, HI, hb3⟩; have hl3 : w1.heap.size ≤ w3.heap.size := (by have := hb3.size; simp at this; omega); (try have ZA : w3.heap[w1.heap.size]? = some (advO adv0) := keepO hb3 (block_new _ _ (by simp))); (first | replace K := K.keep hb3 | replace K := (K.new _).keep hb3); clear hb3)
      go_wp2_with fail
      refine hKq.out _ _ (by (try dsimp only); (first | exact K.at | exact (K.new _).at | exact (K.put (by have := K.lt; omega) _ _ _).at)) (fun hHeld' => ?_)
      clear hKq Kq hHeld; have hHeld := hHeld'; clear hHeld'
      try simp only [Act.put, List.setIfInBounds_toArray, List.set_cons_zero, List.set_cons_succ]
      refine wpAnyH_ready (rs := [3]) (by kernel_rfl) (by simp) ?_
      refine (MyHeld.next 3 (.s (.s (.s .z))) (fun Kq hKq => ?_) AllReadyH.nil)
      go_simp
      (go_at_call 30; refine (pChoose_call _ _ 2 _ 5000 0 5100 0 25 0 0 _ (by first | exact HI | exact HI.below (below_alloc _ _))).mono ?_; rintro e w4 ⟨rfl, hb4⟩; rw [H0.out.1, H0.out.2]; (first | replace ZA := keepO hb4 ZA | have ZA : w4.heap[w3.heap.size]? = some (advO adv0) := keepO hb4 (block_new _ _ (by simp)) | skip); (try (have ZB := three_old' ZA; have ZF := free3 ZA; obtain ⟨c0, c1, c2⟩ := ZB; obtain ⟨f0, f1, f2⟩ := ZF)); (first | replace K := K.keep hb4 | replace K := (K.new _).keep hb4); clear hb4 HI)
      go_wp2_with fail
      refine hKq.out _ _ (by (try dsimp only); (first | exact K.at | exact (K.new _).at | exact (K.put (by have := K.lt; omega) _ _ _).at)) (fun hHeld' => ?_)
      clear hKq Kq hHeld; have hHeld := hHeld'; clear hHeld'
      try simp only [Act.put, List.setIfInBounds_toArray, List.set_cons_zero, List.set_cons_succ]
      refine MyHeld.take 4 (v := ?_) (.s (.s (.s (.s .z)))) (by kernel_rfl) (by kernel_rfl) (by kernel_rfl) (fun _ _ _ h => h) (by rfl) (by assumption) ?_ ?_
      rotate_left
      · intro w hSw; (try dsimp only at hSw); go_simp; (try with_reducible rfl)
      try simp only [Act.put, List.setIfInBounds_toArray, List.set_cons_zero, List.set_cons_succ]
      refine MyHeld.take 5 (v := ?_) (.s (.s (.s (.s (.s .z))))) (by kernel_rfl) (by kernel_rfl) (by kernel_rfl) (fun _ _ _ h => h) (by rfl) (by assumption) ?_ ?_
      rotate_left
      · intro w hSw; (try dsimp only at hSw); go_simp; (try with_reducible rfl)
      try simp only [Act.put, List.setIfInBounds_toArray, List.set_cons_zero, List.set_cons_succ]
      refine MyHeld.take 6 (v := ?_) (.s (.s (.s (.s (.s (.s .z)))))) (by kernel_rfl) (by kernel_rfl) (by kernel_rfl) (fun _ _ _ h => h) (by rfl) (by assumption) ?_ ?_
      rotate_left
      · intro w hSw; (try dsimp only at hSw); go_simp; (try with_reducible rfl)
      try simp only [Act.put, List.setIfInBounds_toArray, List.set_cons_zero, List.set_cons_succ]
      refine wpAnyH_ready (rs := [8]) (by kernel_rfl) (by simp) ?_
      refine (MyHeld.next 8 (.s (.s (.s (.s (.s (.s (.s (.s .z)))))))) (fun Kq hKq => ?_) AllReadyH.nil)
      go_simp
      refine hKq.out _ _ (by (try dsimp only); (first | exact K.at | exact (K.new _).at | exact (K.put (by have := K.lt; omega) _ _ _).at)) (fun hHeld' => ?_)
      clear hKq Kq hHeld; have hHeld := hHeld'; clear hHeld'
      try simp only [Act.put, List.setIfInBounds_toArray, List.set_cons_zero, List.set_cons_succ]
      refine MyHeld.take 9 (v := ?_) (.s (.s (.s (.s (.s (.s (.s (.s (.s .z))))))))) (by kernel_rfl) (by kernel_rfl) (by kernel_rfl) (fun _ _ _ h => h) (by rfl) (by assumption) ?_ ?_
      rotate_left
      · intro w hSw; (try dsimp only at hSw); go_simp; (try with_reducible rfl)
      try simp only [Act.put, List.setIfInBounds_toArray, List.set_cons_zero, List.set_cons_succ]
      refine wpAnyH_done (by kernel_rfl) ?_ _
    rotate_left 1
    all_goals go_wp2_with fail
    all_goals go_meet
    all_goals first
      | exact ⟨⟨w4.heap.size, rfl, K.new _, K.lt, block_new _ _ rfl⟩, rfl⟩
      | exact ⟨⟨w3.heap.size, rfl, K.put (by omega) _ _ _, by omega, adv_put ZA ⟨2, 25, false⟩⟩, rfl⟩
      | exact ⟨⟨w1.heap.size, rfl, K.put (by omega) _ _ _, by omega, adv_put ZA ⟨2, 25, false⟩⟩, rfl⟩
  case rest =>
    clear K
    obtain ⟨⟨bA, rfl, K⟩, rfl⟩ := hcut
    have hl0 : bA < wc.heap.size := K.lt
    replace K := K.keep ((Below.refl wc.heap.size wc).drew)
    go_wp2_with fail
    go_upto_region 4 with fail
    go_cut [5, 6] (fun x5 x6 wx => AwS w bA x5 wx ∧ x6 = .int .i64 0)
    case first =>
      refine wp_region_held_drew (S := (fun w' => (w'.cell? ⟨w.heap.size, 0, none⟩ = some (.int .i64 5000) ∧ w'.cell? ⟨w.heap.size, 1, none⟩ = some (.int .i64 0)) ∧ (w'.cell? ⟨w.heap.size + 1, 0, none⟩ = some (.int .i64 5100) ∧ w'.cell? ⟨w.heap.size + 1, 1, none⟩ = some (.int .i64 0)))) (by kernel_rfl) (by (try dsimp only); (first | exact K.at | exact (K.new _).at | exact (K.put (by have := K.lt; omega) _ _ _).at)) (fun hHeld => ?_)
      refine MyHeld.take 1 (v := ?_) (.s .z) (by kernel_rfl) (by kernel_rfl) (by kernel_rfl) (fun _ _ _ h => h) (by rfl) (by assumption) ?_ ?_
      rotate_left
      · intro w hSw; (try dsimp only at hSw); go_simp; (try with_reducible rfl)
      try simp only [Act.put, List.setIfInBounds_toArray, List.set_cons_zero, List.set_cons_succ]
      refine MyHeld.take 2 (v := ?_) (.s (.s .z)) (by kernel_rfl) (by kernel_rfl) (by kernel_rfl) (fun _ _ _ h => h) (by rfl) (by assumption) ?_ ?_
      rotate_left
      · intro w hSw; (try dsimp only at hSw); go_simp; (try with_reducible rfl)
      try simp only [Act.put, List.setIfInBounds_toArray, List.set_cons_zero, List.set_cons_succ]
      refine wpAnyH_ready (rs := [0, 7]) (by kernel_rfl) (by simp) ?_
      refine (MyHeld.next 0 .z (fun Kq hKq => ?_) (MyHeld.next 7 (.s (.s (.s (.s (.s (.s (.s .z))))))) (fun Kq hKq => ?_) AllReadyH.nil))
      focus
        go_simp
        (go_at_call 29; refine (example_call _).mono ?_; rintro e w3 ⟨bx, rfl, HI, hb3⟩; have hl3 : wc.heap.size ≤ w3.heap.size := (by have := hb3.size; simp at this; omega); (try have ZA : w3.heap[wc.heap.size]? = some (advO adv0) := keepO hb3 (block_new _ _ (by simp))); (first | replace K := K.keep hb3 | replace K := (K.new _).keep hb3); clear hb3)
        go_wp2_with fail
        refine hKq.out _ _ (by (try dsimp only); (first | exact K.at | exact (K.new _).at | exact (K.put (by have := K.lt; omega) _ _ _).at)) (fun hHeld' => ?_)
        clear hKq Kq hHeld; have hHeld := hHeld'; clear hHeld'
        try simp only [Act.put, List.setIfInBounds_toArray, List.set_cons_zero, List.set_cons_succ]
        refine wpAnyH_ready (rs := [3, 7]) (by kernel_rfl) (by simp) ?_
        refine (MyHeld.next 3 (.s (.s (.s .z))) (fun Kq hKq => ?_) (MyHeld.next 7 (.s (.s (.s (.s (.s (.s (.s .z))))))) (fun Kq hKq => ?_) AllReadyH.nil))
        focus
          go_simp
          (go_at_call 30; refine (pChoose_call _ _ 2 _ 5000 0 5100 0 25 0 2 _ (by first | exact HI | exact HI.below (below_alloc _ _))).mono ?_; rintro e w4 ⟨rfl, hb4⟩; rw [H2.out.1, H2.out.2]; (first | replace ZA := keepO hb4 ZA | have ZA : w4.heap[w3.heap.size]? = some (advO adv0) := keepO hb4 (block_new _ _ (by simp)) | skip); (try (have ZB := three_old' ZA; have ZF := free3 ZA; obtain ⟨c0, c1, c2⟩ := ZB; obtain ⟨f0, f1, f2⟩ := ZF)); (first | replace K := K.keep hb4 | replace K := (K.new _).keep hb4); clear hb4 HI)
          go_wp2_with fail
          refine hKq.out _ _ (by (try dsimp only); (first | exact K.at | exact (K.new _).at | exact (K.put (by have := K.lt; omega) _ _ _).at)) (fun hHeld' => ?_)
          clear hKq Kq hHeld; have hHeld := hHeld'; clear hHeld'
          try simp only [Act.put, List.setIfInBounds_toArray, List.set_cons_zero, List.set_cons_succ]
          refine MyHeld.take 4 (v := ?_) (.s (.s (.s (.s .z)))) (by kernel_rfl) (by kernel_rfl) (by kernel_rfl) (fun _ _ _ h => h) (by rfl) (by assumption) ?_ ?_
          rotate_left
          · intro w hSw; (try dsimp only at hSw); go_simp; (try with_reducible rfl)
          try simp only [Act.put, List.setIfInBounds_toArray, List.set_cons_zero, List.set_cons_succ]
          refine MyHeld.take 5 (v := ?_) (.s (.s (.s (.s (.s .z))))) (by kernel_rfl) (by kernel_rfl) (by kernel_rfl) (fun _ _ _ h => h) (by rfl) (by assumption) ?_ ?_
          rotate_left
          · intro w hSw; (try dsimp only at hSw); go_simp; (try with_reducible rfl)
          try simp only [Act.put, List.setIfInBounds_toArray, List.set_cons_zero, List.set_cons_succ]
          refine MyHeld.take 6 (v := ?_) (.s (.s (.s (.s (.s (.s .z)))))) (by kernel_rfl) (by kernel_rfl) (by kernel_rfl) (fun _ _ _ h => h) (by rfl) (by assumption) ?_ ?_
          rotate_left
          · intro w hSw; (try dsimp only at hSw); go_simp; (try with_reducible rfl)
          try simp only [Act.put, List.setIfInBounds_toArray, List.set_cons_zero, List.set_cons_succ]
          refine wpAnyH_ready (rs := [7]) (by kernel_rfl) (by simp) ?_
          refine (MyHeld.next 7 (.s (.s (.s (.s (.s (.s (.s .z))))))) (fun Kq hKq => ?_) AllReadyH.nil)
          go_simp
          refine hKq.out _ _ (by (try dsimp only); (first | exact K.at | exact (K.new _).at | exact (K.put (by have := K.lt; omega) _ _ _).at)) (fun hHeld' => ?_)
          clear hKq Kq hHeld; have hHeld := hHeld'; clear hHeld'
          try simp only [Act.put, List.setIfInBounds_toArray, List.set_cons_zero, List.set_cons_succ]
          refine wpAnyH_ready (rs := [8]) (by kernel_rfl) (by simp) ?_
          refine (MyHeld.next 8 (.s (.s (.s (.s (.s (.s (.s (.s .z)))))))) (fun Kq hKq => ?_) AllReadyH.nil)
          go_simp
          refine hKq.out _ _ (by (try dsimp only); (first | exact K.at | exact (K.new _).at | exact (K.put (by have := K.lt; omega) _ _ _).at)) (fun hHeld' => ?_)
          clear hKq Kq hHeld; have hHeld := hHeld'; clear hHeld'
          try simp only [Act.put, List.setIfInBounds_toArray, List.set_cons_zero, List.set_cons_succ]
          refine MyHeld.take 9 (v := ?_) (.s (.s (.s (.s (.s (.s (.s (.s (.s .z))))))))) (by kernel_rfl) (by kernel_rfl) (by kernel_rfl) (fun _ _ _ h => h) (by rfl) (by assumption) ?_ ?_
          rotate_left
          · intro w hSw; (try dsimp only at hSw); go_simp; (try with_reducible rfl)
          try simp only [Act.put, List.setIfInBounds_toArray, List.set_cons_zero, List.set_cons_succ]
          refine wpAnyH_done (by kernel_rfl) ?_ _
        rotate_left 1
        focus
          go_simp
          refine hKq.out _ _ (by (try dsimp only); (first | exact K.at | exact (K.new _).at | exact (K.put (by have := K.lt; omega) _ _ _).at)) (fun hHeld' => ?_)
          clear hKq Kq hHeld; have hHeld := hHeld'; clear hHeld'
          try simp only [Act.put, List.setIfInBounds_toArray, List.set_cons_zero, List.set_cons_succ]
          refine wpAnyH_ready (rs := [3]) (by kernel_rfl) (by simp) ?_
          refine (MyHeld.next 3 (.s (.s (.s .z))) (fun Kq hKq => ?_) AllReadyH.nil)
          go_simp
          (go_at_call 30; refine (pChoose_call _ _ 2 _ 5000 0 5100 0 25 0 2 _ (by first | exact HI | exact HI.below (below_alloc _ _))).mono ?_; rintro e w4 ⟨rfl, hb4⟩; rw [H2.out.1, H2.out.2]; (first | replace ZA := keepO hb4 ZA | have ZA : w4.heap[w3.heap.size]? = some (advO adv0) := keepO hb4 (block_new _ _ (by simp)) | skip); (try (have ZB := three_old' ZA; have ZF := free3 ZA; obtain ⟨c0, c1, c2⟩ := ZB; obtain ⟨f0, f1, f2⟩ := ZF)); (first | replace K := K.keep hb4 | replace K := (K.new _).keep hb4); clear hb4 HI)
          go_wp2_with fail
          refine hKq.out _ _ (by (try dsimp only); (first | exact K.at | exact (K.new _).at | exact (K.put (by have := K.lt; omega) _ _ _).at)) (fun hHeld' => ?_)
          clear hKq Kq hHeld; have hHeld := hHeld'; clear hHeld'
          try simp only [Act.put, List.setIfInBounds_toArray, List.set_cons_zero, List.set_cons_succ]
          refine MyHeld.take 4 (v := ?_) (.s (.s (.s (.s .z)))) (by kernel_rfl) (by kernel_rfl) (by kernel_rfl) (fun _ _ _ h => h) (by rfl) (by assumption) ?_ ?_
          rotate_left
          · intro w hSw; (try dsimp only at hSw); go_simp; (try with_reducible rfl)
          try simp only [Act.put, List.setIfInBounds_toArray, List.set_cons_zero, List.set_cons_succ]
          refine MyHeld.take 5 (v := ?_) (.s (.s (.s (.s (.s .z))))) (by kernel_rfl) (by kernel_rfl) (by kernel_rfl) (fun _ _ _ h => h) (by rfl) (by assumption) ?_ ?_
          rotate_left
          · intro w hSw; (try dsimp only at hSw); go_simp; (try with_reducible rfl)
          try simp only [Act.put, List.setIfInBounds_toArray, List.set_cons_zero, List.set_cons_succ]
          refine MyHeld.take 6 (v := ?_) (.s (.s (.s (.s (.s (.s .z)))))) (by kernel_rfl) (by kernel_rfl) (by kernel_rfl) (fun _ _ _ h => h) (by rfl) (by assumption) ?_ ?_
          rotate_left
          · intro w hSw; (try dsimp only at hSw); go_simp; (try with_reducible rfl)
          try simp only [Act.put, List.setIfInBounds_toArray, List.set_cons_zero, List.set_cons_succ]
          refine wpAnyH_ready (rs := [8]) (by kernel_rfl) (by simp) ?_
          refine (MyHeld.next 8 (.s (.s (.s (.s (.s (.s (.s (.s .z)))))))) (fun Kq hKq => ?_) AllReadyH.nil)
          go_simp
          refine hKq.out _ _ (by (try dsimp only); (first | exact K.at | exact (K.new _).at | exact (K.put (by have := K.lt; omega) _ _ _).at)) (fun hHeld' => ?_)
          clear hKq Kq hHeld; have hHeld := hHeld'; clear hHeld'
          try simp only [Act.put, List.setIfInBounds_toArray, List.set_cons_zero, List.set_cons_succ]
          refine MyHeld.take 9 (v := ?_) (.s (.s (.s (.s (.s (.s (.s (.s (.s .z))))))))) (by kernel_rfl) (by kernel_rfl) (by kernel_rfl) (fun _ _ _ h => h) (by rfl) (by assumption) ?_ ?_
          rotate_left
          · intro w hSw; (try dsimp only at hSw); go_simp; (try with_reducible rfl)
          try simp only [Act.put, List.setIfInBounds_toArray, List.set_cons_zero, List.set_cons_succ]
          refine wpAnyH_done (by kernel_rfl) ?_ _
        rotate_left 1
      rotate_left 2
      focus
        go_simp
        refine hKq.out _ _ (by (try dsimp only); (first | exact K.at | exact (K.new _).at | exact (K.put (by have := K.lt; omega) _ _ _).at)) (fun hHeld' => ?_)
        clear hKq Kq hHeld; have hHeld := hHeld'; clear hHeld'
        try simp only [Act.put, List.setIfInBounds_toArray, List.set_cons_zero, List.set_cons_succ]
        refine wpAnyH_ready (rs := [0]) (by kernel_rfl) (by simp) ?_
        refine (MyHeld.next 0 .z (fun Kq hKq => ?_) AllReadyH.nil)
        go_simp
        (go_at_call 29; refine (example_call _).mono ?_; rintro e w3 ⟨bx, rfl, HI, hb3⟩; have hl3 : wc.heap.size ≤ w3.heap.size := (by have := hb3.size; simp at this; omega); (try have ZA : w3.heap[wc.heap.size]? = some (advO adv0) := keepO hb3 (block_new _ _ (by simp))); (first | replace K := K.keep hb3 | replace K := (K.new _).keep hb3); clear hb3)
        go_wp2_with fail
        refine hKq.out _ _ (by (try dsimp only); (first | exact K.at | exact (K.new _).at | exact (K.put (by have := K.lt; omega) _ _ _).at)) (fun hHeld' => ?_)
        clear hKq Kq hHeld; have hHeld := hHeld'; clear hHeld'
        try simp only [Act.put, List.setIfInBounds_toArray, List.set_cons_zero, List.set_cons_succ]
        refine wpAnyH_ready (rs := [3]) (by kernel_rfl) (by simp) ?_
        refine (MyHeld.next 3 (.s (.s (.s .z))) (fun Kq hKq => ?_) AllReadyH.nil)
        go_simp
        (go_at_call 30; refine (pChoose_call _ _ 2 _ 5000 0 5100 0 25 0 2 _ (by first | exact HI | exact HI.below (below_alloc _ _))).mono ?_; rintro e w4 ⟨rfl, hb4⟩; rw [H2.out.1, H2.out.2]; (first | replace ZA := keepO hb4 ZA | have ZA : w4.heap[w3.heap.size]? = some (advO adv0) := keepO hb4 (block_new _ _ (by simp)) | skip); (try (have ZB := three_old' ZA; have ZF := free3 ZA; obtain ⟨c0, c1, c2⟩ := ZB; obtain ⟨f0, f1, f2⟩ := ZF)); (first | replace K := K.keep hb4 | replace K := (K.new _).keep hb4); clear hb4 HI)
        go_wp2_with fail
        refine hKq.out _ _ (by (try dsimp only); (first | exact K.at | exact (K.new _).at | exact (K.put (by have := K.lt; omega) _ _ _).at)) (fun hHeld' => ?_)
        clear hKq Kq hHeld; have hHeld := hHeld'; clear hHeld'
        try simp only [Act.put, List.setIfInBounds_toArray, List.set_cons_zero, List.set_cons_succ]
        refine MyHeld.take 4 (v := ?_) (.s (.s (.s (.s .z)))) (by kernel_rfl) (by kernel_rfl) (by kernel_rfl) (fun _ _ _ h => h) (by rfl) (by assumption) ?_ ?_
        rotate_left
        · intro w hSw; (try dsimp only at hSw); go_simp; (try with_reducible rfl)
        try simp only [Act.put, List.setIfInBounds_toArray, List.set_cons_zero, List.set_cons_succ]
        refine MyHeld.take 5 (v := ?_) (.s (.s (.s (.s (.s .z))))) (by kernel_rfl) (by kernel_rfl) (by kernel_rfl) (fun _ _ _ h => h) (by rfl) (by assumption) ?_ ?_
        rotate_left
        · intro w hSw; (try dsimp only at hSw); go_simp; (try with_reducible rfl)
        try simp only [Act.put, List.setIfInBounds_toArray, List.set_cons_zero, List.set_cons_succ]
        refine MyHeld.take 6 (v := ?_) (.s (.s (.s (.s (.s (.s .z)))))) (by kernel_rfl) (by kernel_rfl) (by kernel_rfl) (fun _ _ _ h => h) (by rfl) (by assumption) ?_ ?_
        rotate_left
        · intro w hSw; (try dsimp only at hSw); go_simp; (try with_reducible rfl)
        try simp only [Act.put, List.setIfInBounds_toArray, List.set_cons_zero, List.set_cons_succ]
        refine wpAnyH_ready (rs := [8]) (by kernel_rfl) (by simp) ?_
        refine (MyHeld.next 8 (.s (.s (.s (.s (.s (.s (.s (.s .z)))))))) (fun Kq hKq => ?_) AllReadyH.nil)
        go_simp
        refine hKq.out _ _ (by (try dsimp only); (first | exact K.at | exact (K.new _).at | exact (K.put (by have := K.lt; omega) _ _ _).at)) (fun hHeld' => ?_)
        clear hKq Kq hHeld; have hHeld := hHeld'; clear hHeld'
        try simp only [Act.put, List.setIfInBounds_toArray, List.set_cons_zero, List.set_cons_succ]
        refine MyHeld.take 9 (v := ?_) (.s (.s (.s (.s (.s (.s (.s (.s (.s .z))))))))) (by kernel_rfl) (by kernel_rfl) (by kernel_rfl) (fun _ _ _ h => h) (by rfl) (by assumption) ?_ ?_
        rotate_left
        · intro w hSw; (try dsimp only at hSw); go_simp; (try with_reducible rfl)
        try simp only [Act.put, List.setIfInBounds_toArray, List.set_cons_zero, List.set_cons_succ]
        refine wpAnyH_done (by kernel_rfl) ?_ _
      rotate_left 1
      all_goals go_wp2_with fail
      all_goals go_meet
      all_goals first
        | exact ⟨⟨w4.heap.size, rfl, K.new _, block_new _ _ rfl⟩, rfl⟩
        | exact ⟨⟨w3.heap.size, rfl, K.put (by omega) _ _ _, adv_put ZA ⟨1, 42, false⟩⟩, rfl⟩
        | exact ⟨⟨wc.heap.size, rfl, K.put (by omega) _ _ _, adv_put ZA ⟨1, 42, false⟩⟩, rfl⟩
    case rest =>
      clear K
      obtain ⟨⟨bB, rfl, K, B⟩, rfl⟩ := hcut
      obtain ⟨⟨a0, a1⟩, a2, a3⟩ := K.at
      go_wp2_with fail
      refine (apart_yes 5000 0 5100 0 25 548 ⟨2, 25, false⟩ _ (by decide) ap1.1 ap1.2).mono ?_; rintro e y ⟨rfl, hy⟩
      replace K := K.keep hy
      replace B := keepO hy B
      clear hy a0 a1 a2 a3
      obtain ⟨⟨a0, a1⟩, a2, a3⟩ := K.at
      go_wp2_with fail
      refine (apart_yes 5000 0 5100 0 25 100 ⟨2, 0, true⟩ _ (by decide) ap2.1 ap2.2).mono ?_; rintro e y ⟨rfl, hy⟩
      replace K := K.keep hy
      replace B := keepO hy B
      clear hy a0 a1 a2 a3
      obtain ⟨⟨a0, a1⟩, a2, a3⟩ := K.at
      go_wp2_with fail
      refine (apart_yes 5000 0 5100 0 25 808 ⟨2, 42, false⟩ _ (by decide) ap3.1 ap3.2).mono ?_; rintro e y ⟨rfl, hy⟩
      replace K := K.keep hy
      replace B := keepO hy B
      clear hy a0 a1 a2 a3
      obtain ⟨⟨a0, a1⟩, a2, a3⟩ := K.at
      go_wp2_with fail
      refine (apart_yes 5000 0 5100 0 25 608 ⟨1, 42, false⟩ _ (by decide) ap4.1 ap4.2).mono ?_; rintro e y ⟨rfl, hy⟩
      replace K := K.keep hy
      replace B := keepO hy B
      clear hy a0 a1 a2 a3
      obtain ⟨⟨a0, a1⟩, a2, a3⟩ := K.at
      go_wp2_with fail
      refine (apart_yes 5000 0 5100 0 25 348 ⟨1, 25, false⟩ _ (by decide) ap5.1 ap5.2).mono ?_; rintro e y ⟨rfl, hy⟩
      replace K := K.keep hy
      replace B := keepO hy B
      clear hy a0 a1 a2 a3
      obtain ⟨u0, u1, u2⟩ := three_old' K.2.2
      obtain ⟨v0, v1, v2⟩ := three_old' B
      go_wp2_with fail
      go_ret
      exact ⟨rfl, K.1.2.2⟩
end Go.Proofs.Ytfgalaalopkclaa
