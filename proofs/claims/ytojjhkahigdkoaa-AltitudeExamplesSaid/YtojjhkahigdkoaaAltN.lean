/-
  Layer 18 (altitude): the program's Best.
-/
import Derived.Test.YtojjhkahigdkoaaAltM
import Derived.Laws.EntriesVeiled
import Derived.Test.YtojjhkahigdkoaaHeldBy
namespace Go.Proofs.Ytojjhkahigdkoaa
open Go.RowKit Go.Shelf Go.MyRange AltMath MyHeap MyCopy MyOwn
attribute [local go_sem] Oper.semAt_some

set_option maxRecDepth 100000 in
theorem far_call (m : Nat) (s f v : Int) (w : World) (h2 : w.cell? ⟨m, 2, none⟩ = some (.int .i64 s)) (h3 : w.cell? ⟨m, 3, none⟩ = some (.int .i64 f)) (s0 : -1000 ≤ s) (s1 : s ≤ 1000) (f0 : -1000 ≤ f) (f1 : f ≤ 1000) (v0 : -1000 ≤ v) (v1 : v ≤ 1000) :
    Calls Try.prog 49 #[.int .i64 v, .pointer (some ⟨m, 0, none⟩)] w fun e w' => e = .returned (.int .i64 (farV s f v)) ∧ w = w' := by
  unfold farV
  by_cases hm : 2 * v - s - f < s + f - 2 * v
  all_goals
    go_enter Try.func49, Try.ntmps49
    go_wp2_with fail
    all_goals
      go_ret
      exact ⟨congrArg (fun z => Ending.returned (.int .i64 z)) (by omega), rfl⟩

/-- The best rate of a list of places. -/
def stB (s f v : Int) (i : Nat) : Int := if farV s f ((i : Int) - 100) < farV s f v then (i : Int) - 100 else v
def foldB (s f : Int) (l : List Nat) : Int := l.foldl (stB s f) s
theorem foldB_yes {s f : Int} {l : List Nat} {i : Nat} (h : farV s f ((i : Int) - 100) < farV s f (foldB s f l)) : foldB s f (l ++ [i]) = (i : Int) - 100 := by
  unfold foldB at h ⊢
  rw [List.foldl_append, List.foldl_cons, List.foldl_nil]
  exact if_pos h
theorem foldB_no {s f : Int} {l : List Nat} {i : Nat} (h : ¬ farV s f ((i : Int) - 100) < farV s f (foldB s f l)) : foldB s f (l ++ [i]) = foldB s f l := by
  unfold foldB at h ⊢
  rw [List.foldl_append, List.foldl_cons, List.foldl_nil]
  exact if_neg h
theorem beV_fold (lo hi : List Int) (s f : Int) (k : Nat) : beV lo hi s f k = foldB s f (ofL lo hi 0 k) := by
  induction k with
  | zero => rfl
  | succ k ih =>
    have hz : 0 + k = k := Nat.zero_add k
    unfold beV
    by_cases h : nonAt lo hi (0 + k)
    · rw [ofL_no h, if_neg (fun e => e.1 (by rw [hz] at h; exact h)), ih]
    · rw [ofL_yes h, hz]
      by_cases h2 : farV s f ((k : Int) - 100) < farV s f (beV lo hi s f k)
      · rw [if_pos ⟨by rw [hz] at h; exact h, h2⟩, foldB_yes (by rw [← ih]; exact h2)]
      · rw [if_neg (fun e => h2 e.2), foldB_no (by rw [← ih]; exact h2), ih]
theorem foldB_bd {s f : Int} (hs : -100 ≤ s ∧ s ≤ 100) (pre : List OPos) : -100 ≤ foldB s f (opos pre) ∧ foldB s f (opos pre) ≤ 100 := by
  have : ∀ (l : List Nat) (v : Int), (∀ i ∈ l, i < 201) → -100 ≤ v ∧ v ≤ 100 → -100 ≤ l.foldl (stB s f) v ∧ l.foldl (stB s f) v ≤ 100 := by
    intro l
    induction l with
    | nil => intro v _ h; exact h
    | cons i l ih =>
      intro v hl hv
      rw [List.foldl_cons]
      refine ih _ (fun j hj => hl j (List.mem_cons_of_mem _ hj)) ?_
      have := hl i (List.mem_cons_self ..)
      unfold stB
      split
      · omega
      · exact hv
  exact this _ s (fun i hi => by obtain ⟨x, _, rfl⟩ := List.mem_map.1 hi; exact x.2) hs
theorem accV_bd {lo hi : List Int} (k : Nat) (hk : k ≤ 201) {c d : Int} (h : acc (hasB lo hi) gV 0 k = some (c, d)) : -100 ≤ c ∧ c ≤ 100 ∧ -100 ≤ d ∧ d ≤ 100 := by
  induction k generalizing c d with
  | zero => cases h
  | succ k ih =>
    by_cases hn : nonAt lo hi (0 + k)
    · rw [acc_no hn] at h
      exact ih (by omega) h
    · rw [acc_yes hn] at h
      cases hq : acc (hasB lo hi) gV 0 k with
      | none =>
        rw [hq] at h
        simp only [addO, gV, Option.some.injEq, Prod.mk.injEq] at h
        omega
      | some r =>
        obtain ⟨a, b⟩ := r
        obtain ⟨h1, h2, h3, h4⟩ := ih (by omega) hq
        rw [hq] at h
        simp only [addO, gV, Option.some.injEq, Prod.mk.injEq] at h
        omega
theorem spX_bd {lo hi : List Int} (h : spE lo hi = 0) : -100 ≤ (spX lo hi).slow ∧ (spX lo hi).slow ≤ 100 ∧ -100 ≤ (spX lo hi).fast ∧ (spX lo hi).fast ≤ 100 := by
  have hx : spX lo hi = ⟨(vals (spZ lo hi 201)).1, (vals (spZ lo hi 201)).2, (vals (spV lo hi 201)).1, (vals (spV lo hi 201)).2⟩ := if_pos h
  rw [hx]
  simp only
  cases hv : spV lo hi 201 with
  | none => decide
  | some r =>
    obtain ⟨c, d⟩ := r
    exact accV_bd 201 (Nat.le_refl _) hv
/-- The rate and the altitude that Best returns. -/
def beR (lo hi : List Int) : Int := beV lo hi (spX lo hi).slow (spX lo hi).fast 201
def beP (lo hi : List Int) : Int × Int := if spE lo hi = 0 then ((gi lo (beR lo hi + 100).toNat + gi hi (beR lo hi + 100).toNat) / 2, beR lo hi) else (0, 0)
def BePost (lo hi : List Int) (w : World) (e : Ending) (w' : World) : Prop := e = .returned (.tuple #[.agg #[.int .i64 (beP lo hi).1, .int .i64 (beP lo hi).2], .int .i64 (spE lo hi)]) ∧ Below w.heap.size w w'
/-- Between two rounds. -/
structure BeK (w0 : World) (bc : Array Value) (R m : Nat) (ext : Array Value) (fc : Value) (v : Int) (W : World) : Prop where
  P : W.heap[R]? = some (.cells #[.int .i64 0, .int .i64 v] 40 (0, 0))
  E : W.heap[m]? = some (.cells ext 48 (0, 0))
  F : ∃ T, W.heap[m + 1]? = some (.cells #[fc] T (0, 0))
  B : Below w0.heap.size w0 W
  le : m + 5 ≤ W.heap.size
  X : W.heap[w0.heap.size]? = some (.cells bc 24 (0, 0))
theorem BeK.grown {w0 : World} {bc : Array Value} {R m B : Nat} {ext : Array Value} {fc : Value} {v : Int} {W W' : World} {row : Option Nat} (h : BeK w0 bc R m ext fc v W) (hB : w0.heap.size ≤ B) (hg : W.grownBy W' row) (hr : ∀ r, row = some r → B ≤ r ∧ ∃ o : Obj, W.heap[r]? = some o ∧ o.isCells = false) : BeK w0 bc R m ext fc v W' :=
  ⟨(grownBy_keeps_cells hg (fun r e => (hr r e).2) h.P rfl).trans h.P, (grownBy_keeps_cells hg (fun r e => (hr r e).2) h.E rfl).trans h.E, by obtain ⟨T, hF⟩ := h.F; exact ⟨T, (grownBy_keeps_cells hg (fun r e => (hr r e).2) hF rfl).trans hF⟩, h.B.grown hg h.B.size (fun k e => Nat.le_trans hB (hr k e).1), Nat.le_trans h.le hg.size, (grownBy_keeps_cells hg (fun r e => (hr r e).2) h.X rfl).trans h.X⟩
theorem BeK.store {w0 : World} {bc : Array Value} {R m : Nat} {ext : Array Value} {fc : Value} {v v' : Int} {W : World} (h : BeK w0 bc R m ext fc v W) (hR : R < m) (hw : w0.heap.size < R) : BeK w0 bc R m ext fc v' (W.setCell ⟨R, 1, none⟩ (.int .i64 v')) :=
  have hO : Only R W (W.setCell ⟨R, 1, none⟩ (.int .i64 v')) := (Only.refl _ _).setCell 1 _
  ⟨by simpa using block_setCell (i := 1) (v := .int .i64 v') h.P, hO.keeps h.E (by omega), by obtain ⟨T, hF⟩ := h.F; exact ⟨T, hO.keeps hF (by omega)⟩, h.B.trans (hO.below (Nat.le_of_lt hw) h.B.size), Nat.le_trans h.le hO.size, hO.keeps h.X (by omega)⟩
theorem BeK.drew {w0 : World} {bc : Array Value} {R m : Nat} {ext : Array Value} {fc : Value} {v : Int} {W : World} (h : BeK w0 bc R m ext fc v W) : BeK w0 bc R m ext fc v W.drew := ⟨h.P, h.E, h.F, h.B.drew, h.le, h.X⟩

theorem be_fin {w0 W : World} {R D : Nat} {x y : Value} {T : TypeId} (a b : Value) (hB : Below w0.heap.size w0 W) (hR : W.heap[R]? = some (.cells #[x, y] T (0, 0))) (hw : w0.heap.size ≤ R) (hD : W.heap[D]? = some (.deferred (some []))) (hwD : w0.heap.size ≤ D) :
    ((W.setCell ⟨R, 0, none⟩ a).setCell ⟨R, 1, none⟩ b).heap[D]? = some (.deferred (some [])) ∧ (((W.setCell ⟨R, 0, none⟩ a).setCell ⟨R, 1, none⟩ b).putObj D (.deferred none)).heap[R]? = some (.cells #[a, b] T (0, 0)) ∧
      Below w0.heap.size w0 (((W.setCell ⟨R, 0, none⟩ a).setCell ⟨R, 1, none⟩ b).putObj D (.deferred none)) := by
  have hne : D ≠ R := fun e => by subst e; rw [hR] at hD; cases hD
  have hO : Only R W ((W.setCell ⟨R, 0, none⟩ a).setCell ⟨R, 1, none⟩ b) := ((Only.refl _ _).setCell 0 _).setCell 1 _
  have hx : ((W.setCell ⟨R, 0, none⟩ a).setCell ⟨R, 1, none⟩ b).heap[R]? = some (.cells #[a, b] T (0, 0)) := by simpa using block_setCell (i := 1) (v := b) (block_setCell (i := 0) (v := a) hR)
  have hP : Only D ((W.setCell ⟨R, 0, none⟩ a).setCell ⟨R, 1, none⟩ b) (((W.setCell ⟨R, 0, none⟩ a).setCell ⟨R, 1, none⟩ b).putObj D (.deferred none)) := grownBy_putObj' _ D (.deferred none)
  have hB1 := hB.trans (hO.below hw hB.size)
  exact ⟨hO.keeps hD hne, hP.keeps hx hne.symm, hB1.trans (hP.below hwD hB1.size)⟩

set_option maxRecDepth 100000 in
set_option maxHeartbeats 4000000 in
theorem pBest_ok (b1 o1 b2 o2 cL cH : Nat) (lo hi : List Int) (w : World) (hE : spE lo hi = 0) (hC : chB lo hi = 0) (hL : Ints w (some ⟨b1, o1, none⟩) 201 lo) (hH : Ints w (some ⟨b2, o2, none⟩) 201 hi) :
    Calls Try.prog 30 #[bdV (some ⟨b1, o1, none⟩) 201 cL (some ⟨b2, o2, none⟩) 201 cH] w (BePost lo hi w) := by
  unfold bdV
  refine (callsIn_wide (n := 6)).1 ?_
  refine callsIn_of_wp_marks Try.func30 rfl trivial ?_ rfl
  simp only [Try.ntmps30, List.size_toArray, List.length_cons, List.length_nil, Nat.reduceAdd, Nat.reduceSub, Array.replicate_succ, Array.replicate_zero, List.push_toArray, List.append_toArray, List.nil_append, List.cons_append]
  have HV := Lib.hid (And.intro (chB_ok hC).2.2 (And.intro hC hE))
  have H := Lib.hid (And.intro hL hH)
  have HB0 := Lib.hid (show Below w.heap.size w ((w.alloc (.cells (bdC (some ⟨b1, o1, none⟩) 201 cL (some ⟨b2, o2, none⟩) 201 cH) 24)).alloc (.cells #[.int .i64 0, .int .i64 0] 40)) ∧ ((w.alloc (.cells (bdC (some ⟨b1, o1, none⟩) 201 cL (some ⟨b2, o2, none⟩) 201 cH) 24)).alloc (.cells #[.int .i64 0, .int .i64 0] 40)).heap[w.heap.size]? = some (.cells (bdC (some ⟨b1, o1, none⟩) 201 cL (some ⟨b2, o2, none⟩) 201 cH) 24 (0, 0)) ∧ ((w.alloc (.cells (bdC (some ⟨b1, o1, none⟩) 201 cL (some ⟨b2, o2, none⟩) 201 cH) 24)).alloc (.cells #[.int .i64 0, .int .i64 0] 40)).heap[w.heap.size + 1]? = some (.cells #[.int .i64 0, .int .i64 0] 40 (0, 0))
    from ⟨(below_alloc w _).alloc (by simp) _, block_alloc (block_new _ _ rfl), block_new _ _ (by simp)⟩)
  clear hL hH hE hC
  unfold bdC at HB0
  gi_wp2_with fail
  refine ⟨trivial, ?_⟩
  refine (callsIn_wide.2 (pSpread_call (some ⟨b1, o1, none⟩) (some ⟨b2, o2, none⟩) 201 201 cL cH lo hi _ (H.out.1.below HB0.out.1) (H.out.2.below HB0.out.1))).mono ?_
  rintro e w1 ⟨rfl, hb⟩
  rw [HV.out.2.2]
  have HB1 := Lib.hid (And.intro (HB0.out.1.trans (hb.mono HB0.out.1.size)) (And.intro (keepO hb HB0.out.2.1) (keepO hb HB0.out.2.2)))
  clear hb HB0
  unfold exC
  obtain ⟨x1, x2, x3, x4, hX⟩ : ∃ a b c d, spX lo hi = ⟨a, b, c, d⟩ := ⟨_, _, _, _, rfl⟩
  rw [hX]
  have HX := Lib.hid hX
  clear hX
  obtain ⟨k0, k1⟩ := two_cells (show w1.heap[w.heap.size]? = some (.cells (bdC (some ⟨b1, o1, none⟩) 201 cL (some ⟨b2, o2, none⟩) 201 cH) 24 (0, 0)) from HB1.out.2.1)
  obtain ⟨p0, p1, q0, q1⟩ := two_facts HB1.out.2.2
  have kb0 := World.block_lt_of_cell? w1 _ k0
  have kb1 := World.block_lt_of_cell? w1 _ p0
  gi_wp2_with fail
  refine ⟨trivial, ?_⟩
  refine (callsIn_wide.2 (of_call (some ⟨b1, o1, none⟩) (some ⟨b2, o2, none⟩) 201 cL 201 cH _ _ _)).mono ?_
  rintro e w2 ⟨rfl, rfl⟩
  gi_wp2_with fail
  have hR1 : w.heap.size + 1 < w1.heap.size := lt_of_block HB1.out.2.2
  have hs1 : (w1.setCell ⟨w.heap.size + 1, 1, none⟩ (.int .i64 x3)).heap.size = w1.heap.size := by simp
  have hO1 : Only (w.heap.size + 1) w1 (w1.setCell ⟨w.heap.size + 1, 1, none⟩ (.int .i64 x3)) := (Only.refl _ _).setCell 1 _
  have hB1 : Below w.heap.size w (w1.setCell ⟨w.heap.size + 1, 1, none⟩ (.int .i64 x3)) := HB1.out.1.trans (hO1.below (by omega) HB1.out.1.size)
  have HI0 := Lib.hid (show BeK w #[.slice (some ⟨b1, o1, none⟩) 201 cL, .slice (some ⟨b2, o2, none⟩) 201 cH] (w.heap.size + 1) w1.heap.size #[.int .i64 x1, .int .i64 x2, .int .i64 x3, .int .i64 x4] (.func (.func 49) #[] #[.pointer (some ⟨w1.heap.size, 0, none⟩)]) (foldB x3 x4 (opos [])) ((((((w1.setCell ⟨w.heap.size + 1, 1, none⟩ (.int .i64 x3)).alloc (.cells #[.int .i64 x1, .int .i64 x2, .int .i64 x3, .int .i64 x4] 48)).alloc (.cells #[.func (.func 49) #[] #[.pointer (some ⟨w1.heap.size, 0, none⟩)]] 79)).alloc (.cells (bdC (some ⟨b1, o1, none⟩) 201 cL (some ⟨b2, o2, none⟩) 201 cH) 24)).alloc (.cells #[.int .i64 0] 3)).alloc (.cells #[.int .i64 201] 3)) from
    ⟨block_alloc (block_alloc (block_alloc (block_alloc (block_alloc (show (w1.setCell ⟨w.heap.size + 1, 1, none⟩ (.int .i64 x3)).heap[w.heap.size + 1]? = some (.cells #[.int .i64 0, .int .i64 x3] 40 (0, 0)) from by simpa using block_setCell (i := 1) (v := .int .i64 x3) HB1.out.2.2))))), block_alloc (block_alloc (block_alloc (block_alloc (block_new _ _ hs1.symm)))), ⟨_, block_alloc (block_alloc (block_alloc (block_new _ _ (by simp))))⟩, (((((hB1.alloc hB1.size _).alloc (by have := hB1.size; simp at *; omega) _).alloc (by have := hB1.size; simp at *; omega) _).alloc (by have := hB1.size; simp at *; omega) _).alloc (by have := hB1.size; simp at *; omega) _), by simp, block_alloc (block_alloc (block_alloc (block_alloc (block_alloc (hO1.keeps HB1.out.2.1 (by omega))))))⟩)
  have HC := Lib.hid (And.intro (show ((((((w1.setCell ⟨w.heap.size + 1, 1, none⟩ (.int .i64 x3)).alloc (.cells #[.int .i64 x1, .int .i64 x2, .int .i64 x3, .int .i64 x4] 48)).alloc (.cells #[.func (.func 49) #[] #[.pointer (some ⟨w1.heap.size, 0, none⟩)]] 79)).alloc (.cells (bdC (some ⟨b1, o1, none⟩) 201 cL (some ⟨b2, o2, none⟩) 201 cH) 24)).alloc (.cells #[.int .i64 0] 3)).alloc (.cells #[.int .i64 201] 3)).heap[w1.heap.size + 1 + 1]? = some (.cells (bdC (some ⟨b1, o1, none⟩) 201 cL (some ⟨b2, o2, none⟩) 201 cH) 24 (0, 0)) from block_alloc (block_alloc (block_new _ _ (by simp))))
    (And.intro (show ((((((w1.setCell ⟨w.heap.size + 1, 1, none⟩ (.int .i64 x3)).alloc (.cells #[.int .i64 x1, .int .i64 x2, .int .i64 x3, .int .i64 x4] 48)).alloc (.cells #[.func (.func 49) #[] #[.pointer (some ⟨w1.heap.size, 0, none⟩)]] 79)).alloc (.cells (bdC (some ⟨b1, o1, none⟩) 201 cL (some ⟨b2, o2, none⟩) 201 cH) 24)).alloc (.cells #[.int .i64 0] 3)).alloc (.cells #[.int .i64 201] 3)).heap[w1.heap.size + 1 + 1 + 1]? = some (.cells #[.int .i64 0] 3 (0, 0)) from block_alloc (block_new _ _ (by simp)))
      (show ((((((w1.setCell ⟨w.heap.size + 1, 1, none⟩ (.int .i64 x3)).alloc (.cells #[.int .i64 x1, .int .i64 x2, .int .i64 x3, .int .i64 x4] 48)).alloc (.cells #[.func (.func 49) #[] #[.pointer (some ⟨w1.heap.size, 0, none⟩)]] 79)).alloc (.cells (bdC (some ⟨b1, o1, none⟩) 201 cL (some ⟨b2, o2, none⟩) 201 cH) 24)).alloc (.cells #[.int .i64 0] 3)).alloc (.cells #[.int .i64 201] 3)).heap[w1.heap.size + 1 + 1 + 1 + 1]? = some (.cells #[.int .i64 201] 3 (0, 0)) from block_new _ _ (by simp))))
  have hsz : ((((((w1.setCell ⟨w.heap.size + 1, 1, none⟩ (.int .i64 x3)).alloc (.cells #[.int .i64 x1, .int .i64 x2, .int .i64 x3, .int .i64 x4] 48)).alloc (.cells #[.func (.func 49) #[] #[.pointer (some ⟨w1.heap.size, 0, none⟩)]] 79)).alloc (.cells (bdC (some ⟨b1, o1, none⟩) 201 cL (some ⟨b2, o2, none⟩) 201 cH) 24)).alloc (.cells #[.int .i64 0] 3)).alloc (.cells #[.int .i64 201] 3)).heap.size = w1.heap.size + 5 := by simp
  change Code.wpIn _ _ _ _ _ _ ((((((w1.setCell ⟨w.heap.size + 1, 1, none⟩ (.int .i64 x3)).alloc (.cells #[.int .i64 x1, .int .i64 x2, .int .i64 x3, .int .i64 x4] 48)).alloc (.cells #[.func (.func 49) #[] #[.pointer (some ⟨w1.heap.size, 0, none⟩)]] 79)).alloc (.cells (bdC (some ⟨b1, o1, none⟩) 201 cL (some ⟨b2, o2, none⟩) 201 cH) 24)).alloc (.cells #[.int .i64 0] 3)).alloc (.cells #[.int .i64 201] 3))
  clear k0 k1 kb0 p0 p1 q0 q1 kb1 hs1 hO1 hB1
  generalize ((((((w1.setCell ⟨w.heap.size + 1, 1, none⟩ (.int .i64 x3)).alloc (.cells #[.int .i64 x1, .int .i64 x2, .int .i64 x3, .int .i64 x4] 48)).alloc (.cells #[.func (.func 49) #[] #[.pointer (some ⟨w1.heap.size, 0, none⟩)]] 79)).alloc (.cells (bdC (some ⟨b1, o1, none⟩) 201 cL (some ⟨b2, o2, none⟩) 201 cH) 24)).alloc (.cells #[.int .i64 0] 3)).alloc (.cells #[.int .i64 201] 3)) = w5 at *
  obtain ⟨m, hm⟩ : ∃ m, w1.heap.size = m := ⟨_, rfl⟩
  rw [hm] at HI0 HC hsz hR1 ⊢
  have HLT : Hid (∀ b ∈ [m + 1 + 1 + 1, m + 1 + 1 + 1 + 1, m + 1 + 1, b1, b2], b < w5.heap.size ∧ b ≠ w.heap.size + 1) := Lib.hid (by
    obtain ⟨_, _, e1, x0⟩ := ints_at H.out.1 (k := 0) (by decide)
    obtain ⟨_, _, e2, y0⟩ := ints_at H.out.2 (k := 0) (by decide)
    cases e1; cases e2
    have l1 : b1 < w.heap.size := World.block_lt_of_cell? w _ x0
    have l2 : b2 < w.heap.size := World.block_lt_of_cell? w _ y0
    intro b hb
    simp only [List.mem_cons, List.not_mem_nil, or_false] at hb
    rcases hb with rfl | rfl | rfl | rfl | rfl <;> omega)
  have HB5 := Lib.hid HI0.out.B
  obtain ⟨s0, s1, f0, f1⟩ := spX_bd HV.out.2.2
  rw [HX.out] at s0 s1 f0 f1
  simp only at s0 s1 f0 f1
  clear HB1 hm
  refine wpIn_rangeFunc_ownF rfl (by omega) (gf := 51) (lb := #[.pointer (some ⟨m + 1 + 1 + 1, 0, none⟩), .pointer (some ⟨m + 1 + 1 + 1 + 1, 0, none⟩), .pointer (some ⟨m + 1 + 1, 0, none⟩)]) rfl trivial (enters_of Try.func51 (by kernel_rfl) rfl)
    (of_stops _ (by omega) (m + 1 + 1 + 1) (m + 1 + 1 + 1 + 1) (m + 1 + 1) b1 o1 b2 o2 cL cH 0 201 lo hi 0 201 (by decide) (by decide) (by decide) (by decide) (by decide) (by decide) w5 (cell_of_block HC.out.2.1 rfl) (cell_of_block HC.out.2.2 rfl) (two_cells HC.out.1) (H.out.1.below HB5.out) (H.out.2.below HB5.out)) KeepB.trans (keepB_b (fun b hb => (HLT.out b hb).1)) (Below.refl _ _) (fun _ => rfl)
    (fun pre W => BeK w #[.slice (some ⟨b1, o1, none⟩) 201 cL, .slice (some ⟨b2, o2, none⟩) 201 cH] (w.heap.size + 1) m #[.int .i64 x1, .int .i64 x2, .int .i64 x3, .int .i64 x4] (.func (.func 49) #[] #[.pointer (some ⟨m, 0, none⟩)]) (foldB x3 x4 (opos pre)) W)
    (fun _ _ _ => False)
    (fun _ _ _ _ hs hg hr => hs.grown (by omega) hg hr)
    (fun _ _ _ _ _ hs _ _ => hs)
    HI0.out
    (fun x => { tmps := #[.agg #[.slice (some ⟨b1, o1, none⟩) 201 cL, .slice (some ⟨b2, o2, none⟩) 201 cH], .pointer (some ⟨w.heap.size, 0, none⟩), .pointer (some ⟨w.heap.size + 1, 0, none⟩), .int .i64 0, .pointer (some ⟨m, 0, none⟩), .pointer (some ⟨m + 1, 0, none⟩), .int .i64 (x.1 : Int), undef, undef, .tuple #[.agg #[.int .i64 x1, .int .i64 x2, .int .i64 x3, .int .i64 x4], .int .i64 0],
      .agg #[.slice (some ⟨b1, o1, none⟩) 201 cL, .slice (some ⟨b2, o2, none⟩) 201 cH], .tuple #[.agg #[.int .i64 x1, .int .i64 x2, .int .i64 x3, .int .i64 x4], .int .i64 0], .agg #[.int .i64 x1, .int .i64 x2, .int .i64 x3, .int .i64 x4], .int .i64 0, .int .i64 0, .bool false, undef, undef, .func (.func 49) #[] #[.pointer (some ⟨m, 0, none⟩)], .pointer (some ⟨m, 2, none⟩), .int .i64 x3, .pointer (some ⟨w.heap.size + 1, 1, none⟩), .agg #[.slice (some ⟨b1, o1, none⟩) 201 cL, .slice (some ⟨b2, o2, none⟩) 201 cH],
      .func (.func 51) #[] #[.pointer (some ⟨m + 1 + 1 + 1, 0, none⟩), .pointer (some ⟨m + 1 + 1 + 1 + 1, 0, none⟩), .pointer (some ⟨m + 1 + 1, 0, none⟩)],
      .int .i64 (x.1 : Int), undef, undef, undef, undef, undef, undef, undef, undef, undef, undef, undef, undef, undef, undef, undef, undef, undef, undef, undef, undef, undef, undef, undef, undef, undef, undef, undef, undef, undef], defers := [] }) ?assign ?body ?done ?stop
  case assign =>
    intro l x W K hK
    simp only [oVals]
    gi_wp2
    exact hK
  case body =>
    rintro l pre x W hI hlen
    obtain ⟨j, hj⟩ := x
    dsimp only at *
    have hj0 : (0 : Int) ≤ (j : Int) := by omega
    have hj1 : (j : Int) < 201 := by omega
    obtain ⟨v0, v1⟩ := foldB_bd (f := x4) ⟨s0, s1⟩ pre
    have HQ := Lib.hid (And.intro (@foldB_yes x3 x4 (opos pre) j) (@foldB_no x3 x4 (opos pre) j))
    have HI := Lib.hid hI
    obtain ⟨V, hV⟩ : ∃ V, foldB x3 x4 (opos pre) = V := ⟨_, rfl⟩
    rw [hV] at HI HQ v0 v1
    have HVV := Lib.hid hV
    obtain ⟨TF, hF⟩ := hI.F
    obtain ⟨⟨-, -, u2, u3⟩, -⟩ := four_facts (W := W.drew) hI.E
    have u0 : W.drew.cell? ⟨m + 1, 0, none⟩ = some (.func (.func 49) #[] #[.pointer (some ⟨m, 0, none⟩)]) := cell_of_block hF rfl
    have u1 : W.drew.cell? ⟨w.heap.size + 1, 1, none⟩ = some (.int .i64 V) := by rw [← hV]; exact cell_of_block hI.P rfl
    clear hI hF hV
    have g1 : W.drew.frozen? ⟨w.heap.size + 1, 1, none⟩ = false := free_of_block HI.out.P
    gi_wp2
    refine MyLift.region_held_round (S := (fun w' => (w'.cell? ⟨m + 1, 0, none⟩ = some (.func (.func 49) #[] #[.pointer (some ⟨m, 0, none⟩)]) ∧ w'.cell? ⟨w.heap.size + 1, 1, none⟩ = some (.int .i64 V)) ∧ w'.cell? ⟨m, 2, none⟩ = some (.int .i64 x3) ∧ w'.cell? ⟨m, 3, none⟩ = some (.int .i64 x4))) (by kernel_rfl) (by kernel_rfl) (by rintro ⟨_, _, h⟩; exact h) (by (try dsimp only); (exact ⟨⟨u0, u1⟩, u2, u3⟩)) (fun hHeld => ?_)
    refine MyHeld.take 0 (v := ?_) .z (by kernel_rfl) (by kernel_rfl) (by kernel_rfl) (fun _ _ _ h => h) (by rfl) (by assumption) ?_ ?_
    rotate_left
    · intro w hSw; (try dsimp only at hSw); go_simp; (try with_reducible rfl)
    try simp only [Act.put, List.setIfInBounds_toArray, List.set_cons_zero, List.set_cons_succ]
    refine MyHeld.take 1 (v := ?_) (.s .z) (by kernel_rfl) (by kernel_rfl) (by kernel_rfl) (fun _ _ _ h => h) (by rfl) (by assumption) ?_ ?_
    rotate_left
    · intro w hSw; (try dsimp only at hSw); go_simp; (try with_reducible rfl)
    try simp only [Act.put, List.setIfInBounds_toArray, List.set_cons_zero, List.set_cons_succ]
    refine MyHeld.take 3 (v := ?_) (.s (.s (.s .z))) (by kernel_rfl) (by kernel_rfl) (by kernel_rfl) (fun _ _ _ h => h) (by rfl) (by assumption) ?_ ?_
    rotate_left
    · intro w hSw; (try dsimp only at hSw); go_simp; (try with_reducible rfl)
    try simp only [Act.put, List.setIfInBounds_toArray, List.set_cons_zero, List.set_cons_succ]
    refine MyHeld.take 4 (v := ?_) (.s (.s (.s (.s .z)))) (by kernel_rfl) (by kernel_rfl) (by kernel_rfl) (fun _ _ _ h => h) (by rfl) (by assumption) ?_ ?_
    rotate_left
    · intro w hSw; (try dsimp only at hSw); go_simp; (try with_reducible rfl)
    try simp only [Act.put, List.setIfInBounds_toArray, List.set_cons_zero, List.set_cons_succ]
    refine MyHeld.take 5 (v := ?_) (.s (.s (.s (.s (.s .z))))) (by kernel_rfl) (by kernel_rfl) (by kernel_rfl) (fun _ _ _ h => h) (by rfl) (by assumption) ?_ ?_
    rotate_left
    · intro w hSw; (try dsimp only at hSw); go_simp; (try with_reducible rfl)
    try simp only [Act.put, List.setIfInBounds_toArray, List.set_cons_zero, List.set_cons_succ]
    refine wpAnyH_ready (rs := [2]) (by kernel_rfl) (by simp) ?_
    refine (MyHeld.next 2 (.s (.s .z)) (fun Kq hKq => ?_) AllReadyH.nil)
    go_simp
    ((go_at_call 49; refine (far_call m x3 x4 _ _ u2 u3 (by omega) (by omega) (by omega) (by omega) (by omega) (by omega)).mono ?_; rintro e w3 ⟨rfl, rfl⟩))
    go_wp2_with fail
    refine hKq.out _ _ (by (try dsimp only); (exact ⟨⟨u0, u1⟩, u2, u3⟩)) (fun hHeld' => ?_)
    clear hKq Kq hHeld; have hHeld := hHeld'; clear hHeld'
    try simp only [Act.put, List.setIfInBounds_toArray, List.set_cons_zero, List.set_cons_succ]
    refine wpAnyH_ready (rs := [6]) (by kernel_rfl) (by simp) ?_
    refine (MyHeld.next 6 (.s (.s (.s (.s (.s (.s .z)))))) (fun Kq hKq => ?_) AllReadyH.nil)
    go_simp
    ((go_at_call 49; refine (far_call m x3 x4 _ _ u2 u3 (by omega) (by omega) (by omega) (by omega) (by omega) (by omega)).mono ?_; rintro e w3 ⟨rfl, rfl⟩))
    go_wp2_with fail
    refine hKq.out _ _ (by (try dsimp only); (exact ⟨⟨u0, u1⟩, u2, u3⟩)) (fun hHeld' => ?_)
    clear hKq Kq hHeld; have hHeld := hHeld'; clear hHeld'
    try simp only [Act.put, List.setIfInBounds_toArray, List.set_cons_zero, List.set_cons_succ]
    refine MyHeld.take 7 (v := ?_) (.s (.s (.s (.s (.s (.s (.s .z))))))) (by kernel_rfl) (by kernel_rfl) (by kernel_rfl) (fun _ _ _ h => h) (by rfl) (by assumption) ?_ ?_
    rotate_left
    · intro w hSw; (try dsimp only at hSw); go_simp; (try with_reducible rfl)
    try simp only [Act.put, List.setIfInBounds_toArray, List.set_cons_zero, List.set_cons_succ]
    refine wpAnyH_done (by kernel_rfl) ?_ _
    all_goals (
      gi_wp2
      · rename_i hlt
        have hO : Only (w.heap.size + 1) W (W.drew.setCell ⟨w.heap.size + 1, 1, none⟩ (.int .i64 ((j : Int) - 100))) := ((Only.refl _ _).drew).setCell 1 _
        have hle := HI.out.le
        exact ⟨others_only HI.out.P hO, keepB_only hO (fun h => (HLT.out _ h).2 rfl) (fun c hc => Nat.lt_of_lt_of_le (HLT.out c hc).1 (by omega)), by
          show BeK w _ _ m _ _ (foldB x3 x4 (opos (pre ++ [⟨j, hj⟩]))) _
          rw [opos_snoc, HQ.out.1 hlt]
          exact HI.out.drew.store hR1 (by omega)⟩
      · rename_i hge
        have hO : Only (w.heap.size + 1) W W.drew := (Only.refl _ _).drew
        have hle := HI.out.le
        exact ⟨others_only HI.out.P hO, keepB_only hO (fun h => (HLT.out _ h).2 rfl) (fun c hc => Nat.lt_of_lt_of_le (HLT.out c hc).1 (by omega)), by
          show BeK w _ _ m _ _ (foldB x3 x4 (opos (pre ++ [⟨j, hj⟩]))) _
          rw [opos_snoc, HQ.out.2 (by omega)]
          exact HI.out.drew⟩)
  case done =>
    rintro D ys W hD hys hI hK
    have hv := foldB_bd (f := x4) ⟨s0, s1⟩ ys
    have hR : foldB x3 x4 (opos ys) = beR lo hi := by unfold beR; rw [HX.out, beV_fold, hys]
    rw [hR] at hI hv
    have hP : beP lo hi = ((gi lo (beR lo hi + 100).toNat + gi hi (beR lo hi + 100).toNat) / 2, beR lo hi) := if_pos HV.out.2.2
    obtain ⟨V, hV⟩ : ∃ V, beR lo hi = V := ⟨_, rfl⟩
    rw [hV] at hI hv hP
    obtain ⟨v0, v1⟩ := hv
    obtain ⟨j, hj⟩ : ∃ j : Nat, V + 100 = (j : Int) := ⟨(V + 100).toNat, by omega⟩
    have hjt : (V + 100).toNat = j := by omega
    rw [hjt] at hP
    have hj1 : j < 201 := by omega
    have hji : (j : Int) < 201 := by omega
    have hj0 : (0 : Int) ≤ (j : Int) := by omega
    obtain ⟨_, _, e1, x0⟩ := ints_at (H.out.1.below hI.B) hj1
    obtain ⟨_, _, e2, y0⟩ := ints_at (H.out.2.below hI.B) hj1
    cases e1; cases e2
    obtain ⟨c1, c2, c3, c4⟩ := ok_bd HV.out.1 hj1
    obtain ⟨X, hXX⟩ : ∃ X, gi lo j = X := ⟨_, rfl⟩
    obtain ⟨Y, hYY⟩ : ∃ Y, gi hi j = Y := ⟨_, rfl⟩
    rw [hXX] at x0 c1 c2 hP
    rw [hYY] at y0 c3 c4 hP
    obtain ⟨k0, k1⟩ := two_cells (show W.heap[w.heap.size]? = some (.cells (bdC (some ⟨b1, o1, none⟩) 201 cL (some ⟨b2, o2, none⟩) 201 cH) 24 (0, 0)) from hI.X)
    obtain ⟨p0, p1, q0, q1⟩ := two_facts hI.P
    have HI := Lib.hid hI
    have HP := Lib.hid hP
    have HD := Lib.hid hK
    clear hI hP hK hys hR hV hXX hYY hjt
    gi_wp2
    refine wpIn_wide.2 ?_
    have k2 : W.drew.cell? ⟨w.heap.size, 0, none⟩ = some (.slice (some ⟨b1, o1, none⟩) 201 cL) := k0
    have k3 : W.drew.cell? ⟨w.heap.size, 1, none⟩ = some (.slice (some ⟨b2, o2, none⟩) 201 cH) := k1
    have a2 : W.drew.cell? ⟨b1, o1 + j, none⟩ = some (.int .i64 X) := x0
    have b3 : W.drew.cell? ⟨b2, o2 + j, none⟩ = some (.int .i64 Y) := y0
    have p2 : W.drew.cell? ⟨w.heap.size + 1, 0, none⟩ = some (.int .i64 0) := p0
    have q2 : W.drew.frozen? ⟨w.heap.size + 1, 0, none⟩ = false := q0
    clear k0 k1 x0 y0 p0 p1 q0 q1
    go_region
    all_goals (
      have hO : Only (w.heap.size + 1) W (W.setCell ⟨w.heap.size + 1, 0, none⟩ (.int .i64 ((X + Y) / 2))).drew := ((Only.refl _ _).setCell 0 _).drew
      have hP9 : (W.setCell ⟨w.heap.size + 1, 0, none⟩ (.int .i64 ((X + Y) / 2))).drew.heap[w.heap.size + 1]? = some (.cells #[.int .i64 ((X + Y) / 2), .int .i64 V] 40 (0, 0)) := by
        show (W.setCell ⟨w.heap.size + 1, 0, none⟩ (.int .i64 ((X + Y) / 2))).heap[w.heap.size + 1]? = _
        simpa using block_setCell (i := 0) (v := .int .i64 ((X + Y) / 2)) HI.out.P
      have hD9 := hO.keeps HD.out (fun e => by subst e; have h1 := HD.out; rw [HI.out.P] at h1; cases h1)
      have hB9 := HI.out.B.trans (hO.below (by omega) HI.out.B.size)
      generalize (W.setCell ⟨w.heap.size + 1, 0, none⟩ (.int .i64 ((X + Y) / 2))).drew = Wz at *
      obtain ⟨p4, p5, q4, q5⟩ := two_facts hP9
      have H9 := Lib.hid (And.intro hP9 (And.intro hD9 hB9))
      clear hP9 hD9 hB9 hO k2 k3 a2 b3 p2 q2
      obtain ⟨Z, hZ⟩ : ∃ Z, (X + Y) / 2 = Z := ⟨_, rfl⟩
      rw [hZ] at p4 HP H9 ⊢
      clear hZ hj hj1 hji hj0 v0 v1 c1 c2 c3 c4 s0 s1 f0 f1
      have HR1 := Lib.hid (And.intro hR1 (And.intro hsz hD))
      clear hR1 hsz hD
      gi_wp2
      obtain ⟨hD8, hR8, hB8⟩ := be_fin (.int .i64 Z) (.int .i64 V) H9.out.2.2 H9.out.1 (by omega) H9.out.2.1 (by have := HR1.out; omega)
      refine ⟨by simp, .inl ⟨_, _, rfl, run_takeDeferred hD8, ?_⟩⟩
      obtain ⟨t0, t1, -, -⟩ := two_facts hR8
      refine ⟨.tuple #[.agg #[.int .i64 Z, .int .i64 V], .int .i64 0], ?_, by rw [HP.out, HV.out.2.2], hB8⟩
      simp [results, Try.f30, go_sem, t0, t1])
  case stop =>
    rintro D c pre W _ _ h _
    exact h.elim
end Go.Proofs.Ytojjhkahigdkoaa
