/-
  Layer 38 (rules): the law Matches, the walk.
-/
import Derived.Test.YtfgalaalopkclaaRulesS
import Derived.Test.YtfgalaalopkclaaRulesQ
import Derived.Test.YtfgalaalopkclaaRulesP
namespace Go.Proofs.Ytfgalaalopkclaa
open Go.RowKit PlaneMath PilotMath RulesMath MyHeap MyOwn MyCopy

/-- In Matches: the case, the advisory, the two lists of rates, and nothing of w0 written. -/
def MxK (w0 : World) (a : Option Addr) (n c : Nat) (s : RulesMath.Set) (z v z' v' t fl k : Int) (x : Adv) (W : World) : Prop :=
  W.heap[w0.heap.size]? = some (.cells (scnC a n c s z v z' v' t fl k) 28 (0, 0)) ∧ W.heap[w0.heap.size + 1]? = some (advO x) ∧ Ints W a n s.rs ∧ Below w0.heap.size w0 W
section
variable {w0 W W' : World} {a : Option Addr} {n c : Nat} {s : RulesMath.Set} {z v z' v' t fl k : Int} {x : Adv}
theorem MxK.keep (h : MxK w0 a n c s z v z' v' t fl k x W) (hb : Below W.heap.size W W') : MxK w0 a n c s z v z' v' t fl k x W' := ⟨keepO hb h.1, keepO hb h.2.1, h.2.2.1.below hb, h.2.2.2.trans (hb.mono h.2.2.2.size)⟩
end
/-- Behind the two answers: all that region 10 reads. -/
def MyK (w0 : World) (a : Option Addr) (n c : Nat) (s : RulesMath.Set) (z v z' v' t fl k : Int) (x : Adv) (b6 : Nat) (a5 : Option Addr) (c5 b11 b13 : Nat) (y : Adv) (W : World) : Prop :=
  MxK w0 a n c s z v z' v' t fl k x W ∧ W.heap[b6]? = some (.cells (setC a5 n c5 s) 34 (0, 0)) ∧ Ints W a5 n s.rs ∧ W.heap[b11]? = some (advO y) ∧ W.heap[b13]? = some (advO y)
theorem MyK.keep {w0 W W' : World} {a a5 : Option Addr} {n c b6 c5 b11 b13 : Nat} {s : RulesMath.Set} {z v z' v' t fl k : Int} {x y : Adv} (h : MyK w0 a n c s z v z' v' t fl k x b6 a5 c5 b11 b13 y W) (hb : Below W.heap.size W W') : MyK w0 a n c s z v z' v' t fl k x b6 a5 c5 b11 b13 y W' :=
  ⟨h.1.keep hb, keepO hb h.2.1, h.2.2.1.below hb, keepO hb h.2.2.2.1, keepO hb h.2.2.2.2⟩
theorem advB_self (x : Adv) : advB x x = true := by unfold advB; simp
set_option maxRecDepth 100000 in
set_option maxHeartbeats 8000000 in
theorem matches_call (a : Option Addr) (n c : Nat) (s : RulesMath.Set) (z v z' v' t fl k : Int) (x : Adv) (w : World) (h : Ints w a n s.rs) (hx : 0 ≤ x.s) (hn : n ≤ 20) :
    Calls Try.prog 3 #[scnV a n c s z v z' v' t fl k, .agg #[.int .u8 x.s, .int .i64 x.r, .bool x.k]] w (BPost true w) := by
  have HL := Lib.hid h
  have HX := Lib.hid hx
  have hb := h.bound
  have hlong : decide (20 < n) = false := decide_eq_false (by omega)
  clear h hx
  unfold scnV
  go_enter Try.func3, Try.ntmps3
  go_wp2_with fail
  have K0 := Lib.hid (show MxK w a n c s z v z' v' t fl k x ((w.alloc (.cells (scnC a n c s z v z' v' t fl k) 28)).alloc (.cells #[.int .u8 x.s, .int .i64 x.r, .bool x.k] 30)) from
    ⟨block_alloc (block_new _ _ rfl), block_new _ _ (by simp), HL.out.below ((below_alloc _ _).alloc (by simp) _), (below_alloc _ _).alloc (by simp) _⟩)
  refine (long_call a n c s _ hb).mono ?_; rintro e w1 ⟨rfl, hb1⟩
  rw [hlong]
  have K1 := Lib.hid (K0.out.keep hb1)
  clear hb1 K0
  obtain ⟨q0, q1, q2, q3, q4, q5, q6, q7, q8, q9, qa⟩ := eleven K1.out.1
  go_wp2_with fail
  refine (copyInts_call a n c s.rs _ K1.out.2.2.1 (by omega)).mono ?_; rintro e w2 ⟨v5, rfl, ho5, hb2⟩
  have K2 := Lib.hid (K1.out.keep hb2)
  obtain ⟨a5, c5, rfl, hI5⟩ := ints_own K2.out.2.2.1.len ho5 hb
  have I5 := Lib.hid hI5
  clear hb2 K1 q0 q1 q2 q3 q4 q5 q6 q7 q8 q9 qa hI5 ho5
  obtain ⟨q0, q1, q2, q3, q4, q5, q6, q7, q8, q9, qa⟩ := eleven K2.out.1
  obtain ⟨y0, y1, y2⟩ := three_old' K2.out.2.1
  have lt1 : w.heap.size + 1 < w2.heap.size := (Array.getElem?_eq_some_iff.1 K2.out.2.1).1
  have lt0 : w.heap.size < w2.heap.size := by omega
  go_wp2_with fail
  have H3 := Lib.hid (show MxK w a n c s z v z' v' t fl k x (w2.alloc (.cells (setC a5 n c5 s) 34)) ∧ (w2.alloc (.cells (setC a5 n c5 s) 34)).heap[w2.heap.size]? = some (.cells (setC a5 n c5 s) 34 (0, 0)) ∧ Ints (w2.alloc (.cells (setC a5 n c5 s) 34)) a5 n s.rs from
    ⟨K2.out.keep (below_alloc _ _), block_new _ _ rfl, I5.out.below (below_alloc _ _)⟩)
  refine (pSeparation_call a n c s z v z' v' t x _ H3.out.1.2.2.1 HX.out).mono ?_; rintro e w4 ⟨rfl, hb4⟩
  have H4 := Lib.hid (And.intro (H3.out.1.keep hb4) (And.intro (keepO hb4 H3.out.2.1) (H3.out.2.2.below hb4)))
  clear hb4 H3 q0 q1 q2 q3 q4 q5 q6 q7 q8 q9 qa y0 y1 y2 lt0 lt1 K2 I5
  obtain ⟨q0, q1, q2, q3, q4, q5, q6, q7, q8, q9, qa⟩ := eleven H4.out.1.1
  obtain ⟨y0, y1, y2⟩ := three_old' H4.out.1.2.1
  obtain ⟨u0, u1, u2, u3⟩ := four_cells H4.out.2.1
  go_wp2_with fail
  refine (rSeparation_call a5 n c5 s z v z' v' t x _ H4.out.2.2 HX.out).mono ?_; rintro e w5 ⟨rfl, hb5⟩
  have H5 := Lib.hid (And.intro (H4.out.1.keep hb5) (And.intro (keepO hb5 H4.out.2.1) (H4.out.2.2.below hb5)))
  clear hb5 H4
  clear q0 q1 q2 q3 q4 q5 q6 q7 q8 q9 qa y0 y1 y2 u0 u1 u2 u3
  obtain ⟨q0, q1, q2, q3, q4, q5, q6, q7, q8, q9, qa⟩ := eleven H5.out.1.1
  obtain ⟨y0, y1, y2⟩ := three_old' H5.out.1.2.1
  obtain ⟨u0, u1, u2, u3⟩ := four_cells H5.out.2.1
  go_wp2_with fail
  refine (lchoose_call a n c s z v z' v' t fl k _ H5.out.1.2.2.1).mono ?_; rintro e w6 ⟨rfl, hb6⟩
  have H6 := Lib.hid (And.intro (H5.out.1.keep hb6) (And.intro (keepO hb6 H5.out.2.1) (H5.out.2.2.below hb6)))
  clear hb6 H5
  clear q0 q1 q2 q3 q4 q5 q6 q7 q8 q9 qa y0 y1 y2 u0 u1 u2 u3
  obtain ⟨q0, q1, q2, q3, q4, q5, q6, q7, q8, q9, qa⟩ := eleven H6.out.1.1
  obtain ⟨y0, y1, y2⟩ := three_old' H6.out.1.2.1
  obtain ⟨u0, u1, u2, u3⟩ := four_cells H6.out.2.1
  have lt2 : w2.heap.size < w6.heap.size := (Array.getElem?_eq_some_iff.1 H6.out.2.1).1
  have lt1 : w.heap.size + 1 < w6.heap.size := (Array.getElem?_eq_some_iff.1 H6.out.1.2.1).1
  have lt0 : w.heap.size < w6.heap.size := by omega
  go_wp2_with fail
  have H7 := Lib.hid (And.intro (H6.out.1.keep (below_alloc w6 (.cells #[.int .u8 (chR s z v z' v' t fl k).s, .int .i64 (chR s z v z' v' t fl k).r, .bool (chR s z v z' v' t fl k).k] 30))) (And.intro (keepO (below_alloc w6 (.cells #[.int .u8 (chR s z v z' v' t fl k).s, .int .i64 (chR s z v z' v' t fl k).r, .bool (chR s z v z' v' t fl k).k] 30)) H6.out.2.1) (And.intro (H6.out.2.2.below (below_alloc w6 (.cells #[.int .u8 (chR s z v z' v' t fl k).s, .int .i64 (chR s z v z' v' t fl k).r, .bool (chR s z v z' v' t fl k).k] 30)))
    (show (w6.alloc (.cells #[.int .u8 (chR s z v z' v' t fl k).s, .int .i64 (chR s z v z' v' t fl k).r, .bool (chR s z v z' v' t fl k).k] 30)).heap[w6.heap.size]? = some (advO (chR s z v z' v' t fl k)) from block_new _ _ rfl))))
  refine (rChoose_call a5 n c5 s z v z' v' t fl k _ H7.out.2.2.1).mono ?_; rintro e w7 ⟨rfl, hb7⟩
  have H8 := Lib.hid (And.intro (H7.out.1.keep hb7) (And.intro (keepO hb7 H7.out.2.1) (And.intro (H7.out.2.2.1.below hb7) (keepO hb7 H7.out.2.2.2))))
  clear hb7 H7 H6 q0 q1 q2 q3 q4 q5 q6 q7 q8 q9 qa y0 y1 y2 u0 u1 u2 u3 lt0 lt1 lt2
  generalize hb6 : w2.heap.size = b6 at *
  generalize hb11 : w6.heap.size = b11 at *
  generalize hy : chR s z v z' v' t fl k = y at *
  clear hb6 hb11 hy
  go_wp2_with fail
  have K : MyK w a n c s z v z' v' t fl k x b6 a5 c5 b11 w7.heap.size y (w7.alloc (.cells #[.int .u8 y.s, .int .i64 y.r, .bool y.k] 30)) :=
    ⟨H8.out.1.keep (below_alloc _ _), keepO (below_alloc _ _) H8.out.2.1, H8.out.2.2.1.below (below_alloc _ _), keepO (below_alloc _ _) H8.out.2.2.2, block_new _ _ rfl⟩
  clear H8
  generalize w7.heap.size = b13 at *
  generalize w7.alloc (.cells #[.int .u8 y.s, .int .i64 y.r, .bool y.k] 30) = w8 at *
  replace K := K.keep ((Below.refl w8.heap.size w8).drew)
  have hab := advB_self y
  have gd := adv_guard
  have ng := adv_eql
  refine wp_region_held_drew (S := (fun w' => (w'.cell? ⟨w.heap.size, 0, none⟩ = some (.slice a n c) ∧ w'.cell? ⟨w.heap.size, 1, none⟩ = some (.int .i64 s.alim) ∧ w'.cell? ⟨w.heap.size, 2, none⟩ = some (.int .i64 s.d) ∧ w'.cell? ⟨w.heap.size, 3, none⟩ = some (.int .i64 s.pl)) ∧ (w'.cell? ⟨b6, 0, none⟩ = some (.slice a5 n c5) ∧ w'.cell? ⟨b6, 1, none⟩ = some (.int .i64 s.alim) ∧ w'.cell? ⟨b6, 2, none⟩ = some (.int .i64 s.d) ∧ w'.cell? ⟨b6, 3, none⟩ = some (.int .i64 s.pl)) ∧ (w'.cell? ⟨b11, 0, none⟩ = some (.int .u8 y.s) ∧ w'.cell? ⟨b11, 1, none⟩ = some (.int .i64 y.r) ∧ w'.cell? ⟨b11, 2, none⟩ = some (.bool y.k)) ∧ (w'.cell? ⟨b13, 0, none⟩ = some (.int .u8 y.s) ∧ w'.cell? ⟨b13, 1, none⟩ = some (.int .i64 y.r) ∧ w'.cell? ⟨b13, 2, none⟩ = some (.bool y.k)))) (by kernel_rfl) (by (try dsimp only); (exact ⟨⟨(eleven K.1.1).1, (eleven K.1.1).2.1, (eleven K.1.1).2.2.1, (eleven K.1.1).2.2.2.1⟩, four_cells K.2.1, three_old' K.2.2.2.1, three_old' K.2.2.2.2⟩)) (fun hHeld => ?_)
  refine MyHeld.take 0 (v := ?_) .z (by kernel_rfl) (by kernel_rfl) (by kernel_rfl) (fun _ _ _ h => h) (by rfl) (by assumption) ?_ ?_
  rotate_left
  · intro w hSw; (try dsimp only at hSw); go_simp; (try with_reducible rfl)
  try simp only [Act.put, List.setIfInBounds_toArray, List.set_cons_zero, List.set_cons_succ]
  refine MyHeld.take 1 (v := ?_) (.s .z) (by kernel_rfl) (by kernel_rfl) (by kernel_rfl) (fun _ _ _ h => h) (by rfl) (by assumption) ?_ ?_
  rotate_left
  · intro w hSw; (try dsimp only at hSw); go_simp; (try with_reducible rfl)
  try simp only [Act.put, List.setIfInBounds_toArray, List.set_cons_zero, List.set_cons_succ]
  refine MyHeld.take 3 (v := ?_) (.s (.s (.s .z))) (by kernel_rfl) (by kernel_rfl) (by kernel_rfl) (fun _ _ _ h => h) (by rfl) (by assumption) ?_ ?_
  rotate_left
  · intro w hSw; (try dsimp only at hSw); go_simp; (try with_reducible rfl)
  try simp only [Act.put, List.setIfInBounds_toArray, List.set_cons_zero, List.set_cons_succ]
  refine wpAnyH_ready (rs := [2]) (by kernel_rfl) (by simp) ?_
  refine (MyHeld.next 2 (.s (.s .z)) (fun Kq hKq => ?_) AllReadyH.nil)
  go_simp
  (go_at_call 17; refine (pCheckS a n c s _ K.1.2.2.1).mono ?_; rintro e w9 ⟨rfl, hb9⟩; replace K := K.keep hb9; clear hb9)
  go_wp2_with fail
  refine hKq.out _ _ (by (try dsimp only); (exact ⟨⟨(eleven K.1.1).1, (eleven K.1.1).2.1, (eleven K.1.1).2.2.1, (eleven K.1.1).2.2.2.1⟩, four_cells K.2.1, three_old' K.2.2.2.1, three_old' K.2.2.2.2⟩)) (fun hHeld' => ?_)
  clear hKq Kq hHeld; have hHeld := hHeld'; clear hHeld'
  try simp only [Act.put, List.setIfInBounds_toArray, List.set_cons_zero, List.set_cons_succ]
  refine wpAnyH_ready (rs := [4]) (by kernel_rfl) (by simp) ?_
  refine (MyHeld.next 4 (.s (.s (.s (.s .z)))) (fun Kq hKq => ?_) AllReadyH.nil)
  go_simp
  (go_at_call 18; refine (rCheckS a5 n c5 s _ K.2.2.1).mono ?_; rintro e w9 ⟨rfl, hb9⟩; replace K := K.keep hb9; clear hb9)
  go_wp2_with fail
  refine hKq.out _ _ (by (try dsimp only); (exact ⟨⟨(eleven K.1.1).1, (eleven K.1.1).2.1, (eleven K.1.1).2.2.1, (eleven K.1.1).2.2.2.1⟩, four_cells K.2.1, three_old' K.2.2.2.1, three_old' K.2.2.2.2⟩)) (fun hHeld' => ?_)
  clear hKq Kq hHeld; have hHeld := hHeld'; clear hHeld'
  try simp only [Act.put, List.setIfInBounds_toArray, List.set_cons_zero, List.set_cons_succ]
  refine MyHeld.take 5 (v := ?_) (.s (.s (.s (.s (.s .z))))) (by kernel_rfl) (by kernel_rfl) (by kernel_rfl) (fun _ _ _ h => h) (by rfl) (by assumption) ?_ ?_
  rotate_left
  · intro w hSw; (try dsimp only at hSw); go_simp; (try with_reducible rfl)
  try simp only [Act.put, List.setIfInBounds_toArray, List.set_cons_zero, List.set_cons_succ]
  refine MyHeld.take 6 (v := ?_) (.s (.s (.s (.s (.s (.s .z)))))) (by kernel_rfl) (by kernel_rfl) (by kernel_rfl) (fun _ _ _ h => h) (by rfl) (by assumption) ?_ ?_
  rotate_left
  · intro w hSw; (try dsimp only at hSw); go_simp; (try with_reducible rfl)
  try simp only [Act.put, List.setIfInBounds_toArray, List.set_cons_zero, List.set_cons_succ]
  refine MyHeld.take 7 (v := ?_) (.s (.s (.s (.s (.s (.s (.s .z))))))) (by kernel_rfl) (by kernel_rfl) (by kernel_rfl) (fun _ _ _ h => h) (by rfl) (by assumption) ?_ ?_
  rotate_left
  · intro w hSw; (try dsimp only at hSw); go_simp; (try with_reducible rfl)
  try simp only [Act.put, List.setIfInBounds_toArray, List.set_cons_zero, List.set_cons_succ]
  refine MyHeld.take 8 (v := ?_) (.s (.s (.s (.s (.s (.s (.s (.s .z)))))))) (by kernel_rfl) (by kernel_rfl) (by kernel_rfl) (fun _ _ _ h => h) (by rfl) (by assumption) ?_ ?_
  rotate_left
  · intro w hSw; (try dsimp only at hSw); go_simp; (try with_reducible rfl)
  try simp only [Act.put, List.setIfInBounds_toArray, List.set_cons_zero, List.set_cons_succ]
  refine MyHeld.take 9 (v := ?_) (.s (.s (.s (.s (.s (.s (.s (.s (.s .z))))))))) (by kernel_rfl) (by kernel_rfl) (by kernel_rfl) (fun _ _ _ h => h) (by rfl) (by assumption) ?_ ?_
  rotate_left
  · intro w hSw; (try dsimp only at hSw); go_simp; (try with_reducible rfl)
  try simp only [Act.put, List.setIfInBounds_toArray, List.set_cons_zero, List.set_cons_succ]
  refine MyHeld.take 10 (v := ?_) (.s (.s (.s (.s (.s (.s (.s (.s (.s (.s .z)))))))))) (by kernel_rfl) (by kernel_rfl) (by kernel_rfl) (fun _ _ _ h => h) (by rfl) (by assumption) ?_ ?_
  rotate_left
  · intro w hSw; (try dsimp only at hSw); go_simp; (try with_reducible rfl)
  try simp only [Act.put, List.setIfInBounds_toArray, List.set_cons_zero, List.set_cons_succ]
  refine MyHeld.take 11 (v := ?_) (.s (.s (.s (.s (.s (.s (.s (.s (.s (.s (.s .z))))))))))) (by kernel_rfl) (by kernel_rfl) (by kernel_rfl) (fun _ _ _ h => h) (by rfl) (by assumption) ?_ ?_
  rotate_left
  · intro w hSw; (try dsimp only at hSw); go_simp; (try with_reducible rfl)
  try simp only [Act.put, List.setIfInBounds_toArray, List.set_cons_zero, List.set_cons_succ]
  refine MyHeld.take 12 (v := ?_) (.s (.s (.s (.s (.s (.s (.s (.s (.s (.s (.s (.s .z)))))))))))) (by kernel_rfl) (by kernel_rfl) (by kernel_rfl) (fun _ _ _ h => h) (by rfl) (by assumption) ?_ ?_
  rotate_left
  · intro w hSw; (try dsimp only at hSw); go_simp; (try with_reducible rfl)
  try simp only [Act.put, List.setIfInBounds_toArray, List.set_cons_zero, List.set_cons_succ]
  refine MyHeld.take 13 (v := ?_) (.s (.s (.s (.s (.s (.s (.s (.s (.s (.s (.s (.s (.s .z))))))))))))) (by kernel_rfl) (by kernel_rfl) (by kernel_rfl) (fun _ _ _ h => h) (by rfl) (by assumption) ?_ ?_
  rotate_left
  · intro w hSw; (try dsimp only at hSw); go_simp; (try with_reducible rfl)
  try simp only [Act.put, List.setIfInBounds_toArray, List.set_cons_zero, List.set_cons_succ]
  refine MyHeld.take 14 (v := ?_) (.s (.s (.s (.s (.s (.s (.s (.s (.s (.s (.s (.s (.s (.s .z)))))))))))))) (by kernel_rfl) (by kernel_rfl) (by kernel_rfl) (fun _ _ _ h => h) (by rfl) (by assumption) ?_ ?_
  rotate_left
  · intro w hSw; (try dsimp only at hSw); go_simp; (try with_reducible rfl)
  try simp only [Act.put, List.setIfInBounds_toArray, List.set_cons_zero, List.set_cons_succ]
  refine MyHeld.take 15 (v := ?_) (.s (.s (.s (.s (.s (.s (.s (.s (.s (.s (.s (.s (.s (.s (.s .z))))))))))))))) (by kernel_rfl) (by kernel_rfl) (by kernel_rfl) (fun _ _ _ h => h) (by rfl) (by assumption) ?_ ?_
  rotate_left
  · intro w hSw; (try dsimp only at hSw); go_simp; (try with_reducible rfl)
  try simp only [Act.put, List.setIfInBounds_toArray, List.set_cons_zero, List.set_cons_succ]
  refine MyHeld.take 16 (v := ?_) (.s (.s (.s (.s (.s (.s (.s (.s (.s (.s (.s (.s (.s (.s (.s (.s .z)))))))))))))))) (by kernel_rfl) (by kernel_rfl) (by kernel_rfl) (fun _ _ _ h => h) (by rfl) (by assumption) ?_ ?_
  rotate_left
  · intro w hSw; (try dsimp only at hSw); go_simp; (try with_reducible rfl)
  try simp only [Act.put, List.setIfInBounds_toArray, List.set_cons_zero, List.set_cons_succ]
  refine MyHeld.take 17 (v := ?_) (.s (.s (.s (.s (.s (.s (.s (.s (.s (.s (.s (.s (.s (.s (.s (.s (.s .z))))))))))))))))) (by kernel_rfl) (by kernel_rfl) (by kernel_rfl) (fun _ _ _ h => h) (by rfl) (by assumption) ?_ ?_
  rotate_left
  · intro w hSw; (try dsimp only at hSw); go_simp; (try with_reducible rfl)
  try simp only [Act.put, List.setIfInBounds_toArray, List.set_cons_zero, List.set_cons_succ]
  refine MyHeld.take 18 (v := ?_) (.s (.s (.s (.s (.s (.s (.s (.s (.s (.s (.s (.s (.s (.s (.s (.s (.s (.s .z)))))))))))))))))) (by kernel_rfl) (by kernel_rfl) (by kernel_rfl) (fun _ _ _ h => h) (by rfl) (by assumption) ?_ ?_
  rotate_left
  · intro w hSw; (try dsimp only at hSw); go_simp; (try with_reducible rfl)
  try simp only [Act.put, List.setIfInBounds_toArray, List.set_cons_zero, List.set_cons_succ]
  refine MyHeld.take 19 (v := ?_) (.s (.s (.s (.s (.s (.s (.s (.s (.s (.s (.s (.s (.s (.s (.s (.s (.s (.s (.s .z))))))))))))))))))) (by kernel_rfl) (by kernel_rfl) (by kernel_rfl) (fun _ _ _ h => h) (by rfl) (by assumption) ?_ ?_
  rotate_left
  · intro w hSw; (try dsimp only at hSw); go_simp; (try with_reducible rfl)
  try simp only [Act.put, List.setIfInBounds_toArray, List.set_cons_zero, List.set_cons_succ]
  refine MyHeld.take 20 (v := ?_) (.s (.s (.s (.s (.s (.s (.s (.s (.s (.s (.s (.s (.s (.s (.s (.s (.s (.s (.s (.s .z)))))))))))))))))))) (by kernel_rfl) (by kernel_rfl) (by kernel_rfl) (fun _ _ _ h => h) (by rfl) (by assumption) ?_ ?_
  rotate_left
  · intro w hSw; (try dsimp only at hSw); go_simp; (try with_reducible rfl)
  try simp only [Act.put, List.setIfInBounds_toArray, List.set_cons_zero, List.set_cons_succ]
  refine MyHeld.take 21 (v := ?_) (.s (.s (.s (.s (.s (.s (.s (.s (.s (.s (.s (.s (.s (.s (.s (.s (.s (.s (.s (.s (.s .z))))))))))))))))))))) (by kernel_rfl) (by kernel_rfl) (by kernel_rfl) (fun _ _ _ h => h) (by rfl) (by assumption) ?_ ?_
  rotate_left
  · intro w hSw; (try dsimp only at hSw); go_simp; (try with_reducible rfl)
  try simp only [Act.put, List.setIfInBounds_toArray, List.set_cons_zero, List.set_cons_succ]
  refine MyHeld.take 22 (v := ?_) (.s (.s (.s (.s (.s (.s (.s (.s (.s (.s (.s (.s (.s (.s (.s (.s (.s (.s (.s (.s (.s (.s .z)))))))))))))))))))))) (by kernel_rfl) (by kernel_rfl) (by kernel_rfl) (fun _ _ _ h => h) (by rfl) (by assumption) ?_ ?_
  rotate_left
  · intro w hSw; (try dsimp only at hSw); go_simp; (try with_reducible rfl)
  try simp only [Act.put, List.setIfInBounds_toArray, List.set_cons_zero, List.set_cons_succ]
  refine MyHeld.take 23 (v := ?_) (.s (.s (.s (.s (.s (.s (.s (.s (.s (.s (.s (.s (.s (.s (.s (.s (.s (.s (.s (.s (.s (.s (.s .z))))))))))))))))))))))) (by kernel_rfl) (by kernel_rfl) (by kernel_rfl) (fun _ _ _ h => h) (by rfl) (by assumption) ?_ ?_
  rotate_left
  · intro w hSw; (try dsimp only at hSw); go_simp; (try with_reducible rfl)
  try simp only [Act.put, List.setIfInBounds_toArray, List.set_cons_zero, List.set_cons_succ]
  refine MyHeld.take 24 (v := ?_) (.s (.s (.s (.s (.s (.s (.s (.s (.s (.s (.s (.s (.s (.s (.s (.s (.s (.s (.s (.s (.s (.s (.s (.s .z)))))))))))))))))))))))) (by kernel_rfl) (by kernel_rfl) (by kernel_rfl) (fun _ _ _ h => h) (by rfl) (by assumption) ?_ ?_
  rotate_left
  · intro w hSw; (try dsimp only at hSw); go_simp; (try with_reducible rfl)
  try simp only [Act.put, List.setIfInBounds_toArray, List.set_cons_zero, List.set_cons_succ]
  refine MyHeld.take 25 (v := ?_) (.s (.s (.s (.s (.s (.s (.s (.s (.s (.s (.s (.s (.s (.s (.s (.s (.s (.s (.s (.s (.s (.s (.s (.s (.s .z))))))))))))))))))))))))) (by kernel_rfl) (by kernel_rfl) (by kernel_rfl) (fun _ _ _ h => h) (by rfl) (by assumption) ?_ ?_
  rotate_left
  · intro w hSw; (try dsimp only at hSw); go_simp; (try with_reducible rfl)
  try simp only [Act.put, List.setIfInBounds_toArray, List.set_cons_zero, List.set_cons_succ]
  refine MyHeld.take 26 (v := ?_) (.s (.s (.s (.s (.s (.s (.s (.s (.s (.s (.s (.s (.s (.s (.s (.s (.s (.s (.s (.s (.s (.s (.s (.s (.s (.s .z)))))))))))))))))))))))))) (by kernel_rfl) (by kernel_rfl) (by kernel_rfl) (fun _ _ _ h => h) (by rfl) (by assumption) ?_ ?_
  rotate_left
  · intro w hSw; (try dsimp only at hSw); go_simp; (try with_reducible rfl)
  try simp only [Act.put, List.setIfInBounds_toArray, List.set_cons_zero, List.set_cons_succ]
  refine MyHeld.take 27 (v := ?_) (.s (.s (.s (.s (.s (.s (.s (.s (.s (.s (.s (.s (.s (.s (.s (.s (.s (.s (.s (.s (.s (.s (.s (.s (.s (.s (.s .z))))))))))))))))))))))))))) (by kernel_rfl) (by kernel_rfl) (by kernel_rfl) (fun _ _ _ h => h) (by rfl) (by assumption) ?_ ?_
  rotate_left
  · intro w hSw; (try dsimp only at hSw); go_simp; (try with_reducible rfl)
  try simp only [Act.put, List.setIfInBounds_toArray, List.set_cons_zero, List.set_cons_succ]
  refine MyHeld.take 28 (v := ?_) (.s (.s (.s (.s (.s (.s (.s (.s (.s (.s (.s (.s (.s (.s (.s (.s (.s (.s (.s (.s (.s (.s (.s (.s (.s (.s (.s (.s .z)))))))))))))))))))))))))))) (by kernel_rfl) (by kernel_rfl) (by kernel_rfl) (fun _ _ _ h => h) (by rfl) (by assumption) ?_ ?_
  rotate_left
  · intro w hSw; (try dsimp only at hSw); go_simp; (try with_reducible rfl)
  try simp only [Act.put, List.setIfInBounds_toArray, List.set_cons_zero, List.set_cons_succ]
  refine MyHeld.take 29 (v := ?_) (.s (.s (.s (.s (.s (.s (.s (.s (.s (.s (.s (.s (.s (.s (.s (.s (.s (.s (.s (.s (.s (.s (.s (.s (.s (.s (.s (.s (.s .z))))))))))))))))))))))))))))) (by kernel_rfl) (by kernel_rfl) (by kernel_rfl) (fun _ _ _ h => h) (by rfl) (by assumption) ?_ ?_
  rotate_left
  · intro w hSw; (try dsimp only at hSw); go_simp; (try with_reducible rfl)
  try simp only [Act.put, List.setIfInBounds_toArray, List.set_cons_zero, List.set_cons_succ]
  refine MyHeld.take 30 (v := ?_) (.s (.s (.s (.s (.s (.s (.s (.s (.s (.s (.s (.s (.s (.s (.s (.s (.s (.s (.s (.s (.s (.s (.s (.s (.s (.s (.s (.s (.s (.s .z)))))))))))))))))))))))))))))) (by kernel_rfl) (by kernel_rfl) (by kernel_rfl) (fun _ _ _ h => h) (by rfl) (by assumption) ?_ ?_
  rotate_left
  · intro w hSw; (try dsimp only at hSw); go_simp; (try with_reducible rfl)
  try simp only [Act.put, List.setIfInBounds_toArray, List.set_cons_zero, List.set_cons_succ]
  refine wpAnyH_ready (rs := [31]) (by kernel_rfl) (by simp) ?_
  refine (MyHeld.next 31 (.s (.s (.s (.s (.s (.s (.s (.s (.s (.s (.s (.s (.s (.s (.s (.s (.s (.s (.s (.s (.s (.s (.s (.s (.s (.s (.s (.s (.s (.s (.s .z))))))))))))))))))))))))))))))) (fun Kq hKq => ?_) AllReadyH.nil)
  go_simp
  (go_at_call 19; refine (equalInts_call a a5 n n c c5 s.rs s.rs _ K.1.2.2.1 K.2.2.1).mono ?_; rintro e w9 ⟨rfl, hb9⟩; rw [decide_eq_true (rfl : s.rs = s.rs)]; replace K := K.keep hb9; clear hb9)
  go_wp2_with fail
  refine hKq.out _ _ (by (try dsimp only); (exact ⟨⟨(eleven K.1.1).1, (eleven K.1.1).2.1, (eleven K.1.1).2.2.1, (eleven K.1.1).2.2.2.1⟩, four_cells K.2.1, three_old' K.2.2.2.1, three_old' K.2.2.2.2⟩)) (fun hHeld' => ?_)
  clear hKq Kq hHeld; have hHeld := hHeld'; clear hHeld'
  try simp only [Act.put, List.setIfInBounds_toArray, List.set_cons_zero, List.set_cons_succ]
  refine MyHeld.take 32 (v := ?_) (.s (.s (.s (.s (.s (.s (.s (.s (.s (.s (.s (.s (.s (.s (.s (.s (.s (.s (.s (.s (.s (.s (.s (.s (.s (.s (.s (.s (.s (.s (.s (.s .z)))))))))))))))))))))))))))))))) (by kernel_rfl) (by kernel_rfl) (by kernel_rfl) (fun _ _ _ h => h) (by rfl) (by assumption) ?_ ?_
  rotate_left
  · intro w hSw; (try dsimp only at hSw); go_simp; (try with_reducible rfl)
  try simp only [Act.put, List.setIfInBounds_toArray, List.set_cons_zero, List.set_cons_succ]
  refine MyHeld.take 33 (v := ?_) (.s (.s (.s (.s (.s (.s (.s (.s (.s (.s (.s (.s (.s (.s (.s (.s (.s (.s (.s (.s (.s (.s (.s (.s (.s (.s (.s (.s (.s (.s (.s (.s (.s .z))))))))))))))))))))))))))))))))) (by kernel_rfl) (by kernel_rfl) (by kernel_rfl) (fun _ _ _ h => h) (by rfl) (by assumption) ?_ ?_
  rotate_left
  · intro w hSw; (try dsimp only at hSw); go_simp; (try with_reducible rfl)
  try simp only [Act.put, List.setIfInBounds_toArray, List.set_cons_zero, List.set_cons_succ]
  refine wpAnyH_ready (rs := [34]) (by kernel_rfl) (by simp) ?_
  refine (MyHeld.next 34 (.s (.s (.s (.s (.s (.s (.s (.s (.s (.s (.s (.s (.s (.s (.s (.s (.s (.s (.s (.s (.s (.s (.s (.s (.s (.s (.s (.s (.s (.s (.s (.s (.s (.s .z)))))))))))))))))))))))))))))))))) (fun Kq hKq => ?_) AllReadyH.nil)
  go_simp
  (go_at_call 11; refine (awake_call _).mono ?_; rintro e w9 ⟨rfl, hb9⟩; replace K := K.keep hb9; clear hb9)
  go_wp2_with fail
  refine hKq.out _ _ (by (try dsimp only); (exact ⟨⟨(eleven K.1.1).1, (eleven K.1.1).2.1, (eleven K.1.1).2.2.1, (eleven K.1.1).2.2.2.1⟩, four_cells K.2.1, three_old' K.2.2.2.1, three_old' K.2.2.2.2⟩)) (fun hHeld' => ?_)
  clear hKq Kq hHeld; have hHeld := hHeld'; clear hHeld'
  try simp only [Act.put, List.setIfInBounds_toArray, List.set_cons_zero, List.set_cons_succ]
  refine MyHeld.take 35 (v := ?_) (.s (.s (.s (.s (.s (.s (.s (.s (.s (.s (.s (.s (.s (.s (.s (.s (.s (.s (.s (.s (.s (.s (.s (.s (.s (.s (.s (.s (.s (.s (.s (.s (.s (.s (.s .z))))))))))))))))))))))))))))))))))) (by kernel_rfl) (by kernel_rfl) (by kernel_rfl) (fun _ _ _ h => h) (by rfl) (by assumption) ?_ ?_
  rotate_left
  · intro w hSw; (try dsimp only at hSw); go_simp; (try with_reducible rfl)
  try simp only [Act.put, List.setIfInBounds_toArray, List.set_cons_zero, List.set_cons_succ]
  refine MyHeld.take 36 (v := ?_) (.s (.s (.s (.s (.s (.s (.s (.s (.s (.s (.s (.s (.s (.s (.s (.s (.s (.s (.s (.s (.s (.s (.s (.s (.s (.s (.s (.s (.s (.s (.s (.s (.s (.s (.s (.s .z)))))))))))))))))))))))))))))))))))) (by kernel_rfl) (by kernel_rfl) (by kernel_rfl) (fun _ _ _ h => h) (by rfl) (by assumption) ?_ ?_
  rotate_left
  · intro w hSw; (try dsimp only at hSw); go_simp; (try with_reducible rfl)
  try simp only [Act.put, List.setIfInBounds_toArray, List.set_cons_zero, List.set_cons_succ]
  refine wpAnyH_done (by kernel_rfl) ?_ _
  all_goals go_wp2_with fail
  all_goals go_ret
  all_goals exact ⟨rfl, K.1.2.2.2⟩

set_option maxRecDepth 100000 in
set_option maxHeartbeats 4000000 in
theorem matches_long (a : Option Addr) (n c : Nat) (s : RulesMath.Set) (z v z' v' t fl k : Int) (x : Adv) (w : World) (hb : n ≤ 9223372036854775807) (hn : 20 < n) :
    Calls Try.prog 3 #[scnV a n c s z v z' v' t fl k, .agg #[.int .u8 x.s, .int .i64 x.r, .bool x.k]] w (BPost true w) := by
  have hlong : decide (20 < n) = true := decide_eq_true hn
  unfold scnV
  go_enter Try.func3, Try.ntmps3
  go_wp2_with fail
  have hB := (below_alloc w (.cells (scnC a n c s z v z' v' t fl k) 28)).alloc (by simp) (.cells #[.int .u8 x.s, .int .i64 x.r, .bool x.k] 30)
  refine (long_call a n c s _ hb).mono ?_; rintro e w1 ⟨rfl, hb1⟩
  rw [hlong]
  have H1 := Lib.hid (hB.trans (hb1.mono hB.size))
  clear hB hb1
  go_wp2_with fail
  refine (awake_call _).mono ?_; rintro e w2 ⟨rfl, hb2⟩
  have H2 := Lib.hid (H1.out.trans (hb2.mono H1.out.size))
  clear hb2 H1
  go_wp2_with fail
  go_ret
  exact ⟨rfl, H2.out⟩

theorem rulesMatches_call (a : Option Addr) (n c : Nat) (s : RulesMath.Set) (z v z' v' t fl k : Int) (x : Adv) (w : World) (h : Ints w a n s.rs) (hx : 0 ≤ x.s) :
    Calls Try.prog 3 #[scnV a n c s z v z' v' t fl k, .agg #[.int .u8 x.s, .int .i64 x.r, .bool x.k]] w (BPost true w) := by
  by_cases hn : n ≤ 20
  · exact matches_call a n c s z v z' v' t fl k x w h hx hn
  · exact matches_long a n c s z v z' v' t fl k x w h.bound (by omega)
end Go.Proofs.Ytfgalaalopkclaa
