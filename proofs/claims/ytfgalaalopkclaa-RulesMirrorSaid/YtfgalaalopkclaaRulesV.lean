/-
  Layer 38 (rules): the law Mirror, the walk. Printed by genRulesV.py.
-/
import Derived.Test.YtfgalaalopkclaaRulesU
import Derived.Deep.DeepCutAuto
namespace Go.Proofs.Ytfgalaalopkclaa
open Go.RowKit PlaneMath PilotMath RulesMath MyHeap MyOwn MyCopy

def lockB (k : Int) : Bool := decide (k = 1 ∨ k = 2)
/-- In Mirror: the case, and nothing of w0 written. -/
def MiK (w0 : World) (C : Array Value) (W : World) : Prop := W.heap[w0.heap.size]? = some (.cells C 28 (0, 0)) ∧ Below w0.heap.size w0 W
/-- The same, the first answer, the case upside down. -/
def MiY (w0 : World) (C : Array Value) (bA : Nat) (y : Adv) (bY : Nat) (D : Array Value) (W : World) : Prop := MiK w0 C W ∧ w0.heap.size < bY ∧ bA ≠ bY ∧ W.heap[bA]? = some (advO y) ∧ W.heap[bY]? = some (.cells D 28 (0, 0))
section
variable {w0 W W' : World} {C D : Array Value} {bA bY : Nat} {y : Adv}
theorem MiK.keep (h : MiK w0 C W) (hb : Below W.heap.size W W') : MiK w0 C W' := ⟨keepO hb h.1, h.2.trans (hb.mono h.2.size)⟩
theorem MiK.only {b : Nat} (h : MiK w0 C W) (hO : Only b W W') (hb : w0.heap.size < b) : MiK w0 C W' := ⟨hO.keeps h.1 (by omega), h.2.trans (hO.below (by omega) h.2.size)⟩
theorem MiY.keep (h : MiY w0 C bA y bY D W) (hb : Below W.heap.size W W') : MiY w0 C bA y bY D W' := ⟨h.1.keep hb, h.2.1, h.2.2.1, keepO hb h.2.2.2.1, keepO hb h.2.2.2.2⟩
theorem MiY.set (h : MiY w0 C bA y bY D W) (i : Nat) (v : Value) : MiY w0 C bA y bY (D.setIfInBounds i v) (W.setCell ⟨bY, i, none⟩ v) :=
  ⟨h.1.only ((Only.refl _ _).setCell i v) h.2.1, h.2.1, h.2.2.1, ((Only.refl _ _).setCell i v).keeps h.2.2.2.1 h.2.2.1, block_setCell h.2.2.2.2⟩
end
theorem MiK.cells {w0 W : World} {a : Option Addr} {n c : Nat} {s : RulesMath.Set} {z v z' v' t fl k : Int} (h : MiK w0 (scnC a n c s z v z' v' t fl k) W) :
    W.cell? ⟨w0.heap.size, 4, none⟩ = some (.int .i64 z) ∧ W.cell? ⟨w0.heap.size, 5, none⟩ = some (.int .i64 v) ∧ W.cell? ⟨w0.heap.size, 6, none⟩ = some (.int .i64 z') ∧ W.cell? ⟨w0.heap.size, 7, none⟩ = some (.int .i64 v') := by
  obtain ⟨_, _, _, _, q4, q5, q6, q7, _, _, _⟩ := eleven h.1
  exact ⟨q4, q5, q6, q7⟩
theorem MiY.cells0 {w0 W : World} {a : Option Addr} {n c : Nat} {s : RulesMath.Set} {z v z' v' t fl k : Int} {D : Array Value} {bA bY : Nat} {y : Adv} (h : MiY w0 (scnC a n c s z v z' v' t fl k) bA y bY D W) : W.cell? ⟨w0.heap.size, 4, none⟩ = some (.int .i64 z) ∧ W.cell? ⟨w0.heap.size, 5, none⟩ = some (.int .i64 v) ∧ W.cell? ⟨w0.heap.size, 6, none⟩ = some (.int .i64 z') ∧ W.cell? ⟨w0.heap.size, 7, none⟩ = some (.int .i64 v') := h.1.cells
theorem MiY.cells2 {w0 W : World} {a : Option Addr} {n c : Nat} {s : RulesMath.Set} {z v z' v' t fl k : Int} {D : Array Value} {bA bY : Nat} {y : Adv} (h : MiY w0 (scnC a n c s z v z' v' t fl k) bA y bY D W) (x4 x5 : Value) : ((W.setCell ⟨bY, 4, none⟩ x4).setCell ⟨bY, 5, none⟩ x5).cell? ⟨w0.heap.size, 4, none⟩ = some (.int .i64 z) ∧ ((W.setCell ⟨bY, 4, none⟩ x4).setCell ⟨bY, 5, none⟩ x5).cell? ⟨w0.heap.size, 5, none⟩ = some (.int .i64 v) ∧ ((W.setCell ⟨bY, 4, none⟩ x4).setCell ⟨bY, 5, none⟩ x5).cell? ⟨w0.heap.size, 6, none⟩ = some (.int .i64 z') ∧ ((W.setCell ⟨bY, 4, none⟩ x4).setCell ⟨bY, 5, none⟩ x5).cell? ⟨w0.heap.size, 7, none⟩ = some (.int .i64 v') := ((h.set 4 x4).set 5 x5).1.cells
theorem MiY.cells4 {w0 W : World} {a : Option Addr} {n c : Nat} {s : RulesMath.Set} {z v z' v' t fl k : Int} {D : Array Value} {bA bY : Nat} {y : Adv} (h : MiY w0 (scnC a n c s z v z' v' t fl k) bA y bY D W) (x4 x5 x6 x7 : Value) : ((((W.setCell ⟨bY, 4, none⟩ x4).setCell ⟨bY, 5, none⟩ x5).setCell ⟨bY, 6, none⟩ x6).setCell ⟨bY, 7, none⟩ x7).cell? ⟨w0.heap.size, 4, none⟩ = some (.int .i64 z) ∧ ((((W.setCell ⟨bY, 4, none⟩ x4).setCell ⟨bY, 5, none⟩ x5).setCell ⟨bY, 6, none⟩ x6).setCell ⟨bY, 7, none⟩ x7).cell? ⟨w0.heap.size, 5, none⟩ = some (.int .i64 v) ∧ ((((W.setCell ⟨bY, 4, none⟩ x4).setCell ⟨bY, 5, none⟩ x5).setCell ⟨bY, 6, none⟩ x6).setCell ⟨bY, 7, none⟩ x7).cell? ⟨w0.heap.size, 6, none⟩ = some (.int .i64 z') ∧ ((((W.setCell ⟨bY, 4, none⟩ x4).setCell ⟨bY, 5, none⟩ x5).setCell ⟨bY, 6, none⟩ x6).setCell ⟨bY, 7, none⟩ x7).cell? ⟨w0.heap.size, 7, none⟩ = some (.int .i64 v') := ((((h.set 4 x4).set 5 x5).set 6 x6).set 7 x7).1.cells
theorem MiY.four {w0 W : World} {a : Option Addr} {n c : Nat} {s : RulesMath.Set} {z v z' v' t fl k : Int} {C : Array Value} {bA bY : Nat} {y : Adv} (h : MiY w0 C bA y bY (scnC a n c s z v z' v' t fl k) W) (x4 x5 x6 x7 : Int) : MiY w0 C bA y bY (scnC a n c s x4 x5 x6 x7 t fl k) ((((W.setCell ⟨bY, 4, none⟩ (.int .i64 x4)).setCell ⟨bY, 5, none⟩ (.int .i64 x5)).setCell ⟨bY, 6, none⟩ (.int .i64 x6)).setCell ⟨bY, 7, none⟩ (.int .i64 x7)) :=
  (((h.set 4 (.int .i64 x4)).set 5 (.int .i64 x5)).set 6 (.int .i64 x6)).set 7 (.int .i64 x7)
theorem MiY.ten {w0 W : World} {a : Option Addr} {n c : Nat} {s : RulesMath.Set} {z v z' v' t fl k : Int} {C : Array Value} {bA bY : Nat} {y : Adv} (h : MiY w0 C bA y bY (scnC a n c s z v z' v' t fl k) W) (x : Int) : MiY w0 C bA y bY (scnC a n c s z v z' v' t fl x) (W.setCell ⟨bY, 10, none⟩ (.int .u8 x)) := h.set 10 (.int .u8 x)
theorem chR_s {s : RulesMath.Set} {z v z' v' t fl k : Int} (h : chE s z v z' v' t fl k = 0) : (chR s z v z' v' t fl k).s = 1 ∨ (chR s z v z' v' t fl k).s = 2 := by
  obtain ⟨_, hg, e⟩ := ch_ok h
  obtain ⟨m, hm, e2, _⟩ := enA_at s z v z' v' (chG s z v z' v' t fl k) t
  rw [e, e2, RulesMath.lst_s s _ m hm]
  exact hg
theorem MiY.lts {w0 W : World} {C D : Array Value} {bA bY : Nat} {y : Adv} (h : MiY w0 C bA y bY D W) : w0.heap.size < W.heap.size ∧ bA < W.heap.size ∧ bY < W.heap.size ∧ w0.heap.size < bY := ⟨lt_of_block h.1.1, lt_of_block h.2.2.2.1, lt_of_block h.2.2.2.2, h.2.1⟩
/-- And the second answer. -/
def MiZ (w0 : World) (C : Array Value) (bA : Nat) (y : Adv) (bY : Nat) (D : Array Value) (bB : Nat) (y2 : Adv) (W : World) : Prop := MiY w0 C bA y bY D W ∧ W.heap[bB]? = some (advO y2)
theorem MiZ.keep {w0 W W' : World} {C D : Array Value} {bA bY bB : Nat} {y y2 : Adv} (h : MiZ w0 C bA y bY D bB y2 W) (hb : Below W.heap.size W W') : MiZ w0 C bA y bY D bB y2 W' := ⟨h.1.keep hb, keepO hb h.2⟩
theorem MiY.free {w0 W : World} {C D : Array Value} {bA bY : Nat} {y : Adv} (h : MiY w0 C bA y bY D W) (i : Nat) : W.frozen? ⟨bY, i, none⟩ = false := free_of_block h.2.2.2.2

set_option maxRecDepth 100000 in
set_option maxHeartbeats 8000000 in
theorem mirror_err (a : Option Addr) (n c : Nat) (s : RulesMath.Set) (z v z' v' t fl k : Int) (w : World) (h : Ints w a n s.rs) (hn : n ≤ 20) (hM : Mir s z v z' v' t k) (hE : chE s z v z' v' t (-1000) k ≠ 0) :
    Calls Try.prog 5 #[scnV a n c s z v z' v' t fl k] w (BPost true w) := by
  have HL := Lib.hid h
  have HM := Lib.hid hM
  have hb := h.bound
  have HN := Lib.hid h.len
  have hlong : decide (20 < n) = false := decide_eq_false (by omega)
  clear h hM hn
  have HE := Lib.hid hE
  clear hE
  have hk3 := Lib.hid (show k = 1 ∨ k = 2 ∨ ((k == 1) = false ∧ (k == 2) = false ∧ mirK k = k) from by
    by_cases h1 : k = 1
    · exact Or.inl h1
    · by_cases h2 : k = 2
      · exact Or.inr (Or.inl h2)
      · exact Or.inr (Or.inr ⟨by simpa using h1, by simpa using h2, by unfold mirK; rw [if_neg (by omega)]⟩))
  unfold scnV
  go_enter Try.func5, Try.ntmps5
  go_wp2_with fail
  have K0 := Lib.hid (show MiK w (scnC a n c s z v z' v' t fl k) (w.alloc (.cells (scnC a n c s z v z' v' t fl k) 28)) from ⟨block_new _ _ rfl, below_alloc _ _⟩)
  refine (long_call a n c s _ hb).mono ?_; rintro e w1 ⟨rfl, hb1⟩
  rw [hlong]
  have K1 := Lib.hid (K0.out.keep hb1)
  clear hb1 K0
  go_wp2_with fail
  refine (awake_call _).mono ?_; rintro e w2 ⟨rfl, hb2⟩
  have K2 := Lib.hid (K1.out.keep hb2)
  clear hb2 K1
  have hlt := lt_of_block K2.out.1
  have f9 : w2.frozen? ⟨w.heap.size, 9, none⟩ = false := free_of_block K2.out.1
  obtain ⟨q0, q1, q2, q3, q4, q5, q6, q7, q8, q9, qa⟩ := eleven K2.out.1
  go_wp2_with fail
  have K3 := Lib.hid (show MiK w (scnC a n c s z v z' v' t (-1000) k) (w2.setCell ⟨w.heap.size, 9, none⟩ (.int .i64 (-1000))) from ⟨block_setCell K2.out.1, K2.out.2.trans (((Only.refl w.heap.size w2).setCell 9 _).below (Nat.le_refl _) K2.out.2.size)⟩)
  refine (lchoose_call a n c s z v z' v' t (-1000) k _ (HL.out.below K3.out.2)).mono ?_; rintro e w3 ⟨rfl, hb3⟩
  have K4 := Lib.hid (K3.out.keep hb3)
  clear hb3 K3 K2 q0 q1 q2 q3 q4 q5 q6 q7 q8 q9 qa f9 hlt
  generalize hR : chR s z v z' v' t (-1000) k = R at *
  obtain ⟨q0, q1, q2, q3, q4, q5, q6, q7, q8, q9, qa⟩ := eleven K4.out.1
  have hlt := lt_of_block K4.out.1
  have HR := Lib.hid hR
  clear hR
  go_wp2_with fail
  have K : MiY w (scnC a n c s z v z' v' t (-1000) k) w3.heap.size R (w3.heap.size + 1) (scnC a n c s z v z' v' t (-1000) k) ((w3.alloc (.cells #[.int .u8 R.s, .int .i64 R.r, .bool R.k] 30)).alloc (.cells #[.slice a n c, .int .i64 s.alim, .int .i64 s.d, .int .i64 s.pl, .int .i64 z, .int .i64 v, .int .i64 z', .int .i64 v', .int .i64 t, .int .i64 (-1000), .int .u8 k] 28)) :=
    ⟨(K4.out.keep (below_alloc _ _)).keep (below_alloc _ _), by omega, by omega, block_alloc (block_new _ _ rfl), block_new _ _ (by simp)⟩
  clear q0 q1 q2 q3 q4 q5 q6 q7 q8 q9 qa hlt K4
  go_upto_region 9 with fail
  go_cut [5] (fun s5 wx => ∃ bY bA, s5 = .pointer (some ⟨bY, 0, none⟩) ∧ bA = w3.heap.size ∧ MiY w (scnC a n c s z v z' v' t (-1000) k) bA R bY (scnC a n c s (mZ z) (mV v) (mZ z') (mV v') t (-1000) k) wx)
  case first =>
    generalize hbY : w3.heap.size + 1 = bY at *
    generalize hbA : w3.heap.size = bA at *
    generalize ((w3.alloc (.cells #[.int .u8 R.s, .int .i64 R.r, .bool R.k] 30)).alloc (.cells #[.slice a n c, .int .i64 s.alim, .int .i64 s.d, .int .i64 s.pl, .int .i64 z, .int .i64 v, .int .i64 z', .int .i64 v', .int .i64 t, .int .i64 (-1000), .int .u8 k] 28)) = w4 at *
    replace K := K.keep ((Below.refl w4.heap.size w4).drew)
    refine wp_region_held_drew (S := (fun w' => w'.cell? ⟨w.heap.size, 4, none⟩ = some (.int .i64 z) ∧ w'.cell? ⟨w.heap.size, 5, none⟩ = some (.int .i64 v) ∧ w'.cell? ⟨w.heap.size, 6, none⟩ = some (.int .i64 z') ∧ w'.cell? ⟨w.heap.size, 7, none⟩ = some (.int .i64 v'))) (by kernel_rfl) (by (try dsimp only); (first | with_reducible exact K.cells0 | with_reducible exact K.cells2 _ _ | with_reducible exact K.cells4 _ _ _ _)) (fun hHeld => ?_)
    refine MyHeld.take 0 (v := ?_) .z (by kernel_rfl) (by kernel_rfl) (by kernel_rfl) (fun _ _ _ h => h) (by rfl) (by assumption) ?_ ?_
    rotate_left
    · intro w hSw; (try dsimp only at hSw); go_simp; (try with_reducible rfl)
    try simp only [Act.put, List.setIfInBounds_toArray, List.set_cons_zero, List.set_cons_succ]
    refine MyHeld.take 1 (v := ?_) (.s .z) (by kernel_rfl) (by kernel_rfl) (by kernel_rfl) (fun _ _ _ h => h) (by rfl) (by assumption) ?_ ?_
    rotate_left
    · intro w hSw; (try dsimp only at hSw); go_simp; (try with_reducible rfl)
    try simp only [Act.put, List.setIfInBounds_toArray, List.set_cons_zero, List.set_cons_succ]
    refine MyHeld.take 3 (v := ?_) (.s (.s (.s .z))) (by kernel_rfl) (by kernel_rfl) (by kernel_rfl) (fun _ _ _ h => h) (by rfl) (by assumption) ?_ ?_
    rotate_left
    · intro w hSw; (try dsimp only at hSw); go_simp; (try with_reducible rfl)
    try simp only [Act.put, List.setIfInBounds_toArray, List.set_cons_zero, List.set_cons_succ]
    refine MyHeld.take 4 (v := ?_) (.s (.s (.s (.s .z)))) (by kernel_rfl) (by kernel_rfl) (by kernel_rfl) (fun _ _ _ h => h) (by rfl) (by assumption) ?_ ?_
    rotate_left
    · intro w hSw; (try dsimp only at hSw); go_simp; (try with_reducible rfl)
    try simp only [Act.put, List.setIfInBounds_toArray, List.set_cons_zero, List.set_cons_succ]
    refine wpAnyH_ready (rs := [2]) (by kernel_rfl) (by simp) ?_
    refine (MyHeld.next 2 (.s (.s .z)) (fun Kq hKq => ?_) AllReadyH.nil)
    go_simp
    ((go_at_call 23; refine (mirror_call _ _ _).mono ?_; rintro e w5 ⟨rfl, hb5⟩; replace K := K.keep hb5; clear hb5; (try clear z4 z5 z6 z7 y4 y5 y6 y7); obtain ⟨-, -, -, -, z4, z5, z6, z7, -, -, -⟩ := eleven K.2.2.2.2; have y4 := K.free 4; have y5 := K.free 5; have y6 := K.free 6; have y7 := K.free 7))
    go_wp2_with fail
    refine hKq.out _ _ (by (try dsimp only); (first | with_reducible exact K.cells0 | with_reducible exact K.cells2 _ _ | with_reducible exact K.cells4 _ _ _ _)) (fun hHeld' => ?_)
    clear hKq Kq hHeld; have hHeld := hHeld'; clear hHeld'
    try simp only [Act.put, List.setIfInBounds_toArray, List.set_cons_zero, List.set_cons_succ]
    refine MyHeld.take 6 (v := ?_) (.s (.s (.s (.s (.s (.s .z)))))) (by kernel_rfl) (by kernel_rfl) (by kernel_rfl) (fun _ _ _ h => h) (by rfl) (by assumption) ?_ ?_
    rotate_left
    · intro w hSw; (try dsimp only at hSw); go_simp; (try with_reducible rfl)
    try simp only [Act.put, List.setIfInBounds_toArray, List.set_cons_zero, List.set_cons_succ]
    refine wpAnyH_ready (rs := [5]) (by kernel_rfl) (by simp) ?_
    refine (MyHeld.next 5 (.s (.s (.s (.s (.s .z))))) (fun Kq hKq => ?_) AllReadyH.nil)
    go_simp
    ((go_at_call 23; refine (mirror_call _ _ _).mono ?_; rintro e w5 ⟨rfl, hb5⟩; replace K := K.keep hb5; clear hb5; (try clear z4 z5 z6 z7 y4 y5 y6 y7); obtain ⟨-, -, -, -, z4, z5, z6, z7, -, -, -⟩ := eleven K.2.2.2.2; have y4 := K.free 4; have y5 := K.free 5; have y6 := K.free 6; have y7 := K.free 7))
    go_wp2_with fail
    refine hKq.out _ _ (by (try dsimp only); (first | with_reducible exact K.cells0 | with_reducible exact K.cells2 _ _ | with_reducible exact K.cells4 _ _ _ _)) (fun hHeld' => ?_)
    clear hKq Kq hHeld; have hHeld := hHeld'; clear hHeld'
    try simp only [Act.put, List.setIfInBounds_toArray, List.set_cons_zero, List.set_cons_succ]
    refine wpAnyH_ready (rs := [7]) (by kernel_rfl) (by simp) ?_
    refine (MyHeld.next 7 (.s (.s (.s (.s (.s (.s (.s .z))))))) (fun Kq hKq => ?_) AllReadyH.nil)
    go_simp
    refine hKq.out _ _ (by (try dsimp only); (first | with_reducible exact K.cells0 | with_reducible exact K.cells2 _ _ | with_reducible exact K.cells4 _ _ _ _)) (fun hHeld' => ?_)
    clear hKq Kq hHeld; have hHeld := hHeld'; clear hHeld'
    try simp only [Act.put, List.setIfInBounds_toArray, List.set_cons_zero, List.set_cons_succ]
    refine MyHeld.take 8 (v := ?_) (.s (.s (.s (.s (.s (.s (.s (.s .z)))))))) (by kernel_rfl) (by kernel_rfl) (by kernel_rfl) (fun _ _ _ h => h) (by rfl) (by assumption) ?_ ?_
    rotate_left
    · intro w hSw; (try dsimp only at hSw); go_simp; (try with_reducible rfl)
    try simp only [Act.put, List.setIfInBounds_toArray, List.set_cons_zero, List.set_cons_succ]
    refine wpAnyH_ready (rs := [9]) (by kernel_rfl) (by simp) ?_
    refine (MyHeld.next 9 (.s (.s (.s (.s (.s (.s (.s (.s (.s .z))))))))) (fun Kq hKq => ?_) AllReadyH.nil)
    go_simp
    refine hKq.out _ _ (by (try dsimp only); (first | with_reducible exact K.cells0 | with_reducible exact K.cells2 _ _ | with_reducible exact K.cells4 _ _ _ _)) (fun hHeld' => ?_)
    clear hKq Kq hHeld; have hHeld := hHeld'; clear hHeld'
    try simp only [Act.put, List.setIfInBounds_toArray, List.set_cons_zero, List.set_cons_succ]
    refine wpAnyH_done (by kernel_rfl) ?_ _
    all_goals go_wp2_with fail
    all_goals go_meet
    all_goals exact ⟨bY, bA, rfl, rfl, K.four _ _ _ _⟩
  case rest =>
    clear K
    obtain ⟨bY, bA, rfl, hbA, K⟩ := hcut
    obtain ⟨h1, h2, h3, h4⟩ := K.lts
    obtain ⟨-, -, -, -, -, -, -, -, -, -, qa⟩ := eleven K.1.1
    obtain ⟨-, -, -, -, -, -, -, -, -, -, za⟩ := eleven K.2.2.2.2
    have ya := K.free 10
    go_upto_region 7 with fail
    go_cut [5, 38] (fun s5 s38 wx => s5 = .pointer (some ⟨bY, 0, none⟩) ∧ s38 = .bool (lockB k) ∧ wx = wc)
    case first =>
      rcases hk3.out with rfl | rfl | ⟨d1, d2, d3⟩
      · go_wp2_with fail
        go_meet
        exact ⟨rfl, rfl, rfl⟩
      · go_wp2_with fail
        go_meet
        exact ⟨rfl, rfl, rfl⟩
      · have D3 := Lib.hid (show false = lockB k from (decide_eq_false (by simp at d1 d2; omega)).symm)
        clear d3
        go_wp2_with fail
        go_meet
        exact ⟨rfl, by rw [← D3.out], rfl⟩
    case rest =>
    obtain ⟨rfl, rfl, rfl⟩ := hcut
    go_upto_if 38 with fail
    go_cut [5] (fun s5 wx => s5 = .pointer (some ⟨bY, 0, none⟩) ∧ MiY w (scnC a n c s z v z' v' t (-1000) k) bA R bY (scnC a n c s (mZ z) (mV v) (mZ z') (mV v') t (-1000) (mirK k)) wx)
    case first =>
      rcases hk3.out with rfl | rfl | ⟨d1, d2, d3⟩
      · have D4 : lockB 1 = true := rfl
        rw [D4]
        clear D4
        go_wp2_with fail
        go_meet
        exact ⟨rfl, K.ten 2⟩
      · have D4 : lockB 2 = true := rfl
        rw [D4]
        clear D4
        go_wp2_with fail
        go_meet
        exact ⟨rfl, K.ten 1⟩
      · have D3 := Lib.hid d3
        have D4 : lockB k = false := decide_eq_false (by simp at d1 d2; omega)
        clear d3
        rw [D4]
        clear D4
        go_wp2_with fail
        go_meet
        exact ⟨rfl, by rw [D3.out]; exact K⟩
    case rest =>
      clear K qa za ya hk3
      obtain ⟨rfl, K⟩ := hcut
      clear h1 h2 h3 h4
      obtain ⟨h1, h2, h3, h4⟩ := K.lts
      obtain ⟨q0, q1, q2, q3, q4, q5, q6, q7, q8, q9, qa⟩ := eleven K.2.2.2.2
      have HK := Lib.hid K
      clear K
      go_wp2_with fail
      refine (lchoose_call a n c s (mZ z) (mV v) (mZ z') (mV v') t (-1000) (mirK k) _ (HL.out.below HK.out.1.2)).mono ?_; rintro e w7 ⟨rfl, hb7⟩
      have K7 := Lib.hid (HK.out.keep hb7)
      clear hb7 HK q0 q1 q2 q3 q4 q5 q6 q7 q8 q9 qa h1 h2 h3 h4
      have hee := HM.out.err
      rw [← hee]
      have HEE := Lib.hid hee
      clear hee
      generalize hE1 : chE s z v z' v' t (-1000) k = E1 at *
      have e1 : (E1 != E1) = false := by simp
      have e2 : (E1 == E1) = true := by simp
      have e3 : (E1 != 0) = true := bne_iff_ne.2 HE.out
      have HE1 := Lib.hid hE1
      clear hE1
      go_wp2_with fail
      go_ret
      exact ⟨rfl, K7.out.1.2.trans ((below_alloc _ _).mono K7.out.1.2.size)⟩

set_option maxRecDepth 100000 in
set_option maxHeartbeats 8000000 in
theorem mirror_lock (a : Option Addr) (n c : Nat) (s : RulesMath.Set) (z v z' v' t fl k : Int) (w : World) (h : Ints w a n s.rs) (hn : n ≤ 20) (hM : Mir s z v z' v' t k) (hE : chE s z v z' v' t (-1000) k = 0) (hF : chR s (mZ z) (mV v) (mZ z') (mV v') t (-1000) (mirK k) = flp (chR s z v z' v' t (-1000) k)) (hQ : (k == 0) = false) :
    Calls Try.prog 5 #[scnV a n c s z v z' v' t fl k] w (BPost true w) := by
  have HL := Lib.hid h
  have HM := Lib.hid hM
  have hb := h.bound
  have HN := Lib.hid h.len
  have hlong : decide (20 < n) = false := decide_eq_false (by omega)
  clear h hM hn
  have HE := Lib.hid hE
  have HG := Lib.hid (show (chR s z v z' v' t (-1000) k).s = 1 ∨ (chR s z v z' v' t (-1000) k).s = 2 from chR_s hE)
  have HN1 := Lib.hid (show 1 ≤ n from by rw [← HN.out]; exact (n_pos (HM.out.ok hE).1).1)
  have HF := Lib.hid hF
  have hbest := hQ
  clear hE hF hQ
  have hk3 := Lib.hid (show k = 1 ∨ k = 2 ∨ ((k == 1) = false ∧ (k == 2) = false ∧ mirK k = k) from by
    by_cases h1 : k = 1
    · exact Or.inl h1
    · by_cases h2 : k = 2
      · exact Or.inr (Or.inl h2)
      · exact Or.inr (Or.inr ⟨by simpa using h1, by simpa using h2, by unfold mirK; rw [if_neg (by omega)]⟩))
  unfold scnV
  go_enter Try.func5, Try.ntmps5
  go_wp2_with fail
  have K0 := Lib.hid (show MiK w (scnC a n c s z v z' v' t fl k) (w.alloc (.cells (scnC a n c s z v z' v' t fl k) 28)) from ⟨block_new _ _ rfl, below_alloc _ _⟩)
  refine (long_call a n c s _ hb).mono ?_; rintro e w1 ⟨rfl, hb1⟩
  rw [hlong]
  have K1 := Lib.hid (K0.out.keep hb1)
  clear hb1 K0
  go_wp2_with fail
  refine (awake_call _).mono ?_; rintro e w2 ⟨rfl, hb2⟩
  have K2 := Lib.hid (K1.out.keep hb2)
  clear hb2 K1
  have hlt := lt_of_block K2.out.1
  have f9 : w2.frozen? ⟨w.heap.size, 9, none⟩ = false := free_of_block K2.out.1
  obtain ⟨q0, q1, q2, q3, q4, q5, q6, q7, q8, q9, qa⟩ := eleven K2.out.1
  go_wp2_with fail
  have K3 := Lib.hid (show MiK w (scnC a n c s z v z' v' t (-1000) k) (w2.setCell ⟨w.heap.size, 9, none⟩ (.int .i64 (-1000))) from ⟨block_setCell K2.out.1, K2.out.2.trans (((Only.refl w.heap.size w2).setCell 9 _).below (Nat.le_refl _) K2.out.2.size)⟩)
  refine (lchoose_call a n c s z v z' v' t (-1000) k _ (HL.out.below K3.out.2)).mono ?_; rintro e w3 ⟨rfl, hb3⟩
  have K4 := Lib.hid (K3.out.keep hb3)
  clear hb3 K3 K2 q0 q1 q2 q3 q4 q5 q6 q7 q8 q9 qa f9 hlt
  generalize hR : chR s z v z' v' t (-1000) k = R at *
  obtain ⟨q0, q1, q2, q3, q4, q5, q6, q7, q8, q9, qa⟩ := eleven K4.out.1
  have hlt := lt_of_block K4.out.1
  have HR := Lib.hid hR
  clear hR
  go_wp2_with fail
  have K : MiY w (scnC a n c s z v z' v' t (-1000) k) w3.heap.size R (w3.heap.size + 1) (scnC a n c s z v z' v' t (-1000) k) ((w3.alloc (.cells #[.int .u8 R.s, .int .i64 R.r, .bool R.k] 30)).alloc (.cells #[.slice a n c, .int .i64 s.alim, .int .i64 s.d, .int .i64 s.pl, .int .i64 z, .int .i64 v, .int .i64 z', .int .i64 v', .int .i64 t, .int .i64 (-1000), .int .u8 k] 28)) :=
    ⟨(K4.out.keep (below_alloc _ _)).keep (below_alloc _ _), by omega, by omega, block_alloc (block_new _ _ rfl), block_new _ _ (by simp)⟩
  clear q0 q1 q2 q3 q4 q5 q6 q7 q8 q9 qa hlt K4
  go_upto_region 9 with fail
  go_cut [5] (fun s5 wx => ∃ bY bA, s5 = .pointer (some ⟨bY, 0, none⟩) ∧ bA = w3.heap.size ∧ MiY w (scnC a n c s z v z' v' t (-1000) k) bA R bY (scnC a n c s (mZ z) (mV v) (mZ z') (mV v') t (-1000) k) wx)
  case first =>
    generalize hbY : w3.heap.size + 1 = bY at *
    generalize hbA : w3.heap.size = bA at *
    generalize ((w3.alloc (.cells #[.int .u8 R.s, .int .i64 R.r, .bool R.k] 30)).alloc (.cells #[.slice a n c, .int .i64 s.alim, .int .i64 s.d, .int .i64 s.pl, .int .i64 z, .int .i64 v, .int .i64 z', .int .i64 v', .int .i64 t, .int .i64 (-1000), .int .u8 k] 28)) = w4 at *
    replace K := K.keep ((Below.refl w4.heap.size w4).drew)
    refine wp_region_held_drew (S := (fun w' => w'.cell? ⟨w.heap.size, 4, none⟩ = some (.int .i64 z) ∧ w'.cell? ⟨w.heap.size, 5, none⟩ = some (.int .i64 v) ∧ w'.cell? ⟨w.heap.size, 6, none⟩ = some (.int .i64 z') ∧ w'.cell? ⟨w.heap.size, 7, none⟩ = some (.int .i64 v'))) (by kernel_rfl) (by (try dsimp only); (first | with_reducible exact K.cells0 | with_reducible exact K.cells2 _ _ | with_reducible exact K.cells4 _ _ _ _)) (fun hHeld => ?_)
    refine MyHeld.take 0 (v := ?_) .z (by kernel_rfl) (by kernel_rfl) (by kernel_rfl) (fun _ _ _ h => h) (by rfl) (by assumption) ?_ ?_
    rotate_left
    · intro w hSw; (try dsimp only at hSw); go_simp; (try with_reducible rfl)
    try simp only [Act.put, List.setIfInBounds_toArray, List.set_cons_zero, List.set_cons_succ]
    refine MyHeld.take 1 (v := ?_) (.s .z) (by kernel_rfl) (by kernel_rfl) (by kernel_rfl) (fun _ _ _ h => h) (by rfl) (by assumption) ?_ ?_
    rotate_left
    · intro w hSw; (try dsimp only at hSw); go_simp; (try with_reducible rfl)
    try simp only [Act.put, List.setIfInBounds_toArray, List.set_cons_zero, List.set_cons_succ]
    refine MyHeld.take 3 (v := ?_) (.s (.s (.s .z))) (by kernel_rfl) (by kernel_rfl) (by kernel_rfl) (fun _ _ _ h => h) (by rfl) (by assumption) ?_ ?_
    rotate_left
    · intro w hSw; (try dsimp only at hSw); go_simp; (try with_reducible rfl)
    try simp only [Act.put, List.setIfInBounds_toArray, List.set_cons_zero, List.set_cons_succ]
    refine MyHeld.take 4 (v := ?_) (.s (.s (.s (.s .z)))) (by kernel_rfl) (by kernel_rfl) (by kernel_rfl) (fun _ _ _ h => h) (by rfl) (by assumption) ?_ ?_
    rotate_left
    · intro w hSw; (try dsimp only at hSw); go_simp; (try with_reducible rfl)
    try simp only [Act.put, List.setIfInBounds_toArray, List.set_cons_zero, List.set_cons_succ]
    refine wpAnyH_ready (rs := [2]) (by kernel_rfl) (by simp) ?_
    refine (MyHeld.next 2 (.s (.s .z)) (fun Kq hKq => ?_) AllReadyH.nil)
    go_simp
    ((go_at_call 23; refine (mirror_call _ _ _).mono ?_; rintro e w5 ⟨rfl, hb5⟩; replace K := K.keep hb5; clear hb5; (try clear z4 z5 z6 z7 y4 y5 y6 y7); obtain ⟨-, -, -, -, z4, z5, z6, z7, -, -, -⟩ := eleven K.2.2.2.2; have y4 := K.free 4; have y5 := K.free 5; have y6 := K.free 6; have y7 := K.free 7))
    go_wp2_with fail
    refine hKq.out _ _ (by (try dsimp only); (first | with_reducible exact K.cells0 | with_reducible exact K.cells2 _ _ | with_reducible exact K.cells4 _ _ _ _)) (fun hHeld' => ?_)
    clear hKq Kq hHeld; have hHeld := hHeld'; clear hHeld'
    try simp only [Act.put, List.setIfInBounds_toArray, List.set_cons_zero, List.set_cons_succ]
    refine MyHeld.take 6 (v := ?_) (.s (.s (.s (.s (.s (.s .z)))))) (by kernel_rfl) (by kernel_rfl) (by kernel_rfl) (fun _ _ _ h => h) (by rfl) (by assumption) ?_ ?_
    rotate_left
    · intro w hSw; (try dsimp only at hSw); go_simp; (try with_reducible rfl)
    try simp only [Act.put, List.setIfInBounds_toArray, List.set_cons_zero, List.set_cons_succ]
    refine wpAnyH_ready (rs := [5]) (by kernel_rfl) (by simp) ?_
    refine (MyHeld.next 5 (.s (.s (.s (.s (.s .z))))) (fun Kq hKq => ?_) AllReadyH.nil)
    go_simp
    ((go_at_call 23; refine (mirror_call _ _ _).mono ?_; rintro e w5 ⟨rfl, hb5⟩; replace K := K.keep hb5; clear hb5; (try clear z4 z5 z6 z7 y4 y5 y6 y7); obtain ⟨-, -, -, -, z4, z5, z6, z7, -, -, -⟩ := eleven K.2.2.2.2; have y4 := K.free 4; have y5 := K.free 5; have y6 := K.free 6; have y7 := K.free 7))
    go_wp2_with fail
    refine hKq.out _ _ (by (try dsimp only); (first | with_reducible exact K.cells0 | with_reducible exact K.cells2 _ _ | with_reducible exact K.cells4 _ _ _ _)) (fun hHeld' => ?_)
    clear hKq Kq hHeld; have hHeld := hHeld'; clear hHeld'
    try simp only [Act.put, List.setIfInBounds_toArray, List.set_cons_zero, List.set_cons_succ]
    refine wpAnyH_ready (rs := [7]) (by kernel_rfl) (by simp) ?_
    refine (MyHeld.next 7 (.s (.s (.s (.s (.s (.s (.s .z))))))) (fun Kq hKq => ?_) AllReadyH.nil)
    go_simp
    refine hKq.out _ _ (by (try dsimp only); (first | with_reducible exact K.cells0 | with_reducible exact K.cells2 _ _ | with_reducible exact K.cells4 _ _ _ _)) (fun hHeld' => ?_)
    clear hKq Kq hHeld; have hHeld := hHeld'; clear hHeld'
    try simp only [Act.put, List.setIfInBounds_toArray, List.set_cons_zero, List.set_cons_succ]
    refine MyHeld.take 8 (v := ?_) (.s (.s (.s (.s (.s (.s (.s (.s .z)))))))) (by kernel_rfl) (by kernel_rfl) (by kernel_rfl) (fun _ _ _ h => h) (by rfl) (by assumption) ?_ ?_
    rotate_left
    · intro w hSw; (try dsimp only at hSw); go_simp; (try with_reducible rfl)
    try simp only [Act.put, List.setIfInBounds_toArray, List.set_cons_zero, List.set_cons_succ]
    refine wpAnyH_ready (rs := [9]) (by kernel_rfl) (by simp) ?_
    refine (MyHeld.next 9 (.s (.s (.s (.s (.s (.s (.s (.s (.s .z))))))))) (fun Kq hKq => ?_) AllReadyH.nil)
    go_simp
    refine hKq.out _ _ (by (try dsimp only); (first | with_reducible exact K.cells0 | with_reducible exact K.cells2 _ _ | with_reducible exact K.cells4 _ _ _ _)) (fun hHeld' => ?_)
    clear hKq Kq hHeld; have hHeld := hHeld'; clear hHeld'
    try simp only [Act.put, List.setIfInBounds_toArray, List.set_cons_zero, List.set_cons_succ]
    refine wpAnyH_done (by kernel_rfl) ?_ _
    all_goals go_wp2_with fail
    all_goals go_meet
    all_goals exact ⟨bY, bA, rfl, rfl, K.four _ _ _ _⟩
  case rest =>
    clear K
    obtain ⟨bY, bA, rfl, hbA, K⟩ := hcut
    obtain ⟨h1, h2, h3, h4⟩ := K.lts
    obtain ⟨-, -, -, -, -, -, -, -, -, -, qa⟩ := eleven K.1.1
    obtain ⟨-, -, -, -, -, -, -, -, -, -, za⟩ := eleven K.2.2.2.2
    have ya := K.free 10
    go_upto_region 7 with fail
    go_cut [5, 38] (fun s5 s38 wx => s5 = .pointer (some ⟨bY, 0, none⟩) ∧ s38 = .bool (lockB k) ∧ wx = wc)
    case first =>
      rcases hk3.out with rfl | rfl | ⟨d1, d2, d3⟩
      · go_wp2_with fail
        go_meet
        exact ⟨rfl, rfl, rfl⟩
      · go_wp2_with fail
        go_meet
        exact ⟨rfl, rfl, rfl⟩
      · have D3 := Lib.hid (show false = lockB k from (decide_eq_false (by simp at d1 d2; omega)).symm)
        clear d3
        go_wp2_with fail
        go_meet
        exact ⟨rfl, by rw [← D3.out], rfl⟩
    case rest =>
    obtain ⟨rfl, rfl, rfl⟩ := hcut
    go_upto_if 38 with fail
    go_cut [5] (fun s5 wx => s5 = .pointer (some ⟨bY, 0, none⟩) ∧ MiY w (scnC a n c s z v z' v' t (-1000) k) bA R bY (scnC a n c s (mZ z) (mV v) (mZ z') (mV v') t (-1000) (mirK k)) wx)
    case first =>
      rcases hk3.out with rfl | rfl | ⟨d1, d2, d3⟩
      · have D4 : lockB 1 = true := rfl
        rw [D4]
        clear D4
        go_wp2_with fail
        go_meet
        exact ⟨rfl, K.ten 2⟩
      · have D4 : lockB 2 = true := rfl
        rw [D4]
        clear D4
        go_wp2_with fail
        go_meet
        exact ⟨rfl, K.ten 1⟩
      · have D3 := Lib.hid d3
        have D4 : lockB k = false := decide_eq_false (by simp at d1 d2; omega)
        clear d3
        rw [D4]
        clear D4
        go_wp2_with fail
        go_meet
        exact ⟨rfl, by rw [D3.out]; exact K⟩
    case rest =>
      clear K qa za ya hk3
      obtain ⟨rfl, K⟩ := hcut
      clear h1 h2 h3 h4
      obtain ⟨h1, h2, h3, h4⟩ := K.lts
      obtain ⟨q0, q1, q2, q3, q4, q5, q6, q7, q8, q9, qa⟩ := eleven K.2.2.2.2
      have HK := Lib.hid K
      clear K
      go_wp2_with fail
      refine (lchoose_call a n c s (mZ z) (mV v) (mZ z') (mV v') t (-1000) (mirK k) _ (HL.out.below HK.out.1.2)).mono ?_; rintro e w7 ⟨rfl, hb7⟩
      have K7 := Lib.hid (HK.out.keep hb7)
      clear hb7 HK q0 q1 q2 q3 q4 q5 q6 q7 q8 q9 qa h1 h2 h3 h4
      have hee := HM.out.err
      rw [← hee, HE.out]
      clear hee
      generalize hR2 : chR s (mZ z) (mV v) (mZ z') (mV v') t (-1000) (mirK k) = R2 at *
      have HR2 := Lib.hid hR2
      clear hR2
      subst hbA
      go_upto_region 12 with fail
      have K : MiZ w (scnC a n c s z v z' v' t (-1000) k) w3.heap.size R bY (scnC a n c s (mZ z) (mV v) (mZ z') (mV v') t (-1000) (mirK k)) w7.heap.size R2 (w7.alloc (.cells #[.int .u8 R2.s, .int .i64 R2.r, .bool R2.k] 30)) := ⟨K7.out.keep (below_alloc _ _), block_new _ _ rfl⟩
      clear K7
      generalize hbA : w3.heap.size = bA at *
      generalize hbB : w7.heap.size = bB at *
      generalize w7.alloc (.cells #[.int .u8 R2.s, .int .i64 R2.r, .bool R2.k] 30) = w8 at *
      replace K := K.keep ((Below.refl w8.heap.size w8).drew)
      refine wp_region_held_drew (S := (fun w' => w'.cell? ⟨w.heap.size, 0, none⟩ = some (.slice a n c) ∧ w'.cell? ⟨w.heap.size, 1, none⟩ = some (.int .i64 s.alim) ∧ w'.cell? ⟨w.heap.size, 2, none⟩ = some (.int .i64 s.d) ∧ w'.cell? ⟨w.heap.size, 3, none⟩ = some (.int .i64 s.pl) ∧ w'.cell? ⟨w.heap.size, 4, none⟩ = some (.int .i64 z) ∧ w'.cell? ⟨w.heap.size, 5, none⟩ = some (.int .i64 v) ∧ w'.cell? ⟨w.heap.size, 6, none⟩ = some (.int .i64 z') ∧ w'.cell? ⟨w.heap.size, 7, none⟩ = some (.int .i64 v') ∧ w'.cell? ⟨w.heap.size, 8, none⟩ = some (.int .i64 t) ∧ w'.cell? ⟨w.heap.size, 9, none⟩ = some (.int .i64 (-1000)) ∧ w'.cell? ⟨w.heap.size, 10, none⟩ = some (.int .u8 k))) (by kernel_rfl) (by (try dsimp only); (exact eleven K.1.1.1)) (fun hHeld => ?_)
      refine MyHeld.take 0 (v := ?_) .z (by kernel_rfl) (by kernel_rfl) (by kernel_rfl) (fun _ _ _ h => h) (by rfl) (by assumption) ?_ ?_
      rotate_left
      · intro w hSw; (try dsimp only at hSw); go_simp; (try with_reducible rfl)
      try simp only [Act.put, List.setIfInBounds_toArray, List.set_cons_zero, List.set_cons_succ]
      refine MyHeld.take 1 (v := ?_) (.s .z) (by kernel_rfl) (by kernel_rfl) (by kernel_rfl) (fun _ _ _ h => h) (by rfl) (by assumption) ?_ ?_
      rotate_left
      · intro w hSw; (try dsimp only at hSw); go_simp; (try with_reducible rfl)
      try simp only [Act.put, List.setIfInBounds_toArray, List.set_cons_zero, List.set_cons_succ]
      refine MyHeld.take 2 (v := ?_) (.s (.s .z)) (by kernel_rfl) (by kernel_rfl) (by kernel_rfl) (fun _ _ _ h => h) (by rfl) (by assumption) ?_ ?_
      rotate_left
      · intro w hSw; (try dsimp only at hSw); go_simp; (try with_reducible rfl)
      try simp only [Act.put, List.setIfInBounds_toArray, List.set_cons_zero, List.set_cons_succ]
      refine MyHeld.take 3 (v := ?_) (.s (.s (.s .z))) (by kernel_rfl) (by kernel_rfl) (by kernel_rfl) (fun _ _ _ h => h) (by rfl) (by assumption) ?_ ?_
      rotate_left
      · intro w hSw; (try dsimp only at hSw); go_simp; (try with_reducible rfl)
      try simp only [Act.put, List.setIfInBounds_toArray, List.set_cons_zero, List.set_cons_succ]
      refine MyHeld.skip 4 (.s (.s (.s (.s .z)))) (by kernel_rfl) (by kernel_rfl) (by kernel_rfl) (fun _ _ _ h => h) (by rfl) (by assumption) ?_
      try simp only [Act.put, List.setIfInBounds_toArray, List.set_cons_zero, List.set_cons_succ]
      refine MyHeld.skip 5 (.s (.s (.s (.s (.s .z))))) (by kernel_rfl) (by kernel_rfl) (by kernel_rfl) (fun _ _ _ h => h) (by rfl) (by assumption) ?_
      try simp only [Act.put, List.setIfInBounds_toArray, List.set_cons_zero, List.set_cons_succ]
      refine MyHeld.skip 6 (.s (.s (.s (.s (.s (.s .z)))))) (by kernel_rfl) (by kernel_rfl) (by kernel_rfl) (fun _ _ _ h => h) (by rfl) (by assumption) ?_
      try simp only [Act.put, List.setIfInBounds_toArray, List.set_cons_zero, List.set_cons_succ]
      refine MyHeld.skip 7 (.s (.s (.s (.s (.s (.s (.s .z))))))) (by kernel_rfl) (by kernel_rfl) (by kernel_rfl) (fun _ _ _ h => h) (by rfl) (by assumption) ?_
      try simp only [Act.put, List.setIfInBounds_toArray, List.set_cons_zero, List.set_cons_succ]
      refine MyHeld.skip 8 (.s (.s (.s (.s (.s (.s (.s (.s .z)))))))) (by kernel_rfl) (by kernel_rfl) (by kernel_rfl) (fun _ _ _ h => h) (by rfl) (by assumption) ?_
      try simp only [Act.put, List.setIfInBounds_toArray, List.set_cons_zero, List.set_cons_succ]
      refine MyHeld.skip 9 (.s (.s (.s (.s (.s (.s (.s (.s (.s .z))))))))) (by kernel_rfl) (by kernel_rfl) (by kernel_rfl) (fun _ _ _ h => h) (by rfl) (by assumption) ?_
      try simp only [Act.put, List.setIfInBounds_toArray, List.set_cons_zero, List.set_cons_succ]
      refine MyHeld.skip 10 (.s (.s (.s (.s (.s (.s (.s (.s (.s (.s .z)))))))))) (by kernel_rfl) (by kernel_rfl) (by kernel_rfl) (fun _ _ _ h => h) (by rfl) (by assumption) ?_
      try simp only [Act.put, List.setIfInBounds_toArray, List.set_cons_zero, List.set_cons_succ]
      refine MyHeld.skip 11 (.s (.s (.s (.s (.s (.s (.s (.s (.s (.s (.s .z))))))))))) (by kernel_rfl) (by kernel_rfl) (by kernel_rfl) (fun _ _ _ h => h) (by rfl) (by assumption) ?_
      try simp only [Act.put, List.setIfInBounds_toArray, List.set_cons_zero, List.set_cons_succ]
      refine MyHeld.skip 12 (.s (.s (.s (.s (.s (.s (.s (.s (.s (.s (.s (.s .z)))))))))))) (by kernel_rfl) (by kernel_rfl) (by kernel_rfl) (fun _ _ _ h => h) (by rfl) (by assumption) ?_
      try simp only [Act.put, List.setIfInBounds_toArray, List.set_cons_zero, List.set_cons_succ]
      refine MyHeld.take 13 (v := ?_) (.s (.s (.s (.s (.s (.s (.s (.s (.s (.s (.s (.s (.s .z))))))))))))) (by kernel_rfl) (by kernel_rfl) (by kernel_rfl) (fun _ _ _ h => h) (by rfl) (by assumption) ?_ ?_
      rotate_left
      · intro w hSw; (try dsimp only at hSw); go_simp; (try with_reducible rfl)
      try simp only [Act.put, List.setIfInBounds_toArray, List.set_cons_zero, List.set_cons_succ]
      refine wpAnyH_done (by kernel_rfl) ?_ _
      have hF : R2 = flp R := HF.out
      have hg : R.s = 1 ∨ R.s = 2 := HG.out
      all_goals
        obtain ⟨y0, y1, y2⟩ := three_old' K.1.2.2.2.1
        obtain ⟨x0, x1, x2⟩ := three_old' K.2
        have KB := Lib.hid K.1.1.2
        clear K
        rw [show R2.s = 3 - R.s by rw [hF]; rfl] at x0
        rw [show R2.r = R.r by rw [hF]; rfl] at x1
        rw [show R2.k = R.k by rw [hF]; rfl] at x2
        clear hF HR HR2
        generalize R.s = g at *
        generalize R.r = r at *
        generalize R.k = q at *
        have qq : (q == q) = true := by cases q <;> rfl
        rcases hg with rfl | rfl
        · rw [show (3 : Int) - 1 = 2 from rfl] at x0
          go_wp2_with fail
          go_ret
          exact ⟨rfl, KB.out⟩
        · rw [show (3 : Int) - 2 = 1 from rfl] at x0
          go_wp2_with fail
          go_ret
          exact ⟨rfl, KB.out⟩

set_option maxRecDepth 100000 in
set_option maxHeartbeats 8000000 in
theorem mirror_free (a : Option Addr) (n c : Nat) (s : RulesMath.Set) (z v z' v' t fl : Int) (w : World) (h : Ints w a n s.rs) (hn : n ≤ 20) (hM : Mir s z v z' v' t 0) (hE : chE s z v z' v' t (-1000) 0 = 0) (hF : chR s (mZ z) (mV v) (mZ z') (mV v') t (-1000) (mirK 0) = flp (chR s z v z' v' t (-1000) 0)) (hQ : (sepR s z v z' v' (lastA s 1) t == sepR s z v z' v' (lastA s 2) t) = false) :
    Calls Try.prog 5 #[scnV a n c s z v z' v' t fl 0] w (BPost true w) := by
  have HL := Lib.hid h
  have HM := Lib.hid hM
  have hb := h.bound
  have HN := Lib.hid h.len
  have hlong : decide (20 < n) = false := decide_eq_false (by omega)
  clear h hM hn
  have HE := Lib.hid hE
  have HG := Lib.hid (show (chR s z v z' v' t (-1000) 0).s = 1 ∨ (chR s z v z' v' t (-1000) 0).s = 2 from chR_s hE)
  have HN1 := Lib.hid (show 1 ≤ n from by rw [← HN.out]; exact (n_pos (HM.out.ok hE).1).1)
  have HF := Lib.hid hF
  have hbest := hQ
  clear hE hF hQ
  unfold scnV
  go_enter Try.func5, Try.ntmps5
  go_wp2_with fail
  have K0 := Lib.hid (show MiK w (scnC a n c s z v z' v' t fl 0) (w.alloc (.cells (scnC a n c s z v z' v' t fl 0) 28)) from ⟨block_new _ _ rfl, below_alloc _ _⟩)
  refine (long_call a n c s _ hb).mono ?_; rintro e w1 ⟨rfl, hb1⟩
  rw [hlong]
  have K1 := Lib.hid (K0.out.keep hb1)
  clear hb1 K0
  go_wp2_with fail
  refine (awake_call _).mono ?_; rintro e w2 ⟨rfl, hb2⟩
  have K2 := Lib.hid (K1.out.keep hb2)
  clear hb2 K1
  have hlt := lt_of_block K2.out.1
  have f9 : w2.frozen? ⟨w.heap.size, 9, none⟩ = false := free_of_block K2.out.1
  obtain ⟨q0, q1, q2, q3, q4, q5, q6, q7, q8, q9, qa⟩ := eleven K2.out.1
  go_wp2_with fail
  have K3 := Lib.hid (show MiK w (scnC a n c s z v z' v' t (-1000) 0) (w2.setCell ⟨w.heap.size, 9, none⟩ (.int .i64 (-1000))) from ⟨block_setCell K2.out.1, K2.out.2.trans (((Only.refl w.heap.size w2).setCell 9 _).below (Nat.le_refl _) K2.out.2.size)⟩)
  refine (lchoose_call a n c s z v z' v' t (-1000) 0 _ (HL.out.below K3.out.2)).mono ?_; rintro e w3 ⟨rfl, hb3⟩
  have K4 := Lib.hid (K3.out.keep hb3)
  clear hb3 K3 K2 q0 q1 q2 q3 q4 q5 q6 q7 q8 q9 qa f9 hlt
  generalize hR : chR s z v z' v' t (-1000) 0 = R at *
  obtain ⟨q0, q1, q2, q3, q4, q5, q6, q7, q8, q9, qa⟩ := eleven K4.out.1
  have hlt := lt_of_block K4.out.1
  have HR := Lib.hid hR
  clear hR
  go_wp2_with fail
  have K : MiY w (scnC a n c s z v z' v' t (-1000) 0) w3.heap.size R (w3.heap.size + 1) (scnC a n c s z v z' v' t (-1000) 0) ((w3.alloc (.cells #[.int .u8 R.s, .int .i64 R.r, .bool R.k] 30)).alloc (.cells #[.slice a n c, .int .i64 s.alim, .int .i64 s.d, .int .i64 s.pl, .int .i64 z, .int .i64 v, .int .i64 z', .int .i64 v', .int .i64 t, .int .i64 (-1000), .int .u8 0] 28)) :=
    ⟨(K4.out.keep (below_alloc _ _)).keep (below_alloc _ _), by omega, by omega, block_alloc (block_new _ _ rfl), block_new _ _ (by simp)⟩
  clear q0 q1 q2 q3 q4 q5 q6 q7 q8 q9 qa hlt K4
  go_upto_region 9 with fail
  go_cut [5] (fun s5 wx => ∃ bY bA, s5 = .pointer (some ⟨bY, 0, none⟩) ∧ bA = w3.heap.size ∧ MiY w (scnC a n c s z v z' v' t (-1000) 0) bA R bY (scnC a n c s (mZ z) (mV v) (mZ z') (mV v') t (-1000) 0) wx)
  case first =>
    generalize hbY : w3.heap.size + 1 = bY at *
    generalize hbA : w3.heap.size = bA at *
    generalize ((w3.alloc (.cells #[.int .u8 R.s, .int .i64 R.r, .bool R.k] 30)).alloc (.cells #[.slice a n c, .int .i64 s.alim, .int .i64 s.d, .int .i64 s.pl, .int .i64 z, .int .i64 v, .int .i64 z', .int .i64 v', .int .i64 t, .int .i64 (-1000), .int .u8 0] 28)) = w4 at *
    replace K := K.keep ((Below.refl w4.heap.size w4).drew)
    refine wp_region_held_drew (S := (fun w' => w'.cell? ⟨w.heap.size, 4, none⟩ = some (.int .i64 z) ∧ w'.cell? ⟨w.heap.size, 5, none⟩ = some (.int .i64 v) ∧ w'.cell? ⟨w.heap.size, 6, none⟩ = some (.int .i64 z') ∧ w'.cell? ⟨w.heap.size, 7, none⟩ = some (.int .i64 v'))) (by kernel_rfl) (by (try dsimp only); (first | with_reducible exact K.cells0 | with_reducible exact K.cells2 _ _ | with_reducible exact K.cells4 _ _ _ _)) (fun hHeld => ?_)
    refine MyHeld.take 0 (v := ?_) .z (by kernel_rfl) (by kernel_rfl) (by kernel_rfl) (fun _ _ _ h => h) (by rfl) (by assumption) ?_ ?_
    rotate_left
    · intro w hSw; (try dsimp only at hSw); go_simp; (try with_reducible rfl)
    try simp only [Act.put, List.setIfInBounds_toArray, List.set_cons_zero, List.set_cons_succ]
    refine MyHeld.take 1 (v := ?_) (.s .z) (by kernel_rfl) (by kernel_rfl) (by kernel_rfl) (fun _ _ _ h => h) (by rfl) (by assumption) ?_ ?_
    rotate_left
    · intro w hSw; (try dsimp only at hSw); go_simp; (try with_reducible rfl)
    try simp only [Act.put, List.setIfInBounds_toArray, List.set_cons_zero, List.set_cons_succ]
    refine MyHeld.take 3 (v := ?_) (.s (.s (.s .z))) (by kernel_rfl) (by kernel_rfl) (by kernel_rfl) (fun _ _ _ h => h) (by rfl) (by assumption) ?_ ?_
    rotate_left
    · intro w hSw; (try dsimp only at hSw); go_simp; (try with_reducible rfl)
    try simp only [Act.put, List.setIfInBounds_toArray, List.set_cons_zero, List.set_cons_succ]
    refine MyHeld.take 4 (v := ?_) (.s (.s (.s (.s .z)))) (by kernel_rfl) (by kernel_rfl) (by kernel_rfl) (fun _ _ _ h => h) (by rfl) (by assumption) ?_ ?_
    rotate_left
    · intro w hSw; (try dsimp only at hSw); go_simp; (try with_reducible rfl)
    try simp only [Act.put, List.setIfInBounds_toArray, List.set_cons_zero, List.set_cons_succ]
    refine wpAnyH_ready (rs := [2]) (by kernel_rfl) (by simp) ?_
    refine (MyHeld.next 2 (.s (.s .z)) (fun Kq hKq => ?_) AllReadyH.nil)
    go_simp
    ((go_at_call 23; refine (mirror_call _ _ _).mono ?_; rintro e w5 ⟨rfl, hb5⟩; replace K := K.keep hb5; clear hb5; (try clear z4 z5 z6 z7 y4 y5 y6 y7); obtain ⟨-, -, -, -, z4, z5, z6, z7, -, -, -⟩ := eleven K.2.2.2.2; have y4 := K.free 4; have y5 := K.free 5; have y6 := K.free 6; have y7 := K.free 7))
    go_wp2_with fail
    refine hKq.out _ _ (by (try dsimp only); (first | with_reducible exact K.cells0 | with_reducible exact K.cells2 _ _ | with_reducible exact K.cells4 _ _ _ _)) (fun hHeld' => ?_)
    clear hKq Kq hHeld; have hHeld := hHeld'; clear hHeld'
    try simp only [Act.put, List.setIfInBounds_toArray, List.set_cons_zero, List.set_cons_succ]
    refine MyHeld.take 6 (v := ?_) (.s (.s (.s (.s (.s (.s .z)))))) (by kernel_rfl) (by kernel_rfl) (by kernel_rfl) (fun _ _ _ h => h) (by rfl) (by assumption) ?_ ?_
    rotate_left
    · intro w hSw; (try dsimp only at hSw); go_simp; (try with_reducible rfl)
    try simp only [Act.put, List.setIfInBounds_toArray, List.set_cons_zero, List.set_cons_succ]
    refine wpAnyH_ready (rs := [5]) (by kernel_rfl) (by simp) ?_
    refine (MyHeld.next 5 (.s (.s (.s (.s (.s .z))))) (fun Kq hKq => ?_) AllReadyH.nil)
    go_simp
    ((go_at_call 23; refine (mirror_call _ _ _).mono ?_; rintro e w5 ⟨rfl, hb5⟩; replace K := K.keep hb5; clear hb5; (try clear z4 z5 z6 z7 y4 y5 y6 y7); obtain ⟨-, -, -, -, z4, z5, z6, z7, -, -, -⟩ := eleven K.2.2.2.2; have y4 := K.free 4; have y5 := K.free 5; have y6 := K.free 6; have y7 := K.free 7))
    go_wp2_with fail
    refine hKq.out _ _ (by (try dsimp only); (first | with_reducible exact K.cells0 | with_reducible exact K.cells2 _ _ | with_reducible exact K.cells4 _ _ _ _)) (fun hHeld' => ?_)
    clear hKq Kq hHeld; have hHeld := hHeld'; clear hHeld'
    try simp only [Act.put, List.setIfInBounds_toArray, List.set_cons_zero, List.set_cons_succ]
    refine wpAnyH_ready (rs := [7]) (by kernel_rfl) (by simp) ?_
    refine (MyHeld.next 7 (.s (.s (.s (.s (.s (.s (.s .z))))))) (fun Kq hKq => ?_) AllReadyH.nil)
    go_simp
    refine hKq.out _ _ (by (try dsimp only); (first | with_reducible exact K.cells0 | with_reducible exact K.cells2 _ _ | with_reducible exact K.cells4 _ _ _ _)) (fun hHeld' => ?_)
    clear hKq Kq hHeld; have hHeld := hHeld'; clear hHeld'
    try simp only [Act.put, List.setIfInBounds_toArray, List.set_cons_zero, List.set_cons_succ]
    refine MyHeld.take 8 (v := ?_) (.s (.s (.s (.s (.s (.s (.s (.s .z)))))))) (by kernel_rfl) (by kernel_rfl) (by kernel_rfl) (fun _ _ _ h => h) (by rfl) (by assumption) ?_ ?_
    rotate_left
    · intro w hSw; (try dsimp only at hSw); go_simp; (try with_reducible rfl)
    try simp only [Act.put, List.setIfInBounds_toArray, List.set_cons_zero, List.set_cons_succ]
    refine wpAnyH_ready (rs := [9]) (by kernel_rfl) (by simp) ?_
    refine (MyHeld.next 9 (.s (.s (.s (.s (.s (.s (.s (.s (.s .z))))))))) (fun Kq hKq => ?_) AllReadyH.nil)
    go_simp
    refine hKq.out _ _ (by (try dsimp only); (first | with_reducible exact K.cells0 | with_reducible exact K.cells2 _ _ | with_reducible exact K.cells4 _ _ _ _)) (fun hHeld' => ?_)
    clear hKq Kq hHeld; have hHeld := hHeld'; clear hHeld'
    try simp only [Act.put, List.setIfInBounds_toArray, List.set_cons_zero, List.set_cons_succ]
    refine wpAnyH_done (by kernel_rfl) ?_ _
    all_goals go_wp2_with fail
    all_goals go_meet
    all_goals exact ⟨bY, bA, rfl, rfl, K.four _ _ _ _⟩
  case rest =>
    clear K
    obtain ⟨bY, bA, rfl, hbA, K⟩ := hcut
    obtain ⟨h1, h2, h3, h4⟩ := K.lts
    obtain ⟨-, -, -, -, -, -, -, -, -, -, qa⟩ := eleven K.1.1
    obtain ⟨-, -, -, -, -, -, -, -, -, -, za⟩ := eleven K.2.2.2.2
    have ya := K.free 10
    go_upto_region 7 with fail
    go_cut [5, 38] (fun s5 s38 wx => s5 = .pointer (some ⟨bY, 0, none⟩) ∧ s38 = .bool (lockB 0) ∧ wx = wc)
    case first =>
      have D3 := Lib.hid (show false = lockB 0 from rfl)
      go_wp2_with fail
      go_meet
      exact ⟨rfl, by rw [← D3.out], rfl⟩
    case rest =>
    obtain ⟨rfl, rfl, rfl⟩ := hcut
    go_upto_if 38 with fail
    go_cut [5] (fun s5 wx => s5 = .pointer (some ⟨bY, 0, none⟩) ∧ MiY w (scnC a n c s z v z' v' t (-1000) 0) bA R bY (scnC a n c s (mZ z) (mV v) (mZ z') (mV v') t (-1000) (mirK 0)) wx)
    case first =>
      rw [show lockB 0 = false from rfl]
      go_wp2_with fail
      go_meet
      exact ⟨rfl, K⟩
    case rest =>
      clear K qa za ya
      obtain ⟨rfl, K⟩ := hcut
      clear h1 h2 h3 h4
      obtain ⟨h1, h2, h3, h4⟩ := K.lts
      obtain ⟨q0, q1, q2, q3, q4, q5, q6, q7, q8, q9, qa⟩ := eleven K.2.2.2.2
      have HK := Lib.hid K
      clear K
      go_wp2_with fail
      refine (lchoose_call a n c s (mZ z) (mV v) (mZ z') (mV v') t (-1000) (mirK 0) _ (HL.out.below HK.out.1.2)).mono ?_; rintro e w7 ⟨rfl, hb7⟩
      have K7 := Lib.hid (HK.out.keep hb7)
      clear hb7 HK q0 q1 q2 q3 q4 q5 q6 q7 q8 q9 qa h1 h2 h3 h4
      have hee := HM.out.err
      rw [← hee, HE.out]
      clear hee
      generalize hR2 : chR s (mZ z) (mV v) (mZ z') (mV v') t (-1000) (mirK 0) = R2 at *
      have HR2 := Lib.hid hR2
      clear hR2
      subst hbA
      go_upto_region 12 with fail
      have K : MiZ w (scnC a n c s z v z' v' t (-1000) 0) w3.heap.size R bY (scnC a n c s (mZ z) (mV v) (mZ z') (mV v') t (-1000) (mirK 0)) w7.heap.size R2 (w7.alloc (.cells #[.int .u8 R2.s, .int .i64 R2.r, .bool R2.k] 30)) := ⟨K7.out.keep (below_alloc _ _), block_new _ _ rfl⟩
      clear K7
      generalize hbA : w3.heap.size = bA at *
      generalize hbB : w7.heap.size = bB at *
      generalize w7.alloc (.cells #[.int .u8 R2.s, .int .i64 R2.r, .bool R2.k] 30) = w8 at *
      replace K := K.keep ((Below.refl w8.heap.size w8).drew)
      refine wp_region_held_drew (S := (fun w' => w'.cell? ⟨w.heap.size, 0, none⟩ = some (.slice a n c) ∧ w'.cell? ⟨w.heap.size, 1, none⟩ = some (.int .i64 s.alim) ∧ w'.cell? ⟨w.heap.size, 2, none⟩ = some (.int .i64 s.d) ∧ w'.cell? ⟨w.heap.size, 3, none⟩ = some (.int .i64 s.pl) ∧ w'.cell? ⟨w.heap.size, 4, none⟩ = some (.int .i64 z) ∧ w'.cell? ⟨w.heap.size, 5, none⟩ = some (.int .i64 v) ∧ w'.cell? ⟨w.heap.size, 6, none⟩ = some (.int .i64 z') ∧ w'.cell? ⟨w.heap.size, 7, none⟩ = some (.int .i64 v') ∧ w'.cell? ⟨w.heap.size, 8, none⟩ = some (.int .i64 t) ∧ w'.cell? ⟨w.heap.size, 9, none⟩ = some (.int .i64 (-1000)) ∧ w'.cell? ⟨w.heap.size, 10, none⟩ = some (.int .u8 0))) (by kernel_rfl) (by (try dsimp only); (exact eleven K.1.1.1)) (fun hHeld => ?_)
      refine MyHeld.take 0 (v := ?_) .z (by kernel_rfl) (by kernel_rfl) (by kernel_rfl) (fun _ _ _ h => h) (by rfl) (by assumption) ?_ ?_
      rotate_left
      · intro w hSw; (try dsimp only at hSw); go_simp; (try with_reducible rfl)
      try simp only [Act.put, List.setIfInBounds_toArray, List.set_cons_zero, List.set_cons_succ]
      refine MyHeld.take 1 (v := ?_) (.s .z) (by kernel_rfl) (by kernel_rfl) (by kernel_rfl) (fun _ _ _ h => h) (by rfl) (by assumption) ?_ ?_
      rotate_left
      · intro w hSw; (try dsimp only at hSw); go_simp; (try with_reducible rfl)
      try simp only [Act.put, List.setIfInBounds_toArray, List.set_cons_zero, List.set_cons_succ]
      refine MyHeld.take 2 (v := ?_) (.s (.s .z)) (by kernel_rfl) (by kernel_rfl) (by kernel_rfl) (fun _ _ _ h => h) (by rfl) (by assumption) ?_ ?_
      rotate_left
      · intro w hSw; (try dsimp only at hSw); go_simp; (try with_reducible rfl)
      try simp only [Act.put, List.setIfInBounds_toArray, List.set_cons_zero, List.set_cons_succ]
      refine MyHeld.take 3 (v := ?_) (.s (.s (.s .z))) (by kernel_rfl) (by kernel_rfl) (by kernel_rfl) (fun _ _ _ h => h) (by rfl) (by assumption) ?_ ?_
      rotate_left
      · intro w hSw; (try dsimp only at hSw); go_simp; (try with_reducible rfl)
      try simp only [Act.put, List.setIfInBounds_toArray, List.set_cons_zero, List.set_cons_succ]
      refine MyHeld.take 4 (v := ?_) (.s (.s (.s (.s .z)))) (by kernel_rfl) (by kernel_rfl) (by kernel_rfl) (fun _ _ _ h => h) (by rfl) (by assumption) ?_ ?_
      rotate_left
      · intro w hSw; (try dsimp only at hSw); go_simp; (try with_reducible rfl)
      try simp only [Act.put, List.setIfInBounds_toArray, List.set_cons_zero, List.set_cons_succ]
      refine MyHeld.take 5 (v := ?_) (.s (.s (.s (.s (.s .z))))) (by kernel_rfl) (by kernel_rfl) (by kernel_rfl) (fun _ _ _ h => h) (by rfl) (by assumption) ?_ ?_
      rotate_left
      · intro w hSw; (try dsimp only at hSw); go_simp; (try with_reducible rfl)
      try simp only [Act.put, List.setIfInBounds_toArray, List.set_cons_zero, List.set_cons_succ]
      refine MyHeld.take 8 (v := ?_) (.s (.s (.s (.s (.s (.s (.s (.s .z)))))))) (by kernel_rfl) (by kernel_rfl) (by kernel_rfl) (fun _ _ _ h => h) (by rfl) (by assumption) ?_ ?_
      rotate_left
      · intro w hSw; (try dsimp only at hSw); go_simp; (try with_reducible rfl)
      try simp only [Act.put, List.setIfInBounds_toArray, List.set_cons_zero, List.set_cons_succ]
      refine MyHeld.take 9 (v := ?_) (.s (.s (.s (.s (.s (.s (.s (.s (.s .z))))))))) (by kernel_rfl) (by kernel_rfl) (by kernel_rfl) (fun _ _ _ h => h) (by rfl) (by assumption) ?_ ?_
      rotate_left
      · intro w hSw; (try dsimp only at hSw); go_simp; (try with_reducible rfl)
      try simp only [Act.put, List.setIfInBounds_toArray, List.set_cons_zero, List.set_cons_succ]
      refine wpAnyH_ready (rs := [6]) (by kernel_rfl) (by simp) ?_
      refine (MyHeld.next 6 (.s (.s (.s (.s (.s (.s .z)))))) (fun Kq hKq => ?_) AllReadyH.nil)
      go_simp
      (go_at_call 22; refine (strongest_call a n c s z v z' v' t (-1000) 0 _ _ (HL.out.below K.1.1.2) HN1.out).mono ?_; rintro e w9 ⟨rfl, hb9⟩; replace K := K.keep hb9; clear hb9)
      go_wp2_with fail
      refine hKq.out _ _ (by (try dsimp only); (exact eleven K.1.1.1)) (fun hHeld' => ?_)
      clear hKq Kq hHeld; have hHeld := hHeld'; clear hHeld'
      try simp only [Act.put, List.setIfInBounds_toArray, List.set_cons_zero, List.set_cons_succ]
      refine wpAnyH_ready (rs := [7]) (by kernel_rfl) (by simp) ?_
      refine (MyHeld.next 7 (.s (.s (.s (.s (.s (.s (.s .z))))))) (fun Kq hKq => ?_) AllReadyH.nil)
      go_simp
      (go_at_call 21; refine (lsep_call a n c s z v z' v' t (-1000) 0 _ _ (HL.out.below K.1.1.2) (by first | exact (by decide : (0 : Int) ≤ 1) | exact (by decide : (0 : Int) ≤ 2))).mono ?_; rintro e w9 ⟨rfl, hb9⟩; replace K := K.keep hb9; clear hb9)
      go_wp2_with fail
      refine hKq.out _ _ (by (try dsimp only); (exact eleven K.1.1.1)) (fun hHeld' => ?_)
      clear hKq Kq hHeld; have hHeld := hHeld'; clear hHeld'
      try simp only [Act.put, List.setIfInBounds_toArray, List.set_cons_zero, List.set_cons_succ]
      refine wpAnyH_ready (rs := [10]) (by kernel_rfl) (by simp) ?_
      refine (MyHeld.next 10 (.s (.s (.s (.s (.s (.s (.s (.s (.s (.s .z)))))))))) (fun Kq hKq => ?_) AllReadyH.nil)
      go_simp
      (go_at_call 22; refine (strongest_call a n c s z v z' v' t (-1000) 0 _ _ (HL.out.below K.1.1.2) HN1.out).mono ?_; rintro e w9 ⟨rfl, hb9⟩; replace K := K.keep hb9; clear hb9)
      go_wp2_with fail
      refine hKq.out _ _ (by (try dsimp only); (exact eleven K.1.1.1)) (fun hHeld' => ?_)
      clear hKq Kq hHeld; have hHeld := hHeld'; clear hHeld'
      try simp only [Act.put, List.setIfInBounds_toArray, List.set_cons_zero, List.set_cons_succ]
      refine wpAnyH_ready (rs := [11]) (by kernel_rfl) (by simp) ?_
      refine (MyHeld.next 11 (.s (.s (.s (.s (.s (.s (.s (.s (.s (.s (.s .z))))))))))) (fun Kq hKq => ?_) AllReadyH.nil)
      go_simp
      (go_at_call 21; refine (lsep_call a n c s z v z' v' t (-1000) 0 _ _ (HL.out.below K.1.1.2) (by first | exact (by decide : (0 : Int) ≤ 1) | exact (by decide : (0 : Int) ≤ 2))).mono ?_; rintro e w9 ⟨rfl, hb9⟩; replace K := K.keep hb9; clear hb9)
      go_wp2_with fail
      refine hKq.out _ _ (by (try dsimp only); (exact eleven K.1.1.1)) (fun hHeld' => ?_)
      clear hKq Kq hHeld; have hHeld := hHeld'; clear hHeld'
      try simp only [Act.put, List.setIfInBounds_toArray, List.set_cons_zero, List.set_cons_succ]
      refine MyHeld.take 12 (v := ?_) (.s (.s (.s (.s (.s (.s (.s (.s (.s (.s (.s (.s .z)))))))))))) (by kernel_rfl) (by kernel_rfl) (by kernel_rfl) (fun _ _ _ h => h) (by rfl) (by assumption) ?_ ?_
      rotate_left
      · intro w hSw; (try dsimp only at hSw); go_simp; (try with_reducible rfl)
      try simp only [Act.put, List.setIfInBounds_toArray, List.set_cons_zero, List.set_cons_succ]
      refine MyHeld.take 13 (v := ?_) (.s (.s (.s (.s (.s (.s (.s (.s (.s (.s (.s (.s (.s .z))))))))))))) (by kernel_rfl) (by kernel_rfl) (by kernel_rfl) (fun _ _ _ h => h) (by rfl) (by assumption) ?_ ?_
      rotate_left
      · intro w hSw; (try dsimp only at hSw); go_simp; (try with_reducible rfl)
      try simp only [Act.put, List.setIfInBounds_toArray, List.set_cons_zero, List.set_cons_succ]
      refine wpAnyH_done (by kernel_rfl) ?_ _
      have hF : R2 = flp R := HF.out
      have hg : R.s = 1 ∨ R.s = 2 := HG.out
      all_goals
        obtain ⟨y0, y1, y2⟩ := three_old' K.1.2.2.2.1
        obtain ⟨x0, x1, x2⟩ := three_old' K.2
        have KB := Lib.hid K.1.1.2
        clear K
        rw [show R2.s = 3 - R.s by rw [hF]; rfl] at x0
        rw [show R2.r = R.r by rw [hF]; rfl] at x1
        rw [show R2.k = R.k by rw [hF]; rfl] at x2
        clear hF HR HR2
        generalize R.s = g at *
        generalize R.r = r at *
        generalize R.k = q at *
        have qq : (q == q) = true := by cases q <;> rfl
        rcases hg with rfl | rfl
        · rw [show (3 : Int) - 1 = 2 from rfl] at x0
          go_wp2_with fail
          go_ret
          exact ⟨rfl, KB.out⟩
        · rw [show (3 : Int) - 2 = 1 from rfl] at x0
          go_wp2_with fail
          go_ret
          exact ⟨rfl, KB.out⟩

set_option maxRecDepth 100000 in
set_option maxHeartbeats 8000000 in
theorem mirror_even (a : Option Addr) (n c : Nat) (s : RulesMath.Set) (z v z' v' t fl : Int) (w : World) (h : Ints w a n s.rs) (hn : n ≤ 20) (hM : Mir s z v z' v' t 0) (hE : chE s z v z' v' t (-1000) 0 = 0) (hF : (chR s z v z' v' t (-1000) 0).s = 1 ∧ (chR s (mZ z) (mV v) (mZ z') (mV v') t (-1000) (mirK 0)).s = 1) (hQ : (sepR s z v z' v' (lastA s 1) t == sepR s z v z' v' (lastA s 2) t) = true) :
    Calls Try.prog 5 #[scnV a n c s z v z' v' t fl 0] w (BPost true w) := by
  have HL := Lib.hid h
  have HM := Lib.hid hM
  have hb := h.bound
  have HN := Lib.hid h.len
  have hlong : decide (20 < n) = false := decide_eq_false (by omega)
  clear h hM hn
  have HE := Lib.hid hE
  have HG := Lib.hid (show (chR s z v z' v' t (-1000) 0).s = 1 ∨ (chR s z v z' v' t (-1000) 0).s = 2 from chR_s hE)
  have HN1 := Lib.hid (show 1 ≤ n from by rw [← HN.out]; exact (n_pos (HM.out.ok hE).1).1)
  have HF := Lib.hid hF
  have hbest := hQ
  clear hE hF hQ
  unfold scnV
  go_enter Try.func5, Try.ntmps5
  go_wp2_with fail
  have K0 := Lib.hid (show MiK w (scnC a n c s z v z' v' t fl 0) (w.alloc (.cells (scnC a n c s z v z' v' t fl 0) 28)) from ⟨block_new _ _ rfl, below_alloc _ _⟩)
  refine (long_call a n c s _ hb).mono ?_; rintro e w1 ⟨rfl, hb1⟩
  rw [hlong]
  have K1 := Lib.hid (K0.out.keep hb1)
  clear hb1 K0
  go_wp2_with fail
  refine (awake_call _).mono ?_; rintro e w2 ⟨rfl, hb2⟩
  have K2 := Lib.hid (K1.out.keep hb2)
  clear hb2 K1
  have hlt := lt_of_block K2.out.1
  have f9 : w2.frozen? ⟨w.heap.size, 9, none⟩ = false := free_of_block K2.out.1
  obtain ⟨q0, q1, q2, q3, q4, q5, q6, q7, q8, q9, qa⟩ := eleven K2.out.1
  go_wp2_with fail
  have K3 := Lib.hid (show MiK w (scnC a n c s z v z' v' t (-1000) 0) (w2.setCell ⟨w.heap.size, 9, none⟩ (.int .i64 (-1000))) from ⟨block_setCell K2.out.1, K2.out.2.trans (((Only.refl w.heap.size w2).setCell 9 _).below (Nat.le_refl _) K2.out.2.size)⟩)
  refine (lchoose_call a n c s z v z' v' t (-1000) 0 _ (HL.out.below K3.out.2)).mono ?_; rintro e w3 ⟨rfl, hb3⟩
  have K4 := Lib.hid (K3.out.keep hb3)
  clear hb3 K3 K2 q0 q1 q2 q3 q4 q5 q6 q7 q8 q9 qa f9 hlt
  generalize hR : chR s z v z' v' t (-1000) 0 = R at *
  obtain ⟨q0, q1, q2, q3, q4, q5, q6, q7, q8, q9, qa⟩ := eleven K4.out.1
  have hlt := lt_of_block K4.out.1
  have HR := Lib.hid hR
  clear hR
  go_wp2_with fail
  have K : MiY w (scnC a n c s z v z' v' t (-1000) 0) w3.heap.size R (w3.heap.size + 1) (scnC a n c s z v z' v' t (-1000) 0) ((w3.alloc (.cells #[.int .u8 R.s, .int .i64 R.r, .bool R.k] 30)).alloc (.cells #[.slice a n c, .int .i64 s.alim, .int .i64 s.d, .int .i64 s.pl, .int .i64 z, .int .i64 v, .int .i64 z', .int .i64 v', .int .i64 t, .int .i64 (-1000), .int .u8 0] 28)) :=
    ⟨(K4.out.keep (below_alloc _ _)).keep (below_alloc _ _), by omega, by omega, block_alloc (block_new _ _ rfl), block_new _ _ (by simp)⟩
  clear q0 q1 q2 q3 q4 q5 q6 q7 q8 q9 qa hlt K4
  go_upto_region 9 with fail
  go_cut [5] (fun s5 wx => ∃ bY bA, s5 = .pointer (some ⟨bY, 0, none⟩) ∧ bA = w3.heap.size ∧ MiY w (scnC a n c s z v z' v' t (-1000) 0) bA R bY (scnC a n c s (mZ z) (mV v) (mZ z') (mV v') t (-1000) 0) wx)
  case first =>
    generalize hbY : w3.heap.size + 1 = bY at *
    generalize hbA : w3.heap.size = bA at *
    generalize ((w3.alloc (.cells #[.int .u8 R.s, .int .i64 R.r, .bool R.k] 30)).alloc (.cells #[.slice a n c, .int .i64 s.alim, .int .i64 s.d, .int .i64 s.pl, .int .i64 z, .int .i64 v, .int .i64 z', .int .i64 v', .int .i64 t, .int .i64 (-1000), .int .u8 0] 28)) = w4 at *
    replace K := K.keep ((Below.refl w4.heap.size w4).drew)
    refine wp_region_held_drew (S := (fun w' => w'.cell? ⟨w.heap.size, 4, none⟩ = some (.int .i64 z) ∧ w'.cell? ⟨w.heap.size, 5, none⟩ = some (.int .i64 v) ∧ w'.cell? ⟨w.heap.size, 6, none⟩ = some (.int .i64 z') ∧ w'.cell? ⟨w.heap.size, 7, none⟩ = some (.int .i64 v'))) (by kernel_rfl) (by (try dsimp only); (first | with_reducible exact K.cells0 | with_reducible exact K.cells2 _ _ | with_reducible exact K.cells4 _ _ _ _)) (fun hHeld => ?_)
    refine MyHeld.take 0 (v := ?_) .z (by kernel_rfl) (by kernel_rfl) (by kernel_rfl) (fun _ _ _ h => h) (by rfl) (by assumption) ?_ ?_
    rotate_left
    · intro w hSw; (try dsimp only at hSw); go_simp; (try with_reducible rfl)
    try simp only [Act.put, List.setIfInBounds_toArray, List.set_cons_zero, List.set_cons_succ]
    refine MyHeld.take 1 (v := ?_) (.s .z) (by kernel_rfl) (by kernel_rfl) (by kernel_rfl) (fun _ _ _ h => h) (by rfl) (by assumption) ?_ ?_
    rotate_left
    · intro w hSw; (try dsimp only at hSw); go_simp; (try with_reducible rfl)
    try simp only [Act.put, List.setIfInBounds_toArray, List.set_cons_zero, List.set_cons_succ]
    refine MyHeld.take 3 (v := ?_) (.s (.s (.s .z))) (by kernel_rfl) (by kernel_rfl) (by kernel_rfl) (fun _ _ _ h => h) (by rfl) (by assumption) ?_ ?_
    rotate_left
    · intro w hSw; (try dsimp only at hSw); go_simp; (try with_reducible rfl)
    try simp only [Act.put, List.setIfInBounds_toArray, List.set_cons_zero, List.set_cons_succ]
    refine MyHeld.take 4 (v := ?_) (.s (.s (.s (.s .z)))) (by kernel_rfl) (by kernel_rfl) (by kernel_rfl) (fun _ _ _ h => h) (by rfl) (by assumption) ?_ ?_
    rotate_left
    · intro w hSw; (try dsimp only at hSw); go_simp; (try with_reducible rfl)
    try simp only [Act.put, List.setIfInBounds_toArray, List.set_cons_zero, List.set_cons_succ]
    refine wpAnyH_ready (rs := [2]) (by kernel_rfl) (by simp) ?_
    refine (MyHeld.next 2 (.s (.s .z)) (fun Kq hKq => ?_) AllReadyH.nil)
    go_simp
    ((go_at_call 23; refine (mirror_call _ _ _).mono ?_; rintro e w5 ⟨rfl, hb5⟩; replace K := K.keep hb5; clear hb5; (try clear z4 z5 z6 z7 y4 y5 y6 y7); obtain ⟨-, -, -, -, z4, z5, z6, z7, -, -, -⟩ := eleven K.2.2.2.2; have y4 := K.free 4; have y5 := K.free 5; have y6 := K.free 6; have y7 := K.free 7))
    go_wp2_with fail
    refine hKq.out _ _ (by (try dsimp only); (first | with_reducible exact K.cells0 | with_reducible exact K.cells2 _ _ | with_reducible exact K.cells4 _ _ _ _)) (fun hHeld' => ?_)
    clear hKq Kq hHeld; have hHeld := hHeld'; clear hHeld'
    try simp only [Act.put, List.setIfInBounds_toArray, List.set_cons_zero, List.set_cons_succ]
    refine MyHeld.take 6 (v := ?_) (.s (.s (.s (.s (.s (.s .z)))))) (by kernel_rfl) (by kernel_rfl) (by kernel_rfl) (fun _ _ _ h => h) (by rfl) (by assumption) ?_ ?_
    rotate_left
    · intro w hSw; (try dsimp only at hSw); go_simp; (try with_reducible rfl)
    try simp only [Act.put, List.setIfInBounds_toArray, List.set_cons_zero, List.set_cons_succ]
    refine wpAnyH_ready (rs := [5]) (by kernel_rfl) (by simp) ?_
    refine (MyHeld.next 5 (.s (.s (.s (.s (.s .z))))) (fun Kq hKq => ?_) AllReadyH.nil)
    go_simp
    ((go_at_call 23; refine (mirror_call _ _ _).mono ?_; rintro e w5 ⟨rfl, hb5⟩; replace K := K.keep hb5; clear hb5; (try clear z4 z5 z6 z7 y4 y5 y6 y7); obtain ⟨-, -, -, -, z4, z5, z6, z7, -, -, -⟩ := eleven K.2.2.2.2; have y4 := K.free 4; have y5 := K.free 5; have y6 := K.free 6; have y7 := K.free 7))
    go_wp2_with fail
    refine hKq.out _ _ (by (try dsimp only); (first | with_reducible exact K.cells0 | with_reducible exact K.cells2 _ _ | with_reducible exact K.cells4 _ _ _ _)) (fun hHeld' => ?_)
    clear hKq Kq hHeld; have hHeld := hHeld'; clear hHeld'
    try simp only [Act.put, List.setIfInBounds_toArray, List.set_cons_zero, List.set_cons_succ]
    refine wpAnyH_ready (rs := [7]) (by kernel_rfl) (by simp) ?_
    refine (MyHeld.next 7 (.s (.s (.s (.s (.s (.s (.s .z))))))) (fun Kq hKq => ?_) AllReadyH.nil)
    go_simp
    refine hKq.out _ _ (by (try dsimp only); (first | with_reducible exact K.cells0 | with_reducible exact K.cells2 _ _ | with_reducible exact K.cells4 _ _ _ _)) (fun hHeld' => ?_)
    clear hKq Kq hHeld; have hHeld := hHeld'; clear hHeld'
    try simp only [Act.put, List.setIfInBounds_toArray, List.set_cons_zero, List.set_cons_succ]
    refine MyHeld.take 8 (v := ?_) (.s (.s (.s (.s (.s (.s (.s (.s .z)))))))) (by kernel_rfl) (by kernel_rfl) (by kernel_rfl) (fun _ _ _ h => h) (by rfl) (by assumption) ?_ ?_
    rotate_left
    · intro w hSw; (try dsimp only at hSw); go_simp; (try with_reducible rfl)
    try simp only [Act.put, List.setIfInBounds_toArray, List.set_cons_zero, List.set_cons_succ]
    refine wpAnyH_ready (rs := [9]) (by kernel_rfl) (by simp) ?_
    refine (MyHeld.next 9 (.s (.s (.s (.s (.s (.s (.s (.s (.s .z))))))))) (fun Kq hKq => ?_) AllReadyH.nil)
    go_simp
    refine hKq.out _ _ (by (try dsimp only); (first | with_reducible exact K.cells0 | with_reducible exact K.cells2 _ _ | with_reducible exact K.cells4 _ _ _ _)) (fun hHeld' => ?_)
    clear hKq Kq hHeld; have hHeld := hHeld'; clear hHeld'
    try simp only [Act.put, List.setIfInBounds_toArray, List.set_cons_zero, List.set_cons_succ]
    refine wpAnyH_done (by kernel_rfl) ?_ _
    all_goals go_wp2_with fail
    all_goals go_meet
    all_goals exact ⟨bY, bA, rfl, rfl, K.four _ _ _ _⟩
  case rest =>
    clear K
    obtain ⟨bY, bA, rfl, hbA, K⟩ := hcut
    obtain ⟨h1, h2, h3, h4⟩ := K.lts
    obtain ⟨-, -, -, -, -, -, -, -, -, -, qa⟩ := eleven K.1.1
    obtain ⟨-, -, -, -, -, -, -, -, -, -, za⟩ := eleven K.2.2.2.2
    have ya := K.free 10
    go_upto_region 7 with fail
    go_cut [5, 38] (fun s5 s38 wx => s5 = .pointer (some ⟨bY, 0, none⟩) ∧ s38 = .bool (lockB 0) ∧ wx = wc)
    case first =>
      have D3 := Lib.hid (show false = lockB 0 from rfl)
      go_wp2_with fail
      go_meet
      exact ⟨rfl, by rw [← D3.out], rfl⟩
    case rest =>
    obtain ⟨rfl, rfl, rfl⟩ := hcut
    go_upto_if 38 with fail
    go_cut [5] (fun s5 wx => s5 = .pointer (some ⟨bY, 0, none⟩) ∧ MiY w (scnC a n c s z v z' v' t (-1000) 0) bA R bY (scnC a n c s (mZ z) (mV v) (mZ z') (mV v') t (-1000) (mirK 0)) wx)
    case first =>
      rw [show lockB 0 = false from rfl]
      go_wp2_with fail
      go_meet
      exact ⟨rfl, K⟩
    case rest =>
      clear K qa za ya
      obtain ⟨rfl, K⟩ := hcut
      clear h1 h2 h3 h4
      obtain ⟨h1, h2, h3, h4⟩ := K.lts
      obtain ⟨q0, q1, q2, q3, q4, q5, q6, q7, q8, q9, qa⟩ := eleven K.2.2.2.2
      have HK := Lib.hid K
      clear K
      go_wp2_with fail
      refine (lchoose_call a n c s (mZ z) (mV v) (mZ z') (mV v') t (-1000) (mirK 0) _ (HL.out.below HK.out.1.2)).mono ?_; rintro e w7 ⟨rfl, hb7⟩
      have K7 := Lib.hid (HK.out.keep hb7)
      clear hb7 HK q0 q1 q2 q3 q4 q5 q6 q7 q8 q9 qa h1 h2 h3 h4
      have hee := HM.out.err
      rw [← hee, HE.out]
      clear hee
      generalize hR2 : chR s (mZ z) (mV v) (mZ z') (mV v') t (-1000) (mirK 0) = R2 at *
      have HR2 := Lib.hid hR2
      clear hR2
      subst hbA
      go_upto_region 12 with fail
      have K : MiZ w (scnC a n c s z v z' v' t (-1000) 0) w3.heap.size R bY (scnC a n c s (mZ z) (mV v) (mZ z') (mV v') t (-1000) (mirK 0)) w7.heap.size R2 (w7.alloc (.cells #[.int .u8 R2.s, .int .i64 R2.r, .bool R2.k] 30)) := ⟨K7.out.keep (below_alloc _ _), block_new _ _ rfl⟩
      clear K7
      generalize hbA : w3.heap.size = bA at *
      generalize hbB : w7.heap.size = bB at *
      generalize w7.alloc (.cells #[.int .u8 R2.s, .int .i64 R2.r, .bool R2.k] 30) = w8 at *
      replace K := K.keep ((Below.refl w8.heap.size w8).drew)
      refine wp_region_held_drew (S := (fun w' => w'.cell? ⟨w.heap.size, 0, none⟩ = some (.slice a n c) ∧ w'.cell? ⟨w.heap.size, 1, none⟩ = some (.int .i64 s.alim) ∧ w'.cell? ⟨w.heap.size, 2, none⟩ = some (.int .i64 s.d) ∧ w'.cell? ⟨w.heap.size, 3, none⟩ = some (.int .i64 s.pl) ∧ w'.cell? ⟨w.heap.size, 4, none⟩ = some (.int .i64 z) ∧ w'.cell? ⟨w.heap.size, 5, none⟩ = some (.int .i64 v) ∧ w'.cell? ⟨w.heap.size, 6, none⟩ = some (.int .i64 z') ∧ w'.cell? ⟨w.heap.size, 7, none⟩ = some (.int .i64 v') ∧ w'.cell? ⟨w.heap.size, 8, none⟩ = some (.int .i64 t) ∧ w'.cell? ⟨w.heap.size, 9, none⟩ = some (.int .i64 (-1000)) ∧ w'.cell? ⟨w.heap.size, 10, none⟩ = some (.int .u8 0))) (by kernel_rfl) (by (try dsimp only); (exact eleven K.1.1.1)) (fun hHeld => ?_)
      refine MyHeld.take 0 (v := ?_) .z (by kernel_rfl) (by kernel_rfl) (by kernel_rfl) (fun _ _ _ h => h) (by rfl) (by assumption) ?_ ?_
      rotate_left
      · intro w hSw; (try dsimp only at hSw); go_simp; (try with_reducible rfl)
      try simp only [Act.put, List.setIfInBounds_toArray, List.set_cons_zero, List.set_cons_succ]
      refine MyHeld.take 1 (v := ?_) (.s .z) (by kernel_rfl) (by kernel_rfl) (by kernel_rfl) (fun _ _ _ h => h) (by rfl) (by assumption) ?_ ?_
      rotate_left
      · intro w hSw; (try dsimp only at hSw); go_simp; (try with_reducible rfl)
      try simp only [Act.put, List.setIfInBounds_toArray, List.set_cons_zero, List.set_cons_succ]
      refine MyHeld.take 2 (v := ?_) (.s (.s .z)) (by kernel_rfl) (by kernel_rfl) (by kernel_rfl) (fun _ _ _ h => h) (by rfl) (by assumption) ?_ ?_
      rotate_left
      · intro w hSw; (try dsimp only at hSw); go_simp; (try with_reducible rfl)
      try simp only [Act.put, List.setIfInBounds_toArray, List.set_cons_zero, List.set_cons_succ]
      refine MyHeld.take 3 (v := ?_) (.s (.s (.s .z))) (by kernel_rfl) (by kernel_rfl) (by kernel_rfl) (fun _ _ _ h => h) (by rfl) (by assumption) ?_ ?_
      rotate_left
      · intro w hSw; (try dsimp only at hSw); go_simp; (try with_reducible rfl)
      try simp only [Act.put, List.setIfInBounds_toArray, List.set_cons_zero, List.set_cons_succ]
      refine MyHeld.take 4 (v := ?_) (.s (.s (.s (.s .z)))) (by kernel_rfl) (by kernel_rfl) (by kernel_rfl) (fun _ _ _ h => h) (by rfl) (by assumption) ?_ ?_
      rotate_left
      · intro w hSw; (try dsimp only at hSw); go_simp; (try with_reducible rfl)
      try simp only [Act.put, List.setIfInBounds_toArray, List.set_cons_zero, List.set_cons_succ]
      refine MyHeld.take 5 (v := ?_) (.s (.s (.s (.s (.s .z))))) (by kernel_rfl) (by kernel_rfl) (by kernel_rfl) (fun _ _ _ h => h) (by rfl) (by assumption) ?_ ?_
      rotate_left
      · intro w hSw; (try dsimp only at hSw); go_simp; (try with_reducible rfl)
      try simp only [Act.put, List.setIfInBounds_toArray, List.set_cons_zero, List.set_cons_succ]
      refine MyHeld.take 8 (v := ?_) (.s (.s (.s (.s (.s (.s (.s (.s .z)))))))) (by kernel_rfl) (by kernel_rfl) (by kernel_rfl) (fun _ _ _ h => h) (by rfl) (by assumption) ?_ ?_
      rotate_left
      · intro w hSw; (try dsimp only at hSw); go_simp; (try with_reducible rfl)
      try simp only [Act.put, List.setIfInBounds_toArray, List.set_cons_zero, List.set_cons_succ]
      refine MyHeld.take 9 (v := ?_) (.s (.s (.s (.s (.s (.s (.s (.s (.s .z))))))))) (by kernel_rfl) (by kernel_rfl) (by kernel_rfl) (fun _ _ _ h => h) (by rfl) (by assumption) ?_ ?_
      rotate_left
      · intro w hSw; (try dsimp only at hSw); go_simp; (try with_reducible rfl)
      try simp only [Act.put, List.setIfInBounds_toArray, List.set_cons_zero, List.set_cons_succ]
      refine wpAnyH_ready (rs := [6]) (by kernel_rfl) (by simp) ?_
      refine (MyHeld.next 6 (.s (.s (.s (.s (.s (.s .z)))))) (fun Kq hKq => ?_) AllReadyH.nil)
      go_simp
      (go_at_call 22; refine (strongest_call a n c s z v z' v' t (-1000) 0 _ _ (HL.out.below K.1.1.2) HN1.out).mono ?_; rintro e w9 ⟨rfl, hb9⟩; replace K := K.keep hb9; clear hb9)
      go_wp2_with fail
      refine hKq.out _ _ (by (try dsimp only); (exact eleven K.1.1.1)) (fun hHeld' => ?_)
      clear hKq Kq hHeld; have hHeld := hHeld'; clear hHeld'
      try simp only [Act.put, List.setIfInBounds_toArray, List.set_cons_zero, List.set_cons_succ]
      refine wpAnyH_ready (rs := [7]) (by kernel_rfl) (by simp) ?_
      refine (MyHeld.next 7 (.s (.s (.s (.s (.s (.s (.s .z))))))) (fun Kq hKq => ?_) AllReadyH.nil)
      go_simp
      (go_at_call 21; refine (lsep_call a n c s z v z' v' t (-1000) 0 _ _ (HL.out.below K.1.1.2) (by first | exact (by decide : (0 : Int) ≤ 1) | exact (by decide : (0 : Int) ≤ 2))).mono ?_; rintro e w9 ⟨rfl, hb9⟩; replace K := K.keep hb9; clear hb9)
      go_wp2_with fail
      refine hKq.out _ _ (by (try dsimp only); (exact eleven K.1.1.1)) (fun hHeld' => ?_)
      clear hKq Kq hHeld; have hHeld := hHeld'; clear hHeld'
      try simp only [Act.put, List.setIfInBounds_toArray, List.set_cons_zero, List.set_cons_succ]
      refine wpAnyH_ready (rs := [10]) (by kernel_rfl) (by simp) ?_
      refine (MyHeld.next 10 (.s (.s (.s (.s (.s (.s (.s (.s (.s (.s .z)))))))))) (fun Kq hKq => ?_) AllReadyH.nil)
      go_simp
      (go_at_call 22; refine (strongest_call a n c s z v z' v' t (-1000) 0 _ _ (HL.out.below K.1.1.2) HN1.out).mono ?_; rintro e w9 ⟨rfl, hb9⟩; replace K := K.keep hb9; clear hb9)
      go_wp2_with fail
      refine hKq.out _ _ (by (try dsimp only); (exact eleven K.1.1.1)) (fun hHeld' => ?_)
      clear hKq Kq hHeld; have hHeld := hHeld'; clear hHeld'
      try simp only [Act.put, List.setIfInBounds_toArray, List.set_cons_zero, List.set_cons_succ]
      refine wpAnyH_ready (rs := [11]) (by kernel_rfl) (by simp) ?_
      refine (MyHeld.next 11 (.s (.s (.s (.s (.s (.s (.s (.s (.s (.s (.s .z))))))))))) (fun Kq hKq => ?_) AllReadyH.nil)
      go_simp
      (go_at_call 21; refine (lsep_call a n c s z v z' v' t (-1000) 0 _ _ (HL.out.below K.1.1.2) (by first | exact (by decide : (0 : Int) ≤ 1) | exact (by decide : (0 : Int) ≤ 2))).mono ?_; rintro e w9 ⟨rfl, hb9⟩; replace K := K.keep hb9; clear hb9)
      go_wp2_with fail
      refine hKq.out _ _ (by (try dsimp only); (exact eleven K.1.1.1)) (fun hHeld' => ?_)
      clear hKq Kq hHeld; have hHeld := hHeld'; clear hHeld'
      try simp only [Act.put, List.setIfInBounds_toArray, List.set_cons_zero, List.set_cons_succ]
      refine MyHeld.take 12 (v := ?_) (.s (.s (.s (.s (.s (.s (.s (.s (.s (.s (.s (.s .z)))))))))))) (by kernel_rfl) (by kernel_rfl) (by kernel_rfl) (fun _ _ _ h => h) (by rfl) (by assumption) ?_ ?_
      rotate_left
      · intro w hSw; (try dsimp only at hSw); go_simp; (try with_reducible rfl)
      try simp only [Act.put, List.setIfInBounds_toArray, List.set_cons_zero, List.set_cons_succ]
      refine MyHeld.take 13 (v := ?_) (.s (.s (.s (.s (.s (.s (.s (.s (.s (.s (.s (.s (.s .z))))))))))))) (by kernel_rfl) (by kernel_rfl) (by kernel_rfl) (fun _ _ _ h => h) (by rfl) (by assumption) ?_ ?_
      rotate_left
      · intro w hSw; (try dsimp only at hSw); go_simp; (try with_reducible rfl)
      try simp only [Act.put, List.setIfInBounds_toArray, List.set_cons_zero, List.set_cons_succ]
      refine wpAnyH_done (by kernel_rfl) ?_ _
      all_goals
        obtain ⟨y0, y1, y2⟩ := three_old' K.1.2.2.2.1
        obtain ⟨x0, x1, x2⟩ := three_old' K.2
        have KB := Lib.hid K.1.1.2
        clear K
        rw [show R.s = 1 from HF.out.1] at y0
        rw [show R2.s = 1 from HF.out.2] at x0
        go_wp2_with fail
        go_ret
        exact ⟨rfl, KB.out⟩

set_option maxRecDepth 100000 in
set_option maxHeartbeats 4000000 in
theorem mirror_long (a : Option Addr) (n c : Nat) (s : RulesMath.Set) (z v z' v' t fl k : Int) (w : World) (hb : n ≤ 9223372036854775807) (hn : 20 < n) :
    Calls Try.prog 5 #[scnV a n c s z v z' v' t fl k] w (BPost true w) := by
  have hlong : decide (20 < n) = true := decide_eq_true hn
  unfold scnV
  go_enter Try.func5, Try.ntmps5
  go_wp2_with fail
  have hB := below_alloc w (.cells (scnC a n c s z v z' v' t fl k) 28)
  refine (long_call a n c s _ hb).mono ?_; rintro e w1 ⟨rfl, hb1⟩
  rw [hlong]
  have H1 := Lib.hid (hB.trans (hb1.mono hB.size))
  clear hB hb1
  go_wp2_with fail
  refine (awake_call _).mono ?_; rintro e w2 ⟨rfl, hb2⟩
  have H2 := Lib.hid (H1.out.trans (hb2.mono H1.out.size))
  clear hb2 H1
  go_wp2_with fail
  go_ret
  exact ⟨rfl, H2.out⟩

theorem rulesMirror_call (a : Option Addr) (n c : Nat) (s : RulesMath.Set) (z v z' v' t fl k : Int) (w : World) (h : Ints w a n s.rs) (hz : In64 z) (hv : In64 v) (hz' : In64 z') (hv' : In64 v') (hk : 0 ≤ k) :
    Calls Try.prog 5 #[scnV a n c s z v z' v' t fl k] w (BPost true w) := by
  by_cases hn : n ≤ 20
  · have hM : Mir s z v z' v' t k := mir_of hz hv hz' hv' hk
    by_cases hE : chE s z v z' v' t (-1000) k = 0
    · obtain ⟨hW, hc⟩ := hM.ok hE
      have q1 := sepR_last hW (g := 1) (Or.inl rfl)
      have q2 := sepR_last hW (g := 2) (Or.inr rfl)
      rcases hc with ⟨rfl, h1, h2⟩ | ⟨h1, h2⟩
      · exact mirror_even a n c s z v z' v' t fl w h hn hM hE h2 (by rw [q1, q2, h1]; simp)
      · by_cases h0 : k = 0
        · subst h0
          refine mirror_free a n c s z v z' v' t fl w h hn hM hE h2 ?_
          rw [q1, q2]
          exact beq_eq_false_iff_ne.2 fun e => h1 ⟨rfl, e⟩
        · exact mirror_lock a n c s z v z' v' t fl k w h hn hM hE h2 (beq_eq_false_iff_ne.2 h0)
    · exact mirror_err a n c s z v z' v' t fl k w h hn hM hE
  · exact mirror_long a n c s z v z' v' t fl k w h.bound (by omega)
end Go.Proofs.Ytfgalaalopkclaa
