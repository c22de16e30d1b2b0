/-
  Layer 38 (rules): the tables of the law Examples. Printed by genRulesEx.py.
-/
import Derived.Test.YtfgalaalopkclaaRulesP
import Derived.Test.YtfgalaalopkclaaRulesNp
namespace Go.Proofs.Ytfgalaalopkclaa
open Go.RowKit PlaneMath PilotMath RulesMath MyHeap MyOwn MyCopy

def exT : List (NSt × Int × Int × NSt) := [(⟨⟨0, 0, false⟩, 0, false⟩, 5100, 0, ⟨⟨2, 25, false⟩, 0, false⟩), (⟨⟨2, 25, false⟩, 7, false⟩, 5100, 0, ⟨⟨2, 25, false⟩, 8, false⟩), (⟨⟨2, 42, false⟩, 3, false⟩, 5100, 0, ⟨⟨2, 42, false⟩, 4, false⟩), (⟨⟨2, 42, false⟩, 4, false⟩, 5100, 0, ⟨⟨2, 25, false⟩, 0, false⟩), (⟨⟨2, 42, false⟩, 1000, true⟩, 4900, 0, ⟨⟨2, 42, false⟩, 1000, true⟩), (⟨⟨2, 25, false⟩, 2, false⟩, 5100, 5001, ⟨⟨1, 42, false⟩, 0, true⟩), (⟨⟨1, 25, false⟩, 2, false⟩, 5100, 0, ⟨⟨1, 42, false⟩, 0, false⟩), (⟨⟨1, 25, false⟩, 2, false⟩, 5400, 0, ⟨⟨2, 0, false⟩, 0, true⟩), (⟨⟨1, 25, false⟩, 2, true⟩, 5400, 0, ⟨⟨1, 42, false⟩, 0, true⟩)]
def exR (k : Nat) : NSt × Int × Int × NSt := exT[k]?.getD (nst0, 0, 0, nst0)
/-- The advisory that is asked for, kept where its rate is 0. -/
def keepN (x : NSt) : NSt := ⟨⟨x.a.s, x.a.r, x.a.r == 0⟩, x.age, x.rv⟩
theorem exK0 : nxE exS 5000 0 5100 0 25 0 0 ⟨⟨0, 0, false⟩, 0, false⟩ = 0 ∧ nxR exS 5000 0 5100 0 25 0 0 ⟨⟨0, 0, false⟩, 0, false⟩ = keepN ⟨⟨2, 25, false⟩, 0, false⟩ := by
  refine ⟨?_, ?_⟩ <;> kernel_rfl
theorem exK1 : nxE exS 5000 0 5100 0 25 0 0 ⟨⟨2, 25, false⟩, 7, false⟩ = 0 ∧ nxR exS 5000 0 5100 0 25 0 0 ⟨⟨2, 25, false⟩, 7, false⟩ = keepN ⟨⟨2, 25, false⟩, 8, false⟩ := by
  refine ⟨?_, ?_⟩ <;> kernel_rfl
theorem exK2 : nxE exS 5000 0 5100 0 25 0 0 ⟨⟨2, 42, false⟩, 3, false⟩ = 0 ∧ nxR exS 5000 0 5100 0 25 0 0 ⟨⟨2, 42, false⟩, 3, false⟩ = keepN ⟨⟨2, 42, false⟩, 4, false⟩ := by
  refine ⟨?_, ?_⟩ <;> kernel_rfl
theorem exK3 : nxE exS 5000 0 5100 0 25 0 0 ⟨⟨2, 42, false⟩, 4, false⟩ = 0 ∧ nxR exS 5000 0 5100 0 25 0 0 ⟨⟨2, 42, false⟩, 4, false⟩ = keepN ⟨⟨2, 25, false⟩, 0, false⟩ := by
  refine ⟨?_, ?_⟩ <;> kernel_rfl
theorem exK4 : nxE exS 5000 0 4900 0 25 0 0 ⟨⟨2, 42, false⟩, 1000, true⟩ = 0 ∧ nxR exS 5000 0 4900 0 25 0 0 ⟨⟨2, 42, false⟩, 1000, true⟩ = keepN ⟨⟨2, 42, false⟩, 1000, true⟩ := by
  refine ⟨?_, ?_⟩ <;> kernel_rfl
theorem exK5 : nxE exS 5000 0 5100 0 25 5001 0 ⟨⟨2, 25, false⟩, 2, false⟩ = 0 ∧ nxR exS 5000 0 5100 0 25 5001 0 ⟨⟨2, 25, false⟩, 2, false⟩ = keepN ⟨⟨1, 42, false⟩, 0, true⟩ := by
  refine ⟨?_, ?_⟩ <;> kernel_rfl
theorem exK6 : nxE exS 5000 0 5100 0 25 0 0 ⟨⟨1, 25, false⟩, 2, false⟩ = 0 ∧ nxR exS 5000 0 5100 0 25 0 0 ⟨⟨1, 25, false⟩, 2, false⟩ = keepN ⟨⟨1, 42, false⟩, 0, false⟩ := by
  refine ⟨?_, ?_⟩ <;> kernel_rfl
theorem exK7 : nxE exS 5000 0 5400 0 25 0 0 ⟨⟨1, 25, false⟩, 2, false⟩ = 0 ∧ nxR exS 5000 0 5400 0 25 0 0 ⟨⟨1, 25, false⟩, 2, false⟩ = keepN ⟨⟨2, 0, false⟩, 0, true⟩ := by
  refine ⟨?_, ?_⟩ <;> kernel_rfl
theorem exK8 : nxE exS 5000 0 5400 0 25 0 0 ⟨⟨1, 25, false⟩, 2, true⟩ = 0 ∧ nxR exS 5000 0 5400 0 25 0 0 ⟨⟨1, 25, false⟩, 2, true⟩ = keepN ⟨⟨1, 42, false⟩, 0, true⟩ := by
  refine ⟨?_, ?_⟩ <;> kernel_rfl
theorem exR_ok (k : Nat) (hk : k < 9) : nxE exS 5000 0 (exR k).2.1 0 25 (exR k).2.2.1 0 (exR k).1 = 0 ∧ nxR exS 5000 0 (exR k).2.1 0 25 (exR k).2.2.1 0 (exR k).1 = keepN (exR k).2.2.2 ∧ 0 ≤ (exR k).1.a.s := by
  rcases (show k = 0 ∨ k = 1 ∨ k = 2 ∨ k = 3 ∨ k = 4 ∨ k = 5 ∨ k = 6 ∨ k = 7 ∨ k = 8 by omega) with rfl | rfl | rfl | rfl | rfl | rfl | rfl | rfl | rfl
  · exact ⟨exK0.1, exK0.2, by decide⟩
  · exact ⟨exK1.1, exK1.2, by decide⟩
  · exact ⟨exK2.1, exK2.2, by decide⟩
  · exact ⟨exK3.1, exK3.2, by decide⟩
  · exact ⟨exK4.1, exK4.2, by decide⟩
  · exact ⟨exK5.1, exK5.2, by decide⟩
  · exact ⟨exK6.1, exK6.2, by decide⟩
  · exact ⟨exK7.1, exK7.2, by decide⟩
  · exact ⟨exK8.1, exK8.2, by decide⟩
def exCells : Array Value := #[.int .u8 0, .int .i64 0, .bool false, .int .i64 0, .bool false, .int .i64 5000, .int .i64 0, .int .i64 5100, .int .i64 0, .int .i64 0, .int .u8 0, .int .u8 2, .int .i64 25, .bool false, .int .i64 0, .bool false, .int .u8 2, .int .i64 25, .bool false, .int .i64 7, .bool false, .int .i64 5000, .int .i64 0, .int .i64 5100, .int .i64 0, .int .i64 0, .int .u8 0, .int .u8 2, .int .i64 25, .bool false, .int .i64 8, .bool false, .int .u8 2, .int .i64 42, .bool false, .int .i64 3, .bool false, .int .i64 5000, .int .i64 0, .int .i64 5100, .int .i64 0, .int .i64 0, .int .u8 0, .int .u8 2, .int .i64 42, .bool false, .int .i64 4, .bool false, .int .u8 2, .int .i64 42, .bool false, .int .i64 4, .bool false, .int .i64 5000, .int .i64 0, .int .i64 5100, .int .i64 0, .int .i64 0, .int .u8 0, .int .u8 2, .int .i64 25, .bool false, .int .i64 0, .bool false, .int .u8 2, .int .i64 42, .bool false, .int .i64 1000, .bool true, .int .i64 5000, .int .i64 0, .int .i64 4900, .int .i64 0, .int .i64 0, .int .u8 0, .int .u8 2, .int .i64 42, .bool false, .int .i64 1000, .bool true, .int .u8 2, .int .i64 25, .bool false, .int .i64 2, .bool false, .int .i64 5000, .int .i64 0, .int .i64 5100, .int .i64 0, .int .i64 5001, .int .u8 0, .int .u8 1, .int .i64 42, .bool false, .int .i64 0, .bool true, .int .u8 1, .int .i64 25, .bool false, .int .i64 2, .bool false, .int .i64 5000, .int .i64 0, .int .i64 5100, .int .i64 0, .int .i64 0, .int .u8 0, .int .u8 1, .int .i64 42, .bool false, .int .i64 0, .bool false, .int .u8 1, .int .i64 25, .bool false, .int .i64 2, .bool false, .int .i64 5000, .int .i64 0, .int .i64 5400, .int .i64 0, .int .i64 0, .int .u8 0, .int .u8 2, .int .i64 0, .bool false, .int .i64 0, .bool true, .int .u8 1, .int .i64 25, .bool false, .int .i64 2, .bool true, .int .i64 5000, .int .i64 0, .int .i64 5400, .int .i64 0, .int .i64 0, .int .u8 0, .int .u8 1, .int .i64 42, .bool false, .int .i64 0, .bool true]
set_option maxRecDepth 100000 in
theorem exCells_get (k : Nat) (hk : k < 9) : exCells[k * 16]? = some (.int .u8 (exR k).1.a.s) ∧ exCells[k * 16 + 1]? = some (.int .i64 (exR k).1.a.r) ∧ exCells[k * 16 + 2]? = some (.bool (exR k).1.a.k) ∧ exCells[k * 16 + 3]? = some (.int .i64 (exR k).1.age) ∧ exCells[k * 16 + 4]? = some (.bool (exR k).1.rv) ∧ exCells[k * 16 + 5]? = some (.int .i64 5000) ∧ exCells[k * 16 + 6]? = some (.int .i64 0) ∧ exCells[k * 16 + 7]? = some (.int .i64 (exR k).2.1) ∧ exCells[k * 16 + 8]? = some (.int .i64 0) ∧ exCells[k * 16 + 9]? = some (.int .i64 (exR k).2.2.1) ∧ exCells[k * 16 + 10]? = some (.int .u8 0) ∧ exCells[k * 16 + 11]? = some (.int .u8 (exR k).2.2.2.a.s) ∧ exCells[k * 16 + 12]? = some (.int .i64 (exR k).2.2.2.a.r) ∧ exCells[k * 16 + 13]? = some (.bool false) ∧ exCells[k * 16 + 14]? = some (.int .i64 (exR k).2.2.2.age) ∧ exCells[k * 16 + 15]? = some (.bool (exR k).2.2.2.rv) := by
  rcases (show k = 0 ∨ k = 1 ∨ k = 2 ∨ k = 3 ∨ k = 4 ∨ k = 5 ∨ k = 6 ∨ k = 7 ∨ k = 8 by omega) with rfl | rfl | rfl | rfl | rfl | rfl | rfl | rfl | rfl <;> exact ⟨rfl, rfl, rfl, rfl, rfl, rfl, rfl, rfl, rfl, rfl, rfl, rfl, rfl, rfl, rfl, rfl⟩
theorem bad0 : setE ⟨[], 0, 0, 0⟩ = 1 ∧ chE ⟨[], 0, 0, 0⟩ 60000 0 0 0 (-1) 0 3 = 1 ∧ sepE ⟨[], 0, 0, 0⟩ 60000 0 0 0 adv0 (-1) = 1 := by
  refine ⟨?_, ?_, ?_⟩ <;> kernel_rfl
theorem bad1 : setE ⟨[1], 0, 0, 1⟩ = 1 ∧ chE ⟨[1], 0, 0, 1⟩ 60000 0 0 0 (-1) 0 3 = 1 ∧ sepE ⟨[1], 0, 0, 1⟩ 60000 0 0 0 adv0 (-1) = 1 := by
  refine ⟨?_, ?_, ?_⟩ <;> kernel_rfl
theorem bad2 : setE ⟨[1], 5001, 0, 1⟩ = 1 ∧ chE ⟨[1], 5001, 0, 1⟩ 60000 0 0 0 (-1) 0 3 = 1 ∧ sepE ⟨[1], 5001, 0, 1⟩ 60000 0 0 0 adv0 (-1) = 1 := by
  refine ⟨?_, ?_, ?_⟩ <;> kernel_rfl
theorem bad3 : setE ⟨[1], 1, 0, 0⟩ = 1 ∧ chE ⟨[1], 1, 0, 0⟩ 60000 0 0 0 (-1) 0 3 = 1 ∧ sepE ⟨[1], 1, 0, 0⟩ 60000 0 0 0 adv0 (-1) = 1 := by
  refine ⟨?_, ?_, ?_⟩ <;> kernel_rfl
theorem bad4 : setE ⟨[1], 1, 0, 33⟩ = 1 ∧ chE ⟨[1], 1, 0, 33⟩ 60000 0 0 0 (-1) 0 3 = 1 ∧ sepE ⟨[1], 1, 0, 33⟩ 60000 0 0 0 adv0 (-1) = 1 := by
  refine ⟨?_, ?_, ?_⟩ <;> kernel_rfl
theorem bad5 : setE ⟨[1], 1, 17, 1⟩ = 1 ∧ chE ⟨[1], 1, 17, 1⟩ 60000 0 0 0 (-1) 0 3 = 1 ∧ sepE ⟨[1], 1, 17, 1⟩ 60000 0 0 0 adv0 (-1) = 1 := by
  refine ⟨?_, ?_, ?_⟩ <;> kernel_rfl
theorem bad6 : setE ⟨[2, 2], 1, 0, 1⟩ = 1 ∧ chE ⟨[2, 2], 1, 0, 1⟩ 60000 0 0 0 (-1) 0 3 = 1 ∧ sepE ⟨[2, 2], 1, 0, 1⟩ 60000 0 0 0 adv0 (-1) = 1 := by
  refine ⟨?_, ?_, ?_⟩ <;> kernel_rfl
theorem bad7 : setE ⟨[0], 1, 0, 1⟩ = 1 ∧ chE ⟨[0], 1, 0, 1⟩ 60000 0 0 0 (-1) 0 3 = 1 ∧ sepE ⟨[0], 1, 0, 1⟩ 60000 0 0 0 adv0 (-1) = 1 := by
  refine ⟨?_, ?_, ?_⟩ <;> kernel_rfl
theorem bad8 : setE ⟨[101], 1, 0, 1⟩ = 1 ∧ chE ⟨[101], 1, 0, 1⟩ 60000 0 0 0 (-1) 0 3 = 1 ∧ sepE ⟨[101], 1, 0, 1⟩ 60000 0 0 0 adv0 (-1) = 1 := by
  refine ⟨?_, ?_, ?_⟩ <;> kernel_rfl
theorem bad9 : setE ⟨[1, 2, 3, 4, 5, 6, 7, 8, 9], 1, 0, 1⟩ = 1 ∧ chE ⟨[1, 2, 3, 4, 5, 6, 7, 8, 9], 1, 0, 1⟩ 60000 0 0 0 (-1) 0 3 = 1 ∧ sepE ⟨[1, 2, 3, 4, 5, 6, 7, 8, 9], 1, 0, 1⟩ 60000 0 0 0 adv0 (-1) = 1 := by
  refine ⟨?_, ?_, ?_⟩ <;> kernel_rfl
theorem exF : chE exS 0 101 5000 0 1 0 3 = 1 ∧
    chE exS 5000 0 0 101 1 0 3 = 1 ∧
    chE exS 5000 0 5100 0 121 0 3 = 1 ∧
    chE exS 5000 0 5100 0 1 0 3 = 6 ∧
    chE exS 5000 0 5100 0 1 5001 1 = 9 ∧
    sepE exS 5000 0 5100 0 ⟨4, 0, false⟩ 121 = 6 ∧
    sepE exS 5000 0 5100 0 adv0 121 = 6 ∧
    sepE exS 5000 0 5100 0 ⟨1, 0, false⟩ 121 = 1 ∧
    nxE exS 5000 0 5100 0 25 0 3 ⟨⟨0, 3, false⟩, -1, false⟩ = 6 ∧
    nxE exS 5000 0 5100 0 25 9000 1 ⟨⟨0, 3, false⟩, -1, false⟩ = 1 ∧
    nxE exS 5000 0 5100 0 25 9000 1 ⟨adv0, 1001, false⟩ = 1 ∧
    nxE exS 5000 0 5100 0 25 9000 1 ⟨adv0, 0, false⟩ = 9 := by
  refine ⟨?_, ?_, ?_, ?_, ?_, ?_, ?_, ?_, ?_, ?_, ?_, ?_⟩ <;> kernel_rfl
set_option maxRecDepth 100000 in
theorem nst_neq (s r g : Int) (k v : Bool) (w : World) : (binOp .neq 57 (.agg #[.int .u8 s, .int .i64 r, .bool k, .int .i64 g, .bool v]) (.agg #[.int .u8 s, .int .i64 r, .bool k, .int .i64 g, .bool v])).run Try.prog w = .ok (.bool false) w := by
  have u3 := Try.underlying3
  have a3 := Try.isAgg3
  have z3 := Try.sizeOf3
  have u5 := Try.underlying5
  have a5 := Try.isAgg5
  have z5 := Try.sizeOf5
  have u4 := Try.underlying4
  have a4 := Try.isAgg4
  have z4 := Try.sizeOf4
  have hS : Try.prog.underlying 57 = some (.struct (Try.prog.fieldsOf 57)) := by kernel_rfl
  have hp : Try.prog.stoodInHeld 57 = false := by kernel_rfl
  have hS2 : Try.prog.underlying 30 = some (.struct (Try.prog.fieldsOf 30)) := by kernel_rfl
  have hp2 : Try.prog.stoodInHeld 30 = false := by kernel_rfl
  have za := Try.sizeOf30
  have aa := Try.isAgg30
  have hN : (Op.equalIn 9999 30 (.agg #[.int .u8 s, .int .i64 r, .bool k]) (.agg #[.int .u8 s, .int .i64 r, .bool k])).run Try.prog w = .ok true w := by
    rw [show (9999 : Nat) = 9998 + 1 from rfl, run_equalIn_agg w 9998 30 _ _ hS2 hp2]
    simp only [Program.fieldsOf, Try.underlying30]
    simp [go_sem, *]
  rw [run_neq_struct, show (10000 : Nat) = 9999 + 1 from rfl, run_equalIn_agg w 9999 57 _ _ hS hp]
  simp only [Program.fieldsOf, Try.underlying57]
  clear hS2 hp2 hS hp
  simp [go_sem, *]
theorem nst_guard (op : BinOp) (x y : Operand) (xs ys : Array Value) (w : World) : (eqGuard op 57 x y (.agg xs) (.agg ys)).run Try.prog w = .ok () w := run_eqGuard_agg w op _ x y xs ys (by kernel_rfl)
theorem nxLit {s : RulesMath.Set} {z v z' v' t fl k : Int} {st : NSt} {w w' : World} {e : Ending} {E : Int} {R : NSt} (h : NxPost s z v z' v' t fl k st w e w') (hE : nxE s z v z' v' t fl k st = E) (hR : nxR s z v z' v' t fl k st = R) : e = .returned (.tuple #[.agg #[.int .u8 R.a.s, .int .i64 R.a.r, .bool R.a.k, .int .i64 R.age, .bool R.rv], .int .i64 E]) ∧ Below w.heap.size w w' := by
  obtain ⟨rfl, hb⟩ := h
  rw [hE, hR]
  exact ⟨rfl, hb⟩
theorem chLit {s : RulesMath.Set} {z v z' v' t fl k : Int} {w w' : World} {e : Ending} {E : Int} (h : ChPost s z v z' v' t fl k w e w') (hE : chE s z v z' v' t fl k = E) : ∃ R : Adv, e = .returned (.tuple #[.agg #[.int .u8 R.s, .int .i64 R.r, .bool R.k], .int .i64 E]) ∧ Below w.heap.size w w' := by
  obtain ⟨rfl, hb⟩ := h
  exact ⟨chR s z v z' v' t fl k, by rw [hE], hb⟩
theorem srLit {s : RulesMath.Set} {z v z' v' t : Int} {x : Adv} {w w' : World} {e : Ending} {E : Int} (h : SrPost s z v z' v' x t w e w') (hE : sepE s z v z' v' x t = E) : ∃ R : Int, e = .returned (.tuple #[.int .i64 R, .int .i64 E]) ∧ Below w.heap.size w w' := by
  obtain ⟨rfl, hb⟩ := h
  exact ⟨sepR s z v z' v' x t, by rw [hE], hb⟩
theorem exLit (w : World) : Calls Try.prog 29 #[] w fun e w' => ∃ b, e = .returned (.agg #[.slice (some ⟨b, 0, none⟩) 2 2, .int .i64 400, .int .i64 5, .int .i64 8]) ∧ Ints w' (some ⟨b, 0, none⟩) 2 exS.rs ∧ Below w.heap.size w w' := example_call w
/-- The setting lies in memory. -/
structure Ek (w : World) (pE bE : Nat) (W : World) : Prop where
  B : Below w.heap.size w W
  E : W.heap[pE]? = some (.cells #[.slice (some ⟨bE, 0, none⟩) 2 2, .int .i64 400, .int .i64 5, .int .i64 8] 24 (0, 0))
  I : Ints W (some ⟨bE, 0, none⟩) 2 exS.rs
theorem Ek.keep {w : World} {pE bE : Nat} {W W' : World} (h : Ek w pE bE W) (hb : Below W.heap.size W W') : Ek w pE bE W' := ⟨h.B.trans (hb.mono h.B.size), keepO hb h.E, h.I.below hb⟩
/-- The table of bad settings. -/
structure Eb (w : World) (pE bE b : Nat) (W : World) : Prop where
  K : Ek w pE bE W
  e : ∀ k, k < 10 → ∃ a n c s, W.cell? ⟨b, k * 4, none⟩ = some (.slice a n c) ∧ W.cell? ⟨b, k * 4 + 1, none⟩ = some (.int .i64 s.alim) ∧ W.cell? ⟨b, k * 4 + 2, none⟩ = some (.int .i64 s.d) ∧ W.cell? ⟨b, k * 4 + 3, none⟩ = some (.int .i64 s.pl) ∧ Ints W a n s.rs ∧ setE s = 1 ∧ chE s 60000 0 0 0 (-1) 0 3 = 1 ∧ sepE s 60000 0 0 0 adv0 (-1) = 1
theorem Eb.keep {w : World} {pE bE b : Nat} {W W' : World} (h : Eb w pE bE b W) (hb : Below W.heap.size W W') : Eb w pE bE b W' := ⟨h.K.keep hb, fun k hk => by
  obtain ⟨a, n, c, s, h1, h2, h3, h4, h5, h6⟩ := h.e k hk
  exact ⟨a, n, c, s, keep1 hb h1, keep1 hb h2, keep1 hb h3, keep1 hb h4, h5.below hb, h6⟩⟩
theorem ints_blk {w : World} {b : Nat} {cs : Array Value} {T : TypeId} {fr : Nat × Nat} {l : List Int} {n : Nat} (h : w.heap[b]? = some (.cells cs T fr)) (hcs : cs.toList = l.map (fun x => .int .i64 x)) (hn : l.length = n) (hm : n ≤ 1000000) : Ints w (some ⟨b, 0, none⟩) n l := by
  subst hn
  refine ⟨rfl, by omega, Or.inr ⟨b, 0, rfl, fun i hi => ?_⟩⟩
  rw [Nat.zero_add]
  refine cell_of_block h ?_
  rw [← Array.getElem?_toList, hcs, List.getElem?_map, List.getElem?_eq_getElem hi]
  simp [gr, hi]
theorem eb_made {w W : World} {pE bE b b1 b2 b3 b4 b5 b6 b7 b8 b9 : Nat} {T : TypeId} (h : Ek w pE bE W) (h1 : W.heap[b1]? = some (.cells #[.int .i64 1] 3 (0, 0))) (h2 : W.heap[b2]? = some (.cells #[.int .i64 1] 3 (0, 0))) (h3 : W.heap[b3]? = some (.cells #[.int .i64 1] 3 (0, 0))) (h4 : W.heap[b4]? = some (.cells #[.int .i64 1] 3 (0, 0))) (h5 : W.heap[b5]? = some (.cells #[.int .i64 1] 3 (0, 0))) (h6 : W.heap[b6]? = some (.cells #[.int .i64 2, .int .i64 2] 3 (0, 0))) (h7 : W.heap[b7]? = some (.cells #[.int .i64 0] 3 (0, 0))) (h8 : W.heap[b8]? = some (.cells #[.int .i64 101] 3 (0, 0))) (h9 : W.heap[b9]? = some (.cells #[.int .i64 1, .int .i64 2, .int .i64 3, .int .i64 4, .int .i64 5, .int .i64 6, .int .i64 7, .int .i64 8, .int .i64 9] 3 (0, 0)))
    (hb : W.heap[b]? = some (.cells #[.slice none 0 0, .int .i64 0, .int .i64 0, .int .i64 0, .slice (some ⟨b1, 0, none⟩) 1 1, .int .i64 0, .int .i64 0, .int .i64 1, .slice (some ⟨b2, 0, none⟩) 1 1, .int .i64 5001, .int .i64 0, .int .i64 1, .slice (some ⟨b3, 0, none⟩) 1 1, .int .i64 1, .int .i64 0, .int .i64 0, .slice (some ⟨b4, 0, none⟩) 1 1, .int .i64 1, .int .i64 0, .int .i64 33, .slice (some ⟨b5, 0, none⟩) 1 1, .int .i64 1, .int .i64 17, .int .i64 1, .slice (some ⟨b6, 0, none⟩) 2 2, .int .i64 1, .int .i64 0, .int .i64 1, .slice (some ⟨b7, 0, none⟩) 1 1, .int .i64 1, .int .i64 0, .int .i64 1, .slice (some ⟨b8, 0, none⟩) 1 1, .int .i64 1, .int .i64 0, .int .i64 1, .slice (some ⟨b9, 0, none⟩) 9 9, .int .i64 1, .int .i64 0, .int .i64 1] T (0, 0))) : Eb w pE bE b W := by
  refine ⟨h, fun k hk => ?_⟩
  rcases (show k = 0 ∨ k = 1 ∨ k = 2 ∨ k = 3 ∨ k = 4 ∨ k = 5 ∨ k = 6 ∨ k = 7 ∨ k = 8 ∨ k = 9 by omega) with rfl | rfl | rfl | rfl | rfl | rfl | rfl | rfl | rfl | rfl
  · exact ⟨_, _, _, ⟨[], 0, 0, 0⟩, cell_of_block hb rfl, cell_of_block hb rfl, cell_of_block hb rfl, cell_of_block hb rfl, ⟨rfl, by decide, Or.inl rfl⟩, bad0⟩
  · exact ⟨_, _, _, ⟨[1], 0, 0, 1⟩, cell_of_block hb rfl, cell_of_block hb rfl, cell_of_block hb rfl, cell_of_block hb rfl, ints_blk h1 rfl rfl (by decide), bad1⟩
  · exact ⟨_, _, _, ⟨[1], 5001, 0, 1⟩, cell_of_block hb rfl, cell_of_block hb rfl, cell_of_block hb rfl, cell_of_block hb rfl, ints_blk h2 rfl rfl (by decide), bad2⟩
  · exact ⟨_, _, _, ⟨[1], 1, 0, 0⟩, cell_of_block hb rfl, cell_of_block hb rfl, cell_of_block hb rfl, cell_of_block hb rfl, ints_blk h3 rfl rfl (by decide), bad3⟩
  · exact ⟨_, _, _, ⟨[1], 1, 0, 33⟩, cell_of_block hb rfl, cell_of_block hb rfl, cell_of_block hb rfl, cell_of_block hb rfl, ints_blk h4 rfl rfl (by decide), bad4⟩
  · exact ⟨_, _, _, ⟨[1], 1, 17, 1⟩, cell_of_block hb rfl, cell_of_block hb rfl, cell_of_block hb rfl, cell_of_block hb rfl, ints_blk h5 rfl rfl (by decide), bad5⟩
  · exact ⟨_, _, _, ⟨[2, 2], 1, 0, 1⟩, cell_of_block hb rfl, cell_of_block hb rfl, cell_of_block hb rfl, cell_of_block hb rfl, ints_blk h6 rfl rfl (by decide), bad6⟩
  · exact ⟨_, _, _, ⟨[0], 1, 0, 1⟩, cell_of_block hb rfl, cell_of_block hb rfl, cell_of_block hb rfl, cell_of_block hb rfl, ints_blk h7 rfl rfl (by decide), bad7⟩
  · exact ⟨_, _, _, ⟨[101], 1, 0, 1⟩, cell_of_block hb rfl, cell_of_block hb rfl, cell_of_block hb rfl, cell_of_block hb rfl, ints_blk h8 rfl rfl (by decide), bad8⟩
  · exact ⟨_, _, _, ⟨[1, 2, 3, 4, 5, 6, 7, 8, 9], 1, 0, 1⟩, cell_of_block hb rfl, cell_of_block hb rfl, cell_of_block hb rfl, cell_of_block hb rfl, ints_blk h9 rfl rfl (by decide), bad9⟩
theorem allocs10 (w : World) (o1 o2 o3 o4 o5 o6 o7 o8 o9 o10 : Obj) : Below w.heap.size w ((((((((((w.alloc o1).alloc o2).alloc o3).alloc o4).alloc o5).alloc o6).alloc o7).alloc o8).alloc o9).alloc o10) := by
  have h1 := below_alloc w o1
  have h2 := h1.alloc h1.size o2
  have h3 := h2.alloc h2.size o3
  have h4 := h3.alloc h3.size o4
  have h5 := h4.alloc h4.size o5
  have h6 := h5.alloc h5.size o6
  have h7 := h6.alloc h6.size o7
  have h8 := h7.alloc h7.size o8
  have h9 := h8.alloc h8.size o9
  have h10 := h9.alloc h9.size o10
  exact h10
/-- Three planes and the setting lie in memory. -/
structure Yk (w : World) (pE bE p8 p9 p10 : Nat) (W : World) : Prop where
  K : Ek w pE bE W
  a : W.heap[p8]? = some (.cells #[.int .i64 5000, .int .i64 0] 26 (0, 0))
  b : W.heap[p9]? = some (.cells #[.int .i64 5100, .int .i64 0] 26 (0, 0))
  c : W.heap[p10]? = some (.cells #[.int .i64 0, .int .i64 101] 26 (0, 0))
theorem Yk.keep {w : World} {pE bE p8 p9 p10 : Nat} {W W' : World} (h : Yk w pE bE p8 p9 p10 W) (hb : Below W.heap.size W W') : Yk w pE bE p8 p9 p10 W' := ⟨h.K.keep hb, keepO hb h.a, keepO hb h.b, keepO hb h.c⟩
theorem Yk.facts {w : World} {pE bE p8 p9 p10 : Nat} {W : World} (h : Yk w pE bE p8 p9 p10 W) : (W.cell? ⟨pE, 0, none⟩ = some (.slice (some ⟨bE, 0, none⟩) 2 2) ∧ W.cell? ⟨pE, 1, none⟩ = some (.int .i64 400) ∧ W.cell? ⟨pE, 2, none⟩ = some (.int .i64 5) ∧ W.cell? ⟨pE, 3, none⟩ = some (.int .i64 8)) ∧
    (W.cell? ⟨p8, 0, none⟩ = some (.int .i64 5000) ∧ W.cell? ⟨p8, 1, none⟩ = some (.int .i64 0)) ∧ (W.cell? ⟨p9, 0, none⟩ = some (.int .i64 5100) ∧ W.cell? ⟨p9, 1, none⟩ = some (.int .i64 0)) ∧ (W.cell? ⟨p10, 0, none⟩ = some (.int .i64 0) ∧ W.cell? ⟨p10, 1, none⟩ = some (.int .i64 101)) ∧ pE < W.heap.size ∧ p8 < W.heap.size ∧ p9 < W.heap.size ∧ p10 < W.heap.size :=
  ⟨⟨cell_of_block h.K.E rfl, cell_of_block h.K.E rfl, cell_of_block h.K.E rfl, cell_of_block h.K.E rfl⟩, ⟨cell_of_block h.a rfl, cell_of_block h.a rfl⟩, ⟨cell_of_block h.b rfl, cell_of_block h.b rfl⟩, ⟨cell_of_block h.c rfl, cell_of_block h.c rfl⟩, lt_of_block h.K.E, lt_of_block h.a, lt_of_block h.b, lt_of_block h.c⟩
/-- The table of Next. -/
structure Tk (w : World) (pE bE b : Nat) (W : World) : Prop where
  K : Ek w pE bE W
  t : W.heap[b]? = some (.cells exCells 72 (0, 0))
theorem Tk.keep {w : World} {pE bE b : Nat} {W W' : World} (h : Tk w pE bE b W) (hb : Below W.heap.size W W') : Tk w pE bE b W' := ⟨h.K.keep hb, keepO hb h.t⟩
set_option maxRecDepth 100000 in
theorem upx_call (r : Int) (w : World) : Calls Try.prog 31 #[.int .i64 r] w fun e w' => e = .returned (.agg #[.int .u8 1, .int .i64 r, .bool false]) ∧ Below w.heap.size w w' := by
  go_enter Try.func31, Try.ntmps31
  go_wp2_with fail
  refine bodyPost_ret (v := .agg #[.int .u8 1, .int .i64 r, .bool false]) ?_ rfl ⟨rfl, below_alloc _ _⟩
  simp [results, Try.f31, go_sem]
set_option maxRecDepth 100000 in
theorem downx_call (r : Int) (w : World) : Calls Try.prog 32 #[.int .i64 r] w fun e w' => e = .returned (.agg #[.int .u8 2, .int .i64 r, .bool false]) ∧ Below w.heap.size w w' := by
  go_enter Try.func32, Try.ntmps32
  go_wp2_with fail
  refine bodyPost_ret (v := .agg #[.int .u8 2, .int .i64 r, .bool false]) ?_ rfl ⟨rfl, below_alloc _ _⟩
  simp [results, Try.f32, go_sem]
end Go.Proofs.Ytfgalaalopkclaa
