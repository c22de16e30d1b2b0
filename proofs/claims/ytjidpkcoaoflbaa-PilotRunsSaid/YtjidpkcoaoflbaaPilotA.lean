/-
  Layer 37 (pilot): advisories and their bounds, walked.
-/
import Derived.Test.YtjidpkcoaoflbaaProg
import Derived.Test.YtjidpkcoaoflbaaPilotMath
import Derived.Test.YtjidpkcoaoflbaaHeapLib
import Derived.Test.YtjidpkcoaoflbaaMapLib
import Derived.Laws.StructEq
import Derived.WalkKit
import Derived.WalkSpells
import Derived.WalkLawsBesides
import Derived.Handy
import Derived.Lib.Hide
import Derived.BigQuiet
import Derived.Deep.QuietTactic
import Derived.Outline
import Derived.Laws.EntriesVeiled
namespace Go.Proofs.Ytjidpkcoaoflbaa
open Go.RowKit PilotMath MyHeap MyMap

def advC (a : Adv) : Array Value := #[.int .u8 a.s, .int .i64 a.r, .bool a.k]
def advV (a : Adv) : Value := .agg #[.int .u8 a.s, .int .i64 a.r, .bool a.k]

theorem adv_neq (s r s' r' : Int) (k k' : Bool) (w : World) : (binOp .neq 36 (.agg #[.int .u8 s, .int .i64 r, .bool k]) (.agg #[.int .u8 s', .int .i64 r', .bool k'])).run Try.prog w = .ok (.bool (!advB ⟨s, r, k⟩ ⟨s', r', k'⟩)) w := by
  have u3 := Try.underlying3
  have a3 := Try.isAgg3
  have z3 := Try.sizeOf3
  have u5 := Try.underlying5
  have a5 := Try.isAgg5
  have z5 := Try.sizeOf5
  have u4 := Try.underlying4
  have a4 := Try.isAgg4
  have z4 := Try.sizeOf4
  have hS : Try.prog.underlying 36 = some (.struct (Try.prog.fieldsOf 36)) := by kernel_rfl
  have hp : Try.prog.stoodInHeld 36 = false := by kernel_rfl
  unfold advB
  rw [run_neq_struct, show (10000 : Nat) = 9999 + 1 from rfl, run_equalIn_agg w 9999 36 _ _ hS hp]
  simp only [Program.fieldsOf, Try.underlying36]
  go_simp
  by_cases h1 : s = s' <;> by_cases h2 : r = r' <;> by_cases h3 : k = k' <;> simp [h1, h2, h3]
theorem adv_eql (s r s' r' : Int) (k k' : Bool) (w : World) : (binOp .eql 36 (.agg #[.int .u8 s, .int .i64 r, .bool k]) (.agg #[.int .u8 s', .int .i64 r', .bool k'])).run Try.prog w = .ok (.bool (advB ⟨s, r, k⟩ ⟨s', r', k'⟩)) w := by
  have u3 := Try.underlying3
  have a3 := Try.isAgg3
  have z3 := Try.sizeOf3
  have u5 := Try.underlying5
  have a5 := Try.isAgg5
  have z5 := Try.sizeOf5
  have u4 := Try.underlying4
  have a4 := Try.isAgg4
  have z4 := Try.sizeOf4
  have hS : Try.prog.underlying 36 = some (.struct (Try.prog.fieldsOf 36)) := by kernel_rfl
  have hp : Try.prog.stoodInHeld 36 = false := by kernel_rfl
  unfold advB
  rw [run_eql_struct, show (10000 : Nat) = 9999 + 1 from rfl, run_equalIn_agg w 9999 36 _ _ hS hp]
  simp only [Program.fieldsOf, Try.underlying36]
  go_simp
  by_cases h1 : s = s' <;> by_cases h2 : r = r' <;> by_cases h3 : k = k' <;> simp [h1, h2, h3]
theorem adv_guard (op : BinOp) (x y : Operand) (xs ys : Array Value) (w : World) : (eqGuard op 36 x y (.agg xs) (.agg ys)).run Try.prog w = .ok () w := run_eqGuard_agg w op _ x y xs ys (by kernel_rfl)

theorem free_call (s r : Int) (k : Bool) (w : World) :
    Calls Try.prog 33 #[.agg #[.int .u8 s, .int .i64 r, .bool k]] w fun e w' => e = .returned (.tuple #[.int .i64 (-100), .int .i64 100]) ∧ Below w.heap.size w w' := by
  go_enter Try.func33, Try.ntmps33
  go_wp2
  go_ret2
  exact ⟨rfl, by go_grown⟩
theorem up_call (s r : Int) (k : Bool) (w : World) :
    Calls Try.prog 34 #[.agg #[.int .u8 s, .int .i64 r, .bool k]] w fun e w' => e = .returned (.tuple #[.int .i64 r, .int .i64 100]) ∧ Below w.heap.size w w' := by
  go_enter Try.func34, Try.ntmps34
  go_wp2
  go_ret2
  exact ⟨rfl, by go_grown⟩
theorem down_call (s r : Int) (k : Bool) (w : World) (h0 : -100 ≤ r) (h1 : r ≤ 100) :
    Calls Try.prog 35 #[.agg #[.int .u8 s, .int .i64 r, .bool k]] w fun e w' => e = .returned (.tuple #[.int .i64 (-100), .int .i64 (-r)]) ∧ Below w.heap.size w w' := by
  have hW : IntKind.i64.wrap (-r) = -r := IntWalk.i64_in _ (by omega)
  go_enter Try.func35, Try.ntmps35
  go_wp2_with fail
  go_quiet (fail)
  go_wp2
  go_ret2
  exact ⟨rfl, below_drewN ((Below.refl _ _).alloc (Nat.le_refl _) _) _⟩

def bdMap (n : Nat) : Array MapEntry := #[⟨.int .u8 0, .func (.func 33) #[] #[], 0⟩, ⟨.int .u8 1, .func (.func 34) #[] #[], 1⟩, ⟨.int .u8 2, .func (.func 35) #[] #[], 2⟩].extract 0 n
theorem ins1 (W : World) (r : Nat) (hr : r = W.heap.size) : (Instr.mapUpdate 69 (.map (some r)) (.int .u8 0) (.func (.func 33) #[] #[])).run Try.prog (W.alloc (.map #[] 0)) = .ok () (W.alloc (.map (bdMap 1) 1)) := ins_new Try.underlying69 Try.underlying5 W #[] 0 0 _ rfl r hr
theorem ins2 (W : World) (r : Nat) (hr : r = W.heap.size) : (Instr.mapUpdate 69 (.map (some r)) (.int .u8 1) (.func (.func 34) #[] #[])).run Try.prog (W.alloc (.map (bdMap 1) 1)) = .ok () (W.alloc (.map (bdMap 2) 2)) := ins_new Try.underlying69 Try.underlying5 W _ 1 1 _ rfl r hr
theorem ins3 (W : World) (r : Nat) (hr : r = W.heap.size) : (Instr.mapUpdate 69 (.map (some r)) (.int .u8 2) (.func (.func 35) #[] #[])).run Try.prog (W.alloc (.map (bdMap 2) 2)) = .ok () (W.alloc (.map (bdMap 3) 3)) := ins_new Try.underlying69 Try.underlying5 W _ 2 2 _ rfl r hr
def bdFn (s : Int) : FuncId := if s = 0 then 33 else if s = 1 then 34 else 35
theorem look3 (W : World) (r : Nat) (hr : r = W.heap.size) (s : Int) (h0 : 0 ≤ s) (h2 : s ≤ 2) : (Instr.lookup 69 (.map (some r)) (.int .u8 s) true).run Try.prog (W.alloc (.map (bdMap 3) 3)) = .ok (.tuple #[.func (.func (bdFn s)) #[] #[], .bool true]) (W.alloc (.map (bdMap 3) 3)) := by
  subst hr
  rcases (show s = 0 ∨ s = 1 ∨ s = 2 by omega) with rfl | rfl | rfl
  · exact look_some Try.underlying69 Try.underlying5 _ _ _ 3 0 0 _ (heap_alloc_new W _) rfl
  · exact look_some Try.underlying69 Try.underlying5 _ _ _ 3 1 1 _ (heap_alloc_new W _) rfl
  · exact look_some Try.underlying69 Try.underlying5 _ _ _ 3 2 2 _ (heap_alloc_new W _) rfl
set_option maxRecDepth 100000 in
theorem look4 (W : World) (r : Nat) (hr : r = W.heap.size) (s : Int) (h2 : 2 < s) : (Instr.lookup 69 (.map (some r)) (.int .u8 s) true).run Try.prog (W.alloc (.map (bdMap 3) 3)) = .ok (.tuple #[.nilFunc, .bool false]) (W.alloc (.map (bdMap 3) 3)) := by
  subst hr
  refine look_none Try.underlying69 Try.underlying5 _ _ _ 3 s _ (heap_alloc_new W _) ?_ (by rfl)
  have e0 : (s == 0) = false := by simp; omega
  have e1 : (s == 1) = false := by simp; omega
  have e2 : (s == 2) = false := by simp; omega
  simp [bdMap, Instr.findNow, Instr.sameNow, e0, e1, e2]
end Go.Proofs.Ytjidpkcoaoflbaa
