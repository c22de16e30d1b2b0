/-
  A map with integer keys that a call makes, entry by entry; a look into it. No program in sight.
-/
import Derived.WideMake
import Derived.WalkKit
namespace Go.MyMap
open Go.RowKit

variable {P : Program}
theorem heap_last (w : World) (o o' : Obj) : (w.alloc o).heap.setIfInBounds w.heap.size o' = (w.alloc o').heap := by
  show (w.heap.push o).setIfInBounds w.heap.size o' = w.heap.push o'
  apply Array.ext_getElem?
  intro i
  rw [Array.getElem?_setIfInBounds, Array.getElem?_push, Array.getElem?_push]
  by_cases h : w.heap.size = i
  · subst h; simp
  · rw [if_neg h, if_neg (fun e => h e.symm), if_neg (fun e => h e.symm)]
theorem ins_new {mty kt et : TypeId} {q : IntKind} (hm : P.underlying mty = some (.map kt et)) (hk : P.underlying kt = some (.int q)) (w : World) (es : Array MapEntry) (clock : Nat) (k : Int) (val : Value)
    (hf : Instr.findNow (.int q) (.int q k) es.toList 0 = some none) (r : Nat) (hr : r = w.heap.size) :
    (Instr.mapUpdate mty (.map (some r)) (.int q k) val).run P (w.alloc (.map es clock)) = .ok () (w.alloc (.map (es.push { key := .int q k, val := val, born := clock }) (clock + 1))) := by
  subst hr
  have hb : (w.alloc (.map es clock)).heap[w.heap.size]? = some (.map es clock) := heap_alloc_new w _
  have hc : (Instr.checkKey false 10000 kt (.int q k)).run P (w.alloc (.map es clock)) = .ok () (w.alloc (.map es clock)) := MapKept.run_checkKey (k := .int q k) hk (by simp [MapKept.IsKey]) false 9999
  simp [Instr.mapUpdate, run_underlying hm, MapKept.run_getObj_map hb, hc, MapKept.run_findKey hk hf, MapKept.run_setObj_map _ hb, Result.andThen]
  rw [heap_last]
  rfl

theorem look_some {mty kt et : TypeId} {q : IntKind} (hm : P.underlying mty = some (.map kt et)) (hk : P.underlying kt = some (.int q)) (w : World) (r : Nat) (es : Array MapEntry) (clock : Nat) (k : Int) (i : Nat) (v : Value)
    (hb : w.heap[r]? = some (.map es clock)) (hf : Instr.findNow (.int q) (.int q k) es.toList 0 = some (some (i, v))) :
    (Instr.lookup mty (.map (some r)) (.int q k) true).run P w = .ok (.tuple #[v, .bool true]) w := by
  have hc : (Instr.checkKey es.isEmpty 10000 kt (.int q k)).run P w = .ok () w := MapKept.run_checkKey (k := .int q k) hk (by simp [MapKept.IsKey]) _ 9999
  simp [Instr.lookup, run_underlying hm, MapKept.run_getObj_map hb, hc, MapKept.run_findKey hk hf, Result.andThen]
theorem look_none {mty kt et : TypeId} {q : IntKind} (hm : P.underlying mty = some (.map kt et)) (hk : P.underlying kt = some (.int q)) (w : World) (r : Nat) (es : Array MapEntry) (clock : Nat) (k : Int) (z : Value)
    (hb : w.heap[r]? = some (.map es clock)) (hf : Instr.findNow (.int q) (.int q k) es.toList 0 = some none) (hz : (zeroValue et).run P w = .ok z w) :
    (Instr.lookup mty (.map (some r)) (.int q k) true).run P w = .ok (.tuple #[z, .bool false]) w := by
  have hc : (Instr.checkKey es.isEmpty 10000 kt (.int q k)).run P w = .ok () w := MapKept.run_checkKey (k := .int q k) hk (by simp [MapKept.IsKey]) _ 9999
  simp [Instr.lookup, run_underlying hm, MapKept.run_getObj_map hb, hc, MapKept.run_findKey hk hf, Result.andThen, hz]
end Go.MyMap
