/-
  For ranges over functions: what a round keeps is the blocks of a list. No program in sight.
-/
import Derived.RangeFuncNested
import Derived.RangeFuncBound
import Derived.RangeFuncCalls
import Derived.RangeFuncLeaves
import Derived.WalkKit
namespace Go.MyRange
open Go.RowKit

/-- The cells of the blocks of Bs read as they did. -/
def KeepB (Bs : List Nat) (W W' : World) : Prop := ∀ b, b ∈ Bs → ∀ o, W'.cell? ⟨b, o, none⟩ = W.cell? ⟨b, o, none⟩
theorem KeepB.refl (Bs : List Nat) (W : World) : KeepB Bs W W := fun _ _ _ => rfl
theorem KeepB.trans {Bs : List Nat} {A B C : World} (h : KeepB Bs A B) (k : KeepB Bs B C) : KeepB Bs A C := fun b hb o => (k b hb o).trans (h b hb o)
theorem KeepB.put {Bs : List Nat} {n₀ : Nat} (hB : ∀ b, b ∈ Bs → b < n₀) (W : World) (l : Nat) (o' : Obj) (hl : n₀ ≤ l) : KeepB Bs W (W.putObj l o') := fun b hb o => by
  have hne : b ≠ l := by have := hB b hb; omega
  have : (W.putObj l o').heap[b]? = W.heap[b]? := World.putObj_heap_other hne
  exact World.cell?_of_block (w := W) (a := ⟨b, o, none⟩) this
theorem keepB_b {Bs : List Nat} {w : World} (hB : ∀ b, b ∈ Bs → b < w.heap.size) (W : World) (l : Nat) (o o' : Obj) (hl : w.heap.size ≤ l) (_ : W.heap[l]? = some o) (_ : o.isCells = false) (_ : o.isWalk = false) : KeepB Bs W (W.putObj l o') := KeepB.put hB W l o' hl
theorem KeepB.setCell {Bs : List Nat} {W W' : World} (h : KeepB Bs W W') {p : Addr} (hp : p.block ∉ Bs) (v : Value) : KeepB Bs W (W'.setCell p v) := fun b hb o => by
  have hne : b ≠ p.block := fun e => hp (e ▸ hb)
  have : (W'.setCell p v).heap[b]? = W'.heap[b]? := Below.heap_setCell _ _ _ _ hne
  exact (World.cell?_of_block (w := W') (a := ⟨b, o, none⟩) this).trans (h b hb o)
theorem KeepB.drew {Bs : List Nat} {W W' : World} (h : KeepB Bs W W') : KeepB Bs W W'.drew := h
theorem KeepB.alloc {Bs : List Nat} {W W' : World} (h : KeepB Bs W W') (hB : ∀ b, b ∈ Bs → b < W'.heap.size) (o : Obj) : KeepB Bs W (W'.alloc o) := fun b hb i => by
  have : (W'.alloc o).heap[b]? = W'.heap[b]? := Below.heap_alloc _ _ _ (hB b hb)
  exact (World.cell?_of_block (w := W') (a := ⟨b, i, none⟩) this).trans (h b hb i)
theorem KeepB.below {Bs : List Nat} {n : Nat} {W W' W'' : World} (h : KeepB Bs W W') (hB : ∀ b, b ∈ Bs → b < n) (k : Below n W' W'') : KeepB Bs W W'' := fun b hb o => (k.cell (p := ⟨b, o, none⟩) (hB b hb)).trans (h b hb o)
theorem cell_alloc_l {w : World} {a : Addr} {v : Value} (o : Obj) (h : w.cell? a = some v) : (w.alloc o).cell? a = some v :=
  (World.cell?_of_block (w := w) (Below.heap_alloc w o a.block (World.block_lt_of_cell? w a h))).trans h
theorem frozen_alloc_l {w : World} {a : Addr} {v : Value} {f : Bool} (o : Obj) (h : w.cell? a = some v) (hf : w.frozen? a = f) : (w.alloc o).frozen? a = f :=
  (World.frozen?_of_block (w := w) (Below.heap_alloc w o a.block (World.block_lt_of_cell? w a h))).trans hf
theorem cell_setCell_other {w : World} {a p : Addr} {v u : Value} (h : w.cell? a = some v) (hne : a.block ≠ p.block) : (w.setCell p u).cell? a = some v :=
  (World.cell?_of_block (w := w) (Below.heap_setCell w p u a.block hne)).trans h
end Go.MyRange
