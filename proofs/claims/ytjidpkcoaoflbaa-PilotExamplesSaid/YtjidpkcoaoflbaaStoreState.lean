/-
  Layer 37 (pilot): a state stored whole into its block, as a rule of the walk.
-/
import Derived.Test.YtjidpkcoaoflbaaStoreLib
import Derived.Test.YtjidpkcoaoflbaaProg
namespace Go.Proofs.Ytjidpkcoaoflbaa
open Go.RowKit MyHeap

/-- A block of eight cells that may be written. -/
def RowAt (W : World) (b : Nat) : Prop := ∃ old t, W.heap[b]? = some (.cells old t (0, 0)) ∧ old.size = 8
theorem rowAt_of {W : World} {b : Nat} {c0 c1 c2 c3 c4 c5 c6 c7 : Value} {T : TypeId} (h : W.heap[b]? = some (.cells #[c0, c1, c2, c3, c4, c5, c6, c7] T (0, 0))) : RowAt W b := ⟨_, _, h, rfl⟩
theorem storeP {W : World} {b : Nat} {a : Option Addr} {n c : Nat} {ds dr fs fr cc : Int} {dk fk : Bool} (h : RowAt W b) :
    (Instr.storeAt 38 (.pointer (some ⟨b, 0, none⟩)) (.agg #[.slice a n c, .int .u8 ds, .int .i64 dr, .bool dk, .int .u8 fs, .int .i64 fr, .bool fk, .int .i64 cc])).run Try.prog W = .ok () (W.setRow b #[.slice a n c, .int .u8 ds, .int .i64 dr, .bool dk, .int .u8 fs, .int .i64 fr, .bool fk, .int .i64 cc]) := by
  obtain ⟨old, t, hb, hs⟩ := h
  simp only [Instr.storeAt, Instr.sureAddr, Sem.run_bind, Sem.run_pure, Result.andThen_ok]
  exact run_storeVar_row W b t 38 old _ hb (by kernel_rfl) hs (by simp [Value.oneCell'])
theorem storeR {W : World} {b : Nat} {a : Option Addr} {n c : Nat} {ds dr fs fr cc : Int} {dk fk : Bool} (h : RowAt W b) :
    (Instr.storeAt 48 (.pointer (some ⟨b, 0, none⟩)) (.agg #[.slice a n c, .int .u8 ds, .int .i64 dr, .bool dk, .int .u8 fs, .int .i64 fr, .bool fk, .int .i64 cc])).run Try.prog W = .ok () (W.setRow b #[.slice a n c, .int .u8 ds, .int .i64 dr, .bool dk, .int .u8 fs, .int .i64 fr, .bool fk, .int .i64 cc]) := by
  obtain ⟨old, t, hb, hs⟩ := h
  simp only [Instr.storeAt, Instr.sureAddr, Sem.run_bind, Sem.run_pure, Result.andThen_ok]
  exact run_storeVar_row W b t 48 old _ hb (by kernel_rfl) hs (by simp [Value.oneCell'])
/-- The block of a pointer to a block's head; the cells of a struct of eight cells. -/
def blk8 : Value → Nat
  | .pointer (some ⟨b, _, _⟩) => b
  | _ => 0
def ptr8 : Value → Bool
  | .pointer (some ⟨_, 0, none⟩) => true
  | _ => false
def agg8 : Value → Bool
  | .agg cs => cs.size == 8 && cs.all (·.oneCell')
  | _ => false
def cls8 : Value → Array Value
  | .agg cs => cs
  | _ => #[]
theorem blk8_mk (b o : Nat) : blk8 (.pointer (some ⟨b, o, none⟩)) = b := rfl
theorem ptr8_mk (b : Nat) : ptr8 (.pointer (some ⟨b, 0, none⟩)) = true := rfl
theorem cls8_mk (cs : Array Value) : cls8 (.agg cs) = cs := rfl
theorem agg8_mk (a : Option Addr) (n c : Nat) (ds dr fs fr cc : Int) (dk fk : Bool) : agg8 (.agg #[.slice a n c, .int .u8 ds, .int .i64 dr, .bool dk, .int .u8 fs, .int .i64 fr, .bool fk, .int .i64 cc]) = true := by simp [agg8, Value.oneCell']
theorem storeRun {T : TypeId} (hi : (Try.prog.info? T).map (·.size) = some 8) {W : World} {ρ : Operand → Value} {x y : Operand} {ty : TypeId} {pos : String} {after : Array Edge} (h1 : ptr8 (ρ x) = true) (h2 : agg8 (ρ y) = true) (h : RowAt W (blk8 (ρ x))) :
    (execOp ρ { dst := none, op := .store T x y, type := ty, pos := pos, after := after, guard := none }).run Try.prog W = .ok .skip (W.setRow (blk8 (ρ x)) (cls8 (ρ y))) := by
  simp only [execOp]
  generalize ρ x = p at *
  generalize ρ y = q at *
  unfold ptr8 at h1
  split at h1
  · unfold agg8 at h2
    split at h2
    · rename_i b _ cs
      rw [blk8_mk] at h ⊢
      rw [cls8_mk]
      obtain ⟨old, t, hb, hs⟩ := h
      simp at h2
      simp only [Instr.storeAt, Instr.sureAddr, Sem.run_bind, Sem.run_pure, Result.andThen_ok]
      rw [run_storeVar_row W b t T old cs hb (by rw [hi, h2.1]) (by omega) (by simpa using h2.2)]
      rfl
    · cases h2
  · cases h1
theorem storeRunP {W : World} {ρ : Operand → Value} {x y : Operand} {ty : TypeId} {pos : String} {after : Array Edge} (h1 : ptr8 (ρ x) = true) (h2 : agg8 (ρ y) = true) (h : RowAt W (blk8 (ρ x))) :
    (execOp ρ { dst := none, op := .store 38 x y, type := ty, pos := pos, after := after, guard := none }).run Try.prog W = .ok .skip (W.setRow (blk8 (ρ x)) (cls8 (ρ y))) := storeRun (by kernel_rfl) h1 h2 h
theorem storeRunR {W : World} {ρ : Operand → Value} {x y : Operand} {ty : TypeId} {pos : String} {after : Array Edge} (h1 : ptr8 (ρ x) = true) (h2 : agg8 (ρ y) = true) (h : RowAt W (blk8 (ρ x))) :
    (execOp ρ { dst := none, op := .store 48 x y, type := ty, pos := pos, after := after, guard := none }).run Try.prog W = .ok .skip (W.setRow (blk8 (ρ x)) (cls8 (ρ y))) := storeRun (by kernel_rfl) h1 h2 h
end Go.Proofs.Ytjidpkcoaoflbaa
