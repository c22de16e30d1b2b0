/-
  Altitude in seat 36: of Measure's plain part (printed by genBand.py)
-/
import Derived.Test.YthaokofhepngbaaBdD
import Derived.Test.YthaokofhepngbaaHeldBy
namespace Go.Proofs.Ythaokofhepngbaa.Alt
open Go.RowKit AltMath MyHeap MyCopy MyOwn

theorem bo_err {E E' : Int} {lo hi : List Int} {w w' : World} (hE : E' = E) (h0 : E ≠ 0) (hB : Below w.heap.size w w') : BOPost E' lo hi w (.returned (.tuple #[.agg #[.slice none 0 0, .slice none 0 0], .int .i64 E])) w' := by
  subst hE
  exact ⟨_, _, rfl, fun e => absurd e h0, fun _ => ⟨rfl, rfl⟩, hB⟩
theorem maE_ch {lo hi : List Int} {alt size : Int} (h : chB lo hi ≠ 0) : maE lo hi alt size = chB lo hi := if_pos h
theorem maE_me {lo hi : List Int} {alt size : Int} (h : chB lo hi = 0) : maE lo hi alt size = meE alt size := if_neg (fun e => e h)

/-- Between two rounds: the band as it came in lies in block w0.heap.size. -/
def RmK (w0 : World) (O : Nat) (aL : Option Addr) (cL : Nat) (aH : Option Addr) (cH : Nat) (f : Nat → Int × Int) (k : Nat) (W : World) : Prop := RfK w0 (w0.heap.size + 1) O f k W ∧ W.heap[w0.heap.size]? = some (.cells #[.slice aL 201 cL, .slice aH 201 cH] 50 (0, 0))
/-- The cells that a round's region reads. -/
theorem rm_cells {w0 W : World} {b1 o1 b2 o2 cL cH k : Nat} {X Y : Int} (hk : W.heap[w0.heap.size]? = some (.cells #[.slice (some ⟨b1, o1, none⟩) 201 cL, .slice (some ⟨b2, o2, none⟩) 201 cH] 50 (0, 0))) (hB : Below w0.heap.size w0 W) (x0 : w0.cell? ⟨b1, o1 + k, none⟩ = some (.int .i64 X)) (y0 : w0.cell? ⟨b2, o2 + k, none⟩ = some (.int .i64 Y)) :
    (W.cell? ⟨w0.heap.size, 0, none⟩ = some (.slice (some ⟨b1, o1, none⟩) 201 cL) ∧ W.cell? ⟨w0.heap.size, 1, none⟩ = some (.slice (some ⟨b2, o2, none⟩) 201 cH)) ∧ W.cell? ⟨b1, o1 + k, none⟩ = some (.int .i64 X) ∧ W.cell? ⟨b2, o2 + k, none⟩ = some (.int .i64 Y) :=
  ⟨⟨cell_of_block hk rfl, cell_of_block hk rfl⟩, keep1 hB x0, keep1 hB y0⟩

theorem rm_stored {w0 W : World} {O : Nat} {cs : Array Value} {T : TypeId} {x y : Value} (hO : w0.heap.size < O) (hk : W.heap[w0.heap.size]? = some (.cells cs T (0, 0))) (hB : Below w0.heap.size w0 W) :
    ((W.setCell ⟨O, 0, none⟩ x).setCell ⟨O, 1, none⟩ y).heap[w0.heap.size]? = some (.cells cs T (0, 0)) ∧ Below w0.heap.size w0 ((W.setCell ⟨O, 0, none⟩ x).setCell ⟨O, 1, none⟩ y) :=
  have h : Only O W ((W.setCell ⟨O, 0, none⟩ x).setCell ⟨O, 1, none⟩ y) := ((Only.refl _ _).setCell 0 _).setCell 1 _
  ⟨h.keeps hk (by omega), hB.trans (h.below (by omega) hB.size)⟩
theorem ma_ifs (X Y : Int) {alt size : Int} (h1 : -1000 ≤ alt) (h2 : alt ≤ 50000) (h3 : 25 ≤ size) (h4 : size ≤ 100) : (max X alt, min Y (alt + size - 1)) = (if X < alt then alt else X, if IntKind.i64.wrap (IntKind.i64.wrap (alt + size) - 1) < Y then IntKind.i64.wrap (IntKind.i64.wrap (alt + size) - 1) else Y) := by
  rw [IntWalk.i64_in (alt + size) (by omega), IntWalk.i64_in (alt + size - 1) (by omega)]
  congr 1
  · split <;> omega
  · split <;> omega
theorem nm_ma {p : Int × Int} {a b : Int} (h : p = (a, b)) : nm (a, b) = nm p := by rw [h]
end Go.Proofs.Ythaokofhepngbaa.Alt
