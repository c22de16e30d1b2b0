/-
  Altitude in seat 36: a band and an error (printed by genBand.py)
-/
import Derived.Test.YthaokofhepngbaaBdC
namespace Go.Proofs.Ythaokofhepngbaa.Alt
open Go.RowKit AltMath MyHeap MyCopy MyOwn

/-- A band of the call's own with an error. -/
def BOPost (E : Int) (lo hi : List Int) (w : World) (e : Ending) (w' : World) : Prop := ∃ vL vH, e = .returned (.tuple #[.agg #[vL, vH], .int .i64 E]) ∧ (E = 0 → TwoOwn w.heap.size vL vH lo hi w') ∧ (E ≠ 0 → vL = .slice none 0 0 ∧ vH = .slice none 0 0) ∧ Below w.heap.size w w'
theorem TwoOwn.base {b b' : Nat} {vL vH : Value} {lo hi : List Int} {W : World} (h : TwoOwn b vL vH lo hi W) (hb : b' ≤ b) : TwoOwn b' vL vH lo hi W := ⟨ownsRow_base h.L hb, ownsRow_base h.H hb, h.A⟩
theorem TwoOwn.nil (b : Nat) (W : World) : TwoOwn b (.slice none 0 0) (.slice none 0 0) [] [] W := ⟨⟨rfl, Or.inl ⟨rfl, rfl⟩⟩, ⟨rfl, Or.inl ⟨rfl, rfl⟩⟩, fun _ e => by cases e⟩
theorem own_slice3 {w : World} {base : Nat} {e : TypeId} {size : Nat} {v : Value} {n : Nat} {xs : List Value} (h : w.ownsRow base e size v n xs) : ∃ a m c, v = .slice a m c := by
  obtain ⟨a, c, e⟩ := own_slice h
  exact ⟨a, n, c, e⟩
/-- Between two rounds: what has been put so far lies in block O, the result in block R. -/
def RfK (w0 : World) (R O : Nat) (f : Nat → Int × Int) (k : Nat) (W : World) : Prop := ∃ aL nL cL aH nH cH, W.heap[R]? = some (.cells #[.slice none 0 0, .slice none 0 0] 50 (0, 0)) ∧ W.heap[O]? = some (.cells #[.slice aL nL cL, .slice aH nH cH] 50 (0, 0)) ∧ TwoOwn (O + 1) (.slice aL nL cL) (.slice aH nH cH) (loK f k) (hiK f k) W ∧ Below w0.heap.size w0 W ∧ w0.heap.size ≤ R ∧ R < O
theorem two_facts {W : World} {b : Nat} {x y : Value} {T : TypeId} (h : W.heap[b]? = some (.cells #[x, y] T (0, 0))) : W.cell? ⟨b, 0, none⟩ = some x ∧ W.cell? ⟨b, 1, none⟩ = some y ∧ W.frozen? ⟨b, 0, none⟩ = false ∧ W.frozen? ⟨b, 1, none⟩ = false := ⟨cell_of_block h rfl, cell_of_block h rfl, free_of_block h, free_of_block h⟩
theorem block_off {W W' : World} {vL vH : Value} {lo hi : List Int} {b k : Nat} {o : Obj} (h : TwoOwn b vL vH lo hi W) (hb : Below b W W') (hk : k < b) (ho : W.heap[k]? = some o) : W'.heap[k]? = some o := by
  have _ := h
  exact (hb.block k hk).trans ho
/-- What was put is stored. -/
theorem RfK.next {w0 W W' : World} {R O : Nat} {f : Nat → Int × Int} {k : Nat} {aL aH : Option Addr} {nL cL nH cH : Nat} {v1 v2 : Value} (hR : w0.heap.size ≤ R) (hRO : R < O) (h1 : W.heap[R]? = some (.cells #[.slice none 0 0, .slice none 0 0] 50 (0, 0))) (h2 : W.heap[O]? = some (.cells #[v1, v2] 50 (0, 0)))
    (hK : Below w0.heap.size w0 W) (hT : TwoOwn (O + 1) (.slice aL nL cL) (.slice aH nH cH) (loK f k ++ [(nm (f k)).1]) (hiK f k ++ [(nm (f k)).2]) W') (hB : Below (O + 1) W W') :
    RfK w0 R O f (k + 1) ((W'.setCell ⟨O, 0, none⟩ (.slice aL nL cL)).setCell ⟨O, 1, none⟩ (.slice aH nH cH)) := by
  have hO : Only O W' ((W'.setCell ⟨O, 0, none⟩ (.slice aL nL cL)).setCell ⟨O, 1, none⟩ (.slice aH nH cH)) := ((Only.refl _ _).setCell 0 _).setCell 1 _
  have k1 : W'.heap[R]? = some (.cells #[.slice none 0 0, .slice none 0 0] 50 (0, 0)) := (hB.block R (by omega)).trans h1
  have k2 : W'.heap[O]? = some (.cells #[v1, v2] 50 (0, 0)) := (hB.block O (by omega)).trans h2
  have hsz : w0.heap.size ≤ W'.heap.size := Nat.le_trans hK.size hB.size
  refine ⟨aL, nL, cL, aH, nH, cH, hO.keeps k1 (by omega), by simpa using block_setCell (i := 1) (v := .slice aH nH cH) (block_setCell (i := 0) (v := .slice aL nL cL) k2), ?_, (hK.trans (hB.mono (by omega))).trans (hO.below (by omega) hsz), hR, hRO⟩
  rw [loK_succ, hiK_succ]
  exact ⟨own_keep hT.L hO (Or.inr fun e => by have := (hT.L.lt _ e).1; omega), own_keep hT.H hO (Or.inr fun e => by have := (hT.H.lt _ e).1; omega), hT.A⟩

theorem meE_ok {alt size : Int} (h : meE alt size = 0) : -1000 ≤ alt ∧ alt ≤ 50000 ∧ (size = 25 ∨ size = 100) := by
  unfold meE at h
  by_cases hh : alt < -1000 ∨ 50000 < alt ∨ (size ≠ 25 ∧ size ≠ 100)
  · rw [if_pos hh] at h; cases h
  · omega
theorem meE_or (alt size : Int) : meE alt size = 0 ∨ meE alt size = 1 := by unfold meE; split <;> simp

/-- The end of a reference's walk: what was put is stored as the result. -/
theorem RfK.done {w0 W : World} {R b : Nat} {f : Nat → Int × Int} {k : Nat} {aL aH : Option Addr} {nL cL nH cH : Nat} (hR : w0.heap.size ≤ R) (hb : R < b) (h1 : W.heap[R]? = some (.cells #[.slice none 0 0, .slice none 0 0] 50 (0, 0))) (hK : Below w0.heap.size w0 W) (hT : TwoOwn b (.slice aL nL cL) (.slice aH nH cH) (loK f k) (hiK f k) W) :
    TwoOwn w0.heap.size (.slice aL nL cL) (.slice aH nH cH) (loK f k) (hiK f k) ((W.setCell ⟨R, 0, none⟩ (.slice aL nL cL)).setCell ⟨R, 1, none⟩ (.slice aH nH cH)) ∧ Below w0.heap.size w0 ((W.setCell ⟨R, 0, none⟩ (.slice aL nL cL)).setCell ⟨R, 1, none⟩ (.slice aH nH cH)) ∧
      ((W.setCell ⟨R, 0, none⟩ (.slice aL nL cL)).setCell ⟨R, 1, none⟩ (.slice aH nH cH)).cell? ⟨R, 0, none⟩ = some (.slice aL nL cL) ∧ ((W.setCell ⟨R, 0, none⟩ (.slice aL nL cL)).setCell ⟨R, 1, none⟩ (.slice aH nH cH)).cell? ⟨R, 1, none⟩ = some (.slice aH nH cH) := by
  have hx := block_setCell (i := 1) (v := .slice aH nH cH) (block_setCell (i := 0) (v := .slice aL nL cL) h1)
  have hO : Only R W ((W.setCell ⟨R, 0, none⟩ (.slice aL nL cL)).setCell ⟨R, 1, none⟩ (.slice aH nH cH)) := ((Only.refl _ _).setCell 0 _).setCell 1 _
  exact ⟨TwoOwn.base ⟨own_keep hT.L hO (Or.inr fun e => by have := (hT.L.lt _ e).1; omega), own_keep hT.H hO (Or.inr fun e => by have := (hT.H.lt _ e).1; omega), hT.A⟩ (by omega), hK.trans (hO.below hR hK.size), cell_of_block (i := 0) (v := .slice aL nL cL) hx rfl, cell_of_block (i := 1) (v := .slice aH nH cH) hx rfl⟩
end Go.Proofs.Ythaokofhepngbaa.Alt
