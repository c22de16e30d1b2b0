/-
  Layer 19 (assign): the search in memory; the cost of a row.
-/
import Derived.Test.YtbehpkggmomgeaaAsgA
import Derived.Test.YtbehpkggmomgeaaAsgMathD
namespace Go.Proofs.Ytbehpkggmomgeaa
open Go.RowKit AsgRows AsgMath MyHeap

/-- Sixteen numbers in a block of their own. -/
def Arr (W : World) (b : Nat) (f : Nat → Int) : Prop := ∃ cs : Array Value, W.heap[b]? = some (.cells cs 67 (0, 0)) ∧ cs.size = 16 ∧ ∀ k, k < 16 → cs[k]? = some (.int .i64 (f k))
/-- A search in memory. -/
def Se (W : World) (b : Nat) (cv : Value) (fr : Nat) (T : Nat → Bool) (row : Nat → Int) : Prop :=
  ∃ cs : Array Value, W.heap[b]? = some (.cells cs 69 (0, 0)) ∧ cs.size = 34 ∧ cs[0]? = some cv ∧ cs[1]? = some (.int .i64 (fr : Int)) ∧ (∀ k, k < 16 → cs[2 + k]? = some (.bool (T k))) ∧ (∀ k, k < 16 → cs[18 + k]? = some (.int .i64 (row k)))
theorem Arr.keep {W W' : World} {b : Nat} {f : Nat → Int} (h : Arr W b f) (hb : Below W.heap.size W W') : Arr W' b f := by
  obtain ⟨cs, h1, h2⟩ := h
  exact ⟨cs, keepO hb h1, h2⟩
theorem Se.keep {W W' : World} {b : Nat} {cv : Value} {fr : Nat} {T : Nat → Bool} {row : Nat → Int} (h : Se W b cv fr T row) (hb : Below W.heap.size W W') : Se W' b cv fr T row := by
  obtain ⟨cs, h1, h2⟩ := h
  exact ⟨cs, keepO hb h1, h2⟩
theorem Arr.off {W W' : World} {b m : Nat} {f : Nat → Int} (h : Arr W b f) (hb : Only m W W') (hne : b ≠ m) : Arr W' b f := by
  obtain ⟨cs, h1, h2⟩ := h
  exact ⟨cs, hb.keeps h1 hne, h2⟩
theorem Se.off {W W' : World} {b m : Nat} {cv : Value} {fr : Nat} {T : Nat → Bool} {row : Nat → Int} (h : Se W b cv fr T row) (hb : Only m W W') (hne : b ≠ m) : Se W' b cv fr T row := by
  obtain ⟨cs, h1, h2⟩ := h
  exact ⟨cs, hb.keeps h1 hne, h2⟩
theorem Arr.cell {W : World} {b : Nat} {f : Nat → Int} (h : Arr W b f) {k : Nat} (hk : k < 16) : W.cell? ⟨b, k, none⟩ = some (.int .i64 (f k)) ∧ W.frozen? ⟨b, k, none⟩ = false ∧ b < W.heap.size := by
  obtain ⟨cs, h1, h2, h3⟩ := h
  exact ⟨cell_of_block h1 (h3 k hk), free_of_block h1, lt_of_block h1⟩
theorem Arr.set {W : World} {b : Nat} {f : Nat → Int} (h : Arr W b f) {k : Nat} (hk : k < 16) (x : Int) : Arr (W.setCell ⟨b, k, none⟩ (.int .i64 x)) b (upd f k x) := by
  obtain ⟨cs, h1, h2, h3⟩ := h
  refine ⟨cs.setIfInBounds k (.int .i64 x), block_setCell h1, by rw [Array.size_setIfInBounds]; exact h2, fun j hj => ?_⟩
  by_cases e : j = k
  · subst e
    rw [upd_at, Array.getElem?_setIfInBounds_self_of_lt (by omega)]
  · rw [upd_ne e, Array.getElem?_setIfInBounds_ne (fun q => e q.symm)]
    exact h3 j hj
theorem Se.head {W : World} {b : Nat} {cv : Value} {fr : Nat} {T : Nat → Bool} {row : Nat → Int} (h : Se W b cv fr T row) : W.cell? ⟨b, 0, none⟩ = some cv ∧ W.cell? ⟨b, 1, none⟩ = some (.int .i64 (fr : Int)) ∧ b < W.heap.size := by
  obtain ⟨cs, h1, h2, h3, h4, h5, h6⟩ := h
  exact ⟨cell_of_block h1 h3, cell_of_block h1 h4, lt_of_block h1⟩
theorem Se.at {W : World} {b : Nat} {cv : Value} {fr : Nat} {T : Nat → Bool} {row : Nat → Int} (h : Se W b cv fr T row) {k : Nat} (hk : k < 16) : W.cell? ⟨b, 2 + k, none⟩ = some (.bool (T k)) ∧ W.cell? ⟨b, 18 + k, none⟩ = some (.int .i64 (row k)) ∧ W.frozen? ⟨b, 18 + k, none⟩ = false := by
  obtain ⟨cs, h1, h2, h3, h4, h5, h6⟩ := h
  exact ⟨cell_of_block h1 (h5 k hk), cell_of_block h1 (h6 k hk), free_of_block h1⟩
theorem Se.set {W : World} {b : Nat} {cv : Value} {fr : Nat} {T : Nat → Bool} {row : Nat → Int} (h : Se W b cv fr T row) {k : Nat} (hk : k < 16) (x : Int) : Se (W.setCell ⟨b, 18 + k, none⟩ (.int .i64 x)) b cv fr T (upd row k x) := by
  obtain ⟨cs, h1, h2, h3, h4, h5, h6⟩ := h
  refine ⟨cs.setIfInBounds (18 + k) (.int .i64 x), block_setCell h1, by rw [Array.size_setIfInBounds]; exact h2, ?_, ?_, fun j hj => ?_, fun j hj => ?_⟩
  · rw [Array.getElem?_setIfInBounds_ne (by omega)]; exact h3
  · rw [Array.getElem?_setIfInBounds_ne (by omega)]; exact h4
  · rw [Array.getElem?_setIfInBounds_ne (by omega)]; exact h5 j hj
  · by_cases e : j = k
    · subst e
      rw [upd_at, Array.getElem?_setIfInBounds_self_of_lt (by omega)]
    · rw [upd_ne e, Array.getElem?_setIfInBounds_ne (by omega)]
      exact h6 j hj

/-- The matrix of a search. -/
structure Ma (W : World) (a : Option Addr) (n : Nat) (L : List (List Int)) (m : Nat) : Prop where
  M : Mtx W a n L
  ok : OkM L
  wd : wid L = m
  m16 : m ≤ 16
theorem Ma.keep {W W' : World} {a : Option Addr} {n m : Nat} {L : List (List Int)} (h : Ma W a n L m) (hb : Below W.heap.size W W') : Ma W' a n L m := ⟨h.M.below hb, h.ok, h.wd, h.m16⟩
theorem Ma.hi2 {W : World} {a : Option Addr} {n m : Nat} {L : List (List Int)} (h : Ma W a n L m) : ∀ i k, i < n → k < m → AsgRows.ent L i k ≤ 1048576 := fun i k hi hk => h.ok.hi i k (by rw [h.M.len]; exact hi) (by rw [h.wd]; exact hk)
/-- An entry in memory. -/
theorem Ma.ent {W : World} {a : Option Addr} {n m : Nat} {L : List (List Int)} (h : Ma W a n L m) {i k : Nat} (hi : i < n) (hk : k < m) : ∃ b off ra rc b2 o2, a = some ⟨b, off, none⟩ ∧ ra = some ⟨b2, o2, none⟩ ∧ W.cell? ⟨b, off + i, none⟩ = some (.slice ra m rc) ∧ W.cell? ⟨b2, o2 + k, none⟩ = some (.int .i64 (ent L i k)) ∧ b < W.heap.size ∧ b2 < W.heap.size ∧ -1 ≤ ent L i k ∧ ent L i k ≤ 1048576 := by
  obtain ⟨b, off, e, ra, rc, h1, h2⟩ := mtx_at h.M hi
  have hl : (rowL L i).length = m := by rw [h.ok.form i (by rw [h.M.len]; exact hi), h.wd]
  rw [hl] at h1 h2
  obtain ⟨b2, o2, e2, h3⟩ := ints_at h2 hk
  exact ⟨b, off, ra, rc, b2, o2, e, e2, h1, h3, World.block_lt_of_cell? W _ h1, World.block_lt_of_cell? W _ h3, h.ok.lo i k (by rw [h.M.len]; exact hi) (by rw [h.wd]; exact hk), h.ok.hi i k (by rw [h.M.len]; exact hi) (by rw [h.wd]; exact hk)⟩
theorem colOf_first {m : Nat} {row : Nat → Int} {i : Int} {k : Nat} (hk : k < m) (h : row k = i) (hf : ∀ j, j < k → row j ≠ i) : colOf m row i = some k := firstK_of (p := fun k => decide (row k = i)) hk (by simpa using h) (fun j hj => by simpa using hf j hj)

/-- A number as a result; nothing is written. -/
def DPost (r : Int) (w : World) (e : Ending) (w' : World) : Prop := e = .returned (.int .i64 r) ∧ ∃ d, w' = w.drewN d
theorem dPost_of {r r' : Int} {w : World} (h : r = r') (d : Nat) : DPost r' w (.returned (.int .i64 r)) (w.drewN d) := by subst h; exact ⟨rfl, d, rfl⟩

set_option maxRecDepth 100000 in
set_option maxHeartbeats 4000000 in
theorem of_call (a : Option Addr) (n m cc nb sp sb db fr i : Nat) (L : List (List Int)) (T : Nat → Bool) (row dist : Nat → Int) (w : World) (hM : Ma w a n L m) (hn : w.cell? ⟨nb, 0, none⟩ = some (.int .i64 (m : Int))) (hp : w.cell? ⟨sp, 0, none⟩ = some (.pointer (some ⟨sb, 0, none⟩))) (hS : Se w sb (.slice a n cc) fr T row) (hD : Arr w db dist) (hi : i < n) (hd : ∀ k, k < m → 0 ≤ dist k ∧ dist k ≤ 1099511627776) :
    Calls Try.prog 36 #[.int .i64 (i : Int), .pointer (some ⟨nb, 0, none⟩), .pointer (some ⟨sp, 0, none⟩), .pointer (some ⟨db, 0, none⟩)] w (DPost (ofV (ent L) m row dist i) w) := by
  have m16 := hM.m16
  have KS := Lib.hid hS
  have KD := Lib.hid hD
  have KM := Lib.hid hM
  have KB := Lib.hid hd
  obtain ⟨s0, -, q0⟩ := hS.head
  clear hS hD hM hd
  have qn := World.block_lt_of_cell? w _ hn
  have qp := World.block_lt_of_cell? w _ hp
  go_enter Try.func36, Try.ntmps36
  go_wp2_with fail
  go_loopw [8] (fun kv wr => ∃ k : Nat, k ≤ m ∧ kv = .int .i64 k ∧ (∀ j, j < k → row j ≠ (i : Int)) ∧ w = wr) (fun kv _ => m - (intOf kv).toNat)
  case atStart => exact ⟨0, by omega, rfl, fun i hi => by omega, rfl⟩
  case round =>
    obtain ⟨k, hk, rfl, hF, rfl⟩ := hrel
    have HF := Lib.hid hF
    clear hF
    by_cases hlt : k < m
    · have hk0 : (0 : Int) ≤ (k : Int) := by omega
      have hk1 : (k : Int) < (m : Int) := by omega
      have hk2 : (k : Int) < 16 := by omega
      obtain ⟨-, r0, -⟩ := KS.out.at (k := k) (by omega)
      obtain ⟨d0, -, q1⟩ := KD.out.cell (k := k) (by omega)
      obtain ⟨dl, dh⟩ := KB.out k hlt
      have HX := Lib.hid (show row k = row k from rfl)
      by_cases hr : row k = (i : Int)
      · have HC := Lib.hid (colOf_first hlt hr HF.out)
        rw [hr] at r0
        clear hr HX
        have HV := Lib.hid (show ofV (ent L) m row dist i = if 1099511627776 ≤ dist k then 1099511627776 else dist k - ent L i k by unfold ofV; rw [HC.out])
        by_cases hfar : 1099511627776 ≤ dist k
        · have HV2 := Lib.hid (HV.out.trans (if_pos hfar))
          generalize dist k = D at *
          go_wp2_with fail
          go_ret
          exact dPost_of HV2.out.symm 0
        · have HV2 := Lib.hid (HV.out.trans (if_neg hfar))
          obtain ⟨b, off, ra, rc, b2, o2, rfl, rfl, x0, x1, qb, qb2, e1, e2⟩ := KM.out.ent (i := i) (k := k) hi hlt
          have hi0 : (0 : Int) ≤ (i : Int) := by omega
          have hi1 : (i : Int) < (n : Int) := by omega
          generalize dist k = D at *
          generalize ent L i k = X at *
          have hwr : IntKind.i64.wrap (D - X) = D - X := IntWalk.i64_in _ (by omega)
          go_wp2_with fail
          go_quiet (fail)
          go_wp2_with fail
          go_ret
          exact dPost_of HV2.out.symm _
      · have ht : (row k == (i : Int)) = false := by simpa using hr
        have HR := Lib.hid hr
        generalize row k = R at r0 ht
        clear hr
        go_wp2_with fail
        go_roundw
        case rel => exact ⟨k + 1, by omega, by go_num, fun j hj => by
          by_cases e : j = k
          · subst e; exact HR.out
          · exact HF.out j (by omega), trivial⟩
        case measure => simp [intOf]; omega
    · obtain rfl : m = k := by omega
      go_wp2_with fail
      go_ret
      exact dPost_of (ofV_free HF.out).symm 0
end Go.Proofs.Ytbehpkggmomgeaa
