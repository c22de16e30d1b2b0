/-
  Layer 36 (plane): lists of states, compared.
-/
import Derived.Test.YtjidpkcoaoflbaaPlaneE
import Derived.Laws.StructEq
namespace Go.Proofs.Ytjidpkcoaoflbaa
open Go.RowKit PlaneMath MyHeap

def prB (p q : Int × Int) : Bool := p.1 == q.1 && p.2 == q.2
theorem pln_neq (z v z' v' : Int) (w : World) : (binOp .neq 25 (.agg #[.int .i64 z, .int .i64 v]) (.agg #[.int .i64 z', .int .i64 v'])).run Try.prog w = .ok (.bool (!prB (z, v) (z', v'))) w := by
  have u3 := Try.underlying3
  have a3 := Try.isAgg3
  have z3 := Try.sizeOf3
  have hS : Try.prog.underlying 25 = some (.struct (Try.prog.fieldsOf 25)) := by kernel_rfl
  have hp : Try.prog.stoodInHeld 25 = false := by kernel_rfl
  unfold prB
  rw [run_neq_struct, show (10000 : Nat) = 9999 + 1 from rfl, run_equalIn_agg w 9999 25 _ _ hS hp]
  simp only [Program.fieldsOf, Try.underlying25]
  go_simp
  by_cases h1 : z = z' <;> by_cases h2 : v = v' <;> simp [h1, h2]
theorem pln_eql (z v z' v' : Int) (w : World) : (binOp .eql 25 (.agg #[.int .i64 z, .int .i64 v]) (.agg #[.int .i64 z', .int .i64 v'])).run Try.prog w = .ok (.bool (prB (z, v) (z', v'))) w := by
  have u3 := Try.underlying3
  have a3 := Try.isAgg3
  have z3 := Try.sizeOf3
  have hS : Try.prog.underlying 25 = some (.struct (Try.prog.fieldsOf 25)) := by kernel_rfl
  have hp : Try.prog.stoodInHeld 25 = false := by kernel_rfl
  unfold prB
  rw [run_eql_struct, show (10000 : Nat) = 9999 + 1 from rfl, run_equalIn_agg w 9999 25 _ _ hS hp]
  simp only [Program.fieldsOf, Try.underlying25]
  go_simp
  by_cases h1 : z = z' <;> by_cases h2 : v = v' <;> simp [h1, h2]
theorem pln_guard (op : BinOp) (x y : Operand) (xs ys : Array Value) (w : World) : (eqGuard op 25 x y (.agg xs) (.agg ys)).run Try.prog w = .ok () w := run_eqGuard_agg w op _ x y xs ys (by kernel_rfl)

/-- A slice of pairs of numbers that reads as ps. -/
structure Prs (w : World) (a : Option Addr) (n : Nat) (ps : List (Int × Int)) : Prop where
  len : ps.length = n
  bound : n ≤ 1000000
  cells : n = 0 ∨ ∃ b off, a = some ⟨b, off, none⟩ ∧ ∀ i, i < n → w.cell? ⟨b, off + i * 2, none⟩ = some (.int .i64 (ps[i]?.getD (0, 0)).1) ∧ w.cell? ⟨b, off + i * 2 + 1, none⟩ = some (.int .i64 (ps[i]?.getD (0, 0)).2)
theorem Prs.below {w w' : World} {a : Option Addr} {n : Nat} {ps : List (Int × Int)} (h : Prs w a n ps) (hb : Below w.heap.size w w') : Prs w' a n ps := by
  refine ⟨h.len, h.bound, ?_⟩
  rcases h.cells with h0 | ⟨b, off, rfl, hc⟩
  · exact Or.inl h0
  · exact Or.inr ⟨b, off, rfl, fun i hi => ⟨keep1 hb (hc i hi).1, keep1 hb (hc i hi).2⟩⟩

/-- The first k are equal. -/
def SameTo (ps qs : List (Int × Int)) (k : Nat) : Prop := ∀ i, i < k → ps[i]?.getD (0, 0) = qs[i]?.getD (0, 0)
theorem sameTo_all {ps qs : List (Int × Int)} (hl : ps.length = qs.length) (h : SameTo ps qs ps.length) : ps = qs := by
  apply List.ext_getElem hl
  intro i h1 h2
  have := h i h1
  simpa [List.getElem?_eq_getElem h1, List.getElem?_eq_getElem h2] using this
theorem prB_true {p q : Int × Int} : prB p q = true ↔ p = q := by
  unfold prB
  rw [Bool.and_eq_true, beq_iff_eq, beq_iff_eq]
  exact ⟨fun h => Prod.ext h.1 h.2, fun h => by subst h; exact ⟨rfl, rfl⟩⟩
theorem prB_false {p q : Int × Int} (h : p ≠ q) : prB p q = false := by
  cases hb : prB p q with
  | false => rfl
  | true => exact absurd (prB_true.1 hb) h

set_option maxRecDepth 100000 in
set_option maxHeartbeats 2000000 in
theorem equalPlanes_call (a a' : Option Addr) (n n' c c' : Nat) (ps qs : List (Int × Int)) (w : World) (h : Prs w a n ps) (h' : Prs w a' n' qs) :
    Calls Try.prog 12 #[.slice a n c, .slice a' n' c'] w fun e w' => e = .returned (.bool (decide (ps = qs))) ∧ Below w.heap.size w w' := by
  have hm := h.bound
  have hm' := h'.bound
  have hl := h.len
  have hl' := h'.len
  by_cases hn : n = n'
  · subst hn
    have hcs := h.cells
    have hcs' := h'.cells
    clear h h'
    have HL := Lib.hid (And.intro hl hl')
    clear hl hl'
    have hnn : ((n : Int) != (n : Int)) = false := by simp
    have gd := pln_guard
    have ng := pln_neq
    go_enter Try.func12, Try.ntmps12
    go_wp2
    go_loopw [5] (fun k wr => ∃ j : Nat, j ≤ n ∧ k = .int .i64 j ∧ SameTo ps qs j ∧ ∃ d, wr = w.drewN d) (fun k _ => n - (intOf k).toNat)
    case atStart => exact ⟨0, by omega, rfl, fun i hi => by omega, 0, rfl⟩
    case round =>
      obtain ⟨k, hk, rfl, hS, d, rfl⟩ := hrel
      have HS := Lib.hid hS
      clear hS
      by_cases hlt : k < n
      · rcases hcs with h0 | ⟨b, off, rfl, hc⟩
        · omega
        rcases hcs' with h0 | ⟨b', off', rfl, hc'⟩
        · omega
        obtain ⟨x0, x1⟩ := hc k hlt
        obtain ⟨y0, y1⟩ := hc' k hlt
        clear hc hc'
        by_cases hx : ps[k]?.getD (0, 0) = qs[k]?.getD (0, 0)
        · have ht : prB ((ps[k]?.getD (0, 0)).1, (ps[k]?.getD (0, 0)).2) ((qs[k]?.getD (0, 0)).1, (qs[k]?.getD (0, 0)).2) = true := prB_true.2 hx
          have HX := Lib.hid hx
          clear hx
          go_wp2
          go_quiet (fail)
          go_wp2
          go_roundw
          case rel => exact ⟨k + 1, by omega, by go_num, fun i hi => by
            by_cases e : i = k
            · subst e; exact HX.out
            · exact HS.out i (by omega), _, rfl⟩
          case measure => simp [intOf]; omega
        · have ht : prB ((ps[k]?.getD (0, 0)).1, (ps[k]?.getD (0, 0)).2) ((qs[k]?.getD (0, 0)).1, (qs[k]?.getD (0, 0)).2) = false := prB_false hx
          have HX := Lib.hid hx
          clear hx
          go_wp2
          go_quiet (fail)
          go_wp2
          go_ret
          exact ⟨by rw [decide_eq_false (fun e => HX.out (by rw [e]))]; rfl, below_drewN (below_drewN (Below.refl _ _) _) _⟩
      · obtain rfl : k = n := by omega
        go_wp2
        go_ret
        exact ⟨by rw [decide_eq_true (sameTo_all (HL.out.1.trans HL.out.2.symm) (by rw [HL.out.1]; exact HS.out))]; rfl, below_drewN (Below.refl _ _) _⟩
  · have hnn : ((n : Int) != (n' : Int)) = true := by rw [bne_iff_ne]; omega
    have HN := Lib.hid hn
    clear hn h h'
    have HL := Lib.hid (And.intro hl hl')
    clear hl hl'
    go_enter Try.func12, Try.ntmps12
    go_wp2
    go_ret
    exact ⟨by rw [decide_eq_false (fun e => HN.out (by rw [← HL.out.1, ← HL.out.2, e]))]; rfl, Below.refl _ _⟩
end Go.Proofs.Ytjidpkcoaoflbaa
