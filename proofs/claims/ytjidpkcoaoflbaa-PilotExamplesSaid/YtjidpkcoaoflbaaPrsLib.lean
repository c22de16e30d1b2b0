/-
  Slices of states that a call makes, as they read.
-/
import Derived.Test.YtjidpkcoaoflbaaPlaneH
import Derived.Test.YtjidpkcoaoflbaaOwnLib
namespace Go.Proofs.Ytjidpkcoaoflbaa
open Go.RowKit PlaneMath MyHeap MyOwn
theorem prsOwn {w : World} {base : Nat} {e : TypeId} {v : Value} {ps : List (Int × Int)} (h : w.ownsRow base e 2 v ps.length (flat2 ps)) (hm : ps.length ≤ 1000000) : ∃ a c, v = .slice a ps.length c ∧ Prs w a ps.length ps := by
  rcases h.2 with ⟨rfl, h0⟩ | ⟨g, cap, cur, rfl, hg, hh, hc, hcm, hcs, htake⟩
  · refine ⟨none, 0, by rw [h0], rfl, hm, Or.inl h0⟩
  · refine ⟨some ⟨g, 0, none⟩, cap, rfl, rfl, hm, ?_⟩
    rcases Nat.eq_zero_or_pos ps.length with h0 | h0
    · exact Or.inl h0
    · refine Or.inr ⟨g, 0, rfl, fun i hi => ?_⟩
      have hx := flat2_get ps i hi
      rw [← htake, List.getElem?_take_of_lt (by omega), List.getElem?_take_of_lt (by omega)] at hx
      rw [Nat.zero_add]
      exact ⟨cell_of_block hh (by simpa using hx.1), cell_of_block hh (by simpa using hx.2)⟩
theorem prsBlock {w : World} {b : Nat} {cs : Array Value} {T : TypeId} {fr : Nat × Nat} {ps : List (Int × Int)} {n : Nat} (h : w.heap[b]? = some (.cells cs T fr)) (hcs : cs.toList = flat2 ps) (hn : ps.length = n) (hm : n ≤ 1000000) : Prs w (some ⟨b, 0, none⟩) n ps := by
  subst hn
  refine ⟨rfl, hm, Or.inr ⟨b, 0, rfl, fun i hi => ?_⟩⟩
  have hx := flat2_get ps i hi
  rw [← hcs] at hx
  rw [Nat.zero_add]
  exact ⟨cell_of_block h (by simpa using hx.1), cell_of_block h (by simpa using hx.2)⟩
theorem infoPlane2 : (Try.prog.info? 25).map (fun i => (i.zero, i.size, i.bytes)) = some (some (.agg #[.int .i64 0, .int .i64 0]), 2, 16) := by kernel_rfl
theorem ownedBlock {w : World} {b : Nat} {x y : Value} {T : TypeId} {base : Nat} (h : w.heap[b]? = some (.cells #[x, y] T (0, 0))) (hb : base ≤ b) : w.ownsRow base T 2 (.slice (some ⟨b, 0, none⟩) 1 1) 1 [x, y] :=
  ⟨rfl, Or.inr ⟨b, 1, #[x, y], rfl, hb, h, by omega, by decide, rfl, rfl⟩⟩
theorem grownBelow {w w' : World} {base B : Nat} {e : TypeId} {size : Nat} {v : Value} {n : Nat} {xs : List Value} (h : w.ownsRow base e size v n xs) (hg : w.grownBy w' v.ownBlock) (hB : B ≤ base) (hs : B ≤ w.heap.size) : Below B w w' :=
  ⟨hg.os, hg.tape, hg.output, hg.size, fun k hk => hg.block k (by omega) (fun e' => by have := (h.lt k e'.symm).1; omega)⟩
theorem cellsTwo {w : World} {x y : Value} {T : TypeId} {n : Nat} (hn : n = w.heap.size) : ∀ (j : Nat) (u : Value), [x, y][j]? = some u → (w.alloc (.cells #[x, y] T)).cell? ((⟨n, 0, none⟩ : Addr).add j) = some u := by
  subst hn
  intro j u hu
  have hadd : (⟨w.heap.size, 0, none⟩ : Addr).add j = ⟨w.heap.size, j, none⟩ := by unfold Addr.add; split <;> simp_all
  rw [hadd, World.cell?_alloc_at _ _ _ _ rfl]
  match j, hu with
  | 0, hu => exact hu
  | 1, hu => exact hu
end Go.Proofs.Ytjidpkcoaoflbaa
