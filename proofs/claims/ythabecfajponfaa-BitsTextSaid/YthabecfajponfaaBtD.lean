/-
  Layer 1 (bits): Clone, Put, walked.
-/
import Derived.Test.YthabecfajponfaaBtC
import Derived.Test.YthabecfajponfaaCopyLib
import Derived.Test.YthabecfajponfaaOwnLib
import Derived.Lib.SliceRun
namespace Go.Proofs.Ythabecfajponfaa
open Go.RowKit BitsMath ParityMath MyHeap MyCopy MyOwn

theorem u8s_src {w : World} {ad : Addr} {n : Nat} {xs : List Nat} (h : U8s w (some ad) n xs) : ∀ j u, (flatU xs)[j]? = some u → w.cell? (ad.add j) = some u := by
  intro j u hu
  have hj : j < n := by
    have := (List.getElem?_eq_some_iff.1 hu).1
    unfold flatU at this
    rw [List.length_map, h.len] at this
    exact this
  rcases h.cells with h0 | ⟨b, off, e, hc⟩
  · omega
  · cases e
    rw [flatU_get (by rw [h.len]; exact hj)] at hu
    cases hu
    rw [Go.WideShapes.add_plain]
    exact hc j hj
theorem flatU_cell (xs : List Nat) : ∀ u ∈ flatU xs, u.oneCell' = true := by
  intro u hu
  unfold flatU at hu
  obtain ⟨x, _, rfl⟩ := List.mem_map.1 hu
  rfl
theorem own_nil (w : World) (base : Nat) (e : TypeId) (size : Nat) : w.ownsRow base e size (.slice none 0 0) 0 [] := ⟨by simp, Or.inl ⟨rfl, rfl⟩⟩
theorem own_empty {w : World} {b base : Nat} {T : TypeId} (h : w.heap[b]? = some (.cells #[] T (0, 0))) (hb : base ≤ b) : w.ownsRow base T 1 (.slice (some ⟨b, 0, none⟩) 0 0) 0 [] :=
  ⟨rfl, Or.inr ⟨b, 0, #[], rfl, hb, h, Nat.le_refl _, by decide, rfl, rfl⟩⟩
theorem grownB {w w' : World} {base B : Nat} {e : TypeId} {size : Nat} {v : Value} {n : Nat} {xs : List Value} (h : w.ownsRow base e size v n xs) (hg : w.grownBy w' v.ownBlock) (hB : B ≤ base) (hs : B ≤ w.heap.size) : Below B w w' :=
  ⟨hg.os, hg.tape, hg.output, hg.size, fun k hk => hg.block k (by omega) (fun e' => by have := (h.lt k e'.symm).1; omega)⟩
/-- A string came back, in new memory. -/
def OwnPost (ys : List Nat) (w : World) (e : Ending) (w' : World) : Prop := ∃ v, e = .returned v ∧ w'.ownsRow w.heap.size 5 1 v ys.length (flatU ys) ∧ Below w.heap.size w w'

set_option maxRecDepth 100000 in
theorem clone_call (a : Option Addr) (n c : Nat) (xs : List Nat) (w : World) (h : U8s w a n xs) (hn : n ≤ 1000000) : Calls Try.prog 31 #[.slice a n c] w (OwnPost xs w) := by
  have q28 : ∀ (w : World) (a : Option Addr) (n c n' c' : Nat), (binOp .eql 23 (.slice a n c) (.slice none n' c')).run Try.prog w = .ok (.bool a.isNone) w := fun w a n c n' c' => Lib.run_eql_slice_nil w _ _ a n c n' c' Try.underlying23
  have hl := h.len
  cases a with
  | none =>
    obtain rfl : n = 0 := by
      rcases h.cells with h0 | ⟨b, off, e, _⟩
      · exact h0
      · cases e
    have hx : xs = [] := List.eq_nil_of_length_eq_zero hl
    subst hx
    clear h hl
    go_enter Try.func31, Try.ntmps31
    go_wp2_with fail
    go_ret
    exact ⟨_, rfl, own_nil _ _ _ _, Below.refl _ _⟩
  | some ad =>
    obtain ⟨i0, hi, hiz, his, hib⟩ := info_parts' infoU8
    have HI := Lib.hid (And.intro hi (And.intro hiz (And.intro his hib)))
    have HL := Lib.hid h
    have hO : (w.alloc (.cells #[] 5)).ownsRow w.heap.size 5 1 (.slice (some ⟨w.heap.size, 0, none⟩) 0 0) 0 [] := own_empty (block_new _ _ rfl) (Nat.le_refl _)
    have HO := Lib.hid hO
    have HLn := Lib.hid hl
    clear h hi hiz his hib hl hO
    go_enter Try.func31, Try.ntmps31
    go_wp2_with (refine wpList_append_src rfl _ _ 23 rfl w.heap.size 5 i0 _ 1 1 Try.underlying23 HI.out.1 HI.out.2.1 HI.out.2.2.1 HI.out.2.2.2 rfl (by decide) _ 0 _ rfl HO.out (some ad) n c (flatU xs) rfl (fun e => by cases e) ?c0 ?c2 (flatU_cell xs) ?c3 ?c4 ?c5 ?_; rotate_right; intro v7 w7 hown7 hgrow)
    case c0 => rw [flatU_len, HLn.out]; omega
    case c2 => intro ad' had; cases had; exact u8s_src (HL.out.below (below_alloc _ _))
    case c3 => unfold maxLen; omega
    case c4 => omega
    case c5 => simp
    have hg := grownB (B := w.heap.size) HO.out hgrow (Nat.le_refl _) (by simp)
    have H7 := Lib.hid hown7
    have HB := Lib.hid ((below_alloc w (.cells #[] 5)).trans hg)
    clear hgrow hg hown7
    go_ret
    exact ⟨_, rfl, by have := H7.out; rw [Nat.zero_add, List.nil_append] at this; rw [HLn.out]; exact this, HB.out⟩
end Go.Proofs.Ythabecfajponfaa
