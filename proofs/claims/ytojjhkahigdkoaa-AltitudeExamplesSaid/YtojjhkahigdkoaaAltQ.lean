/-
  Layer 18 (altitude): lists of numbers, compared.
-/
import Derived.Test.YtojjhkahigdkoaaAltC
namespace Go.Proofs.Ytojjhkahigdkoaa
open Go.RowKit AltMath MyHeap MyCopy MyOwn

/-- The first k are equal. -/
def SameI (xs ys : List Int) (k : Nat) : Prop := ∀ i, i < k → gi xs i = gi ys i
theorem sameI_all {xs ys : List Int} (hl : xs.length = ys.length) (h : SameI xs ys xs.length) : xs = ys := by
  apply List.ext_getElem hl
  intro i h1 h2
  have := h i h1
  unfold gi at this
  simpa [List.getElem?_eq_getElem h1, List.getElem?_eq_getElem h2] using this

set_option maxRecDepth 100000 in
set_option maxHeartbeats 2000000 in
theorem equalInts_call (a a' : Option Addr) (n n' c c' : Nat) (xs ys : List Int) (w : World) (h : Ints w a n xs) (h' : Ints w a' n' ys) :
    Calls Try.prog 45 #[.slice a n c, .slice a' n' c'] w (BPost (decide (xs = ys)) w) := by
  have hm := h.bound
  have hm' := h'.bound
  have hl := h.len
  have hl' := h'.len
  by_cases hn : n = n'
  · subst hn
    have hcs := h.cells
    have hcs' := h'.cells
    clear h h'
    have HL := Lib.hid (And.intro hl hl')
    clear hl hl'
    have hnn : ((n : Int) != (n : Int)) = false := by simp
    go_enter Try.func45, Try.ntmps45
    go_wp2
    go_loopw [5] (fun k wr => ∃ j : Nat, j ≤ n ∧ k = .int .i64 j ∧ SameI xs ys j ∧ ∃ d, wr = w.drewN d) (fun k _ => n - (intOf k).toNat)
    case atStart => exact ⟨0, by omega, rfl, fun i hi => by omega, 0, rfl⟩
    case round =>
      obtain ⟨k, hk, rfl, hS, d, rfl⟩ := hrel
      have HS := Lib.hid hS
      clear hS
      by_cases hlt : k < n
      · rcases hcs with h0 | ⟨b, off, rfl, hc⟩
        · omega
        rcases hcs' with h0 | ⟨b', off', rfl, hc'⟩
        · omega
        have x0 := hc k hlt
        have y0 := hc' k hlt
        clear hc hc'
        have hk0 : (0 : Int) ≤ (k : Int) := by omega
        have hk1 : (k : Int) < (n : Int) := by omega
        by_cases hx : gi xs k = gi ys k
        · have ht : (gi xs k != gi ys k) = false := by rw [bne_eq_false_iff_eq]; exact hx
          have HX := Lib.hid hx
          clear hx
          go_wp2
          go_quiet (fail)
          go_wp2
          go_roundw
          case rel => exact ⟨k + 1, by omega, by go_num, fun i hi => by
            by_cases e : i = k
            · subst e; exact HX.out
            · exact HS.out i (by omega), _, rfl⟩
          case measure => simp [intOf]; omega
        · have ht : (gi xs k != gi ys k) = true := by rw [bne_iff_ne]; exact hx
          have HX := Lib.hid hx
          clear hx
          go_wp2
          go_quiet (fail)
          go_wp2
          go_ret
          exact bPost_of (by rw [decide_eq_false (fun e => HX.out (by rw [e]))]) (below_drewN (below_drewN (Below.refl _ _) _) _)
      · obtain rfl : k = n := by omega
        go_wp2
        go_ret
        exact bPost_of (by rw [decide_eq_true (sameI_all (HL.out.1.trans HL.out.2.symm) (by rw [HL.out.1]; exact HS.out))]) (below_drewN (Below.refl _ _) _)
  · have hnn : ((n : Int) != (n' : Int)) = true := by rw [bne_iff_ne]; omega
    have HN := Lib.hid hn
    clear hn h h'
    have HL := Lib.hid (And.intro hl hl')
    clear hl hl'
    go_enter Try.func45, Try.ntmps45
    go_wp2
    go_ret
    exact bPost_of (by rw [decide_eq_false (fun e => HN.out (by rw [← HL.out.1, ← HL.out.2, e]))]) (Below.refl _ _)
end Go.Proofs.Ytojjhkahigdkoaa
