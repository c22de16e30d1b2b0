/-
  Layer 19 (assign): the law's own Long.
-/
import Derived.Test.YtbehpkggmomgeaaAsgA
namespace Go.Proofs.Ytbehpkggmomgeaa
open Go.RowKit AsgRows MyHeap

/-- Lists whose lengths are read. -/
structure Lens (w : World) (a : Option Addr) (k : Nat) (ls : Nat → Nat) : Prop where
  bound : k ≤ 1000
  cells : k = 0 ∨ ∃ b off, a = some ⟨b, off, none⟩ ∧ ∀ i, i < k → ∃ ra rc, w.cell? ⟨b, off + i, none⟩ = some (.slice ra (ls i) rc)
def LgPost (n k : Nat) (L : List (List Int)) (ls : Nat → Nat) (w : World) (e : Ending) (w' : World) : Prop :=
  ∃ r : Bool, e = .returned (.bool r) ∧ w = w' ∧ (r = false → n ≤ 20 ∧ (∀ i, i < n → (rowL L i).length ≤ 20) ∧ ∀ i, i < k → ls i ≤ 20)
theorem lgPost_t {n k : Nat} {L : List (List Int)} {ls : Nat → Nat} {w : World} : LgPost n k L ls w (.returned (.bool true)) w := ⟨true, rfl, rfl, fun h => absurd h (by decide)⟩
theorem lgPost_f {n k : Nat} {L : List (List Int)} {ls : Nat → Nat} {w : World} (h1 : n ≤ 20) (h2 : ∀ i, i < n → (rowL L i).length ≤ 20) (h3 : ∀ i, i < k → ls i ≤ 20) : LgPost n k L ls w (.returned (.bool false)) w := ⟨false, rfl, rfl, fun _ => ⟨h1, h2, h3⟩⟩

set_option maxRecDepth 100000 in
set_option maxHeartbeats 4000000 in
theorem long_call (a al : Option Addr) (n c k cl : Nat) (L : List (List Int)) (ls : Nat → Nat) (w : World) (h : Mtx w a n L) (hl : Lens w al k ls) :
    Calls Try.prog 9 #[.slice a n c, .slice al k cl] w (LgPost n k L ls w) := by
  have HM := Lib.hid h
  have HL := Lib.hid hl
  have hb := h.bound
  have hk9 := hl.bound
  clear h hl
  by_cases h20 : 20 < n
  · have hg : (20 : Int) < (n : Int) := by omega
    go_enter Try.func9, Try.ntmps9
    go_wp2_with fail
    go_ret
    exact lgPost_t
  · have hg : ¬ (20 : Int) < (n : Int) := by omega
    go_enter Try.func9, Try.ntmps9
    go_wp2_with fail
    go_loopw [5] (fun kv wr => ∃ i : Nat, i ≤ n ∧ kv = .int .i64 i ∧ (∀ j, j < i → (rowL L j).length ≤ 20) ∧ w = wr) (fun kv _ => n - (intOf kv).toNat)
    case atStart => exact ⟨0, by omega, rfl, fun j hj => by omega, rfl⟩
    case round =>
      obtain ⟨i, hi, rfl, hR, rfl⟩ := hrel
      have HR := Lib.hid hR
      clear hR
      by_cases hin : i < n
      · obtain ⟨b, off, rfl, ra, rc, x0, xi⟩ := mtx_at HM.out hin
        have q0 := World.block_lt_of_cell? w _ x0
        have hi0 : (0 : Int) ≤ (i : Int) := by omega
        have hi1 : (i : Int) < (n : Int) := by omega
        obtain ⟨r, hr⟩ : ∃ r, (rowL L i).length = r := ⟨_, rfl⟩
        have HRL := Lib.hid hr
        rw [hr] at x0
        clear xi hr
        by_cases h2 : 20 < r
        · have hg2 : (20 : Int) < (r : Int) := by omega
          go_wp2_with fail
          go_ret
          exact lgPost_t
        · have hg2 : ¬ (20 : Int) < (r : Int) := by omega
          have HR2 := Lib.hid (show r ≤ 20 by omega)
          go_wp2_with fail
          go_roundw
          case rel => exact ⟨i + 1, by omega, by go_num, fun j hj => by
            by_cases e : j = i
            · subst e; rw [HRL.out]; exact HR2.out
            · exact HR.out j (by omega), trivial⟩
          case measure => simp [intOf]; omega
      · obtain rfl : n = i := by omega
        clear hi hin
        go_wp2_with fail
        go_loopw [6] (fun kv wr => ∃ i : Nat, i ≤ k ∧ kv = .int .i64 i ∧ (∀ j, j < i → ls j ≤ 20) ∧ w = wr) (fun kv _ => k - (intOf kv).toNat)
        case atStart => exact ⟨0, by omega, rfl, fun j hj => by omega, rfl⟩
        case round =>
          obtain ⟨i, hi, rfl, hS, rfl⟩ := hrel
          have HS := Lib.hid hS
          clear hS
          by_cases hik : i < k
          · rcases HL.out.cells with h0 | ⟨b, off, rfl, hc⟩
            · omega
            obtain ⟨ra, rc, x0⟩ := hc i hik
            have q0 := World.block_lt_of_cell? w _ x0
            have hi0 : (0 : Int) ≤ (i : Int) := by omega
            have hi1 : (i : Int) < (k : Int) := by omega
            obtain ⟨r, hr⟩ : ∃ r, ls i = r := ⟨_, rfl⟩
            have HRL := Lib.hid hr
            rw [hr] at x0
            clear hc hr
            by_cases h2 : 20 < r
            · have hg2 : (20 : Int) < (r : Int) := by omega
              go_wp2_with fail
              go_ret
              exact lgPost_t
            · have hg2 : ¬ (20 : Int) < (r : Int) := by omega
              have HR2 := Lib.hid (show r ≤ 20 by omega)
              go_wp2_with fail
              go_roundw
              case rel => exact ⟨i + 1, by omega, by go_num, fun j hj => by
                by_cases e : j = i
                · subst e; rw [HRL.out]; exact HR2.out
                · exact HS.out j (by omega), trivial⟩
              case measure => simp [intOf]; omega
          · obtain rfl : k = i := by omega
            clear hi hik
            go_wp2_with fail
            go_ret
            exact lgPost_f (by omega) HR.out HS.out
end Go.Proofs.Ytbehpkggmomgeaa
