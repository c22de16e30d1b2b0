/-
  Layer 18 (altitude): the law's among.
-/
import Derived.Test.YtojjhkahigdkoaaAltU
import Derived.Test.YtojjhkahigdkoaaAltLaw
namespace Go.Proofs.Ytojjhkahigdkoaa
open Go.RowKit AltMath MyHeap MyCopy

/-- Two bands, each in a block, and their rows. -/
structure AmK (w0 : World) (b1 o1 b2 o2 b3 o3 b4 o4 c1 c2 c3 c4 : Nat) (lo hi lo' hi' : List Int) (W : World) : Prop where
  B : Below w0.heap.size w0 W
  P : W.heap[w0.heap.size]? = some (.cells #[.slice (some ⟨b1, o1, none⟩) 201 c1, .slice (some ⟨b2, o2, none⟩) 201 c2] 24 (0, 0))
  Q : W.heap[w0.heap.size + 1]? = some (.cells #[.slice (some ⟨b3, o3, none⟩) 201 c3, .slice (some ⟨b4, o4, none⟩) 201 c4] 24 (0, 0))
  i1 : Ints W (some ⟨b1, o1, none⟩) 201 lo
  i2 : Ints W (some ⟨b2, o2, none⟩) 201 hi
  i3 : Ints W (some ⟨b3, o3, none⟩) 201 lo'
  i4 : Ints W (some ⟨b4, o4, none⟩) 201 hi'
theorem AmK.keep {w0 : World} {b1 o1 b2 o2 b3 o3 b4 o4 c1 c2 c3 c4 : Nat} {lo hi lo' hi' : List Int} {W W' : World} (h : AmK w0 b1 o1 b2 o2 b3 o3 b4 o4 c1 c2 c3 c4 lo hi lo' hi' W) (hb : Below W.heap.size W W') : AmK w0 b1 o1 b2 o2 b3 o3 b4 o4 c1 c2 c3 c4 lo hi lo' hi' W' :=
  ⟨h.B.trans (hb.mono h.B.size), keepO hb h.P, keepO hb h.Q, h.i1.below hb, h.i2.below hb, h.i3.below hb, h.i4.below hb⟩
theorem ints_cell {w : World} {b o n : Nat} {l : List Int} (h : Ints w (some ⟨b, o, none⟩) n l) {k : Nat} (hk : k < n) : w.cell? ⟨b, o + k, none⟩ = some (.int .i64 (gi l k)) := by
  obtain ⟨_, _, e, x⟩ := ints_at h hk
  cases e
  exact x

set_option maxRecDepth 100000 in
set_option maxHeartbeats 8000000 in
theorem among_yes (b1 o1 b2 o2 b3 o3 b4 o4 c1 c2 c3 c4 : Nat) (lo hi lo' hi' : List Int) (w : World) (h1 : Ints w (some ⟨b1, o1, none⟩) 201 lo) (h2 : Ints w (some ⟨b2, o2, none⟩) 201 hi) (h3 : Ints w (some ⟨b3, o3, none⟩) 201 lo') (h4 : Ints w (some ⟨b4, o4, none⟩) 201 hi') (ha : amB lo hi lo' hi') :
    Calls Try.prog 22 #[bdV (some ⟨b1, o1, none⟩) 201 c1 (some ⟨b2, o2, none⟩) 201 c2, bdV (some ⟨b3, o3, none⟩) 201 c3 (some ⟨b4, o4, none⟩) 201 c4] w (BPost true w) := by
  have hb : Below w.heap.size w ((w.alloc (.cells #[.slice (some ⟨b1, o1, none⟩) 201 c1, .slice (some ⟨b2, o2, none⟩) 201 c2] 24)).alloc (.cells #[.slice (some ⟨b3, o3, none⟩) 201 c3, .slice (some ⟨b4, o4, none⟩) 201 c4] 24)) := (below_alloc w _).alloc (by simp) _
  have K := Lib.hid (show AmK w b1 o1 b2 o2 b3 o3 b4 o4 c1 c2 c3 c4 lo hi lo' hi' ((w.alloc (.cells #[.slice (some ⟨b1, o1, none⟩) 201 c1, .slice (some ⟨b2, o2, none⟩) 201 c2] 24)).alloc (.cells #[.slice (some ⟨b3, o3, none⟩) 201 c3, .slice (some ⟨b4, o4, none⟩) 201 c4] 24)) from
    ⟨hb, block_alloc (block_new _ _ rfl), block_new _ _ (by simp), h1.below hb, h2.below hb, h3.below hb, h4.below hb⟩)
  have HA := Lib.hid ha
  clear h1 h2 h3 h4 ha hb
  unfold bdV
  go_enter Try.func22, Try.ntmps22
  go_wp2_with fail
  go_loopw [5] (fun kv wr => ∃ k : Nat, k ≤ 201 ∧ kv = .int .i64 k ∧ AmK w b1 o1 b2 o2 b3 o3 b4 o4 c1 c2 c3 c4 lo hi lo' hi' wr) (fun kv _ => 201 - (intOf kv).toNat)
  case atStart => exact ⟨0, by omega, rfl, K.out⟩
  case round =>
    clear K
    obtain ⟨k, hk, rfl, hK⟩ := hrel
    have K := Lib.hid hK
    clear hK
    by_cases hlt : k < 201
    · have hk0 : (0 : Int) ≤ (k : Int) := by omega
      have hk1 : (k : Int) < 201 := by omega
      obtain ⟨p0, p1, -, -⟩ := two_facts K.out.P
      obtain ⟨q0, q1, -, -⟩ := two_facts K.out.Q
      have x1 := ints_cell K.out.i1 hlt
      have x2 := ints_cell K.out.i2 hlt
      have x3 := ints_cell K.out.i3 hlt
      have x4 := ints_cell K.out.i4 hlt
      have hA := HA.out k hlt
      generalize gi lo k = X1 at *
      generalize gi hi k = X2 at *
      generalize gi lo' k = X3 at *
      generalize gi hi' k = X4 at *
      by_cases hc : X1 ≤ X2
      · have e1 : decide (X1 ≤ X2) = true := decide_eq_true hc
        have e2 : decide (X1 < X3) = false := decide_eq_false (by have := (hA hc).1; omega)
        have e3 : decide (X4 < X2) = false := decide_eq_false (by have := (hA hc).2; omega)
        clear hA hc
        go_wp2
        go_quiet (fail)
        go_wp2
        go_roundw
        case rel => exact ⟨k + 1, by omega, by go_num, K.out.keep (below_drewN (Below.refl _ _) _)⟩
        case measure => simp [intOf]; omega
      · have e1 : decide (X1 ≤ X2) = false := decide_eq_false hc
        clear hA hc
        go_wp2
        go_quiet (fail)
        go_wp2
        go_roundw
        case rel => exact ⟨k + 1, by omega, by go_num, K.out.keep (below_drewN (Below.refl _ _) _)⟩
        case measure => simp [intOf]; omega
    · obtain rfl : k = 201 := by omega
      go_wp2
      go_ret
      exact bPost_of rfl K.out.B
end Go.Proofs.Ytojjhkahigdkoaa
