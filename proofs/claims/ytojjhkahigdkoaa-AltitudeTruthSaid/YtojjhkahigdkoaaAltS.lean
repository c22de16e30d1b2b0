/-
  Layer 18 (altitude): a list of numbers, copied.
-/
import Derived.Test.YtojjhkahigdkoaaAltQ
import Derived.Test.YtojjhkahigdkoaaCopyLib
namespace Go.Proofs.Ytojjhkahigdkoaa
open Go.RowKit AltMath MyHeap MyOwn MyCopy

theorem ownI_ge {w : World} {base : Nat} {e : TypeId} {size : Nat} {v : Value} {n : Nat} {xs : List Value} (h : w.ownsRow base e size v n xs) {b : Nat} (hb : b < base) : v.ownBlock ≠ some b := fun e' => by
  have := (h.lt b e').1
  omega
theorem grownI {w w' : World} {base B : Nat} {e : TypeId} {size : Nat} {v : Value} {n : Nat} {xs : List Value} (h : w.ownsRow base e size v n xs) (hg : w.grownBy w' v.ownBlock) (hB : B ≤ base) (hs : B ≤ w.heap.size) : Below B w w' :=
  ⟨hg.os, hg.tape, hg.output, hg.size, fun k hk => hg.block k (by omega) (fun e' => by have := (h.lt k e'.symm).1; omega)⟩
theorem flatI_take {l : List Int} {k : Nat} (hk : k < l.length) : flatI (l.take (k + 1)) = flatI (l.take k) ++ [.int .i64 (gi l k)] := by
  unfold flatI gi
  rw [List.take_succ_eq_append_getElem hk, List.getElem?_eq_getElem hk]
  simp only [List.map_append, List.map_cons, List.map_nil, Option.getD_some]
theorem ints_own {w : World} {base : Nat} {e : TypeId} {v : Value} {l : List Int} {n : Nat} (hl : l.length = n) (h : w.ownsRow base e 1 v n (flatI l)) (hm : n ≤ 9223372036854775807) : ∃ a c, v = .slice a n c ∧ Ints w a n l := by
  rcases h.2 with ⟨rfl, h0⟩ | ⟨g, cap, cur, rfl, hg, hh, hc, hcm, hcs, htake⟩
  · exact ⟨none, 0, by rw [h0], ⟨hl, hm, Or.inl h0⟩⟩
  · refine ⟨some ⟨g, 0, none⟩, cap, rfl, ⟨hl, hm, Or.inr ⟨g, 0, rfl, fun i hi => ?_⟩⟩⟩
    have hx : (flatI l)[i]? = some (.int .i64 (gi l i)) := by
      unfold flatI gi
      rw [List.getElem?_map, List.getElem?_eq_getElem (by omega)]
      simp
    rw [← htake, List.getElem?_take_of_lt (by omega)] at hx
    rw [Nat.zero_add]
    exact cell_of_block hh (by simpa using hx)
/-- A copy came back, in new memory. -/
def CiPost (l : List Int) (n : Nat) (w : World) (e : Ending) (w' : World) : Prop := ∃ v, e = .returned v ∧ w'.ownsRow w.heap.size 3 1 v n (flatI l) ∧ Below w.heap.size w w'

set_option maxRecDepth 100000 in
set_option maxHeartbeats 4000000 in
theorem copyInts_call (a : Option Addr) (n c : Nat) (l : List Int) (w : World) (h : Ints w a n l) (hn : n ≤ 1000) :
    Calls Try.prog 34 #[.slice a n c] w (CiPost l n w) := by
  have HL := Lib.hid h
  obtain ⟨i0, hi, hiz, his, hib⟩ := info_parts' infoI
  have HI := Lib.hid (And.intro hi (And.intro hiz (And.intro his hib)))
  clear h hi hiz his hib
  go_enter Try.func34, Try.ntmps34
  go_wp2
  go_loopw [3, 4] (fun v kv wr => ∃ k : Nat, k ≤ n ∧ kv = .int .i64 k ∧ wr.ownsRow w.heap.size 3 1 v k (flatI (l.take k)) ∧ Below w.heap.size w wr) (fun _ kv _ => n - (intOf kv).toNat)
  case atStart => exact ⟨0, by omega, rfl, ⟨rfl, Or.inl ⟨rfl, rfl⟩⟩, Below.refl _ _⟩
  case round =>
    obtain ⟨k, hk, rfl, hO, hB⟩ := hrel
    have H := Lib.hid (And.intro hO hB)
    by_cases hlt : k < n
    · obtain ⟨b, off, rfl, x0⟩ := ints_at (HL.out.below hB) hlt
      have hk0 : (0 : Int) ≤ (k : Int) := by omega
      have hk1 : (k : Int) < (n : Int) := by omega
      have hz := hB.size
      have HZ := Lib.hid hz
      have hown : (wr.alloc (.cells #[.int .i64 (gi l k)] 3)).ownsRow w.heap.size 3 1 _ k (flatI (l.take k)) := ownsRow_below hO (below_alloc wr _) (Nat.le_refl _)
      have HO := Lib.hid hown
      clear hO hB hown
      go_wp2_with (refine wpList_append_src rfl _ _ 22 rfl w.heap.size 3 i0 _ 1 8 Try.underlying22 HI.out.1 HI.out.2.1 HI.out.2.2.1 HI.out.2.2.2 rfl (by decide) _ k _ rfl HO.out (some ⟨wr.heap.size, 0, none⟩) 1 1 [.int .i64 (gi l k)] rfl (fun e => by cases e) rfl ?c1 ?c2 ?c3 ?c4 ?c5 ?_; rotate_right; intro v7 w7 hown7 hgrow)
      case c1 => intro ad had; cases had; exact cells_one rfl
      case c2 => intro u hu; simp at hu; subst hu; rfl
      case c3 => unfold maxLen; omega
      case c4 => omega
      case c5 => have := HZ.out; simp; omega
      have hg' := grownI (B := w.heap.size) HO.out hgrow (Nat.le_refl _) (by have := HZ.out; simp; omega)
      go_roundw
      case rel => exact ⟨k + 1, by omega, by go_num, by rw [flatI_take (by rw [HL.out.len]; exact hlt)]; exact hown7, (H.out.2.alloc HZ.out _).trans hg'⟩
      case measure => simp [intOf]; omega
    · obtain rfl : k = n := by omega
      clear hO hB
      go_wp2
      go_ret
      exact ⟨_, rfl, by have := H.out.1; rwa [List.take_of_length_le (by rw [HL.out.len]; exact Nat.le_refl _)] at this, H.out.2⟩
end Go.Proofs.Ytojjhkahigdkoaa
