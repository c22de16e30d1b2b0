/-
  Layer 19 (assign): the examples' function that makes a matrix of one number; a row more.
-/
import Derived.Test.YtbehpkggmomgeaaAsgEa
import Derived.Test.YtbehpkggmomgeaaAsgS
import Derived.Test.YtbehpkggmomgeaaAsgD
namespace Go.Proofs.Ytbehpkggmomgeaa
open Go.RowKit AsgRows AsgMath MyHeap MyOwn MyCopy

theorem infoI2 : (Try.prog.info? 3).map (fun i => (i.zero, i.size, i.bytes)) = some (some (.int .i64 0), 1, 8) := by kernel_rfl
theorem hmkI (n : Nat) (hn : n ≤ 1000000) (W : World) : (Instr.makeSlice 24 (.int .i64 (n : Int)) (.int .i64 (n : Int))).run Try.prog W = .ok (.slice (some ⟨W.heap.size, 0, none⟩) n n) (W.alloc (.cells (madeCells #[.int .i64 0] n) 3)) := by
  obtain ⟨i0, hi, hiz, his, hib⟩ := info_parts' infoI2
  have h := run_make W 24 3 i0 _ Try.underlying24 hi hiz .i64 .i64 (n : Int) (n : Int) (by omega) (by omega) (by rw [hib]; omega) (by omega)
  rw [Int.toNat_natCast, his, Nat.mul_one] at h
  exact h
theorem flatI_len2 (l : List Int) : (flatI l).length = l.length := by unfold flatI; rw [List.length_map]
theorem own_row {w : World} {b base n : Nat} {cs : Array Value} {ys : List Int} (h : w.heap[b]? = some (.cells cs 3 (0, 0))) (hb : base ≤ b) (hcs : cs.toList = flatI ys) (hn : ys.length = n) (hm : n ≤ 1000) : w.ownsRow base 3 1 (.slice (some ⟨b, 0, none⟩) n n) n (flatI ys) := by
  have hl : (flatI ys).length = n := by rw [flatI_len2, hn]
  refine ⟨by rw [hl, Nat.mul_one], Or.inr ⟨b, n, cs, rfl, hb, h, Nat.le_refl _, by unfold maxLen; omega, ?_, ?_⟩⟩
  · rw [Nat.mul_one, ← Array.length_toList, hcs, hl]
  · rw [hcs, Nat.mul_one]
    exact List.take_of_length_le (by rw [hl]; exact Nat.le_refl _)
def sqR (m : Nat) (x : Int) (k : Nat) : List Int := List.replicate k x ++ List.replicate (m - k) 0
theorem sqR_next {m k : Nat} {x : Int} (hk : k < m) : (sqR m x k).set k x = sqR m x (k + 1) := by
  unfold sqR
  obtain ⟨d, hd⟩ : ∃ d, m - k = d + 1 := ⟨m - k - 1, by omega⟩
  rw [hd, show m - (k + 1) = d by omega, List.replicate_succ, List.set_append, List.length_replicate, if_neg (Nat.lt_irrefl _), Nat.sub_self, List.set_cons_zero, List.replicate_succ' (n := k), List.append_assoc]
  rfl
theorem sqR_len {m k : Nat} {x : Int} (hk : k ≤ m) : (sqR m x k).length = m := by unfold sqR; rw [List.length_append, List.length_replicate, List.length_replicate]; omega
theorem sqR_all {m : Nat} {x : Int} : sqR m x m = List.replicate m x := by unfold sqR; rw [Nat.sub_self]; simp
def Rx (W : World) (b m : Nat) (x : Int) (k : Nat) : Prop := ∃ cs : Array Value, W.heap[b]? = some (.cells cs 3 (0, 0)) ∧ cs.toList = flatI (sqR m x k)
theorem rx_made {W : World} {b m : Nat} {x : Int} (h : W.heap[b]? = some (.cells (madeCells #[.int .i64 0] m) 3 (0, 0))) : Rx W b m x 0 := by
  refine ⟨_, h, ?_⟩
  rw [toList_madeCells_one]
  unfold sqR flatI
  simp
theorem Rx.cell {W : World} {b m k j : Nat} {x : Int} (h : Rx W b m x k) (hk : k ≤ m) (hj : j < m) : ∃ u, W.cell? ⟨b, j, none⟩ = some u ∧ W.frozen? ⟨b, j, none⟩ = false ∧ b < W.heap.size := by
  obtain ⟨cs, h1, h2⟩ := h
  have hl : cs.size = m := by rw [← Array.length_toList, h2, flatI_len2, sqR_len hk]
  exact ⟨_, cell_of_block h1 (Array.getElem?_eq_getElem (by omega)), free_of_block h1, lt_of_block h1⟩
theorem Rx.set {W : World} {b m k : Nat} {x : Int} (h : Rx W b m x k) (hk : k < m) : Rx (W.setCell ⟨b, k, none⟩ (.int .i64 x)) b m x (k + 1) := by
  obtain ⟨cs, h1, h2⟩ := h
  exact ⟨cs.setIfInBounds k (.int .i64 x), block_setCell h1, by rw [Array.toList_setIfInBounds, h2, flatI_setI, sqR_next hk]⟩
theorem sqL_take {n m k : Nat} {x : Int} (hk : k ≤ n) : (sqL n m x).take k = sqL k m x := by unfold sqL; rw [List.take_replicate, Nat.min_eq_left hk]
theorem sqL_rlen {n m k : Nat} {x : Int} (hk : k < n) : (rowL (sqL n m x) k).length = m := by rw [sqL_row hk, List.length_replicate]

set_option maxRecDepth 100000 in
set_option maxHeartbeats 4000000 in
theorem square_call (n m : Nat) (x : Int) (w : World) (hn : n ≤ 100) (hm : m ≤ 100) :
    Calls Try.prog 26 #[.int .i64 (n : Int), .int .i64 (m : Int), .int .i64 x] w (CrPost (sqL n m x) w) := by
  obtain ⟨i0, hi, hiz, his, hib⟩ := info_parts' infoS
  have HI := Lib.hid (And.intro hi (And.intro hiz (And.intro his hib)))
  have mk := hmkI m (by omega)
  clear hi hiz his hib
  go_enter Try.func26, Try.ntmps26
  go_wp2_with fail
  go_loopw [7, 8] (fun v kv wr => ∃ (k : Nat) (vs : List Value), k ≤ n ∧ kv = .int .i64 k ∧ OwnM wr w.heap.size v vs (sqL k m x) ∧ Below w.heap.size w wr) (fun _ kv _ => n - (intOf kv).toNat)
  case atStart => exact ⟨0, [], by omega, rfl, OwnM.nil, Below.refl _ _⟩
  case round =>
    obtain ⟨k, vs, hk, rfl, hO, hB⟩ := hrel
    have H := Lib.hid (And.intro hO hB)
    clear hO hB
    by_cases hlt : k < n
    · have hk0 : (0 : Int) ≤ (k : Int) := by omega
      have hk1 : (k : Int) < (n : Int) := by omega
      have HR0 := Lib.hid (rx_made (x := x) (block_new wr (.cells (madeCells #[.int .i64 0] m) 3 (0, 0)) rfl))
      have HB0 := Lib.hid (below_alloc wr (.cells (madeCells #[.int .i64 0] m) 3 (0, 0)))
      generalize wr = wo at *
      go_wp2_with fail
      go_loopw [10] (fun jv w2 => ∃ j : Nat, j ≤ m ∧ jv = .int .i64 j ∧ Rx w2 wo.heap.size m x j ∧ Below wo.heap.size wo w2) (fun jv _ => m - (intOf jv).toNat)
      case atStart => exact ⟨0, by omega, rfl, HR0.out, HB0.out⟩
      case round =>
        clear HR0 HB0
        obtain ⟨j, hj, rfl, hR, hB⟩ := hrel
        have K := Lib.hid (And.intro hR hB)
        clear hR hB
        by_cases hjm : j < m
        · have hj0 : (0 : Int) ≤ (j : Int) := by omega
          have hj1 : (j : Int) < (m : Int) := by omega
          obtain ⟨u0, x0, f0, ql⟩ := K.out.1.cell hj hjm
          have HS := Lib.hid (And.intro (K.out.1.set hjm) (K.out.2.setCell (p := ⟨wo.heap.size, j, none⟩) (Nat.le_refl _) (.int .i64 x)))
          go_wp2_with fail
          go_roundw
          case rel => exact ⟨j + 1, by omega, by go_num, HS.out.1, HS.out.2⟩
          case measure => simp [intOf]; omega
        · obtain rfl : m = j := by omega
          have HU := Lib.hid (show wr.ownsRow wo.heap.size 3 1 (.slice (some ⟨wo.heap.size, 0, none⟩) m m) m (flatI (List.replicate m x)) from by
            obtain ⟨cs, h1, h2⟩ := K.out.1
            rw [sqR_all] at h2
            exact own_row h1 (Nat.le_refl _) h2 List.length_replicate (by omega))
          have hlk : (sqL k m x).length = k := sqL_len
          have HO := Lib.hid (show (wr.alloc (.cells #[.slice (some ⟨wo.heap.size, 0, none⟩) m m] 24)).ownsRow w.heap.size 24 1 u7 k vs from by
            have h := (ownsRow_below H.out.1.top K.out.2 (Nat.le_refl _)).alloc (.cells #[.slice (some ⟨wo.heap.size, 0, none⟩) m m] 24)
            rw [hlk] at h
            exact h)
          have hz : w.heap.size ≤ wr.heap.size := Nat.le_trans H.out.2.size K.out.2.size
          have HZ := Lib.hid hz
          clear hlk hz
          go_wp2_with (refine wpList_append_src rfl _ _ 22 rfl w.heap.size 24 i0 _ 1 24 Try.underlying22 HI.out.1 HI.out.2.1 HI.out.2.2.1 HI.out.2.2.2 rfl (by decide) _ k _ rfl HO.out (some ⟨wr.heap.size, 0, none⟩) 1 1 [.slice (some ⟨wo.heap.size, 0, none⟩) m m] rfl (fun e => by cases e) rfl ?c1 ?c2 ?c3 ?c4 ?c5 ?_; rotate_right; intro v7 w7 hown7 hgrow)
          case c1 => intro ad had; cases had; exact cells_one rfl
          case c2 => intro u hu; simp at hu; subst hu; rfl
          case c3 => unfold maxLen; omega
          case c4 => omega
          case c5 => have := HZ.out; simp <;> omega
          go_roundw
          case rel => exact ⟨k + 1, vs ++ [.slice (some ⟨wo.heap.size, 0, none⟩) m m], by omega, by go_num, by
            have h1 : OwnM wo w.heap.size u7 vs ((sqL (k + 1) m x).take k) := by rw [sqL_take (by omega)]; exact H.out.1
            have h2 := h1.snoc (by rw [sqL_len]; omega) K.out.2 (by rw [sqL_rlen (by omega), sqL_row (by omega)]; exact HU.out) H.out.2.size hgrow hown7
            rw [sqL_take (Nat.le_refl _)] at h2
            exact h2, ((H.out.2.trans (K.out.2.mono H.out.2.size)).alloc HZ.out _).trans (grownI HO.out hgrow (Nat.le_refl _) (by have := HZ.out; simp; omega))⟩
          case measure => simp [intOf]; omega
    · obtain rfl : n = k := by omega
      clear hk hlt
      go_wp2_with fail
      go_ret
      exact ⟨_, vs, rfl, H.out.1, H.out.2⟩
end Go.Proofs.Ytbehpkggmomgeaa
