/-
  Layer 37 (pilot): the reference's wrong, walked.
-/
import Derived.Test.YtjidpkcoaoflbaaPilotF
import Derived.Test.YtjidpkcoaoflbaaCopyStep
import Derived.Deep.RegionHeld3
namespace Go.Proofs.Ytjidpkcoaoflbaa
open Go.RowKit PilotMath MyHeap MyCopy

theorem grownB {w w' : World} {base B : Nat} {e : TypeId} {size : Nat} {v : Value} {n : Nat} {xs : List Value} (h : w.ownsRow base e size v n xs) (hg : w.grownBy w' v.ownBlock) (hB : B ≤ base) (hs : B ≤ w.heap.size) : Below B w w' :=
  ⟨hg.os, hg.tape, hg.output, hg.size, fun k hk => hg.block k (by omega) (fun e' => by have := (h.lt k e'.symm).1; omega)⟩

theorem grownAll {w w' : World} (hg : w.grownBy w' (Value.slice none 0 0).ownBlock) : Below w.heap.size w w' := ⟨hg.os, hg.tape, hg.output, hg.size, fun k hk => hg.block k hk (fun e => by cases e)⟩

/-- In the reference's wrong: the state's and the command's blocks, the queue, and nothing of w0 written. -/
def RwK (w0 : World) (T : TypeId) (bS bA : Nat) (aq : Option Addr) (n c : Nat) (x : St) (a : Adv) (w : World) : Prop :=
  w.heap[bS]? = some (.cells (stC (.slice aq n c) x) T (0, 0)) ∧ w.heap[bA]? = some (.cells #[.int .u8 a.s, .int .i64 a.r, .bool a.k] 36 (0, 0)) ∧ Advs w aq n x.q ∧ Below w0.heap.size w0 w
theorem RwK.keep {w0 : World} {T : TypeId} {bS bA : Nat} {aq : Option Addr} {n c : Nat} {x : St} {a : Adv} {w w' : World} (h : RwK w0 T bS bA aq n c x a w) (hb : Below w.heap.size w w') : RwK w0 T bS bA aq n c x a w' := ⟨keepO hb h.1, keepO hb h.2.1, h.2.2.1.below hb, h.2.2.2.trans (hb.mono h.2.2.2.size)⟩
theorem RwK.alloc {w0 : World} {T : TypeId} {bS bA : Nat} {aq : Option Addr} {n c : Nat} {x : St} {a : Adv} {w : World} (h : RwK w0 T bS bA aq n c x a w) (o : Obj) : RwK w0 T bS bA aq n c x a (w.alloc o) := h.keep ((Below.refl _ _).alloc (Nat.le_refl _) _)
theorem RwK.drew {w0 : World} {T : TypeId} {bS bA : Nat} {aq : Option Addr} {n c : Nat} {x : St} {a : Adv} {w : World} (h : RwK w0 T bS bA aq n c x a w) : RwK w0 T bS bA aq n c x a w.drew := h.keep (Below.refl _ _).drew
theorem RwK.cells {w0 : World} {T : TypeId} {bS bA : Nat} {aq : Option Addr} {n c : Nat} {x : St} {a : Adv} {w : World} (h : RwK w0 T bS bA aq n c x a w) :
    w.cell? ⟨bS, 0, none⟩ = some (.slice aq n c) ∧ w.cell? ⟨bS, 1, none⟩ = some (.int .u8 x.due.s) ∧ w.cell? ⟨bS, 2, none⟩ = some (.int .i64 x.due.r) ∧ w.cell? ⟨bS, 3, none⟩ = some (.bool x.due.k) ∧ w.cell? ⟨bS, 4, none⟩ = some (.int .u8 x.fl.s) ∧ w.cell? ⟨bS, 5, none⟩ = some (.int .i64 x.fl.r) ∧ w.cell? ⟨bS, 6, none⟩ = some (.bool x.fl.k) ∧
      w.cell? ⟨bA, 0, none⟩ = some (.int .u8 a.s) ∧ w.cell? ⟨bA, 1, none⟩ = some (.int .i64 a.r) ∧ w.cell? ⟨bA, 2, none⟩ = some (.bool a.k) :=
  ⟨cell_of_block h.1 rfl, cell_of_block h.1 rfl, cell_of_block h.1 rfl, cell_of_block h.1 rfl, cell_of_block h.1 rfl, cell_of_block h.1 rfl, cell_of_block h.1 rfl, cell_of_block h.2.1 rfl, cell_of_block h.2.1 rfl, cell_of_block h.2.1 rfl⟩

set_option maxRecDepth 100000 in
set_option maxHeartbeats 8000000 in
theorem rwrong_loop (d : Nat) (pl ms : Int) (aq : Option Addr) (c : Nat) (x : St) (a : Adv) (w : World) (hq : Advs w aq d x.q) (hnil : aq = none → d = 0 ∧ c = 0) (hp : plE d pl ms = 0) (pq : Pos x.q) (pd : 0 ≤ x.due.s) (pf : 0 ≤ x.fl.s) (pa : 0 ≤ a.s) :
    Calls Try.prog 36 #[.agg #[.int .i64 d, .int .i64 pl, .int .i64 ms], stV (.slice aq d c) x, .agg #[.int .u8 a.s, .int .i64 a.r, .bool a.k]] w (CkPost d pl ms x a w) := by
  have hlen := hq.len
  have hm := hq.bound
  have hd16 : d ≤ 16 := by have := plE_ok hp; omega
  have HQ := Lib.hid hq
  have HNil := Lib.hid hnil
  have HLen := Lib.hid hlen
  have HL := Lib.hid (show (x.q.length : Int) = d by omega)
  have HP := Lib.hid hp
  have hpos : Pos (x.q ++ [x.due, x.fl, a]) := fun b hb => by
    rcases List.mem_append.1 hb with hb | hb
    · exact pq b hb
    · simp at hb
      rcases hb with rfl | rfl | rfl <;> assumption
  have HPos := Lib.hid hpos
  have hne : ((d : Int) != (d : Int)) = false := by simp
  obtain ⟨i0, hi, hiz, his, hib⟩ := info_parts infoAdv
  have HI := Lib.hid (And.intro hi (And.intro hiz (And.intro his hib)))
  clear hq hlen hp hpos pq pd pf pa hnil hi hiz his hib
  unfold stV
  go_enter Try.func36, Try.ntmps36
  go_wp2_with fail
  refine (rCheckP _ _ _ _).mono ?_; rintro e w1 ⟨rfl, hb1⟩
  rw [HP.out]
  have k0 := keepO hb1 (block_alloc (block_alloc (block_new w (.cells #[.int .i64 (d : Int), .int .i64 pl, .int .i64 ms] 23) rfl)))
  have k1 := keepO hb1 (block_alloc (block_new (w.alloc (.cells #[.int .i64 (d : Int), .int .i64 pl, .int .i64 ms] 23)) (.cells (stC (.slice aq d c) x) 48) (n := w.heap.size + 1) (by simp)))
  have k2 := keepO hb1 (block_new ((w.alloc (.cells #[.int .i64 (d : Int), .int .i64 pl, .int .i64 ms] 23)).alloc (.cells (stC (.slice aq d c) x) 48)) (.cells #[.int .u8 a.s, .int .i64 a.r, .bool a.k] 36) (n := w.heap.size + 1 + 1) (by simp))
  have hB : Below w.heap.size w w1 := ((((Below.refl _ w).alloc (Nat.le_refl _) _).alloc (by simp) _).alloc (by simp; omega) _).trans (hb1.mono (by simp; omega))
  have hz := hB.size
  have hzr := lt_of_block k2
  obtain ⟨p0, _, _⟩ := three_old k0
  obtain ⟨q0, _, _, _, _, _, _, _⟩ := eight_cells k1
  have KR := Lib.hid (show RwK w 48 (w.heap.size + 1) (w.heap.size + 1 + 1) aq d c x a w1 from ⟨k1, k2, HQ.out.below hB, hB⟩)
  clear k0 k1 k2 hb1 hB
  go_wp2_with fail
  clear p0 q0
  have K1 := KR.out.drew
  have HO0 := Lib.hid (show ∀ W : World, W.ownsRow w1.heap.size 36 3 (.slice none 0 0) 0 [] from fun _ => ⟨rfl, Or.inl ⟨rfl, rfl⟩⟩)
  go_region_held3 (fun w' => w'.cell? ⟨w.heap.size + 1, 0, none⟩ = some (.slice aq d c) ∧ w'.cell? ⟨w.heap.size + 1, 1, none⟩ = some (.int .u8 x.due.s) ∧ w'.cell? ⟨w.heap.size + 1, 2, none⟩ = some (.int .i64 x.due.r) ∧ w'.cell? ⟨w.heap.size + 1, 3, none⟩ = some (.bool x.due.k) ∧ w'.cell? ⟨w.heap.size + 1, 4, none⟩ = some (.int .u8 x.fl.s) ∧ w'.cell? ⟨w.heap.size + 1, 5, none⟩ = some (.int .i64 x.fl.r) ∧ w'.cell? ⟨w.heap.size + 1, 6, none⟩ = some (.bool x.fl.k) ∧
      w'.cell? ⟨w.heap.size + 1 + 1, 0, none⟩ = some (.int .u8 a.s) ∧ w'.cell? ⟨w.heap.size + 1 + 1, 1, none⟩ = some (.int .i64 a.r) ∧ w'.cell? ⟨w.heap.size + 1 + 1, 2, none⟩ = some (.bool a.k)) (first | exact K1.cells | exact (K1.alloc _).cells) (first
    | (refine step_append_src (by rfl) _ (.tmp 25) 26 (by rfl) w1.heap.size 36 i0 _ 3 24 Try.underlying26 HI.out.1 HI.out.2.1 HI.out.2.2.1 HI.out.2.2.2 (by rfl) (by decide) _ 0 [] (by rfl) (HO0.out _) aq d c (flat3 x.q) (by rfl) HNil.out (by rw [flat3_length, HLen.out]) (by first | exact advs_src K1.2.2.1 | exact advs_src (K1.alloc _).2.2.1) (flat3_cell x.q) (by unfold maxLen; omega) (by omega) (by simp) ?_; intro v7 w7 hown7 hg7; have HbW := Lib.hid (grownAll hg7); have hb17 : Below w1.heap.size w1 w7 := (by first | exact ((Below.refl _ _).drew).trans HbW.out | exact (((Below.refl _ _).drew).alloc (Nat.le_refl _) _).trans (HbW.out.mono (by simp)) | exact (((Below.refl _ _).alloc (Nat.le_refl _) _).drew).trans (HbW.out.mono (by simp))); replace K1 := KR.out.keep hb17; have hz7 := hb17.size; have HB7 := Lib.hid hb17; have HO7 := Lib.hid hown7; clear hown7 hg7 hb17)
    | (refine step_append_src (by rfl) _ (.tmp 32) 26 (by rfl) w1.heap.size 36 i0 _ 3 24 Try.underlying26 HI.out.1 HI.out.2.1 HI.out.2.2.1 HI.out.2.2.2 (by rfl) (by decide) _ (0 + d) _ (by rfl) (by first | exact HO7.out | exact HO7.out.alloc _) _ 3 3 (flat3 [x.due, x.fl, a]) (by rfl) (by simp) (by rw [flat3_length]; simp) (advs_src (advs_block (cs := threeC x a) (T := 36) (fr := (0, 0)) (by first | exact block_new _ _ rfl | exact block_new _ _ (by simp) | exact keepO HbW.out (block_new _ _ rfl) | exact keepO HbW.out (block_new _ _ (by simp))) rfl rfl (by show (3 : Nat) ≤ _; decide))) (flat3_cell _) (by unfold maxLen; omega) (by omega) (by first | exact hz7 | (simp; omega)) ?_; intro v8 w8 hown8 hg8; have hb18 : Below w1.heap.size w1 w8 := (by first | exact HB7.out.trans (grownB HO7.out hg8 (Nat.le_refl _) hz7) | exact (HB7.out.alloc hz7 _).trans (grownB (HO7.out.alloc _) hg8 (Nat.le_refl _) (by simp; omega))); replace K1 := KR.out.keep hb18; have HO8 := Lib.hid hown8; clear hown8 hg8 hb18))
  all_goals
    have hown : w8.ownsRow w1.heap.size 36 3 v8 (x.q ++ [x.due, x.fl, a]).length (flat3 (x.q ++ [x.due, x.fl, a])) := by
      have h := HO8.out
      rw [List.nil_append, ← flat3_append, show 0 + d + 3 = (x.q ++ [x.due, x.fl, a]).length by rw [List.length_append, HLen.out, Nat.zero_add]; rfl] at h
      exact h
    obtain ⟨a8, c8, rfl, hA8, _, _⟩ := advs_own hown (by rw [List.length_append, HLen.out]; simp; omega)
    have hl8 : (x.q ++ [x.due, x.fl, a]).length = d + 3 := by rw [List.length_append, HLen.out]; rfl
    rw [hl8] at hA8 ⊢
    have HA8 := Lib.hid hA8
    have HK8 := Lib.hid K1
    have HE8 := Lib.hid hl8
    have hd3 : d + 3 ≤ 19 := by omega
    generalize hL : x.q ++ [x.due, x.fl, a] = L at *
    have HLL := Lib.hid hL
    clear hown hA8 K1 hl8 hL HO8 HO7 HbW HB7
    go_wp2_with fail
    go_loopw [6, 9] (fun s6 kv wi => s6 = .int .i64 0 ∧ ∃ k : Nat, k ≤ d + 3 ∧ kv = .int .i64 k ∧ OkTo L k ∧ RwK w 48 (w.heap.size + 1) (w.heap.size + 1 + 1) aq d c x a wi ∧ Advs wi a8 (d + 3) L) (fun _ kv _ => d + 3 - (intOf kv).toNat)
    case atStart => exact ⟨rfl, 0, by omega, rfl, fun i hi => by omega, HK8.out, HA8.out⟩
    case round =>
      obtain ⟨rfl, k, hk, rfl, hO, hK, hA⟩ := hrel
      have HI2 := Lib.hid (And.intro hO (And.intro hK hA))
      by_cases hlk : k < d + 3
      · obtain ⟨b, off, rfl, x0, x1, x2⟩ := advs_at hA hlk
        clear hO hK hA
        have hk0 : (0 : Int) ≤ (k : Int) := by omega
        have hk1 : (k : Int) < (d : Int) + 3 := by omega
        go_wp2_with fail
        refine (refBounds_call (ga L k) _ (pos_ga HPos.out k)).mono ?_; rintro e w4 ⟨rfl, hb4⟩
        have hK4 := HI2.out.2.1.keep hb4
        have hA4 := HI2.out.2.2.below hb4
        have H4 := Lib.hid (And.intro hK4 hA4)
        clear hb4 hK4 hA4 x0 x1 x2
        by_cases hE : bndE (ga L k) = 0
        · have HE := Lib.hid hE
          rw [hE]
          clear hE
          go_wp2_with fail
          go_roundw
          case rel => exact ⟨rfl, k + 1, by omega, by go_num, okTo_succ HI2.out.1 HE.out, H4.out.1, H4.out.2⟩
          case measure => simp [intOf]; omega
        · have HE := Lib.hid hE
          have hEb : (bndE (ga L k) != 0) = true := by simp [hE]
          clear hE
          go_wp2_with fail
          go_ret
          have hf := firstE_at (by rw [HE8.out]; exact hlk) HI2.out.1 HE.out
          exact ⟨by rw [cmdE_first HP.out HL.out (by rw [HLL.out, hf]; exact HE.out), HLL.out, hf]; rfl, H4.out.1.2.2.2⟩
      · obtain rfl : k = d + 3 := by omega
        have hF : firstE L = 0 := firstE_ok (by rw [HE8.out]; exact hO)
        have HF := Lib.hid hF
        obtain ⟨_, _, _, _, _, _, _, q7⟩ := eight_cells hK.1
        clear hO hK hA hF
        by_cases hc0 : x.c < 0
        · go_wp2
          go_ret
          exact ⟨by rw [cmdE_count HP.out HL.out (by rw [HLL.out]; exact HF.out) (Or.inl hc0)]; rfl, HI2.out.2.1.2.2.2⟩
        · by_cases hc1 : 1073741824 < x.c
          · go_wp2
            go_ret
            exact ⟨by rw [cmdE_count HP.out HL.out (by rw [HLL.out]; exact HF.out) (Or.inr hc1)]; rfl, HI2.out.2.1.2.2.2⟩
          · go_wp2
            go_ret
            exact ⟨by rw [cmdE_good HP.out HL.out (by rw [HLL.out]; exact HF.out) (by omega)]; rfl, HI2.out.2.1.2.2.2⟩
end Go.Proofs.Ytjidpkcoaoflbaa
