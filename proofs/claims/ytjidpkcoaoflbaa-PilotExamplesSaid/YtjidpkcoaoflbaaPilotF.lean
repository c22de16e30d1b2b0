/-
  Layer 37 (pilot): check, walked.
-/
import Derived.Test.YtjidpkcoaoflbaaPilotE
namespace Go.Proofs.Ytjidpkcoaoflbaa
open Go.RowKit PilotMath MyHeap

def CkPost (d pl ms : Int) (x : St) (a : Adv) (w : World) (e : Ending) (w' : World) : Prop := e = .returned (.int .i64 (cmdE d pl ms x a)) ∧ Below w.heap.size w w'
theorem cmdE_pl {d pl ms : Int} {x : St} {a : Adv} (h : plE d pl ms ≠ 0) : cmdE d pl ms x a = plE d pl ms := by unfold cmdE; rw [if_pos h]
theorem cmdE_len {d pl ms : Int} {x : St} {a : Adv} (h : plE d pl ms = 0) (hl : (x.q.length : Int) ≠ d) : cmdE d pl ms x a = 2 := by unfold cmdE; rw [if_neg (by rw [h]; decide), if_pos hl]
theorem cmdE_first {d pl ms : Int} {x : St} {a : Adv} (h : plE d pl ms = 0) (hl : (x.q.length : Int) = d) (hf : firstE (x.q ++ [x.due, x.fl, a]) ≠ 0) : cmdE d pl ms x a = firstE (x.q ++ [x.due, x.fl, a]) := by unfold cmdE; rw [if_neg (by rw [h]; decide), if_neg (by simpa using hl), if_pos hf]
theorem cmdE_count {d pl ms : Int} {x : St} {a : Adv} (h : plE d pl ms = 0) (hl : (x.q.length : Int) = d) (hf : firstE (x.q ++ [x.due, x.fl, a]) = 0) (hc : x.c < 0 ∨ 1073741824 < x.c) : cmdE d pl ms x a = 7 := by unfold cmdE; rw [if_neg (by rw [h]; decide), if_neg (by simpa using hl), if_neg (by rw [hf]; decide), if_pos hc]
theorem cmdE_good {d pl ms : Int} {x : St} {a : Adv} (h : plE d pl ms = 0) (hl : (x.q.length : Int) = d) (hf : firstE (x.q ++ [x.due, x.fl, a]) = 0) (hc : ¬ (x.c < 0 ∨ 1073741824 < x.c)) : cmdE d pl ms x a = 0 := by unfold cmdE; rw [if_neg (by rw [h]; decide), if_neg (by simpa using hl), if_neg (by rw [hf]; decide), if_neg hc]

/-- The list that check's outer loop takes up, and its length. -/
def ckL (x : St) (a : Adv) (j : Nat) : List Adv := if j = 0 then x.q else [x.due, x.fl, a]
def CkTo (x : St) (a : Adv) (j : Nat) : Prop := ∀ i, i < j → OkTo (ckL x a i) (ckL x a i).length
theorem ck_bad {x : St} {a : Adv} {j k : Nat} (hj : j < 2) (hT : CkTo x a j) (hk : k < (ckL x a j).length) (hO : OkTo (ckL x a j) k) (hb : bndE (ga (ckL x a j) k) ≠ 0) : firstE (x.q ++ [x.due, x.fl, a]) = bndE (ga (ckL x a j) k) := by
  have hf := firstE_at hk hO hb
  rw [firstE_append]
  rcases (show j = 0 ∨ j = 1 by omega) with rfl | rfl
  · have hf' : firstE x.q = bndE (ga x.q k) := hf
    have hb' : bndE (ga x.q k) ≠ 0 := hb
    rw [hf', if_neg hb']; rfl
  · have h0 : firstE x.q = 0 := firstE_ok (hT 0 (by omega))
    rw [h0, if_pos rfl]; exact hf
theorem ck_ok {x : St} {a : Adv} (hT : CkTo x a 2) : firstE (x.q ++ [x.due, x.fl, a]) = 0 := by
  rw [firstE_append, show firstE x.q = 0 from firstE_ok (hT 0 (by omega)), if_pos rfl]
  exact firstE_ok (hT 1 (by omega))

/-- Pos: the senses are bytes. -/
def Pos (l : List Adv) : Prop := ∀ a ∈ l, 0 ≤ a.s
theorem pos_ga {l : List Adv} (h : Pos l) (k : Nat) : 0 ≤ (ga l k).s := by
  unfold ga
  cases hk : l[k]? with
  | none => exact Int.le_refl 0
  | some b => exact h b (List.mem_of_getElem? hk)
theorem ckL_pos {x : St} {a : Adv} (hq : Pos x.q) (hd : 0 ≤ x.due.s) (hf : 0 ≤ x.fl.s) (ha : 0 ≤ a.s) (j : Nat) : Pos (ckL x a j) := by
  unfold ckL
  split
  · exact hq
  · intro b hb
    simp at hb
    rcases hb with rfl | rfl | rfl <;> assumption

def stC (q : Value) (x : St) : Array Value := #[q, .int .u8 x.due.s, .int .i64 x.due.r, .bool x.due.k, .int .u8 x.fl.s, .int .i64 x.fl.r, .bool x.fl.k, .int .i64 x.c]
def threeC (x : St) (a : Adv) : Array Value := #[.int .u8 x.due.s, .int .i64 x.due.r, .bool x.due.k, .int .u8 x.fl.s, .int .i64 x.fl.r, .bool x.fl.k, .int .u8 a.s, .int .i64 a.r, .bool a.k]

/-- In check's loops: the state's block, the two lists' headers, the second list, and nothing of w0 written. -/
def CkK (w0 : World) (bS b1 b2 : Nat) (aq : Option Addr) (n c : Nat) (x : St) (a : Adv) (w : World) : Prop :=
  w.heap[bS]? = some (.cells (stC (.slice aq n c) x) 38 (0, 0)) ∧ w.heap[b1]? = some (.cells (threeC x a) 36 (0, 0)) ∧ w.heap[b2]? = some (.cells #[.slice aq n c, .slice (some ⟨b1, 0, none⟩) 3 3] 26 (0, 0)) ∧ Below w0.heap.size w0 w
theorem CkK.keep {w0 : World} {bS b1 b2 : Nat} {aq : Option Addr} {n c : Nat} {x : St} {a : Adv} {w w' : World} (h : CkK w0 bS b1 b2 aq n c x a w) (hb : Below w.heap.size w w') : CkK w0 bS b1 b2 aq n c x a w' := ⟨keepO hb h.1, keepO hb h.2.1, keepO hb h.2.2.1, h.2.2.2.trans (hb.mono h.2.2.2.size)⟩
theorem CkK.alloc {w0 : World} {bS b1 b2 : Nat} {aq : Option Addr} {n c : Nat} {x : St} {a : Adv} {w : World} (h : CkK w0 bS b1 b2 aq n c x a w) (o : Obj) : CkK w0 bS b1 b2 aq n c x a (w.alloc o) := h.keep ((Below.refl _ _).alloc (Nat.le_refl _) _)
theorem CkK.list {w0 : World} {bS b1 b2 : Nat} {aq : Option Addr} {n c : Nat} {x : St} {a : Adv} {w : World} (h : CkK w0 bS b1 b2 aq n c x a w) (hq : Advs w0 aq n x.q) {j : Nat} (hj : j < 2) : ∃ aj cj, w.cell? ⟨b2, j, none⟩ = some (.slice aj (ckL x a j).length cj) ∧ Advs w aj (ckL x a j).length (ckL x a j) := by
  rcases (show j = 0 ∨ j = 1 by omega) with rfl | rfl
  · refine ⟨aq, c, ?_, ?_⟩
    · have hl : (ckL x a 0).length = n := hq.len
      rw [hl]; exact cell_of_block h.2.2.1 rfl
    · have hl : (ckL x a 0).length = n := hq.len
      rw [hl]; exact hq.below h.2.2.2
  · exact ⟨some ⟨b1, 0, none⟩, 3, cell_of_block h.2.2.1 rfl, advs_block h.2.1 rfl rfl (by show (3 : Nat) ≤ _; decide)⟩

set_option maxRecDepth 100000 in
set_option maxHeartbeats 8000000 in
theorem check_loops (d : Nat) (pl ms : Int) (aq : Option Addr) (c : Nat) (x : St) (a : Adv) (w : World) (hq : Advs w aq d x.q) (hp : plE d pl ms = 0) (pq : Pos x.q) (pd : 0 ≤ x.due.s) (pf : 0 ≤ x.fl.s) (pa : 0 ≤ a.s) :
    Calls Try.prog 32 #[.agg #[.int .i64 d, .int .i64 pl, .int .i64 ms], stV (.slice aq d c) x, .agg #[.int .u8 a.s, .int .i64 a.r, .bool a.k]] w (CkPost d pl ms x a w) := by
  have hlen := hq.len
  have hm := hq.bound
  have HQ := Lib.hid hq
  have HL := Lib.hid (show (x.q.length : Int) = d by omega)
  have HP := Lib.hid hp
  have hpos := ckL_pos pq pd pf pa
  have HPos := Lib.hid hpos
  have hne : ((d : Int) != (d : Int)) = false := by simp
  clear hq hlen hp hpos pq pd pf pa
  unfold stV
  go_enter Try.func32, Try.ntmps32
  go_wp2_with fail
  refine (pCheckP _ _ _ _).mono ?_; rintro e w1 ⟨rfl, hb1⟩
  rw [HP.out]
  have k0 := keepO hb1 (block_alloc (block_alloc (block_new w (.cells #[.int .i64 (d : Int), .int .i64 pl, .int .i64 ms] 23) rfl)))
  have k1 := keepO hb1 (block_alloc (block_new (w.alloc (.cells #[.int .i64 (d : Int), .int .i64 pl, .int .i64 ms] 23)) (.cells (stC (.slice aq d c) x) 38) (n := w.heap.size + 1) (by simp)))
  have k2 := keepO hb1 (block_new ((w.alloc (.cells #[.int .i64 (d : Int), .int .i64 pl, .int .i64 ms] 23)).alloc (.cells (stC (.slice aq d c) x) 38)) (.cells #[.int .u8 a.s, .int .i64 a.r, .bool a.k] 36) (n := w.heap.size + 1 + 1) (by simp))
  have hB : Below w.heap.size w w1 := ((((Below.refl _ w).alloc (Nat.le_refl _) _).alloc (by simp) _).alloc (by simp; omega) _).trans (hb1.mono (by simp; omega))
  have hz := hB.size
  have hzr := lt_of_block k2
  obtain ⟨p0, _, _⟩ := three_old k0
  obtain ⟨q0, q1, q2, q3, q4, q5, q6, q7⟩ := eight_cells k1
  obtain ⟨r0, r1, r2⟩ := three_old k2
  have KR := Lib.hid (And.intro k1 hB)
  clear k0 k1 k2 hb1 hB
  go_wp2_with fail
  have hK0 : CkK w (w.heap.size + 1) w1.heap.size (w1.heap.size + 1) aq d c x a ((w1.alloc (.cells (threeC x a) 36)).alloc (.cells #[.slice aq d c, .slice (some ⟨w1.heap.size, 0, none⟩) 3 3] 26)) :=
    ⟨block_alloc (block_alloc KR.out.1), block_alloc (block_new _ _ rfl), block_new _ _ (by simp), (KR.out.2.alloc hz _).alloc (Nat.le_trans hz (by simp)) _⟩
  have HK0 := Lib.hid hK0
  clear hK0 p0 q0 q1 q2 q3 q4 q5 q6 q7 r0 r1 r2
  generalize hbs : w.heap.size + 1 = bs at *
  generalize hb1' : w1.heap.size = b1 at *
  have HBS := Lib.hid (And.intro hbs hb1')
  clear hbs hb1'
  go_loopw [6, 36] (fun s6 jv wr => s6 = .int .i64 0 ∧ ∃ j : Nat, j ≤ 2 ∧ jv = .int .i64 j ∧ CkTo x a j ∧ CkK w bs b1 (b1 + 1) aq d c x a wr) (fun _ jv _ => 2 - (intOf jv).toNat)
  case atStart => exact ⟨rfl, 0, by omega, rfl, fun i hi => by omega, HK0.out⟩
  case round =>
    obtain ⟨rfl, j, hj, rfl, hT, hK⟩ := hrel
    clear HK0
    have HT := Lib.hid (And.intro hT hK)
    by_cases hlt : j < 2
    · have hj0 : (0 : Int) ≤ (j : Int) := by omega
      have hj1 : (j : Int) < 2 := by omega
      obtain ⟨aj, cj, hcj, hLj⟩ := hK.list HQ.out hlt
      have HLj := Lib.hid hLj
      clear hT hK hLj
      obtain ⟨nj, hnj⟩ : ∃ nj, nj = (ckL x a j).length := ⟨_, rfl⟩
      rw [← hnj] at hcj HLj
      have hmj := HLj.out.bound
      have HNj := Lib.hid hnj
      clear hnj
      go_wp2_with fail
      go_loopw [6, 42] (fun s6 kv wi => s6 = .int .i64 0 ∧ ∃ k : Nat, k ≤ nj ∧ kv = .int .i64 k ∧ OkTo (ckL x a j) k ∧ CkK w bs b1 (b1 + 1) aq d c x a wi ∧ Advs wi aj nj (ckL x a j)) (fun _ kv _ => nj - (intOf kv).toNat)
      case atStart => exact ⟨rfl, 0, by omega, rfl, fun i hi => by omega, HT.out.2, HLj.out⟩
      case round =>
        clear hcj
        obtain ⟨rfl, k, hk, rfl, hO, hK, hL⟩ := hrel
        have HI := Lib.hid (And.intro hO (And.intro hK hL))
        by_cases hlk : k < nj
        · obtain ⟨b, off, rfl, x0, x1, x2⟩ := advs_at hL hlk
          clear hO hK hL
          go_wp2_with fail
          refine (Bounds_call (ga (ckL x a j) k) _ (pos_ga (HPos.out j) k)).mono ?_; rintro e w4 ⟨rfl, hb4⟩
          have hK4 := (HI.out.2.1.alloc (.cells #[.int .u8 (ga (ckL x a j) k).s, .int .i64 (ga (ckL x a j) k).r, .bool (ga (ckL x a j) k).k] 36)).keep hb4
          have hL4 := (HI.out.2.2.below ((Below.refl _ _).alloc (Nat.le_refl _) (.cells #[.int .u8 (ga (ckL x a j) k).s, .int .i64 (ga (ckL x a j) k).r, .bool (ga (ckL x a j) k).k] 36))).below hb4
          have H4 := Lib.hid (And.intro hK4 hL4)
          clear hb4 hK4 hL4 x0 x1 x2
          by_cases hE : bndE (ga (ckL x a j) k) = 0
          · have HE := Lib.hid hE
            rw [hE]
            clear hE
            go_wp2_with fail
            go_roundw
            case rel => exact ⟨rfl, k + 1, by omega, by go_num, okTo_succ HI.out.1 HE.out, H4.out.1, H4.out.2⟩
            case measure => simp [intOf]; omega
          · have HE := Lib.hid hE
            have hEb : (bndE (ga (ckL x a j) k) != 0) = true := by simp [hE]
            clear hE
            go_wp2_with fail
            go_ret
            have hf := ck_bad hlt HT.out.1 (by rw [← HNj.out]; exact hlk) HI.out.1 HE.out
            exact ⟨by rw [cmdE_first HP.out HL.out (by rw [hf]; exact HE.out), hf]; rfl, H4.out.1.2.2.2⟩
        · obtain rfl : k = nj := by omega
          clear hO hK hL
          go_wp2_with fail
          go_roundw
          case rel => exact ⟨rfl, j + 1, by omega, by go_num, fun i hi => by
            by_cases e : i = j
            · subst e; rw [← HNj.out]; exact HI.out.1
            · exact HT.out.1 i (by omega), HI.out.2.1⟩
          case measure => simp [intOf]; omega
    · obtain rfl : j = 2 := by omega
      have hF := ck_ok hT
      have HF := Lib.hid hF
      obtain ⟨_, _, _, _, _, _, _, q7⟩ := eight_cells hK.1
      clear hT hK hF
      by_cases hc0 : x.c < 0
      · go_wp2
        go_ret
        exact ⟨by rw [cmdE_count HP.out HL.out HF.out (Or.inl hc0)]; rfl, HT.out.2.2.2.2⟩
      · by_cases hc1 : 1073741824 < x.c
        · go_wp2
          go_ret
          exact ⟨by rw [cmdE_count HP.out HL.out HF.out (Or.inr hc1)]; rfl, HT.out.2.2.2.2⟩
        · go_wp2
          go_ret
          exact ⟨by rw [cmdE_good HP.out HL.out HF.out (by omega)]; rfl, HT.out.2.2.2.2⟩

set_option maxRecDepth 100000 in
set_option maxHeartbeats 4000000 in
theorem check_call (n : Nat) (d pl ms : Int) (aq : Option Addr) (c : Nat) (x : St) (a : Adv) (w : World) (hq : Advs w aq n x.q) (pq : Pos x.q) (pd : 0 ≤ x.due.s) (pf : 0 ≤ x.fl.s) (pa : 0 ≤ a.s) :
    Calls Try.prog 32 #[.agg #[.int .i64 d, .int .i64 pl, .int .i64 ms], stV (.slice aq n c) x, .agg #[.int .u8 a.s, .int .i64 a.r, .bool a.k]] w (CkPost d pl ms x a w) := by
  have hlen := hq.len
  have hm := hq.bound
  by_cases hp : plE d pl ms = 0
  · by_cases hd : (n : Int) = d
    · subst hd
      exact check_loops n pl ms aq c x a w hq hp pq pd pf pa
    · have HE := Lib.hid (cmdE_len (a := a) hp (by rw [hlen]; exact hd))
      have HP := Lib.hid hp
      have hne : ((n : Int) != d) = true := by simp [hd]
      clear hq hp hd hlen pq pd pf pa
      unfold stV
      go_enter Try.func32, Try.ntmps32
      go_wp2_with fail
      refine (pCheckP _ _ _ _).mono ?_; rintro e w1 ⟨rfl, hb1⟩
      rw [HP.out]
      have k0 := keepO hb1 (block_alloc (block_alloc (block_new w (.cells #[.int .i64 d, .int .i64 pl, .int .i64 ms] 23) rfl)))
      have k1 := keepO hb1 (block_alloc (block_new (w.alloc (.cells #[.int .i64 d, .int .i64 pl, .int .i64 ms] 23)) (.cells (stC (.slice aq n c) x) 38) (n := w.heap.size + 1) (by simp)))
      have hB : Below w.heap.size w w1 := ((((Below.refl _ w).alloc (Nat.le_refl _) _).alloc (by simp) _).alloc (by simp; omega) _).trans (hb1.mono (by simp; omega))
      obtain ⟨p0, _, _⟩ := three_old k0
      obtain ⟨q0, _, _, _, _, _, _, _⟩ := eight_cells k1
      have HB := Lib.hid hB
      clear k0 k1 hb1 hB
      go_wp2
      go_ret
      exact ⟨by rw [HE.out]; rfl, HB.out⟩
  · have HE := Lib.hid (cmdE_pl (x := x) (a := a) hp)
    have hne : (plE d pl ms != 0) = true := by simp [hp]
    clear hq hp hlen pq pd pf pa
    unfold stV
    go_enter Try.func32, Try.ntmps32
    go_wp2_with fail
    refine (pCheckP _ _ _ _).mono ?_; rintro e w1 ⟨rfl, hb1⟩
    have hB : Below w.heap.size w w1 := ((((Below.refl _ w).alloc (Nat.le_refl _) _).alloc (by simp) _).alloc (by simp; omega) _).trans (hb1.mono (by simp; omega))
    have HB := Lib.hid hB
    clear hb1 hB
    go_wp2_with fail
    go_ret
    exact ⟨by rw [HE.out]; rfl, HB.out⟩
end Go.Proofs.Ytjidpkcoaoflbaa
