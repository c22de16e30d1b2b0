/-
  Layer 37 (pilot): the law PilotDelay, walked. Printed by genPilotQ.py.
-/
import Derived.Test.YtjidpkcoaoflbaaPilotN
import Derived.Test.YtjidpkcoaoflbaaPilotLaw
import Derived.IntWalk
import Derived.Test.YtjidpkcoaoflbaaStoreLib
import Derived.Test.YtjidpkcoaoflbaaStoreState
import Derived.Test.YtjidpkcoaoflbaaCopyWide
import Derived.Deep.RegionHeld3
import Derived.Deep.DeepCutAuto
import Derived.Deep.DrawnRows
namespace Go.Proofs.Ytjidpkcoaoflbaa
open Go.RowKit PilotMath MyHeap MyOwn PlaneMath MyCopy
attribute [local go_sem ↓] storeRunP Go.wp_at_zero Go.wp_at_succ
attribute [local go_sem] blk8_mk ptr8_mk cls8_mk agg8_mk
attribute [local go_sem] rowAt_new Go.MyCopyWide.setRow_last

theorem advs_cells3 {w : World} {b off n : Nat} {l : List Adv} (h : Advs w (some ⟨b, off, none⟩) n l) {k : Nat} (hk : k < n) : w.cell? ⟨b, off + k * 3, none⟩ = some (.int .u8 (ga l k).s) ∧ w.cell? ⟨b, off + k * 3 + 1, none⟩ = some (.int .i64 (ga l k).r) ∧ w.cell? ⟨b, off + k * 3 + 2, none⟩ = some (.bool (ga l k).k) := by
  obtain ⟨b', off', e, h0, h1, h2⟩ := advs_at h hk
  cases e
  exact ⟨h0, h1, h2⟩
/-- In PilotDelay: the pilot, the state with its queue, and nothing of w0 written. -/
def DlK (w0 : World) (bS : Nat) (d : Nat) (pl ms : Int) (aq : Option Addr) (c : Nat) (y : St) (w : World) : Prop :=
  w.heap[w0.heap.size]? = some (.cells #[.int .i64 (d : Int), .int .i64 pl, .int .i64 ms] 23 (0, 0)) ∧ w.heap[bS]? = some (.cells (stC (.slice aq d c) y) 38 (0, 0)) ∧
  Advs w aq d y.q ∧ (d = 0 ∨ ∃ g off, aq = some ⟨g, off, none⟩ ∧ g ≠ bS) ∧ Below w0.heap.size w0 w
section
variable {w0 : World} {bS d : Nat} {pl ms : Int} {aq : Option Addr} {c : Nat} {y : St} {w w' : World}
theorem DlK.keep (h : DlK w0 bS d pl ms aq c y w) (hb : Below w.heap.size w w') : DlK w0 bS d pl ms aq c y w' :=
  ⟨keepO hb h.1, keepO hb h.2.1, h.2.2.1.below hb, h.2.2.2.1, h.2.2.2.2.trans (hb.mono h.2.2.2.2.size)⟩
theorem DlK.alloc (h : DlK w0 bS d pl ms aq c y w) (o : Obj) : DlK w0 bS d pl ms aq c y (w.alloc o) := h.keep ((Below.refl _ _).alloc (Nat.le_refl _) _)
theorem DlK.drew (h : DlK w0 bS d pl ms aq c y w) : DlK w0 bS d pl ms aq c y w.drew := h.keep (Below.refl _ _).drew
theorem DlK.only (h : DlK w0 bS d pl ms aq c y w) {b : Nat} (hO : Only b w w') (h1 : w0.heap.size < b) (h2 : bS ≠ b) (h3 : d = 0 ∨ ∃ g off, aq = some ⟨g, off, none⟩ ∧ g ≠ b) : DlK w0 bS d pl ms aq c y w' := by
  refine ⟨hO.keeps h.1 (Nat.ne_of_lt h1), hO.keeps h.2.1 h2, ?_, h.2.2.2.1, h.2.2.2.2.trans (hO.below (Nat.le_of_lt h1) h.2.2.2.2.size)⟩
  rcases h3 with h0 | ⟨g, off, e, hg⟩
  · exact ⟨h.2.2.1.len, h.2.2.1.bound, Or.inl h0⟩
  · subst e; exact advs_only h.2.2.1 hO hg
theorem DlK.row (h : DlK w0 bS d pl ms aq c y w) {b : Nat} {X : Array Value} (h1 : w0.heap.size < b) (h2 : bS ≠ b) (h3 : d = 0 ∨ ∃ g off, aq = some ⟨g, off, none⟩ ∧ g ≠ b) : DlK w0 bS d pl ms aq c y (w.setRow b X) := h.only (only_setRow _ _ _) h1 h2 h3
theorem DlK.fresh (h : DlK w0 bS d pl ms aq c y w) : w0.heap.size < w.heap.size ∧ bS ≠ w.heap.size ∧ (d = 0 ∨ ∃ g off, aq = some ⟨g, off, none⟩ ∧ g ≠ w.heap.size) := by
  refine ⟨lt_of_block h.1, Nat.ne_of_lt (lt_of_block h.2.1), ?_⟩
  rcases h.2.2.1.cells with h0 | ⟨g, off, e, hc⟩
  · exact Or.inl h0
  · by_cases h0 : d = 0
    · exact Or.inl h0
    · have := World.block_lt_of_cell? w _ (hc 0 (by omega)).1
      exact Or.inr ⟨g, off, e, Nat.ne_of_lt this⟩
/-- The state stored anew. -/
theorem DlK.store (h : DlK w0 bS d pl ms aq c y w) {aq' : Option Addr} {c' : Nat} {y' : St} (hS : w'.heap[bS]? = some (.cells (stC (.slice aq' d c') y') 38 (0, 0))) (hO : Only bS w w') (hA : Advs w aq' d y'.q) (hap : d = 0 ∨ ∃ g off, aq' = some ⟨g, off, none⟩ ∧ g ≠ bS) (h1 : w0.heap.size < bS) : DlK w0 bS d pl ms aq' c' y' w' := by
  refine ⟨hO.keeps h.1 (Nat.ne_of_lt h1), hS, ?_, hap, h.2.2.2.2.trans (hO.below (Nat.le_of_lt h1) h.2.2.2.2.size)⟩
  rcases hap with h0 | ⟨g, off, e, hg⟩
  · exact ⟨hA.len, hA.bound, Or.inl h0⟩
  · subst e; exact advs_only hA hO hg
end
/-- What Command leaves where there is no error. -/
theorem cmdPost_good {d n : Nat} {pl ms : Int} {x y : St} {a : Adv} {w : World} {e : Ending} {w' : World} (h : CmdPost d pl ms x a w e w') (hE : cmdE d pl ms x a = 0) (hy : nx ms x a = y) (hn : y.q.length = n) :
    ∃ aq c, e = .returned (.tuple #[.agg #[.slice aq n c, .int .u8 y.due.s, .int .i64 y.due.r, .bool y.due.k, .int .u8 y.fl.s, .int .i64 y.fl.r, .bool y.fl.k, .int .i64 y.c], .int .i64 0]) ∧ Advs w' aq n y.q ∧ n ≤ c ∧ (n = 0 ∨ ∃ g off, aq = some ⟨g, off, none⟩ ∧ w.heap.size ≤ g) ∧ Below w.heap.size w w' := by
  subst hy hn
  have e' : cmdS d pl ms x a = nx ms x a := if_pos hE
  unfold CmdPost at h
  rw [e', hE] at h
  obtain ⟨aq, c, rfl, hq, hB⟩ := h
  exact ⟨aq, c, rfl, hq.1, hq.2.2.1, hq.apart3 rfl, hB⟩
/-- What Command leaves where there is an error. -/
theorem cmdPost_bad {d : Nat} {pl ms E : Int} {x : St} {a : Adv} {w : World} {e : Ending} {w' : World} (h : CmdPost d pl ms x a w e w') (hE : cmdE d pl ms x a = E) (h0 : E ≠ 0) :
    ∃ aq c, e = .returned (.tuple #[.agg #[.slice aq 0 c, .int .u8 0, .int .i64 0, .bool false, .int .u8 0, .int .i64 0, .bool false, .int .i64 0], .int .i64 E]) ∧ Below w.heap.size w w' := by
  have e' : cmdS d pl ms x a = stZ := if_neg (by rw [hE]; exact h0)
  unfold CmdPost at h
  rw [e', hE] at h
  obtain ⟨aq, c, rfl, hq, hB⟩ := h
  exact ⟨aq, c, rfl, hB⟩

theorem advs_row {w : World} {b d : Nat} {X : Array Value} {aq : Option Addr} {q : List Adv} (h : Advs w aq d q) (hap : d = 0 ∨ ∃ g off, aq = some ⟨g, off, none⟩ ∧ g ≠ b) : Advs (w.setRow b X) aq d q := by
  rcases hap with h0 | ⟨g, off, e, hg⟩
  · exact ⟨h.len, h.bound, Or.inl h0⟩
  · subst e; exact advs_only h (only_setRow _ _ _) hg
theorem apart_of {d : Nat} {aq : Option Addr} {bS B : Nat} (h : d = 0 ∨ ∃ g off, aq = some ⟨g, off, none⟩ ∧ B ≤ g) (hb : bS < B) : d = 0 ∨ ∃ g off, aq = some ⟨g, off, none⟩ ∧ g ≠ bS :=
  h.imp id fun ⟨g, o, e, hg⟩ => ⟨g, o, e, by omega⟩
theorem stK_goodTo {ms : Int} {d : Nat} {l : List Adv} {k : Nat} (h : ∀ i, 0 ≤ (ga l i).s) (hok : OkTo l k) : PilotMath.Good (stK ms d l k) := by
  induction k with
  | zero => exact good_st0 d
  | succ k ih => exact good_nx (ih fun i hi => hok i (by omega)) ⟨hok k (by omega), h k⟩

set_option maxRecDepth 100000 in
set_option maxHeartbeats 16000000 in
theorem DelayLaw_run (a : Option Addr) (n c : Nat) (l : List Adv) (dI pl ms r : Int) (w : World) (hl : Advs w a n l) (hs : Pos l) (hn : n ≤ 300) (hr : ms.tmod 2 = r) (hp : plE dI pl r = 0) :
    Calls Try.prog 4 #[.agg #[.int .i64 dI, .int .i64 pl, .int .i64 ms], .slice a n c] w fun e w' => e = .returned (.bool true) ∧ Below w.heap.size w w' := by
  have hm := hl.bound
  have HL := Lib.hid hl
  have HLen := Lib.hid hl.len
  have HPos := Lib.hid hs
  obtain ⟨d0, d16, p1, p32, m0, m1⟩ := plE_ok hp
  obtain ⟨d, rfl⟩ : ∃ k : Nat, dI = (k : Int) := ⟨dI.toNat, by omega⟩
  have HP := Lib.hid hp
  have hd : decide (300 < (n : Int)) = false := decide_eq_false (by omega)
  have hr2 : r = 0 ∨ r = 1 := by have := Int.tmod_lt_of_pos ms (b := 2) (by decide); omega
  have HR := Lib.hid hr2
  clear hl hs hp hr2 m0 m1
  go_enter Try.func4, Try.ntmps4
  go_wp2_with fail
  clear hr
  refine (pNew _ _ _ _).mono ?_
  rintro e w1 ⟨aq, cq, q, rfl, hq0, _, hQN, hb1⟩
  obtain rfl := hq0 HP.out
  have hdt : ((d : Int)).toNat = d := by omega
  rw [hdt] at hQN ⊢
  rw [HP.out]
  have hrl : (List.replicate d adv0).length = d := List.length_replicate
  rw [hrl]
  have hK0 : DlK w w1.heap.size d pl r aq cq (st0 d) (w1.alloc (.cells (stC (.slice aq d cq) (st0 d)) 38)) := by
    refine ⟨block_alloc (keepO hb1 (block_new _ _ rfl)), block_new _ _ rfl, ?_, ?_, ?_⟩
    · have h := hQN.1
      rw [hrl] at h
      exact h.below ((Below.refl _ _).alloc (Nat.le_refl _) _)
    · rcases hQN.2.1 with h0 | ⟨g, _, _, e, hg, hh, _⟩
      · exact Or.inl (by rw [hrl] at h0; exact h0)
      · exact Or.inr ⟨g, 0, e, Nat.ne_of_lt (lt_of_block hh)⟩
    · have hB1 : Below w.heap.size w w1 := ((Below.refl _ w).alloc (Nat.le_refl _) _).trans (hb1.mono (by simp))
      exact hB1.alloc hB1.size _
  have hcq : d ≤ cq := by have := hQN.2.2.1; rw [hrl] at this; exact this
  have HK0 := Lib.hid hK0
  have HBS := Lib.hid (lt_of_block (keepO hb1 (block_new w (.cells #[.int .i64 (d : Int), .int .i64 pl, .int .i64 r] 23) rfl)))
  clear hK0 hQN hb1 hdt hrl
  unfold stV
  have e0 : (st0 d).c = 0 := rfl
  go_wp2_with fail
  refine (awake_call _).mono ?_; rintro e w2 ⟨rfl, hb2⟩
  have HK2 := Lib.hid (HK0.out.keep hb2)
  clear hb2 HK0
  generalize w1.heap.size = bS at *
  have hbs : w.heap.size < bS := HBS.out
  have gd := adv_guard
  have ng := adv_neq
  go_wp2_with fail
  go_loopw [7] (fun kv wr => ∃ k : Nat, k ≤ n ∧ kv = .int .i64 k ∧ OkTo l k ∧ ∃ aj cj, d ≤ cj ∧ DlK w bS d pl r aj cj (stK r d l k) wr) (fun kv _ => n - (intOf kv).toNat)
  case atStart => exact ⟨0, by omega, rfl, fun i hi => by omega, aq, cq, hcq, HK2.out⟩
  case round =>
    obtain ⟨k, hk, rfl, hO, aj, cj, hcj, hK⟩ := hrel
    clear HK2
    have HK := Lib.hid hK
    have HO := Lib.hid hO
    by_cases hlt : k < n
    · obtain ⟨bl, off, rfl, y0, y1, y2⟩ := advs_at (HL.out.below hK.2.2.2.2) hlt
      have hk0 : (0 : Int) ≤ (k : Int) := by omega
      have hk1 : (k : Int) < (n : Int) := by omega
      have hgd := Lib.hid (stK_goodTo (ms := r) (d := d) (pos_ga HPos.out) hO)
      have hyl := Lib.hid (stK_len r d l k)
      have hyl1 := Lib.hid (stK_len r d l (k + 1))
      have hnx := Lib.hid (show nx r (stK r d l k) (ga l k) = stK r d l (k + 1) from rfl)
      have hwant := Lib.hid (delay_fl HR.out d l k)
      clear hK hO y0 y1 y2
      generalize hy : stK r d l k = y at *
      generalize hy1 : stK r d l (k + 1) = y1 at *
      have HY := Lib.hid (And.intro hy hy1)
      clear hy hy1
      by_cases hE : bndE (ga l k) = 0
      · have HE := Lib.hid hE
        have hcmd := Lib.hid (good_cmd (pl := pl) (ms := r) (a := ga l k) hgd.out hE HP.out (by rw [hyl.out]))
        clear hE
        go_upto_region 8 with fail
        go_cut [8, 9] (fun s8 s9 wx => s9 = .int .i64 0 ∧ ∃ b8 a8 c8, s8 = .pointer (some ⟨b8, 0, none⟩) ∧ wx.heap[b8]? = some (.cells #[.slice a8 d c8, .int .u8 y1.due.s, .int .i64 y1.due.r, .bool y1.due.k, .int .u8 y1.fl.s, .int .i64 y1.fl.r, .bool y1.fl.k, .int .i64 y1.c] 38 (0, 0)) ∧ Advs wx a8 d y1.q ∧ d ≤ c8 ∧ (d = 0 ∨ ∃ g off, a8 = some ⟨g, off, none⟩ ∧ g ≠ bS) ∧ b8 ≠ bS ∧ DlK w bS d pl r aj cj y wx)
        case first =>
          have K : DlK w bS d pl r aj cj y wr.drew := HK.out.drew
          have hbS : bS < wr.heap.size := lt_of_block HK.out.2.1
          obtain ⟨hne1, hne2, hne3'⟩ : w.heap.size < wr.heap.size ∧ bS ≠ wr.heap.size ∧ (d = 0 ∨ ∃ g off, aj = some ⟨g, off, none⟩ ∧ g ≠ wr.heap.size) := HK.out.fresh
          have hne3 := Lib.hid hne3'
          clear hne3'
          go_region_held3 (fun w' => (w'.cell? ⟨w.heap.size, 0, none⟩ = some (.int .i64 (d : Int)) ∧ w'.cell? ⟨w.heap.size, 1, none⟩ = some (.int .i64 pl) ∧ w'.cell? ⟨w.heap.size, 2, none⟩ = some (.int .i64 r)) ∧ (w'.cell? ⟨bS, 0, none⟩ = some (.slice aj d cj) ∧ w'.cell? ⟨bS, 1, none⟩ = some (.int .u8 y.due.s) ∧ w'.cell? ⟨bS, 2, none⟩ = some (.int .i64 y.due.r) ∧ w'.cell? ⟨bS, 3, none⟩ = some (.bool y.due.k) ∧ w'.cell? ⟨bS, 4, none⟩ = some (.int .u8 y.fl.s) ∧ w'.cell? ⟨bS, 5, none⟩ = some (.int .i64 y.fl.r) ∧ w'.cell? ⟨bS, 6, none⟩ = some (.bool y.fl.k) ∧ w'.cell? ⟨bS, 7, none⟩ = some (.int .i64 y.c)) ∧ (w'.cell? ⟨bl, off + k * 3, none⟩ = some (.int .u8 (ga l k).s) ∧ w'.cell? ⟨bl, off + k * 3 + 1, none⟩ = some (.int .i64 (ga l k).r) ∧ w'.cell? ⟨bl, off + k * 3 + 2, none⟩ = some (.bool (ga l k).k))) (first | exact ⟨three_old (K).1, eight_cells (K).2.1, advs_cells3 (HL.out.below (K).2.2.2.2) hlt⟩ | exact ⟨three_old (K.alloc _).1, eight_cells (K.alloc _).2.1, advs_cells3 (HL.out.below (K.alloc _).2.2.2.2) hlt⟩ | exact ⟨three_old (K.row hne1 hne2 hne3.out).1, eight_cells (K.row hne1 hne2 hne3.out).2.1, advs_cells3 (HL.out.below (K.row hne1 hne2 hne3.out).2.2.2.2) hlt⟩)
            (first
              | (go_at_call 15; refine (Command_call d d pl r aj cj y (ga l k) _ (by first | exact K.2.2.1 | exact (K.alloc _).2.2.1) hcj (fun a ha => (hgd.out.q a ha).2) hgd.out.due.2 hgd.out.fl.2 (pos_ga HPos.out k)).mono ?_; intro e w4 hpost; obtain ⟨a8, c8, rfl, hA8, hc8, hf8, hb8⟩ := cmdPost_good hpost hcmd.out hnx.out hyl1.out; (try have ZZ : w4.heap[wr.heap.size]? = some (.cells #[.slice none 0 0, .int .u8 0, .int .i64 0, .bool false, .int .u8 0, .int .i64 0, .bool false, .int .i64 0] 38 (0, 0)) := keepO hb8 (block_new _ _ rfl)); (try have hRow := rowAt_of ZZ); replace K : DlK w bS d pl r aj cj y w4 := (by first | exact K.keep hb8 | exact (K.alloc _).keep hb8); have H4 := Lib.hid (And.intro hA8 (And.intro hc8 (hf8.imp id (fun ⟨g, o, e, hg⟩ => ⟨g, o, e, Nat.le_trans (show wr.heap.size ≤ _ by first | exact Nat.le_refl _ | simp) hg⟩ : _ → ∃ g o, a8 = some ⟨g, o, none⟩ ∧ wr.heap.size ≤ g)))); (try (have H5 := Lib.hid (hf8.imp id (fun ⟨g, o, e, hg⟩ => ⟨g, o, e, (by simp at hg; omega)⟩ : _ → ∃ g o, a8 = some ⟨g, o, none⟩ ∧ g ≠ wr.heap.size)))); clear hA8 hc8 hf8; clear hpost hb8))
          all_goals go_wp2_with fail
          all_goals go_meet
          all_goals first
            | exact ⟨rfl, _, a8, c8, rfl, setRow_heap _ _ _ _ _ _ ZZ, advs_row H4.out.1 H5.out, H4.out.2.1, apart_of H4.out.2.2 hbS, hne2.symm, K.row hne1 hne2 hne3.out⟩
            | exact ⟨rfl, _, a8, c8, rfl, block_new _ _ rfl, H4.out.1.below ((Below.refl _ _).alloc (Nat.le_refl _) _), H4.out.2.1, apart_of H4.out.2.2 hbS, K.fresh.2.1.symm, K.alloc _⟩
        case rest =>
        obtain ⟨rfl, b8, a8, c8, rfl, N8, A8, hc8, hf8, hne8, hK⟩ := hcut
        obtain ⟨v0, v1, v2, v3, v4, v5, v6, v7⟩ := eight_cells N8
        obtain ⟨p0, p1, p2⟩ := three_old hK.1
        have hl8 := lt_of_block N8
        have hlp := lt_of_block hK.1
        have H8 := Lib.hid (And.intro A8 (And.intro hf8 hK))
        clear N8 A8 hf8 hK
        by_cases hdk : d ≤ k
        · have hdk1 : decide ((d : Int) ≤ (k : Int)) = true := decide_eq_true (by omega)
          have hdk2 : decide (d ≤ k) = true := decide_eq_true hdk
          by_cases hr0 : r = 0
          · have hr1 : (r == 0) = true := by simp [hr0]
            obtain ⟨j, hj⟩ : ∃ j : Nat, k - d = j := ⟨_, rfl⟩
            have hj0 : (0 : Int) ≤ (j : Int) := by omega
            have hj1 : (j : Int) < (n : Int) := by omega
            have hj2 : (k : Int) - (d : Int) = (j : Int) := by omega
            have hj3 : IntKind.i64.wrap ((k : Int) - (d : Int)) = (j : Int) := by rw [hj2]; exact IntWalk.i64_in _ (by omega)
            have ht : advB ⟨y1.fl.s, y1.fl.r, y1.fl.k⟩ ⟨(ga l j).s, (ga l j).r, (ga l j).k⟩ = true := advB_true.2 (by
              show y1.fl = ga l j
              rw [hwant.out, ← hj]
              exact if_pos ⟨hdk, hr0⟩)
            obtain ⟨y0, y1', y2⟩ := advs_cells3 (HL.out.below H8.out.2.2.2.2.2.2) (k := j) (by omega)
            have hlb := World.block_lt_of_cell? _ _ y0
            clear hj hdk hr0

            go_wp2_with (refine wpList_store_new rfl 38 (.tmp 5) (.tmp 103) rfl bS #[.slice a8 d c8, .int .u8 y1.due.s, .int .i64 y1.due.r, .bool y1.due.k, .int .u8 y1.fl.s, .int .i64 y1.fl.r, .bool y1.fl.k, .int .i64 y1.c] rfl rfl 38 _ (block_alloc H8.out.2.2.2.1) (by kernel_rfl) rfl (by simp [Value.oneCell']) ?_; intro w9 H9)
            have HF := Lib.hid (((H8.out.2.2).alloc _).store H9.out.1 H9.out.2 (H8.out.1.below ((Below.refl _ _).alloc (Nat.le_refl _) _)) H8.out.2.1 hbs)
            clear H9
            go_roundw
            case rel => exact ⟨k + 1, by omega, by go_num, okTo_succ HO.out HE.out, a8, c8, hc8, by rw [HY.out.2]; exact HF.out⟩
            case measure => simp [intOf]; omega
          · have hr1 : (r == 0) = false := by simp [hr0]
            have ht : advB ⟨y1.fl.s, y1.fl.r, y1.fl.k⟩ ⟨0, 0, false⟩ = true := advB_true.2 (by
              show y1.fl = adv0
              rw [hwant.out]
              exact if_neg (fun h => hr0 h.2))
            clear hdk hr0
            go_wp2_with (refine wpList_store_new rfl 38 (.tmp 5) (.tmp 103) rfl bS #[.slice a8 d c8, .int .u8 y1.due.s, .int .i64 y1.due.r, .bool y1.due.k, .int .u8 y1.fl.s, .int .i64 y1.fl.r, .bool y1.fl.k, .int .i64 y1.c] rfl rfl 38 _ (block_alloc H8.out.2.2.2.1) (by kernel_rfl) rfl (by simp [Value.oneCell']) ?_; intro w9 H9)
            have HF := Lib.hid (((H8.out.2.2).alloc _).store H9.out.1 H9.out.2 (H8.out.1.below ((Below.refl _ _).alloc (Nat.le_refl _) _)) H8.out.2.1 hbs)
            clear H9
            go_roundw
            case rel => exact ⟨k + 1, by omega, by go_num, okTo_succ HO.out HE.out, a8, c8, hc8, by rw [HY.out.2]; exact HF.out⟩
            case measure => simp [intOf]; omega
        · have hdk1 : decide ((d : Int) ≤ (k : Int)) = false := decide_eq_false (by omega)
          have hdk2 : decide (d ≤ k) = false := decide_eq_false hdk
          have ht : advB ⟨y1.fl.s, y1.fl.r, y1.fl.k⟩ ⟨0, 0, false⟩ = true := advB_true.2 (by
            show y1.fl = adv0
            rw [hwant.out]
            exact if_neg (fun h => hdk h.1))
          clear hdk
          go_wp2_with (refine wpList_store_new rfl 38 (.tmp 5) (.tmp 103) rfl bS #[.slice a8 d c8, .int .u8 y1.due.s, .int .i64 y1.due.r, .bool y1.due.k, .int .u8 y1.fl.s, .int .i64 y1.fl.r, .bool y1.fl.k, .int .i64 y1.c] rfl rfl 38 _ (block_alloc H8.out.2.2.2.1) (by kernel_rfl) rfl (by simp [Value.oneCell']) ?_; intro w9 H9)
          have HF := Lib.hid (((H8.out.2.2).alloc _).store H9.out.1 H9.out.2 (H8.out.1.below ((Below.refl _ _).alloc (Nat.le_refl _) _)) H8.out.2.1 hbs)
          clear H9
          go_roundw
          case rel => exact ⟨k + 1, by omega, by go_num, okTo_succ HO.out HE.out, a8, c8, hc8, by rw [HY.out.2]; exact HF.out⟩
          case measure => simp [intOf]; omega
      · have HE := Lib.hid hE
        have hcmd := Lib.hid (bad_cmd (pl := pl) (ms := r) (a := ga l k) hgd.out hE HP.out (by rw [hyl.out]))
        clear hE
        go_upto_region 8 with fail
        go_cut [8, 9] (fun s8 s9 wx => s9 = .int .i64 (bndE (ga l k)) ∧ DlK w bS d pl r aj cj y wx)
        case first =>
          have K : DlK w bS d pl r aj cj y wr.drew := HK.out.drew
          have hbS : bS < wr.heap.size := lt_of_block HK.out.2.1
          obtain ⟨hne1, hne2, hne3'⟩ : w.heap.size < wr.heap.size ∧ bS ≠ wr.heap.size ∧ (d = 0 ∨ ∃ g off, aj = some ⟨g, off, none⟩ ∧ g ≠ wr.heap.size) := HK.out.fresh
          have hne3 := Lib.hid hne3'
          clear hne3'
          go_region_held3 (fun w' => (w'.cell? ⟨w.heap.size, 0, none⟩ = some (.int .i64 (d : Int)) ∧ w'.cell? ⟨w.heap.size, 1, none⟩ = some (.int .i64 pl) ∧ w'.cell? ⟨w.heap.size, 2, none⟩ = some (.int .i64 r)) ∧ (w'.cell? ⟨bS, 0, none⟩ = some (.slice aj d cj) ∧ w'.cell? ⟨bS, 1, none⟩ = some (.int .u8 y.due.s) ∧ w'.cell? ⟨bS, 2, none⟩ = some (.int .i64 y.due.r) ∧ w'.cell? ⟨bS, 3, none⟩ = some (.bool y.due.k) ∧ w'.cell? ⟨bS, 4, none⟩ = some (.int .u8 y.fl.s) ∧ w'.cell? ⟨bS, 5, none⟩ = some (.int .i64 y.fl.r) ∧ w'.cell? ⟨bS, 6, none⟩ = some (.bool y.fl.k) ∧ w'.cell? ⟨bS, 7, none⟩ = some (.int .i64 y.c)) ∧ (w'.cell? ⟨bl, off + k * 3, none⟩ = some (.int .u8 (ga l k).s) ∧ w'.cell? ⟨bl, off + k * 3 + 1, none⟩ = some (.int .i64 (ga l k).r) ∧ w'.cell? ⟨bl, off + k * 3 + 2, none⟩ = some (.bool (ga l k).k))) (first | exact ⟨three_old (K).1, eight_cells (K).2.1, advs_cells3 (HL.out.below (K).2.2.2.2) hlt⟩ | exact ⟨three_old (K.alloc _).1, eight_cells (K.alloc _).2.1, advs_cells3 (HL.out.below (K.alloc _).2.2.2.2) hlt⟩ | exact ⟨three_old (K.row hne1 hne2 hne3.out).1, eight_cells (K.row hne1 hne2 hne3.out).2.1, advs_cells3 (HL.out.below (K.row hne1 hne2 hne3.out).2.2.2.2) hlt⟩)
            (first
              | (go_at_call 15; refine (Command_call d d pl r aj cj y (ga l k) _ (by first | exact K.2.2.1 | exact (K.alloc _).2.2.1) hcj (fun a ha => (hgd.out.q a ha).2) hgd.out.due.2 hgd.out.fl.2 (pos_ga HPos.out k)).mono ?_; intro e w4 hpost; obtain ⟨a8, c8, rfl, hb8⟩ := cmdPost_bad hpost hcmd.out HE.out; (try have ZZ : w4.heap[wr.heap.size]? = some (.cells #[.slice none 0 0, .int .u8 0, .int .i64 0, .bool false, .int .u8 0, .int .i64 0, .bool false, .int .i64 0] 38 (0, 0)) := keepO hb8 (block_new _ _ rfl)); (try have hRow := rowAt_of ZZ); replace K : DlK w bS d pl r aj cj y w4 := (by first | exact K.keep hb8 | exact (K.alloc _).keep hb8); clear hpost hb8))
          all_goals go_wp2_with fail
          all_goals go_meet
          all_goals first
            | exact ⟨rfl, K.row hne1 hne2 hne3.out⟩
            | exact ⟨rfl, K.alloc _⟩
        case rest =>
        obtain ⟨rfl, hK⟩ := hcut
        obtain ⟨y0, y1', y2⟩ := advs_cells3 (HL.out.below hK.2.2.2.2) hlt
        have hEb : (bndE (ga l k) != 0) = true := by simp [HE.out]
        have hee : (bndE (ga l k) == bndE (ga l k)) = true := by simp
        have HB := Lib.hid hK.2.2.2.2
        clear hK
        go_wp2_with fail
        refine (Bounds_call (ga l k) _ (pos_ga HPos.out k)).mono ?_; rintro e w5 ⟨rfl, hb5⟩
        have HB5 := Lib.hid (HB.out.trans (hb5.mono HB.out.size))
        clear hb5 y0 y1' y2
        go_wp2
        go_ret
        exact ⟨rfl, HB5.out⟩
    · obtain rfl : k = n := by omega
      have HB := Lib.hid hK.2.2.2.2
      clear hK hO
      go_wp2
      go_ret
      exact ⟨rfl, HB.out⟩


set_option maxRecDepth 100000 in
set_option maxHeartbeats 4000000 in
theorem DelayLaw_bad (a : Option Addr) (n c : Nat) (dI pl ms r : Int) (w : World) (hr : ms.tmod 2 = r) (hp : plE dI pl r ≠ 0) :
    Calls Try.prog 4 #[.agg #[.int .i64 dI, .int .i64 pl, .int .i64 ms], .slice a n c] w fun e w' => e = .returned (.bool true) ∧ Below w.heap.size w w' := by
  have HP := Lib.hid hp
  have hne : (plE dI pl r != 0) = true := by simp [hp]
  have heq : (plE dI pl r == 0) = false := by simp [hp]
  clear hp
  go_enter Try.func4, Try.ntmps4
  go_wp2_with fail
  clear hr
  refine (pNew _ _ _ _).mono ?_
  rintro e w1 ⟨aq, cq, q, rfl, _, hq0, hQN, hb1⟩
  obtain rfl := hq0 HP.out
  have hB1 : Below w.heap.size w w1 := ((Below.refl _ w).alloc (Nat.le_refl _) _).trans (hb1.mono (by simp))
  have HB := Lib.hid (hB1.alloc hB1.size (.cells #[.slice aq 0 cq, .int .u8 0, .int .i64 0, .bool false, .int .u8 0, .int .i64 0, .bool false, .int .i64 0] 38))
  clear hQN hb1 hB1
  unfold stV
  have hl0 : ([] : List Adv).length = 0 := rfl
  rw [hl0]
  simp only [adv0]
  go_wp2_with fail
  refine (awake_call _).mono ?_; rintro e w2 ⟨rfl, hb2⟩
  have HB2 := Lib.hid (HB.out.trans (hb2.mono HB.out.size))
  clear hb2
  go_wp2
  go_ret
  exact ⟨rfl, HB2.out⟩
set_option maxRecDepth 100000 in
set_option maxHeartbeats 4000000 in
theorem DelayLaw_long (a : Option Addr) (n c : Nat) (dI pl ms r : Int) (w : World) (hm : n ≤ 9223372036854775807) (hn : 300 < n) (hr : ms.tmod 2 = r) (hp : plE dI pl r = 0) :
    Calls Try.prog 4 #[.agg #[.int .i64 dI, .int .i64 pl, .int .i64 ms], .slice a n c] w fun e w' => e = .returned (.bool true) ∧ Below w.heap.size w w' := by
  have HP := Lib.hid hp
  have hd : decide (300 < (n : Int)) = true := decide_eq_true (by omega)
  clear hp
  go_enter Try.func4, Try.ntmps4
  go_wp2_with fail
  clear hr
  refine (pNew _ _ _ _).mono ?_
  rintro e w1 ⟨aq, cq, q, rfl, _, _, hQN, hb1⟩
  rw [HP.out]
  have hB1 : Below w.heap.size w w1 := ((Below.refl _ w).alloc (Nat.le_refl _) _).trans (hb1.mono (by simp))
  have HB := Lib.hid (hB1.alloc hB1.size (.cells (stC (.slice aq q.length cq) ⟨q, adv0, adv0, 0⟩) 38))
  clear hQN hb1 hB1
  unfold stV
  go_wp2_with fail
  refine (awake_call _).mono ?_; rintro e w2 ⟨rfl, hb2⟩
  have HB2 := Lib.hid (HB.out.trans (hb2.mono HB.out.size))
  clear hb2
  go_wp2
  go_ret
  exact ⟨rfl, HB2.out⟩
theorem DelayLaw_call (a : Option Addr) (n c : Nat) (l : List Adv) (d pl ms : Int) (w : World) (hl : Advs w a n l) (hs : Pos l) :
    Calls Try.prog 4 #[.agg #[.int .i64 d, .int .i64 pl, .int .i64 ms], .slice a n c] w fun e w' => e = .returned (.bool true) ∧ Below w.heap.size w w' := by
  by_cases hp : plE d pl (ms.tmod 2) = 0
  · by_cases hn : 300 < n
    · exact DelayLaw_long a n c d pl ms _ w hl.bound hn rfl hp
    · exact DelayLaw_run a n c l d pl ms _ w hl hs (by omega) rfl hp
  · exact DelayLaw_bad a n c d pl ms _ w rfl hp

end Go.Proofs.Ytjidpkcoaoflbaa
