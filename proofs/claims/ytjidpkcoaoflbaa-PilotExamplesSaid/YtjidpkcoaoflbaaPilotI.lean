/-
  Layer 37 (pilot): the reference's wrong, whole, and its Command, walked. Printed by genPilotI.py.
-/
import Derived.Test.YtjidpkcoaoflbaaPilotG
import Derived.Test.YtjidpkcoaoflbaaPilotH
import Derived.Test.YtjidpkcoaoflbaaStoreLib
import Derived.Deep.DeepCutAuto
namespace Go.Proofs.Ytjidpkcoaoflbaa
open Go.RowKit PilotMath MyHeap MyCopy

set_option maxRecDepth 100000 in
set_option maxHeartbeats 4000000 in
theorem rwrong_call (n : Nat) (d pl ms : Int) (aq : Option Addr) (c : Nat) (x : St) (a : Adv) (w : World) (hq : Advs w aq n x.q) (hnil : aq = none → n = 0 ∧ c = 0) (pq : Pos x.q) (pd : 0 ≤ x.due.s) (pf : 0 ≤ x.fl.s) (pa : 0 ≤ a.s) :
    Calls Try.prog 36 #[.agg #[.int .i64 d, .int .i64 pl, .int .i64 ms], stV (.slice aq n c) x, .agg #[.int .u8 a.s, .int .i64 a.r, .bool a.k]] w (CkPost d pl ms x a w) := by
  have hlen := hq.len
  have hm := hq.bound
  by_cases hp : plE d pl ms = 0
  · by_cases hd : (n : Int) = d
    · subst hd
      exact rwrong_loop n pl ms aq c x a w hq hnil hp pq pd pf pa
    · have HE := Lib.hid (cmdE_len (a := a) hp (by rw [hlen]; exact hd))
      have HP := Lib.hid hp
      have hne : ((n : Int) != d) = true := by simp [hd]
      clear hq hnil hp hd hlen pq pd pf pa
      unfold stV
      go_enter Try.func36, Try.ntmps36
      go_wp2_with fail
      refine (rCheckP _ _ _ _).mono ?_; rintro e w1 ⟨rfl, hb1⟩
      rw [HP.out]
      have k0 := keepO hb1 (block_alloc (block_alloc (block_new w (.cells #[.int .i64 d, .int .i64 pl, .int .i64 ms] 23) rfl)))
      have k1 := keepO hb1 (block_alloc (block_new (w.alloc (.cells #[.int .i64 d, .int .i64 pl, .int .i64 ms] 23)) (.cells (stC (.slice aq n c) x) 48) (n := w.heap.size + 1) (by simp)))
      have hB : Below w.heap.size w w1 := ((((Below.refl _ w).alloc (Nat.le_refl _) _).alloc (by simp) _).alloc (by simp; omega) _).trans (hb1.mono (by simp; omega))
      obtain ⟨p0, _, _⟩ := three_old k0
      obtain ⟨q0, _, _, _, _, _, _, _⟩ := eight_cells k1
      have HB := Lib.hid hB
      clear k0 k1 hb1 hB
      go_wp2
      go_ret
      exact ⟨by rw [HE.out]; rfl, HB.out⟩
  · have HE := Lib.hid (cmdE_pl (x := x) (a := a) hp)
    have hne : (plE d pl ms != 0) = true := by simp [hp]
    clear hq hnil hp hlen pq pd pf pa
    unfold stV
    go_enter Try.func36, Try.ntmps36
    go_wp2_with fail
    refine (rCheckP _ _ _ _).mono ?_; rintro e w1 ⟨rfl, hb1⟩
    have hB : Below w.heap.size w w1 := ((((Below.refl _ w).alloc (Nat.le_refl _) _).alloc (by simp) _).alloc (by simp; omega) _).trans (hb1.mono (by simp; omega))
    have HB := Lib.hid hB
    clear hb1 hB
    go_wp2_with fail
    go_ret
    exact ⟨by rw [HE.out]; rfl, HB.out⟩

/-- What the reference's Command leaves. -/
def RCmdPost (d pl ms : Int) (x : St) (a : Adv) (w : World) (e : Ending) (w' : World) : Prop :=
  ∃ aq c, e = .returned (.tuple #[stV (.slice aq (cmdS d pl ms x a).q.length c) (cmdS d pl ms x a), .int .i64 (cmdE d pl ms x a)]) ∧ Advs w' aq (cmdS d pl ms x a).q.length (cmdS d pl ms x a).q ∧ (aq = none → (cmdS d pl ms x a).q.length = 0 ∧ c = 0) ∧ ((cmdS d pl ms x a).q.length = 0 ∨ ∃ g off, aq = some ⟨g, off, none⟩ ∧ w.heap.size ≤ g) ∧ Below w.heap.size w w'
theorem rcmdPost_err {d pl ms : Int} {x : St} {a : Adv} {w w' : World} (h : cmdE d pl ms x a ≠ 0) (hB : Below w.heap.size w w') : RCmdPost d pl ms x a w (.returned (.tuple #[.agg (stC (.slice none 0 0) stZ), .int .i64 (cmdE d pl ms x a)])) w' := by
  have e : cmdS d pl ms x a = stZ := if_neg h
  unfold RCmdPost
  rw [e]
  exact ⟨none, 0, rfl, advs_nil _ _, fun _ => ⟨rfl, rfl⟩, Or.inl rfl, hB⟩
theorem rcmdPost_ok {d pl ms : Int} {x : St} {a : Adv} {y : St} {n : Nat} {w w' : World} {aq : Option Addr} {c : Nat} (h : cmdE d pl ms x a = 0) (hy : nx ms x a = y) (hn : y.q.length = n) (hq : Advs w' aq n y.q) (hnil : aq = none → n = 0 ∧ c = 0) (hfr : n = 0 ∨ ∃ g off, aq = some ⟨g, off, none⟩ ∧ w.heap.size ≤ g) (hB : Below w.heap.size w w') : RCmdPost d pl ms x a w (.returned (.tuple #[.agg (stC (.slice aq n c) y), .int .i64 0])) w' := by
  subst hy hn
  have e : cmdS d pl ms x a = nx ms x a := if_pos h
  unfold RCmdPost
  rw [e, h]
  exact ⟨aq, c, rfl, hq, hnil, hfr, hB⟩
/-- In the reference's Command: the arguments' blocks, the result's block, and nothing of w0 written. -/
def RmK (w0 : World) (d pl ms : Int) (q : Value) (x : St) (a : Adv) (w : World) : Prop :=
  w.heap[w0.heap.size]? = some (.cells #[.int .i64 d, .int .i64 pl, .int .i64 ms] 23 (0, 0)) ∧ w.heap[w0.heap.size + 1]? = some (.cells (stC q x) 48 (0, 0)) ∧ w.heap[w0.heap.size + 2]? = some (.cells #[.int .u8 a.s, .int .i64 a.r, .bool a.k] 36 (0, 0)) ∧
  w.heap[w0.heap.size + 3]? = some (.cells (stC (.slice none 0 0) stZ) 48 (0, 0)) ∧ Below w0.heap.size w0 w
theorem RmK.keep {w0 : World} {d pl ms : Int} {q : Value} {x : St} {a : Adv} {w w' : World} (h : RmK w0 d pl ms q x a w) (hb : Below w.heap.size w w') : RmK w0 d pl ms q x a w' := ⟨keepO hb h.1, keepO hb h.2.1, keepO hb h.2.2.1, keepO hb h.2.2.2.1, h.2.2.2.2.trans (hb.mono h.2.2.2.2.size)⟩
theorem RmK.alloc {w0 : World} {d pl ms : Int} {q : Value} {x : St} {a : Adv} {w : World} (h : RmK w0 d pl ms q x a w) (ob : Obj) : RmK w0 d pl ms q x a (w.alloc ob) := h.keep ((Below.refl _ _).alloc (Nat.le_refl _) _)
theorem RmK.drew {w0 : World} {d pl ms : Int} {q : Value} {x : St} {a : Adv} {w : World} (h : RmK w0 d pl ms q x a w) : RmK w0 d pl ms q x a w.drew := h.keep (Below.refl _ _).drew
theorem rmK_new (w : World) (d pl ms : Int) (q : Value) (x : St) (a : Adv) : RmK w d pl ms q x a ((((w.alloc (.cells #[.int .i64 d, .int .i64 pl, .int .i64 ms] 23)).alloc (.cells (stC q x) 48)).alloc (.cells #[.int .u8 a.s, .int .i64 a.r, .bool a.k] 36)).alloc (.cells (stC (.slice none 0 0) stZ) 48)) :=
  ⟨block_alloc (block_alloc (block_alloc (block_new _ _ rfl))), block_alloc (block_alloc (block_new _ _ (by simp))), block_alloc (block_new _ _ (by simp)), block_new _ _ (by simp), (((Below.refl _ w).alloc (Nat.le_refl _) _ |>.alloc (by simp) _).alloc (by simp; omega) _).alloc (by simp; omega) _⟩
theorem RmK.cells {w0 : World} {d pl ms : Int} {q : Value} {x : St} {a : Adv} {w : World} (h : RmK w0 d pl ms q x a w) :
    w.cell? ⟨w0.heap.size + 1, 0, none⟩ = some q ∧ w.cell? ⟨w0.heap.size + 1 + 1, 0, none⟩ = some (.int .u8 a.s) ∧ w.cell? ⟨w0.heap.size + 1 + 1, 1, none⟩ = some (.int .i64 a.r) ∧ w.cell? ⟨w0.heap.size + 1 + 1, 2, none⟩ = some (.bool a.k) :=
  ⟨cell_of_block h.2.1 rfl, cell_of_block h.2.2.1 rfl, cell_of_block h.2.2.1 rfl, cell_of_block h.2.2.1 rfl⟩
theorem RmK.cells2 {w0 : World} {d pl ms : Int} {q : Value} {x : St} {a : Adv} {w : World} (h : RmK w0 d pl ms q x a w) :
    w.cell? ⟨w0.heap.size + 1, 1, none⟩ = some (.int .u8 x.due.s) ∧ w.cell? ⟨w0.heap.size + 1, 2, none⟩ = some (.int .i64 x.due.r) ∧ w.cell? ⟨w0.heap.size + 1, 3, none⟩ = some (.bool x.due.k) ∧ w.cell? ⟨w0.heap.size + 1, 4, none⟩ = some (.int .u8 x.fl.s) ∧ w.cell? ⟨w0.heap.size + 1, 5, none⟩ = some (.int .i64 x.fl.r) ∧ w.cell? ⟨w0.heap.size + 1, 6, none⟩ = some (.bool x.fl.k) ∧ w.cell? ⟨w0.heap.size + 1, 7, none⟩ = some (.int .i64 x.c) :=
  ⟨cell_of_block h.2.1 rfl, cell_of_block h.2.1 rfl, cell_of_block h.2.1 rfl, cell_of_block h.2.1 rfl, cell_of_block h.2.1 rfl, cell_of_block h.2.1 rfl, cell_of_block h.2.1 rfl⟩

theorem advs_only {w w' : World} {b off n g : Nat} {l : List Adv} (h : Advs w (some ⟨b, off, none⟩) n l) (hO : Only g w w') (hne : b ≠ g) : Advs w' (some ⟨b, off, none⟩) n l := by
  refine ⟨h.len, h.bound, ?_⟩
  rcases h.cells with h0 | ⟨b', off', e, hc⟩
  · exact Or.inl h0
  · cases e
    exact Or.inr ⟨b, off, rfl, fun i hi => ⟨hO.cell (hc i hi).1 hne, hO.cell (hc i hi).2.1 hne, hO.cell (hc i hi).2.2 hne⟩⟩

set_option maxRecDepth 100000 in
set_option maxHeartbeats 64000000 in
theorem rCommand_ok (n : Nat) (pl ms : Int) (aq : Option Addr) (c : Nat) (x : St) (a : Adv) (w : World) (hq : Advs w aq n x.q) (hnil : aq = none → n = 0 ∧ c = 0) (pq : Pos x.q) (pd : 0 ≤ x.due.s) (pf : 0 ≤ x.fl.s) (pa : 0 ≤ a.s) (hE : cmdE n pl ms x a = 0) :
    Calls Try.prog 19 #[.agg #[.int .i64 n, .int .i64 pl, .int .i64 ms], stV (.slice aq n c) x, .agg #[.int .u8 a.s, .int .i64 a.r, .bool a.k]] w (RCmdPost n pl ms x a w) := by
  obtain ⟨o1, o2, o3, o4, o5⟩ := cmdE_ok hE
  have hn16 : n ≤ 16 := by have := plE_ok o1; omega
  obtain ⟨_, _, _, _, m0, m1⟩ := plE_ok o1
  have hlen := hq.len
  have HQ := Lib.hid hq
  have HPos := Lib.hid (And.intro pq (And.intro pd (And.intro pf pa)))
  have HL := Lib.hid hlen
  have HE := Lib.hid hE
  have HNil := Lib.hid hnil
  obtain ⟨i0, hi, hiz, his, hib⟩ := info_parts infoAdv
  have HI := Lib.hid (And.intro hi (And.intro hiz (And.intro his hib)))
  have ng := adv_neq
  have gd := adv_guard
  clear hq hnil pq pd pf pa hlen hE o1 o2 o3 hi hiz his hib
  unfold stV
  go_enter Try.func19, Try.ntmps19
  go_wp2_with fail
  have HK := Lib.hid (rmK_new w n pl ms (.slice aq n c) x a)
  refine (rwrong_call n n pl ms aq c x a _ (HQ.out.below HK.out.2.2.2.2) HNil.out HPos.out.1 HPos.out.2.1 HPos.out.2.2.1 HPos.out.2.2.2).mono ?_; rintro e w1 ⟨rfl, hb1⟩
  rw [HE.out]
  have KR := Lib.hid (RmK.keep HK.out hb1)
  have HQ1 := Lib.hid (HQ.out.below KR.out.2.2.2.2)
  clear hb1 HK HQ
  have hz := KR.out.2.2.2.2.size
  have hzr := lt_of_block KR.out.2.2.2.1
  go_upto_region 4 with fail
  go_cut [9] (fun s9 w8 => ∃ (b off c8 : Nat), s9 = .slice (some ⟨b, off, none⟩) (n + 1) c8 ∧ n + 1 ≤ c8 ∧ w1.heap.size ≤ b ∧ Advs w8 (some ⟨b, off, none⟩) (n + 1) (x.q ++ [a]) ∧ RmK w n pl ms (.slice aq n c) x a w8)
  case first =>
    have K1 := KR.out.drew
    have HO0 := Lib.hid (show ∀ W : World, W.ownsRow w1.heap.size 36 3 (.slice none 0 0) 0 [] from fun _ => ⟨rfl, Or.inl ⟨rfl, rfl⟩⟩)
    go_region_held3 (fun w' => w'.cell? ⟨w.heap.size + 1, 0, none⟩ = some (.slice aq n c) ∧ w'.cell? ⟨w.heap.size + 1 + 1, 0, none⟩ = some (.int .u8 a.s) ∧ w'.cell? ⟨w.heap.size + 1 + 1, 1, none⟩ = some (.int .i64 a.r) ∧ w'.cell? ⟨w.heap.size + 1 + 1, 2, none⟩ = some (.bool a.k)) (first | exact K1.cells | exact (K1.alloc _).cells) (first
      | (refine step_append_src (by rfl) _ (.tmp 21) 26 (by rfl) w1.heap.size 36 i0 _ 3 24 Try.underlying26 HI.out.1 HI.out.2.1 HI.out.2.2.1 HI.out.2.2.2 (by rfl) (by decide) _ 0 [] (by rfl) (HO0.out _) aq n c (flat3 x.q) (by rfl) HNil.out (by rw [flat3_length, HL.out]) (by first | exact advs_src (HQ1.out.below (Below.refl _ _).drew) | exact advs_src (HQ1.out.below ((Below.refl _ _).drew.alloc (Nat.le_refl _) _)) | exact advs_src (HQ1.out.below ((Below.refl _ _).alloc (Nat.le_refl _) _).drew)) (flat3_cell x.q) (by unfold maxLen; omega) (by omega) (by simp) ?_; intro v7 w7 hown7 hg7; have HbW := Lib.hid (grownAll hg7); have hb17 : Below w1.heap.size w1 w7 := (by first | exact ((Below.refl _ _).drew).trans HbW.out | exact (((Below.refl _ _).drew).alloc (Nat.le_refl _) _).trans (HbW.out.mono (by simp)) | exact (((Below.refl _ _).alloc (Nat.le_refl _) _).drew).trans (HbW.out.mono (by simp))); replace K1 := KR.out.keep hb17; have hz7 := hb17.size; have HB7 := Lib.hid hb17; have HO7 := Lib.hid hown7; clear hown7 hg7 hb17)
      | (refine step_append_src (by rfl) _ (.tmp 24) 26 (by rfl) w1.heap.size 36 i0 _ 3 24 Try.underlying26 HI.out.1 HI.out.2.1 HI.out.2.2.1 HI.out.2.2.2 (by rfl) (by decide) _ (0 + n) _ (by rfl) (by first | exact HO7.out | exact HO7.out.alloc _) _ 1 1 (flat3 [a]) (by rfl) (by simp) (by rw [flat3_length]; simp) (advs_src (advs_block (cs := #[.int .u8 a.s, .int .i64 a.r, .bool a.k]) (T := 36) (fr := (0, 0)) (by first | exact block_new _ _ rfl | exact block_new _ _ (by simp) | exact keepO HbW.out (block_new _ _ rfl) | exact keepO HbW.out (block_new _ _ (by simp))) rfl rfl (by show (1 : Nat) ≤ _; decide))) (flat3_cell _) (by unfold maxLen; omega) (by omega) (by first | exact hz7 | (simp; omega)) ?_; intro v8 w8 hown8 hg8; have hb18 : Below w1.heap.size w1 w8 := (by first | exact HB7.out.trans (grownB HO7.out hg8 (Nat.le_refl _) hz7) | exact (HB7.out.alloc hz7 _).trans (grownB (HO7.out.alloc _) hg8 (Nat.le_refl _) (by simp; omega))); replace K1 := KR.out.keep hb18; have HO8 := Lib.hid hown8; clear hown8 hg8 hb18))
    all_goals
      have hown : w8.ownsRow w1.heap.size 36 3 v8 (x.q ++ [a]).length (flat3 (x.q ++ [a])) := by
        have h := HO8.out
        rw [List.nil_append, ← flat3_append, show 0 + n + 1 = (x.q ++ [a]).length by rw [List.length_append, HL.out, Nat.zero_add]; rfl] at h
        exact h
      obtain ⟨a8, c8, rfl, hA8, hc8, _⟩ := advs_own hown (by rw [List.length_append, HL.out]; simp; omega)
      have hl8 : (x.q ++ [a]).length = n + 1 := by rw [List.length_append, HL.out]; rfl
      rw [hl8] at hA8 hc8 ⊢
      obtain ⟨b, off, e', _⟩ := advs_at hA8 (k := 0) (by omega)
      subst e'
      have hbb : w1.heap.size ≤ b := (hown.lt b rfl).1
      have HF := Lib.hid (And.intro hc8 (And.intro hbb (And.intro hA8 K1)))
      clear hown hA8 hl8 HO8 HO7 HbW HB7 K1 hc8 hbb
      go_wp2_with fail
      go_meet
      exact ⟨b, off, c8, rfl, HF.out⟩
  case rest =>
    obtain ⟨b, off, c8, rfl, hc8, hbb, hA8, hK8⟩ := hcut
    have HA8 := Lib.hid hA8
    have HK8 := Lib.hid hK8
    obtain ⟨b', off', e', x0, x1, x2⟩ := advs_at hA8 (k := 0) (by omega)
    cases e'
    rw [show off + 0 * 3 = off by omega] at x0 x1 x2
    have hf : ga (x.q ++ [a]) 0 = nxFirst x a := rfl
    rw [hf] at x0 x1 x2
    clear hA8 hK8 hf
    generalize hw8 : wc = w8 at *
    clear hw8
    have hn0 : (0 : Int) ≤ (n : Int) := by omega
    have hc9 : (n : Int) + 1 ≤ (c8 : Int) := by omega

    have hz8 := lt_of_block HK8.out.2.2.2.1
    have h1n : (1 : Int) ≤ (n : Int) + 1 := by omega
    have h1c : (1 : Int) ≤ (c8 : Int) := by omega
    go_upto_region 6 with fail
    go_cut [11] (fun s11 wx => ∃ (W : World) (aL : Option Addr) (cL : Nat), s11 = .pointer (some ⟨W.heap.size, 0, none⟩) ∧ wx = W.alloc (.cells #[.slice aL n cL, .int .u8 x.due.s, .int .i64 x.due.r, .bool x.due.k, .int .u8 x.fl.s, .int .i64 x.fl.r, .bool x.fl.k, .int .i64 x.c] 48) ∧ w8.heap.size < W.heap.size ∧ W.heap[w8.heap.size]? = some (.cells #[.int .u8 (nxFirst x a).s, .int .i64 (nxFirst x a).r, .bool (nxFirst x a).k] 36 (0, 0)) ∧ RmK w n pl ms (.slice aq n c) x a W ∧ Advs W aL n (x.q ++ [a]).tail ∧ (n = 0 ∨ ∃ bL oL, aL = some ⟨bL, oL, none⟩ ∧ w1.heap.size ≤ bL) ∧ aL ≠ none)
    case first =>
      have K2 := (HK8.out.alloc (.cells #[.int .u8 (nxFirst x a).s, .int .i64 (nxFirst x a).r, .bool (nxFirst x a).k] 36)).drew
      by_cases hcc : c8 = 1
      ·
        subst hcc
        obtain rfl : n = 0 := by omega
        go_region_held3 (fun w' => w'.cell? ⟨w.heap.size + 1, 1, none⟩ = some (.int .u8 x.due.s) ∧ w'.cell? ⟨w.heap.size + 1, 2, none⟩ = some (.int .i64 x.due.r) ∧ w'.cell? ⟨w.heap.size + 1, 3, none⟩ = some (.bool x.due.k) ∧ w'.cell? ⟨w.heap.size + 1, 4, none⟩ = some (.int .u8 x.fl.s) ∧ w'.cell? ⟨w.heap.size + 1, 5, none⟩ = some (.int .i64 x.fl.r) ∧ w'.cell? ⟨w.heap.size + 1, 6, none⟩ = some (.bool x.fl.k) ∧ w'.cell? ⟨w.heap.size + 1, 7, none⟩ = some (.int .i64 x.c)) (first | exact K2.cells2 | exact (K2.alloc _).cells2) (fail)
        all_goals
          go_wp2_with fail
          go_meet
          exact ⟨(w8.alloc (.cells #[.int .u8 (nxFirst x a).s, .int .i64 (nxFirst x a).r, .bool (nxFirst x a).k] 36)).drew, _, _, by simp, rfl, by simp, block_new w8 _ rfl, K2, ⟨by simp [HL.out], by decide, Or.inl rfl⟩, by simp, by simp⟩
      ·
        have hc2 : 1 < c8 := by omega
        have hc3 : (c8 == 1) = false := by simp [hcc]
        go_region_held3 (fun w' => w'.cell? ⟨w.heap.size + 1, 1, none⟩ = some (.int .u8 x.due.s) ∧ w'.cell? ⟨w.heap.size + 1, 2, none⟩ = some (.int .i64 x.due.r) ∧ w'.cell? ⟨w.heap.size + 1, 3, none⟩ = some (.bool x.due.k) ∧ w'.cell? ⟨w.heap.size + 1, 4, none⟩ = some (.int .u8 x.fl.s) ∧ w'.cell? ⟨w.heap.size + 1, 5, none⟩ = some (.int .i64 x.fl.r) ∧ w'.cell? ⟨w.heap.size + 1, 6, none⟩ = some (.bool x.fl.k) ∧ w'.cell? ⟨w.heap.size + 1, 7, none⟩ = some (.int .i64 x.c)) (first | exact K2.cells2 | exact (K2.alloc _).cells2) (fail)
        all_goals
          go_wp2_with fail
          go_meet
          exact ⟨(w8.alloc (.cells #[.int .u8 (nxFirst x a).s, .int .i64 (nxFirst x a).r, .bool (nxFirst x a).k] 36)).drew, _, _, by simp, rfl, by simp, block_new w8 _ rfl, K2, ((advs_tail HA8.out).below ((Below.refl _ _).alloc (Nat.le_refl _) _)).below (Below.refl _ _).drew, Or.inr ⟨b, off + 3, rfl, hbb⟩, by simp⟩
    case rest =>
      obtain ⟨W, aL, cL, rfl, rfl, hWz, hW10, hKW, hAW, hLW, hLn⟩ := hcut
      have HKW := Lib.hid (And.intro hKW (And.intro hAW (And.intro hLW hLn)))
      have hzW := hKW.2.2.2.2.size
      have hzr2 := lt_of_block hKW.2.2.2.1
      obtain ⟨p0, p1, p2⟩ := three_old hKW.1
      obtain ⟨q1, q2, q3, q4, q5, q6, q7⟩ := hKW.cells2
      obtain ⟨y0, y1, y2⟩ := three_old hW10
      have z0 : w.heap.size < W.heap.size := by omega
      have z2 : w.heap.size + 1 < W.heap.size := by omega
      have ne1 : ¬ W.heap.size = w.heap.size + 1 + 1 + 1 := by omega
      clear hKW hAW hLW hW10 x0 x1 x2 hLn
      by_cases hs : nxFirst x a = x.due
      ·
        have hb : advB ⟨(nxFirst x a).s, (nxFirst x a).r, (nxFirst x a).k⟩ ⟨x.due.s, x.due.r, x.due.k⟩ = true := advB_true.2 hs
        have HN := Lib.hid (show nx ms x a = ⟨(x.q ++ [a]).tail, x.due, x.fl, x.c⟩ from nx_same hs)
        clear hs
        go_wp2_with (refine wpList_store_new rfl 48 (.tmp 6) (.tmp 62) rfl (w.heap.size + 1 + 1 + 1) _ rfl rfl 48 _ (block_alloc HKW.out.1.2.2.2.1) (by kernel_rfl) rfl (by simp [Value.oneCell']) ?_; intro w9 H9)
        have hB9 : Below w.heap.size w w9 := (HKW.out.1.2.2.2.2.alloc hzW _).trans (H9.out.2.below (B := w.heap.size) (by omega) (by simp; omega))
        have hAdv : Advs w9 aL n (x.q ++ [a]).tail := by
          rcases HKW.out.2.2.1 with h0 | ⟨bL, oL, e, hb⟩
          · exact ⟨HKW.out.2.1.len, HKW.out.2.1.bound, Or.inl h0⟩
          · subst e; exact advs_only (HKW.out.2.1.below ((Below.refl _ _).alloc (Nat.le_refl _) _)) H9.out.2 (by omega)
        refine bodyPost_ret (v := .tuple #[.agg (stC (.slice aL n cL) ⟨(x.q ++ [a]).tail, x.due, x.fl, x.c⟩), .int .i64 0]) ?_ rfl (rcmdPost_ok HE.out HN.out (by simp [HL.out]) hAdv (fun e => absurd e HKW.out.2.2.2) (HKW.out.2.2.1.imp id fun ⟨g, o', e, hg⟩ => ⟨g, o', e, by omega⟩) hB9)
        obtain ⟨r0, r1, r2, r3, r4, r5, r6, r7⟩ := eight_cells H9.out.1
        simp [results, Try.f19, go_sem, r0, r1, r2, r3, r4, r5, r6, r7]
        rfl
      by_cases h1 : x.c < 1073741824
      ·
        by_cases hm : ms = 0
        ·
          have hb : advB ⟨(nxFirst x a).s, (nxFirst x a).r, (nxFirst x a).k⟩ ⟨x.due.s, x.due.r, x.due.k⟩ = false := advB_false hs
          have hmin : min (x.c + 1) 1073741824 = x.c + 1 := by omega
          have HN := Lib.hid (show nx ms x a = ⟨(x.q ++ [a]).tail, nxFirst x a, nxFirst x a, (x.c + 1)⟩ from nx_fly rfl hs hmin (Or.inl hm))
          have hz : (ms == 0) = true := by simp [hm]
          clear hm
          clear hs hmin
          go_wp2_with (refine wpList_store_new rfl 48 (.tmp 6) (.tmp 62) rfl (w.heap.size + 1 + 1 + 1) _ rfl rfl 48 _ (block_alloc HKW.out.1.2.2.2.1) (by kernel_rfl) rfl (by simp [Value.oneCell']) ?_; intro w9 H9)
          have hB9 : Below w.heap.size w w9 := (HKW.out.1.2.2.2.2.alloc hzW _).trans (H9.out.2.below (B := w.heap.size) (by omega) (by simp; omega))
          have hAdv : Advs w9 aL n (x.q ++ [a]).tail := by
            rcases HKW.out.2.2.1 with h0 | ⟨bL, oL, e, hb⟩
            · exact ⟨HKW.out.2.1.len, HKW.out.2.1.bound, Or.inl h0⟩
            · subst e; exact advs_only (HKW.out.2.1.below ((Below.refl _ _).alloc (Nat.le_refl _) _)) H9.out.2 (by omega)
          refine bodyPost_ret (v := .tuple #[.agg (stC (.slice aL n cL) ⟨(x.q ++ [a]).tail, nxFirst x a, nxFirst x a, (x.c + 1)⟩), .int .i64 0]) ?_ rfl (rcmdPost_ok HE.out HN.out (by simp [HL.out]) hAdv (fun e => absurd e HKW.out.2.2.2) (HKW.out.2.2.1.imp id fun ⟨g, o', e, hg⟩ => ⟨g, o', e, by omega⟩) hB9)
          obtain ⟨r0, r1, r2, r3, r4, r5, r6, r7⟩ := eight_cells H9.out.1
          simp [results, Try.f19, go_sem, r0, r1, r2, r3, r4, r5, r6, r7]
          rfl
        have hm0 : 0 < ms := by omega
        by_cases hm : (x.c + 1) % ms = 0
        ·
          have hb : advB ⟨(nxFirst x a).s, (nxFirst x a).r, (nxFirst x a).k⟩ ⟨x.due.s, x.due.r, x.due.k⟩ = false := advB_false hs
          have hmin : min (x.c + 1) 1073741824 = x.c + 1 := by omega
          have HN := Lib.hid (show nx ms x a = ⟨(x.q ++ [a]).tail, nxFirst x a, x.fl, (x.c + 1)⟩ from nx_miss rfl hs hmin (fun e => e.elim (fun e => by omega) (fun e => e hm)))
          have hz : (ms == 0) = false := by simp; omega
          have ht : (x.c + 1).tmod ms = (x.c + 1) % ms := Int.tmod_eq_emod_of_nonneg (by omega)
          have hr : ((x.c + 1) % ms != 0) = false := by simp [hm]
          clear hm
          clear hs hmin
          go_wp2_with (refine wpList_store_new rfl 48 (.tmp 6) (.tmp 62) rfl (w.heap.size + 1 + 1 + 1) _ rfl rfl 48 _ (block_alloc HKW.out.1.2.2.2.1) (by kernel_rfl) rfl (by simp [Value.oneCell']) ?_; intro w9 H9)
          have hB9 : Below w.heap.size w w9 := (HKW.out.1.2.2.2.2.alloc hzW _).trans (H9.out.2.below (B := w.heap.size) (by omega) (by simp; omega))
          have hAdv : Advs w9 aL n (x.q ++ [a]).tail := by
            rcases HKW.out.2.2.1 with h0 | ⟨bL, oL, e, hb⟩
            · exact ⟨HKW.out.2.1.len, HKW.out.2.1.bound, Or.inl h0⟩
            · subst e; exact advs_only (HKW.out.2.1.below ((Below.refl _ _).alloc (Nat.le_refl _) _)) H9.out.2 (by omega)
          refine bodyPost_ret (v := .tuple #[.agg (stC (.slice aL n cL) ⟨(x.q ++ [a]).tail, nxFirst x a, x.fl, (x.c + 1)⟩), .int .i64 0]) ?_ rfl (rcmdPost_ok HE.out HN.out (by simp [HL.out]) hAdv (fun e => absurd e HKW.out.2.2.2) (HKW.out.2.2.1.imp id fun ⟨g, o', e, hg⟩ => ⟨g, o', e, by omega⟩) hB9)
          obtain ⟨r0, r1, r2, r3, r4, r5, r6, r7⟩ := eight_cells H9.out.1
          simp [results, Try.f19, go_sem, r0, r1, r2, r3, r4, r5, r6, r7]
          rfl
        ·
          have hb : advB ⟨(nxFirst x a).s, (nxFirst x a).r, (nxFirst x a).k⟩ ⟨x.due.s, x.due.r, x.due.k⟩ = false := advB_false hs
          have hmin : min (x.c + 1) 1073741824 = x.c + 1 := by omega
          have HN := Lib.hid (show nx ms x a = ⟨(x.q ++ [a]).tail, nxFirst x a, nxFirst x a, (x.c + 1)⟩ from nx_fly rfl hs hmin (Or.inr hm))
          have hz : (ms == 0) = false := by simp; omega
          have ht : (x.c + 1).tmod ms = (x.c + 1) % ms := Int.tmod_eq_emod_of_nonneg (by omega)
          have hr : ((x.c + 1) % ms != 0) = true := by simp [hm]
          clear hm
          clear hs hmin
          go_wp2_with (refine wpList_store_new rfl 48 (.tmp 6) (.tmp 62) rfl (w.heap.size + 1 + 1 + 1) _ rfl rfl 48 _ (block_alloc HKW.out.1.2.2.2.1) (by kernel_rfl) rfl (by simp [Value.oneCell']) ?_; intro w9 H9)
          have hB9 : Below w.heap.size w w9 := (HKW.out.1.2.2.2.2.alloc hzW _).trans (H9.out.2.below (B := w.heap.size) (by omega) (by simp; omega))
          have hAdv : Advs w9 aL n (x.q ++ [a]).tail := by
            rcases HKW.out.2.2.1 with h0 | ⟨bL, oL, e, hb⟩
            · exact ⟨HKW.out.2.1.len, HKW.out.2.1.bound, Or.inl h0⟩
            · subst e; exact advs_only (HKW.out.2.1.below ((Below.refl _ _).alloc (Nat.le_refl _) _)) H9.out.2 (by omega)
          refine bodyPost_ret (v := .tuple #[.agg (stC (.slice aL n cL) ⟨(x.q ++ [a]).tail, nxFirst x a, nxFirst x a, (x.c + 1)⟩), .int .i64 0]) ?_ rfl (rcmdPost_ok HE.out HN.out (by simp [HL.out]) hAdv (fun e => absurd e HKW.out.2.2.2) (HKW.out.2.2.1.imp id fun ⟨g, o', e, hg⟩ => ⟨g, o', e, by omega⟩) hB9)
          obtain ⟨r0, r1, r2, r3, r4, r5, r6, r7⟩ := eight_cells H9.out.1
          simp [results, Try.f19, go_sem, r0, r1, r2, r3, r4, r5, r6, r7]
          rfl
      ·
        have h1 : x.c = 1073741824 := by omega
        by_cases hm : ms = 0
        ·
          have hxc : IntKind.i64.wrap (x.c + 1) = 1073741825 := by rw [h1]; rfl
          have hb : advB ⟨(nxFirst x a).s, (nxFirst x a).r, (nxFirst x a).k⟩ ⟨x.due.s, x.due.r, x.due.k⟩ = false := advB_false hs
          have hmin : min (x.c + 1) 1073741824 = 1073741824 := by omega
          have HN := Lib.hid (show nx ms x a = ⟨(x.q ++ [a]).tail, nxFirst x a, nxFirst x a, 1073741824⟩ from nx_fly rfl hs hmin (Or.inl hm))
          have hz : (ms == 0) = true := by simp [hm]
          clear hm
          clear hs hmin
          go_wp2_with (refine wpList_store_new rfl 48 (.tmp 6) (.tmp 62) rfl (w.heap.size + 1 + 1 + 1) _ rfl rfl 48 _ (block_alloc HKW.out.1.2.2.2.1) (by kernel_rfl) rfl (by simp [Value.oneCell']) ?_; intro w9 H9)
          have hB9 : Below w.heap.size w w9 := (HKW.out.1.2.2.2.2.alloc hzW _).trans (H9.out.2.below (B := w.heap.size) (by omega) (by simp; omega))
          have hAdv : Advs w9 aL n (x.q ++ [a]).tail := by
            rcases HKW.out.2.2.1 with h0 | ⟨bL, oL, e, hb⟩
            · exact ⟨HKW.out.2.1.len, HKW.out.2.1.bound, Or.inl h0⟩
            · subst e; exact advs_only (HKW.out.2.1.below ((Below.refl _ _).alloc (Nat.le_refl _) _)) H9.out.2 (by omega)
          refine bodyPost_ret (v := .tuple #[.agg (stC (.slice aL n cL) ⟨(x.q ++ [a]).tail, nxFirst x a, nxFirst x a, 1073741824⟩), .int .i64 0]) ?_ rfl (rcmdPost_ok HE.out HN.out (by simp [HL.out]) hAdv (fun e => absurd e HKW.out.2.2.2) (HKW.out.2.2.1.imp id fun ⟨g, o', e, hg⟩ => ⟨g, o', e, by omega⟩) hB9)
          obtain ⟨r0, r1, r2, r3, r4, r5, r6, r7⟩ := eight_cells H9.out.1
          simp [results, Try.f19, go_sem, r0, r1, r2, r3, r4, r5, r6, r7]
          rfl
        have hm0 : 0 < ms := by omega
        by_cases hm : (1073741824 : Int) % ms = 0
        ·
          have hb : advB ⟨(nxFirst x a).s, (nxFirst x a).r, (nxFirst x a).k⟩ ⟨x.due.s, x.due.r, x.due.k⟩ = false := advB_false hs
          have hmin : min (x.c + 1) 1073741824 = 1073741824 := by omega
          have HN := Lib.hid (show nx ms x a = ⟨(x.q ++ [a]).tail, nxFirst x a, x.fl, 1073741824⟩ from nx_miss rfl hs hmin (fun e => e.elim (fun e => by omega) (fun e => e hm)))
          have hz : (ms == 0) = false := by simp; omega
          have ht : (1073741824 : Int).tmod ms = 1073741824 % ms := Int.tmod_eq_emod_of_nonneg (by decide)
          have hr : ((1073741824 : Int) % ms != 0) = false := by simp [hm]
          clear hm
          clear hs hmin
          go_wp2_with (refine wpList_store_new rfl 48 (.tmp 6) (.tmp 62) rfl (w.heap.size + 1 + 1 + 1) _ rfl rfl 48 _ (block_alloc HKW.out.1.2.2.2.1) (by kernel_rfl) rfl (by simp [Value.oneCell']) ?_; intro w9 H9)
          have hB9 : Below w.heap.size w w9 := (HKW.out.1.2.2.2.2.alloc hzW _).trans (H9.out.2.below (B := w.heap.size) (by omega) (by simp; omega))
          have hAdv : Advs w9 aL n (x.q ++ [a]).tail := by
            rcases HKW.out.2.2.1 with h0 | ⟨bL, oL, e, hb⟩
            · exact ⟨HKW.out.2.1.len, HKW.out.2.1.bound, Or.inl h0⟩
            · subst e; exact advs_only (HKW.out.2.1.below ((Below.refl _ _).alloc (Nat.le_refl _) _)) H9.out.2 (by omega)
          refine bodyPost_ret (v := .tuple #[.agg (stC (.slice aL n cL) ⟨(x.q ++ [a]).tail, nxFirst x a, x.fl, 1073741824⟩), .int .i64 0]) ?_ rfl (rcmdPost_ok HE.out HN.out (by simp [HL.out]) hAdv (fun e => absurd e HKW.out.2.2.2) (HKW.out.2.2.1.imp id fun ⟨g, o', e, hg⟩ => ⟨g, o', e, by omega⟩) hB9)
          obtain ⟨r0, r1, r2, r3, r4, r5, r6, r7⟩ := eight_cells H9.out.1
          simp [results, Try.f19, go_sem, r0, r1, r2, r3, r4, r5, r6, r7]
          rfl
        ·
          have hb : advB ⟨(nxFirst x a).s, (nxFirst x a).r, (nxFirst x a).k⟩ ⟨x.due.s, x.due.r, x.due.k⟩ = false := advB_false hs
          have hmin : min (x.c + 1) 1073741824 = 1073741824 := by omega
          have HN := Lib.hid (show nx ms x a = ⟨(x.q ++ [a]).tail, nxFirst x a, nxFirst x a, 1073741824⟩ from nx_fly rfl hs hmin (Or.inr hm))
          have hz : (ms == 0) = false := by simp; omega
          have ht : (1073741824 : Int).tmod ms = 1073741824 % ms := Int.tmod_eq_emod_of_nonneg (by decide)
          have hr : ((1073741824 : Int) % ms != 0) = true := by simp [hm]
          clear hm
          clear hs hmin
          go_wp2_with (refine wpList_store_new rfl 48 (.tmp 6) (.tmp 62) rfl (w.heap.size + 1 + 1 + 1) _ rfl rfl 48 _ (block_alloc HKW.out.1.2.2.2.1) (by kernel_rfl) rfl (by simp [Value.oneCell']) ?_; intro w9 H9)
          have hB9 : Below w.heap.size w w9 := (HKW.out.1.2.2.2.2.alloc hzW _).trans (H9.out.2.below (B := w.heap.size) (by omega) (by simp; omega))
          have hAdv : Advs w9 aL n (x.q ++ [a]).tail := by
            rcases HKW.out.2.2.1 with h0 | ⟨bL, oL, e, hb⟩
            · exact ⟨HKW.out.2.1.len, HKW.out.2.1.bound, Or.inl h0⟩
            · subst e; exact advs_only (HKW.out.2.1.below ((Below.refl _ _).alloc (Nat.le_refl _) _)) H9.out.2 (by omega)
          refine bodyPost_ret (v := .tuple #[.agg (stC (.slice aL n cL) ⟨(x.q ++ [a]).tail, nxFirst x a, nxFirst x a, 1073741824⟩), .int .i64 0]) ?_ rfl (rcmdPost_ok HE.out HN.out (by simp [HL.out]) hAdv (fun e => absurd e HKW.out.2.2.2) (HKW.out.2.2.1.imp id fun ⟨g, o', e, hg⟩ => ⟨g, o', e, by omega⟩) hB9)
          obtain ⟨r0, r1, r2, r3, r4, r5, r6, r7⟩ := eight_cells H9.out.1
          simp [results, Try.f19, go_sem, r0, r1, r2, r3, r4, r5, r6, r7]
          rfl
end Go.Proofs.Ytjidpkcoaoflbaa
