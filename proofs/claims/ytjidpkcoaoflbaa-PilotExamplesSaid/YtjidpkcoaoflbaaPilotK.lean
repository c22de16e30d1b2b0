/-
  Layer 37 (pilot): Run, walked.
-/
import Derived.Test.YtjidpkcoaoflbaaPilotJ
import Derived.Test.YtjidpkcoaoflbaaRunMath
import Derived.Test.YtjidpkcoaoflbaaPrsLib
namespace Go.Proofs.Ytjidpkcoaoflbaa
open Go.RowKit PilotMath MyHeap MyOwn PlaneMath

theorem ownBlock_ge {w : World} {base : Nat} {e : TypeId} {size : Nat} {v : Value} {n : Nat} {xs : List Value} (h : w.ownsRow base e size v n xs) {b : Nat} (hb : b < base) : v.ownBlock ≠ some b := fun e' => by
  have := (h.lt b e').1
  omega

/-- What Run leaves. -/
def RunPost (d pl ms z v : Int) (l : List Adv) (w : World) (e : Ending) (w' : World) : Prop :=
  ∃ s, e = .returned (.tuple #[s, .int .i64 (rnE d pl ms z v l)]) ∧ w'.ownsRow w.heap.size 25 2 s (rnL d pl ms z v l).length (flat2 (rnL d pl ms z v l)) ∧ Below w.heap.size w w'
theorem runPost_err {d pl ms z v : Int} {l : List Adv} {E : Int} {w w' : World} (h : rnE d pl ms z v l = E) (h0 : E ≠ 0) (hB : Below w.heap.size w w') : RunPost d pl ms z v l w (.returned (.tuple #[.slice none 0 0, .int .i64 E])) w' := by
  refine ⟨.slice none 0 0, by rw [h], ?_, hB⟩
  rw [rnL_err (by rw [h]; exact h0)]
  exact ⟨rfl, Or.inl ⟨rfl, rfl⟩⟩
theorem runPost_ok {d pl ms z v : Int} {l : List Adv} {n : Nat} {s : Value} {base : Nat} {w w' : World} (h : rnE d pl ms z v l = 0) (hn : l.length = n) (ho : w'.ownsRow base 25 2 s (n + 1) (flat2 (psts pl (rnB ms d.toNat l) z v (n + 1)))) (hb : w.heap.size ≤ base) (hB : Below w.heap.size w w') : RunPost d pl ms z v l w (.returned (.tuple #[s, .int .i64 0])) w' := by
  subst hn
  refine ⟨s, by rw [h], ?_, hB⟩
  rw [rnL_ok h, psts_length]
  exact ownsRow_base ho hb

/-- In Run: the pilot, the aircraft, the state with its queue, and nothing of w0 written. -/
def RnK (w0 : World) (T : TypeId) (bP bX bS : Nat) (d : Nat) (pl ms : Int) (aq : Option Addr) (c : Nat) (y : St) (z v : Int) (w : World) : Prop :=
  w.heap[bP]? = some (.cells #[.int .i64 (d : Int), .int .i64 pl, .int .i64 ms] 23 (0, 0)) ∧ w.heap[bX]? = some (.cells #[.int .i64 z, .int .i64 v] 25 (0, 0)) ∧ w.heap[bS]? = some (.cells (stC (.slice aq d c) y) T (0, 0)) ∧
  Advs w aq d y.q ∧ (d = 0 ∨ ∃ g off, aq = some ⟨g, off, none⟩ ∧ g ≠ bS ∧ g ≠ bX) ∧ Below w0.heap.size w0 w
section
variable {w0 : World} {T : TypeId} {bP bX bS d : Nat} {pl ms : Int} {aq : Option Addr} {c : Nat} {y : St} {z v : Int} {w w' : World}
theorem RnK.keep (h : RnK w0 T bP bX bS d pl ms aq c y z v w) (hb : Below w.heap.size w w') : RnK w0 T bP bX bS d pl ms aq c y z v w' :=
  ⟨keepO hb h.1, keepO hb h.2.1, keepO hb h.2.2.1, h.2.2.2.1.below hb, h.2.2.2.2.1, h.2.2.2.2.2.trans (hb.mono h.2.2.2.2.2.size)⟩
theorem RnK.alloc (h : RnK w0 T bP bX bS d pl ms aq c y z v w) (o : Obj) : RnK w0 T bP bX bS d pl ms aq c y z v (w.alloc o) := h.keep ((Below.refl _ _).alloc (Nat.le_refl _) _)
theorem RnK.storeS (h : RnK w0 T bP bX bS d pl ms aq c y z v w) {aq' : Option Addr} {c' : Nat} {y' : St} (hS : w'.heap[bS]? = some (.cells (stC (.slice aq' d c') y') T (0, 0))) (hO : Only bS w w') (hA : Advs w aq' d y'.q) (hap : d = 0 ∨ ∃ g off, aq' = some ⟨g, off, none⟩ ∧ g ≠ bS ∧ g ≠ bX) (h1 : bP ≠ bS) (h2 : bX ≠ bS) (hb : w0.heap.size ≤ bS) : RnK w0 T bP bX bS d pl ms aq' c' y' z v w' := by
  refine ⟨hO.keeps h.1 h1, hO.keeps h.2.1 h2, hS, ?_, hap, h.2.2.2.2.2.trans (hO.below hb h.2.2.2.2.2.size)⟩
  rcases hap with h0 | ⟨g, off, e, hg, _⟩
  · exact ⟨hA.len, hA.bound, Or.inl h0⟩
  · subst e; exact advs_only hA hO hg
theorem RnK.storeX (h : RnK w0 T bP bX bS d pl ms aq c y z v w) {z' v' : Int} (hX : w'.heap[bX]? = some (.cells #[.int .i64 z', .int .i64 v'] 25 (0, 0))) (hO : Only bX w w') (h1 : bP ≠ bX) (h2 : bS ≠ bX) (hb : w0.heap.size ≤ bX) : RnK w0 T bP bX bS d pl ms aq c y z' v' w' := by
  refine ⟨hO.keeps h.1 h1, hX, hO.keeps h.2.2.1 h2, ?_, h.2.2.2.2.1, h.2.2.2.2.2.trans (hO.below hb h.2.2.2.2.2.size)⟩
  rcases h.2.2.2.2.1 with h0 | ⟨g, off, e, _, hg⟩
  · exact ⟨h.2.2.2.1.len, h.2.2.2.1.bound, Or.inl h0⟩
  · subst e; exact advs_only h.2.2.2.1 hO hg
theorem RnK.grow (h : RnK w0 T bP bX bS d pl ms aq c y z v w) {ob : Option Nat} (hg : w.grownBy w' ob) (h1 : ob ≠ some bP) (h2 : ob ≠ some bX) (h3 : ob ≠ some bS) (hq : d = 0 ∨ ∃ g off, aq = some ⟨g, off, none⟩ ∧ ob ≠ some g) (hB : Below w0.heap.size w w') : RnK w0 T bP bX bS d pl ms aq c y z v w' := by
  have hk : ∀ {b : Nat} {o : Obj}, w.heap[b]? = some o → ob ≠ some b → w'.heap[b]? = some o := fun hb hne => (hg.block _ (lt_of_block hb) (fun e => hne e.symm)).trans hb
  refine ⟨hk h.1 h1, hk h.2.1 h2, hk h.2.2.1 h3, ?_, h.2.2.2.2.1, h.2.2.2.2.2.trans hB⟩
  have hA := h.2.2.2.1
  rcases hq with h0 | ⟨g, off, e, hne⟩
  · exact ⟨hA.len, hA.bound, Or.inl h0⟩
  · subst e
    refine ⟨hA.len, hA.bound, ?_⟩
    rcases hA.cells with h0 | ⟨b', off', e, hc⟩
    · exact Or.inl h0
    · cases e
      have hcell : ∀ o x, w.cell? ⟨g, o, none⟩ = some x → w'.cell? ⟨g, o, none⟩ = some x := fun o x hx => (World.cell?_of_block (w := w) (hg.block g (World.block_lt_of_cell? w _ hx) (fun e => hne e.symm))).trans hx
      exact Or.inr ⟨g, off, rfl, fun i hi => ⟨hcell _ _ (hc i hi).1, hcell _ _ (hc i hi).2.1, hcell _ _ (hc i hi).2.2⟩⟩
end
theorem QNew.apart3 {w : World} {base : Nat} {a : Option Addr} {c : Nat} {q : List Adv} (h : QNew w base a c q) {d : Nat} (hd : q.length = d) : d = 0 ∨ ∃ g off, a = some ⟨g, off, none⟩ ∧ base ≤ g := by
  rcases h.2.1 with h0 | ⟨g, _, _, e, hg, _, _⟩
  · exact Or.inl (by omega)
  · exact Or.inr ⟨g, 0, e, hg⟩
theorem QNew.apart2 {w : World} {base : Nat} {a : Option Addr} {c : Nat} {q : List Adv} (h : QNew w base a c q) {bS bX d : Nat} (hd : q.length = d) (hS : bS < base) (hX : bX < base) : d = 0 ∨ ∃ g off, a = some ⟨g, off, none⟩ ∧ g ≠ bS ∧ g ≠ bX := by
  rcases h.2.1 with h0 | ⟨g, _, _, e, hg, _, _⟩
  · exact Or.inl (by omega)
  · exact Or.inr ⟨g, 0, e, by omega, by omega⟩

set_option maxRecDepth 100000 in
set_option maxHeartbeats 16000000 in
theorem Run_call (d pl ms z v : Int) (a : Option Addr) (n c : Nat) (l : List Adv) (w : World) (hl : Advs w a n l) (hs : Pos l) :
    Calls Try.prog 10 #[.agg #[.int .i64 d, .int .i64 pl, .int .i64 ms], .agg #[.int .i64 z, .int .i64 v], .slice a n c] w (RunPost d pl ms z v l w) := by
  have hlen := hl.len
  have hm := hl.bound
  have HL := Lib.hid hl
  have HLen := Lib.hid hlen
  have HPos := Lib.hid hs
  clear hl hlen hs
  by_cases hp : plE d pl ms = 0
  · obtain ⟨d0, d16, p1, p32, m0, m1⟩ := plE_ok hp
    obtain ⟨d, rfl⟩ : ∃ k : Nat, d = (k : Int) := ⟨d.toNat, by omega⟩
    have HP := Lib.hid hp
    clear hp
    go_enter Try.func10, Try.ntmps10
    go_wp2_with fail
    refine (pNew _ _ _ _).mono ?_
    rintro e w1 ⟨aq, cq, q, rfl, hq0, _, hQN, hb1⟩
    obtain rfl := hq0 HP.out
    have hdt : ((d : Int)).toNat = d := by omega
    rw [hdt] at hQN ⊢
    rw [HP.out]
    have hrl : (List.replicate d adv0).length = d := List.length_replicate
    rw [hrl]
    have hB1 : Below w.heap.size w w1 := (((Below.refl _ w).alloc (Nat.le_refl _) _).alloc (by simp) _).trans (hb1.mono (by simp; omega))
    have hz1 := hb1.size
    simp only [World.size_alloc] at hz1
    have hK0 : RnK w 38 w.heap.size (w.heap.size + 1) w1.heap.size d pl ms aq cq (st0 d) z v (w1.alloc (.cells (stC (.slice aq d cq) (st0 d)) 38)) := by
      refine ⟨block_alloc (keepO hb1 (block_alloc (block_new _ _ rfl))), block_alloc (keepO hb1 (block_new _ _ (by simp))), block_new _ _ rfl, ?_, ?_, hB1.alloc hB1.size _⟩
      · have h := hQN.1
        rw [hrl] at h
        exact h.below ((Below.refl _ _).alloc (Nat.le_refl _) _)
      · rcases hQN.2.1 with h0 | ⟨g, _, _, e, hg, hh, _⟩
        · exact Or.inl (by rw [hrl] at h0; exact h0)
        · refine Or.inr ⟨g, 0, e, ?_, ?_⟩
          · have := lt_of_block hh; omega
          · simp at hg; omega
    have hdc : d ≤ cq := by have := hQN.2.2.1; rw [hrl] at this; exact this
    have hX1 := keepO hb1 (block_new (w.alloc (.cells #[.int .i64 (d : Int), .int .i64 pl, .int .i64 ms] 23)) (.cells #[.int .i64 z, .int .i64 v] 25) (n := w.heap.size + 1) (by simp))
    obtain ⟨x0, x1, _, _⟩ := two_old hX1
    have HK0 := Lib.hid hK0
    clear hX1 hK0 hQN hb1 hB1 hdt hrl
    unfold stV
    have e0 : (st0 d).c = 0 := rfl
    by_cases hst : stE z v = 0
    · have HST := Lib.hid hst
      by_cases hn : n ≤ 256
      · have hdl : decide ((256 : Int) < (n : Int)) = false := decide_eq_false (by omega)
        have HNN := Lib.hid (rnE_first (l := l) HP.out hst (by rw [HLen.out]; exact hn))
        clear hst
        have hzx : w.heap.size + 1 < w1.heap.size := by omega
        go_wp2_with fail
        refine (Check_call _ _ _).mono ?_; rintro e w2 ⟨rfl, hb2⟩
        rw [HST.out]
        have HK2 := Lib.hid (HK0.out.keep hb2)
        have hzS := lt_of_block HK2.out.2.2.1
        clear hb2 HK0 x0 x1
        generalize hbS : w1.heap.size = bS at *
        clear hbS
        go_wp2_with fail
        go_loopw [6, 7, 40] (fun s6 s7 kv wr => s6 = .slice none 0 0 ∧ s7 = .int .i64 0 ∧ ∃ k : Nat, k ≤ n ∧ kv = .int .i64 k ∧ OkTo l k ∧ RnK w 38 w.heap.size (w.heap.size + 1) bS d pl ms aq cq (st0 d) z v wr) (fun _ _ kv _ => n - (intOf kv).toNat)
        case atStart => exact ⟨rfl, rfl, 0, by omega, rfl, fun i hi => by omega, HK2.out⟩
        case round =>
          obtain ⟨rfl, rfl, k, hk, rfl, hO, hK⟩ := hrel
          clear HK2
          have HK := Lib.hid hK
          have HO := Lib.hid hO
          by_cases hlt : k < n
          · obtain ⟨b, off, rfl, y0, y1, y2⟩ := advs_at (HL.out.below hK.2.2.2.2.2) hlt
            clear hK hO
            go_wp2_with fail
            refine (Bounds_call (ga l k) _ (pos_ga HPos.out k)).mono ?_; rintro e w4 ⟨rfl, hb4⟩
            have H4 := Lib.hid ((HK.out.alloc (.cells #[.int .u8 (ga l k).s, .int .i64 (ga l k).r, .bool (ga l k).k] 36)).keep hb4)
            clear hb4 y0 y1 y2
            by_cases hE : bndE (ga l k) = 0
            · have HE := Lib.hid hE
              rw [hE]
              clear hE
              go_wp2_with fail
              go_roundw
              case rel => exact ⟨rfl, rfl, k + 1, by omega, by go_num, okTo_succ HO.out HE.out, H4.out⟩
              case measure => simp [intOf]; omega
            · have HE := Lib.hid hE
              have hEb : (bndE (ga l k) != 0) = true := by simp [hE]
              clear hE
              go_wp2_with fail
              go_ret2
              have hf := firstE_at (by rw [HLen.out]; exact hlt) HO.out HE.out
              exact runPost_err (by rw [HNN.out, hf]) HE.out H4.out.2.2.2.2.2
          · obtain rfl : k = n := by omega
            have hF : firstE l = 0 := firstE_ok (by rw [HLen.out]; exact hO)
            have HF := Lib.hid hF
            obtain ⟨x0, x1, _, _⟩ := two_old hK.2.1
            have hzr := hK.2.2.2.2.2.size
            have hX := lt_of_block hK.2.1
            clear hK hF hO
            go_wp2_with fail
            have HR := Lib.hid (show rnE d pl ms z v l = 0 by rw [HNN.out, HF.out])
            have HOk := Lib.hid (show OkTo l l.length by rw [HLen.out]; exact HO.out)
            have HBd := Lib.hid (rnB_bd (ms := ms) (d := d) (fun i _ => pos_ga HPos.out i) HOk.out)
            have HX := Lib.hid (show RnK w 38 w.heap.size (w.heap.size + 1) bS d pl ms aq cq (st0 d) z v (wr.alloc (.cells #[.int .i64 z, .int .i64 v] 25)) from HK.out.alloc _)
            have HO2 := Lib.hid (show (wr.alloc (.cells #[.int .i64 z, .int .i64 v] 25)).ownsRow wr.heap.size 25 2 (.slice (some ⟨wr.heap.size, 0, none⟩) 1 1) (0 + 1) (flat2 (psts pl (rnB ms d l) z v (0 + 1))) from ownedBlock (block_new _ _ rfl) (Nat.le_refl _))
            have hSr := lt_of_block HK.out.2.2.1
            have hPr := lt_of_block HK.out.1
            generalize hbase : wr.heap.size = base at *
            have HBase := Lib.hid hbase
            obtain ⟨ip, hpi, hpz, hps, hpb⟩ := info_parts infoPlane2
            have HPI := Lib.hid (And.intro hpi (And.intro hpz (And.intro hps hpb)))
            clear hbase hpi hpz hps hpb x0 x1 HO
            go_loopw [16, 58] (fun s kv wi => ∃ j : Nat, j ≤ k ∧ kv = .int .i64 j ∧ ∃ aj cj, d ≤ cj ∧ RnK w 38 w.heap.size (w.heap.size + 1) bS d pl ms aj cj (stK ms d l j) (pst pl (rnB ms d l) j z v).1 (pst pl (rnB ms d l) j z v).2 wi ∧ wi.ownsRow base 25 2 s (j + 1) (flat2 (psts pl (rnB ms d l) z v (j + 1))) ∧ base ≤ wi.heap.size) (fun _ kv _ => k - (intOf kv).toNat)
            case atStart => exact ⟨0, by omega, rfl, aq, cq, hdc, HX.out, HO2.out, by rw [← HBase.out]; simp⟩
            case round =>
              obtain ⟨j, hj, rfl, aj, cj, hcj, hK, hO, hbz⟩ := hrel
              clear HX HO2 HK
              have HK := Lib.hid hK
              have HO := Lib.hid hO
              by_cases hlj : j < k
              · obtain ⟨b, off, rfl, t0, t1, t2⟩ := advs_at (HL.out.below hK.2.2.2.2.2) hlj
                obtain ⟨p0, p1, p2⟩ := three_old hK.1
                obtain ⟨q0, q1, q2, q3, q4, q5, q6, q7⟩ := eight_cells hK.2.2.1
                have hgd := Lib.hid (stK_good (ms := ms) (d := d) (l := l) (fun i _ => pos_ga HPos.out i) HOk.out j (by rw [HLen.out]; omega))
                have hgd1 := Lib.hid (stK_good (ms := ms) (d := d) (l := l) (fun i _ => pos_ga HPos.out i) HOk.out (j + 1) (by rw [HLen.out]; omega))
                have hl1 : w.heap.size < wr.heap.size := by omega
                have hl2 : bS < wr.heap.size := by omega
                have hl3 : w.heap.size < wr.heap.size + 1 := by omega
                have hl4 : bS < wr.heap.size + 1 := by omega
                clear hK hO
                have hyl := Lib.hid (stK_len ms d l j)
                have hyl1 := Lib.hid (stK_len ms d l (j + 1))
                have hnx := Lib.hid (show nx ms (stK ms d l j) (ga l j) = stK ms d l (j + 1) from rfl)
                have hps := Lib.hid (show (pst pl (rnB ms d l) (j + 1) z v) = (nxtZ (pst pl (rnB ms d l) j z v).1 (pst pl (rnB ms d l) j z v).2, nxtV (pst pl (rnB ms d l) j z v).1 (pst pl (rnB ms d l) j z v).2 (bndL (stK ms d l (j + 1)).fl) (bndH (stK ms d l (j + 1)).fl) pl) by rw [pst_succ, rnB_get (by rw [HLen.out]; exact hlj)]; rfl)
                have hstj := Lib.hid (pst_st (pull := pl) (l := rnB ms d l) (by omega) (stE_of HST.out) j (HBd.out j (by rw [HLen.out]; omega)))
                have hpsts := Lib.hid (psts_succ pl (rnB ms d l) z v (j + 1))
                generalize hy : stK ms d l j = y at *
                generalize hy1 : stK ms d l (j + 1) = y1 at *
                generalize hx : pst pl (rnB ms d l) j z v = px at *
                generalize hx1 : pst pl (rnB ms d l) (j + 1) z v = px1 at *
                have HY := Lib.hid (And.intro hy (And.intro hy1 (And.intro hx hx1)))
                clear hy hy1 hx hx1
                go_wp2_with fail
                refine (pnext_call d pl ms aj cj y (ga l j) _ (HK.out.2.2.2.1.below ((Below.refl _ _).alloc (Nat.le_refl _) _)) (by omega) hcj hgd.out.c0 hgd.out.c1 m0 m1).mono ?_
                rintro e w3 ⟨a3, c3, rfl, hq3, hb3⟩
                rw [hnx.out] at hq3 ⊢
                rw [hyl1.out]
                have hK3 := (HK.out.alloc (.cells #[.int .u8 (ga l j).s, .int .i64 (ga l j).r, .bool (ga l j).k] 36)).keep hb3
                have hap4 := Lib.hid (hq3.apart3 hyl1.out)
                have hap3 := hq3.apart2 (bS := bS) (bX := w.heap.size + 1) hyl1.out (by simp; omega) (by simp; omega)
                have hA3 : Advs w3 a3 d y1.q := by have h := hq3.1; rw [hyl1.out] at h; exact h
                have hc3 : d ≤ c3 := by have h := hq3.2.2.1; rw [hyl1.out] at h; exact h
                have hO3 : w3.ownsRow base 25 2 _ (j + 1) (flat2 (psts pl (rnB ms d l) z v (j + 1))) := ownsRow_below (ownsRow_below HO.out ((Below.refl _ _).alloc (Nat.le_refl _) _) (Nat.le_refl _)) hb3 (Nat.le_refl _)
                have hz3 := hb3.size
                simp only [World.size_alloc] at hz3
                have H3 := Lib.hid (And.intro hK3 (And.intro hap3 (And.intro hA3 hO3)))
                clear hq3 hb3 hK3 hap3 hA3 hO3 p0 p1 p2 q0 q1 q2 q3 q4 q5 q6 q7 t0 t1 t2
                go_wp2_with (refine wpList_store_new rfl 38 (.tmp 8) (.tmp 65) rfl bS (stC (.slice a3 d c3) y1) rfl rfl 38 _ H3.out.1.2.2.1 (by kernel_rfl) rfl (by simp [stC, Value.oneCell']) ?_; intro w4 H4; obtain ⟨_, _, _, _, q4, q5, q6, _⟩ := eight_cells H4.out.1)
                have hK4 := H3.out.1.storeS H4.out.1 H4.out.2 H3.out.2.2.1 H3.out.2.1 (by omega) (by omega) (by omega)
                have hO4 : w4.ownsRow base 25 2 _ (j + 1) (flat2 (psts pl (rnB ms d l) z v (j + 1))) := ownsRow_only H3.out.2.2.2 H4.out.2 (ownBlock_ge H3.out.2.2.2 hSr)
                have hz4 := H4.out.2.size
                have H5 := Lib.hid (And.intro hK4 hO4)
                clear hK4 hO4
                refine (Bounds_call y1.fl _ hgd1.out.fl.2).mono ?_; rintro e w5 ⟨rfl, hb5⟩
                have hK5 := H5.out.1.keep hb5
                have hO5 := ownsRow_below H5.out.2 hb5 (Nat.le_refl _)
                obtain ⟨_, p1, _⟩ := three_old hK5.1
                obtain ⟨x0, x1, _, _⟩ := two_old hK5.2.1
                have hz5 := hb5.size
                have H6 := Lib.hid (And.intro hK5 hO5)
                clear hK5 hO5 hb5 q4 q5 q6
                go_wp2_with fail
                refine (Fly_call _ _ _ _ _ _).mono ?_; rintro e w6 ⟨rfl, hb6⟩
                have hfb : flyB px.1 px.2 (bndL y1.fl) (bndH y1.fl) pl = true := by
                  have hbb := bnd_ok hgd1.out.fl.1
                  unfold flyB
                  rw [hstj.out, hbb]
                  simp; omega
                rw [(fly_yes hfb).1, (fly_yes hfb).2.1, (fly_yes hfb).2.2]
                clear hfb
                have hp1 : nxtZ px.1 px.2 = px1.1 := by rw [hps.out]
                have hp2 : nxtV px.1 px.2 (bndL y1.fl) (bndH y1.fl) pl = px1.2 := by rw [hps.out]
                rw [hp1, hp2]
                clear hp1 hp2
                have hK6 := H6.out.1.keep hb6
                have hO6 := ownsRow_below H6.out.2 hb6 (Nat.le_refl _)
                have hz6 := hb6.size
                have H7 := Lib.hid (And.intro hK6 hO6)
                clear hK6 hO6 hb6 p1 x0 x1
                go_wp2_with (first
                  | (at_builtin; refine wpList_append_own _ rfl _ _ 28 rfl base 25 ip _ 2 16 Try.underlying28 HPI.out.1 HPI.out.2.1 HPI.out.2.2.1 HPI.out.2.2.2 rfl (by decide) _ (j + 1) _ rfl (HO8.out.alloc _) ⟨w8.heap.size, 0, none⟩ 1 1 [.int .i64 px1.1, .int .i64 px1.2] rfl rfl ?c1 ?c2 ?c3 ?c4 ?c5 ?_; rotate_right; intro v9 w9 hown9 hg9 _)
                  | (refine wpList_store_new rfl 25 (.tmp 4) (.tmp 80) rfl (w.heap.size + 1) #[.int .i64 px1.1, .int .i64 px1.2] rfl rfl 25 _ H7.out.1.2.1 (by kernel_rfl) rfl (by simp [Value.oneCell']) ?_; intro w8 H8; obtain ⟨x0, x1, _, _⟩ := two_old H8.out.1; have hz8 := H8.out.2.size; have HO8 := Lib.hid (ownsRow_only H7.out.2 H8.out.2 (ownBlock_ge H7.out.2 (by omega)))))
                case c1 => exact cellsTwo rfl
                case c2 => intro u hu; simp at hu; rcases hu with rfl | rfl <;> rfl
                case c3 => unfold maxLen; omega
                case c4 => omega
                case c5 => simp; omega
                have hK8 := (H7.out.1.storeX H8.out.1 H8.out.2 (by omega) (by omega) (by omega)).alloc (.cells #[.int .i64 px1.1, .int .i64 px1.2] 25)
                have hg9' := grownBelow (B := base) (HO8.out.alloc _) hg9 (Nat.le_refl _) (by simp; omega)
                have hob : ∀ b, u16.ownBlock = some b → b < wr.heap.size := fun b hb => (HO.out.lt b hb).2
                have H9 := Lib.hid (And.intro hK8 (And.intro hg9 (And.intro hg9' (And.intro hown9 hob))))
                clear hK8 hg9 hg9' hown9 hob
                go_roundw
                case rel =>
                  refine ⟨j + 1, by omega, by go_num, a3, c3, hc3, ?_, ?_, Nat.le_trans (by simp; omega) H9.out.2.2.1.size⟩
                  · rw [HY.out.2.1, HY.out.2.2.2]
                    refine H9.out.1.grow H9.out.2.1 (ownBlock_ge HO.out hPr) (ownBlock_ge HO.out hX) (ownBlock_ge HO.out hSr) ?_ (H9.out.2.2.1.mono (by omega))
                    rcases hap4.out with h0 | ⟨g, off', e, hg⟩
                    · exact Or.inl h0
                    · exact Or.inr ⟨g, off', e, fun e' => by have := H9.out.2.2.2.2 g e'; simp at hg; omega⟩
                  · rw [hpsts.out, flat2_snoc]; exact H9.out.2.2.2.1
                case measure => simp [intOf]; omega
              · obtain rfl : j = k := by omega
                go_wp2
                go_ret2
                have hO' := HO.out
                exact runPost_ok HR.out HLen.out (by rw [show ((d : Int)).toNat = d by omega]; exact hO') (by omega) HK.out.2.2.2.2.2
      · have HE := Lib.hid (rnE_long (l := l) HP.out hst (by rw [HLen.out]; omega))
        have hdl : decide ((256 : Int) < (n : Int)) = true := decide_eq_true (by omega)
        have hzx : w.heap.size + 1 < w1.heap.size := by omega
        clear hst
        go_wp2_with fail
        refine (Check_call _ _ _).mono ?_; rintro e w2 ⟨rfl, hb2⟩
        rw [HST.out]
        have HB2 := Lib.hid (HK0.out.keep hb2).2.2.2.2.2
        clear hb2 x0 x1
        go_wp2
        go_ret2
        exact runPost_err HE.out (by decide) HB2.out
    · have HE := Lib.hid (rnE_st (l := l) HP.out hst)
      have HST := Lib.hid hst
      have hne : (stE z v != 0) = true := by simp [hst]
      have hzx : w.heap.size + 1 < w1.heap.size := by omega
      clear hst
      go_wp2_with fail
      refine (Check_call _ _ _).mono ?_; rintro e w2 ⟨rfl, hb2⟩
      have HB2 := Lib.hid (HK0.out.keep hb2).2.2.2.2.2
      clear hb2 x0 x1
      go_wp2
      go_ret2
      exact runPost_err HE.out HST.out HB2.out
  · have HE := Lib.hid (rnE_pl (z := z) (v := v) (l := l) hp)
    have HP := Lib.hid hp
    have hne : (plE d pl ms != 0) = true := by simp [hp]
    clear hp
    go_enter Try.func10, Try.ntmps10
    go_wp2_with fail
    refine (pNew _ _ _ _).mono ?_
    rintro e w1 ⟨aq, cq, q, rfl, _, _, _, hb1⟩
    have hB1 : Below w.heap.size w w1 := (((Below.refl _ w).alloc (Nat.le_refl _) _).alloc (by simp) _).trans (hb1.mono (by simp; omega))
    have HB1 := Lib.hid (hB1.alloc hB1.size (.cells (stC (.slice aq q.length cq) ⟨q, adv0, adv0, 0⟩) 38))
    clear hb1 hB1
    unfold stV
    go_wp2
    go_ret2
    exact runPost_err HE.out HP.out HB1.out
end Go.Proofs.Ytjidpkcoaoflbaa
