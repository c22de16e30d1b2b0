/-
  Layer 37 (pilot): the law PilotMatches, walked. Printed by genPilotU.py.
-/
import Derived.Test.YtjidpkcoaoflbaaPilotP
import Derived.Deep.RegionHeld3
import Derived.Deep.DeepCutAuto
namespace Go.Proofs.Ytjidpkcoaoflbaa
open Go.RowKit PilotMath MyHeap MyOwn PlaneMath MyCopy

/-- In PilotMatches: what came in, the copy of the state, the reference's state, and nothing of w0 written. -/
structure MtK (w0 : World) (d pl ms z v : Int) (x : St) (x2 : Adv) (a a' : Option Addr) (n c c' bI bR : Nat) (w : World) : Prop where
  p : w.heap[w0.heap.size]? = some (.cells #[.int .i64 d, .int .i64 pl, .int .i64 ms] 23 (0, 0))
  av : w.heap[w0.heap.size + 2]? = some (.cells #[.int .u8 x2.s, .int .i64 x2.r, .bool x2.k] 36 (0, 0))
  pv : w.heap[w0.heap.size + 3]? = some (.cells #[.int .i64 z, .int .i64 v] 25 (0, 0))
  i : w.heap[bI]? = some (.cells (stC (.slice a' n c') x) 38 (0, 0))
  r : w.heap[bR]? = some (.cells (stC (.slice a n c) x) 48 (0, 0))
  q : Advs w a n x.q
  q' : Advs w a' n x.q
  b : Below w0.heap.size w0 w
section
variable {w0 : World} {d pl ms z v : Int} {x : St} {x2 : Adv} {a a' : Option Addr} {n c c' bI bR : Nat} {w w' : World}
theorem MtK.keep (h : MtK w0 d pl ms z v x x2 a a' n c c' bI bR w) (hb : Below w.heap.size w w') : MtK w0 d pl ms z v x x2 a a' n c c' bI bR w' :=
  ⟨keepO hb h.p, keepO hb h.av, keepO hb h.pv, keepO hb h.i, keepO hb h.r, h.q.below hb, h.q'.below hb, h.b.trans (hb.mono h.b.size)⟩
theorem MtK.alloc (h : MtK w0 d pl ms z v x x2 a a' n c c' bI bR w) (o : Obj) : MtK w0 d pl ms z v x x2 a a' n c c' bI bR (w.alloc o) := h.keep ((Below.refl _ _).alloc (Nat.le_refl _) _)
end
theorem same_lit (a a' : Option Addr) (n c c' : Nat) (l : List Adv) (ds dr fs fr cc : Int) (dk fk : Bool) (w : World) (h : Advs w a n l) (h' : Advs w a' n l) :
    Calls Try.prog 25 #[.agg #[.slice a n c, .int .u8 ds, .int .i64 dr, .bool dk, .int .u8 fs, .int .i64 fr, .bool fk, .int .i64 cc], .agg #[.slice a' n c', .int .u8 ds, .int .i64 dr, .bool dk, .int .u8 fs, .int .i64 fr, .bool fk, .int .i64 cc]] w fun e w' => e = .returned (.bool true) ∧ Below w.heap.size w w' :=
  same_yes a a' n c c' ⟨l, ⟨ds, dr, dk⟩, ⟨fs, fr, fk⟩, cc⟩ w h h'
theorem chain {w0 w1 w2 : World} {o : Obj} (h : Below w0.heap.size w0 w1) (hb : Below (w1.alloc o).heap.size (w1.alloc o) w2) : Below w0.heap.size w0 w2 := (h.alloc h.size o).trans (hb.mono (by have := h.size; simp; omega))
theorem below_alloc (w : World) (o : Obj) : Below w.heap.size w (w.alloc o) := (Below.refl _ _).alloc (Nat.le_refl _) _
/-- The call's own words for New. -/
theorem rcmdPost_as {d pl ms E : Int} {x y : St} {a : Adv} {L : Nat} {w : World} {e : Ending} {w' : World} (h : RCmdPost d pl ms x a w e w') (hy : cmdS d pl ms x a = y) (hE : cmdE d pl ms x a = E) (hL : y.q.length = L) :
    ∃ aq c, e = .returned (.tuple #[.agg #[.slice aq L c, .int .u8 y.due.s, .int .i64 y.due.r, .bool y.due.k, .int .u8 y.fl.s, .int .i64 y.fl.r, .bool y.fl.k, .int .i64 y.c], .int .i64 E]) ∧ Advs w' aq L y.q ∧ Below w.heap.size w w' := by
  subst hy hE hL
  obtain ⟨aq, c, rfl, h1, _, _, h4⟩ := h
  exact ⟨aq, c, rfl, h1, h4⟩
theorem newPost_q {d pl ms : Int} {q q' : List Adv} (h : plE d pl ms = 0 → q = List.replicate d.toNat adv0) (h0 : plE d pl ms ≠ 0 → q = []) (h' : plE d pl ms = 0 → q' = List.replicate d.toNat adv0) (h0' : plE d pl ms ≠ 0 → q' = []) : q' = q := by
  by_cases hp : plE d pl ms = 0
  · rw [h hp, h' hp]
  · rw [h0 hp, h0' hp]

set_option maxRecDepth 100000 in
set_option maxHeartbeats 4000000 in
theorem MatchesLaw_long (a : Option Addr) (n c : Nat) (x : St) (x2 : Adv) (d pl ms z v : Int) (w : World) (hm : n ≤ 9223372036854775807) (hn : 40 < n) :
    Calls Try.prog 7 #[.agg #[.int .i64 d, .int .i64 pl, .int .i64 ms], stV (.slice a n c) x, .agg #[.int .u8 x2.s, .int .i64 x2.r, .bool x2.k], .agg #[.int .i64 z, .int .i64 v]] w fun e w' => e = .returned (.bool true) ∧ Below w.heap.size w w' := by
  have hd : decide (40 < (n : Int)) = true := decide_eq_true (by omega)
  unfold stV
  go_enter Try.func7, Try.ntmps7
  go_wp2_with fail
  refine (awake_call _).mono ?_; rintro e w1 ⟨rfl, hb1⟩
  have hB : Below w.heap.size w w1 := ((((Below.refl _ w).alloc (Nat.le_refl _) _).alloc (by simp) _).alloc (by simp; omega) _).alloc (by simp; omega) _ |>.trans (hb1.mono (by simp; omega))
  clear hb1
  go_wp2
  go_ret
  exact ⟨rfl, hB⟩

set_option maxRecDepth 100000 in
set_option maxHeartbeats 16000000 in
theorem MatchesLaw_good (a : Option Addr) (n c : Nat) (x : St) (x2 : Adv) (d pl ms z v : Int) (w : World) (hq : Advs w a n x.q) (hnil : a = none → n = 0 ∧ c = 0) (hs : Pos x.q) (hd : 0 ≤ x.due.s) (hf : 0 ≤ x.fl.s) (hx : 0 ≤ x2.s) (hnc : n ≤ c) (hn : n ≤ 40) :
    Calls Try.prog 7 #[.agg #[.int .i64 d, .int .i64 pl, .int .i64 ms], stV (.slice a n c) x, .agg #[.int .u8 x2.s, .int .i64 x2.r, .bool x2.k], .agg #[.int .i64 z, .int .i64 v]] w fun e w' => e = .returned (.bool true) ∧ Below w.heap.size w w' := by
  have hd40 : decide (40 < (n : Int)) = false := decide_eq_false (by omega)
  have HQ := Lib.hid hq
  have HA := Lib.hid (And.intro hnil (And.intro hs (And.intro hd (And.intro hf (And.intro hx (And.intro hq.len hnc))))))
  clear hq hnil hs hd hf hx hnc
  unfold stV
  go_enter Try.func7, Try.ntmps7
  go_wp2_with fail
  have hB4 : Below w.heap.size w ((((w.alloc (.cells #[.int .i64 d, .int .i64 pl, .int .i64 ms] 23)).alloc (.cells #[.slice a n c, .int .u8 x.due.s, .int .i64 x.due.r, .bool x.due.k, .int .u8 x.fl.s, .int .i64 x.fl.r, .bool x.fl.k, .int .i64 x.c] 38)).alloc (.cells #[.int .u8 x2.s, .int .i64 x2.r, .bool x2.k] 36)).alloc (.cells #[.int .i64 z, .int .i64 v] 25)) := ((((Below.refl _ w).alloc (Nat.le_refl _) _).alloc (by simp) _).alloc (by simp; omega) _).alloc (by simp; omega) _
  have k0 : ((((w.alloc (.cells #[.int .i64 d, .int .i64 pl, .int .i64 ms] 23)).alloc (.cells #[.slice a n c, .int .u8 x.due.s, .int .i64 x.due.r, .bool x.due.k, .int .u8 x.fl.s, .int .i64 x.fl.r, .bool x.fl.k, .int .i64 x.c] 38)).alloc (.cells #[.int .u8 x2.s, .int .i64 x2.r, .bool x2.k] 36)).alloc (.cells #[.int .i64 z, .int .i64 v] 25)).heap[w.heap.size]? = _ := block_alloc (block_alloc (block_alloc (block_new _ _ rfl)))
  have k1 : ((((w.alloc (.cells #[.int .i64 d, .int .i64 pl, .int .i64 ms] 23)).alloc (.cells #[.slice a n c, .int .u8 x.due.s, .int .i64 x.due.r, .bool x.due.k, .int .u8 x.fl.s, .int .i64 x.fl.r, .bool x.fl.k, .int .i64 x.c] 38)).alloc (.cells #[.int .u8 x2.s, .int .i64 x2.r, .bool x2.k] 36)).alloc (.cells #[.int .i64 z, .int .i64 v] 25)).heap[w.heap.size + 1]? = _ := block_alloc (block_alloc (block_new _ _ (by simp)))
  have k2 : ((((w.alloc (.cells #[.int .i64 d, .int .i64 pl, .int .i64 ms] 23)).alloc (.cells #[.slice a n c, .int .u8 x.due.s, .int .i64 x.due.r, .bool x.due.k, .int .u8 x.fl.s, .int .i64 x.fl.r, .bool x.fl.k, .int .i64 x.c] 38)).alloc (.cells #[.int .u8 x2.s, .int .i64 x2.r, .bool x2.k] 36)).alloc (.cells #[.int .i64 z, .int .i64 v] 25)).heap[w.heap.size + 2]? = _ := block_alloc (block_new _ _ (by simp))
  have k3 : ((((w.alloc (.cells #[.int .i64 d, .int .i64 pl, .int .i64 ms] 23)).alloc (.cells #[.slice a n c, .int .u8 x.due.s, .int .i64 x.due.r, .bool x.due.k, .int .u8 x.fl.s, .int .i64 x.fl.r, .bool x.fl.k, .int .i64 x.c] 38)).alloc (.cells #[.int .u8 x2.s, .int .i64 x2.r, .bool x2.k] 36)).alloc (.cells #[.int .i64 z, .int .i64 v] 25)).heap[w.heap.size + 3]? = _ := block_new _ _ (by simp)
  have HK := Lib.hid (And.intro k0 (And.intro k1 (And.intro k2 (And.intro k3 hB4))))
  clear k0 k1 k2 k3 hB4
  refine (own_call a n c x _ (HQ.out.below HK.out.2.2.2.2) HA.out.1 (by omega)).mono ?_
  rintro e w1 ⟨a', c', rfl, hA1, hc1, hb1⟩
  rw [HA.out.2.2.2.2.2.1] at hA1 hc1 ⊢
  have H1 := Lib.hid (And.intro (keepO hb1 HK.out.1) (And.intro (keepO hb1 HK.out.2.1) (And.intro (keepO hb1 HK.out.2.2.1) (And.intro (keepO hb1 HK.out.2.2.2.1) (And.intro hA1 (And.intro hc1 (HK.out.2.2.2.2.trans (hb1.mono HK.out.2.2.2.2.size))))))))
  clear hA1 hc1 hb1 HK
  obtain ⟨s0, s1, s2, s3, s4, s5, s6, s7⟩ := eight_cells H1.out.2.1
  have hl1 := lt_of_block H1.out.2.1
  have hl3 := lt_of_block H1.out.2.2.2.1
  have hl2' : w.heap.size + 1 + 1 < w1.heap.size := by omega
  have hl2 : w.heap.size + 2 < w1.heap.size := by omega
  unfold stV
  obtain ⟨g0, g1, g2⟩ := three_old H1.out.2.2.1
  go_wp2_with fail
  have K : MtK w d pl ms z v x x2 a a' n c c' w1.heap.size (w1.heap.size + 1) ((w1.alloc (.cells #[.slice a' n c', .int .u8 x.due.s, .int .i64 x.due.r, .bool x.due.k, .int .u8 x.fl.s, .int .i64 x.fl.r, .bool x.fl.k, .int .i64 x.c] 38)).alloc (.cells #[.slice a n c, .int .u8 x.due.s, .int .i64 x.due.r, .bool x.due.k, .int .u8 x.fl.s, .int .i64 x.fl.r, .bool x.fl.k, .int .i64 x.c] 48)) :=
    ⟨block_alloc (block_alloc H1.out.1), block_alloc (block_alloc H1.out.2.2.1), block_alloc (block_alloc H1.out.2.2.2.1), block_alloc (block_new _ _ rfl), block_new _ _ (by simp),
      (HQ.out.below H1.out.2.2.2.2.2.2).below ((below_alloc _ _).alloc (by simp) _), H1.out.2.2.2.2.1.below ((below_alloc _ _).alloc (by simp) _), (H1.out.2.2.2.2.2.2.alloc H1.out.2.2.2.2.2.2.size _).alloc (by have := H1.out.2.2.2.2.2.2.size; simp; omega) _⟩
  have HK := Lib.hid K
  have hnc' := H1.out.2.2.2.2.2.1
  clear K H1 s0 s1 s2 s3 s4 s5 s6 s7 hl1 hl2 hl2' hl3 g0 g1 g2
  generalize w1.heap.size + 1 = bR at *
  generalize w1.heap.size = bI at *
  refine (Bounds_call x2 _ HA.out.2.2.2.2.1).mono ?_; rintro e w2 ⟨rfl, hb2⟩
  replace HK := Lib.hid (HK.out.keep hb2)
  clear hb2
  obtain ⟨g0, g1, g2⟩ := three_old HK.out.av
  go_wp2_with fail
  refine (refBounds_call x2 _ HA.out.2.2.2.2.1).mono ?_; rintro e w3 ⟨rfl, hb3⟩
  replace HK := Lib.hid (HK.out.keep hb3)
  clear hb3 g0 g1 g2
  obtain ⟨g0, g1, g2⟩ := three_old HK.out.av
  obtain ⟨p0, p1, p2⟩ := three_old HK.out.p
  obtain ⟨s0, s1, s2, s3, s4, s5, s6, s7⟩ := eight_cells HK.out.i
  go_wp2_with fail
  refine (Command_call n d pl ms a' c' x x2 _ HK.out.q' hnc' HA.out.2.1 HA.out.2.2.1 HA.out.2.2.2.1 HA.out.2.2.2.2.1).mono ?_
  rintro e w4 ⟨aB, cB, rfl, hQB, hb4⟩
  have HKC := HK
  replace HK := Lib.hid (HK.out.keep hb4)
  have HB := Lib.hid (And.intro hQB hb4)
  clear hQB hb4 g0 g1 g2 p0 p1 p2 s0 s1 s2 s3 s4 s5 s6 s7
  unfold stV
  generalize hy : cmdS d pl ms x x2 = y at *
  generalize hE1 : cmdE d pl ms x x2 = E1 at *
  generalize hL : y.q.length = L at *
  have HY := Lib.hid (And.intro hy (And.intro hE1 hL))
  clear hy hE1 hL
  have HC := Lib.hid HB.out.2
  have QB := Lib.hid HB.out.1
  have AB := Lib.hid (show Advs w4 aB L y.q by have h := HB.out.1.1; rw [HY.out.2.2] at h; exact h)
  have HGB := Lib.hid (show L = 0 ∨ ∃ g, aB = some ⟨g, 0, none⟩ ∧ g ≠ w4.heap.size by
    have h := HB.out.1.2.1
    rw [HY.out.2.2] at h
    rcases h with h0 | ⟨g, _, _, e, _, hh, _⟩
    · exact Or.inl h0
    · exact Or.inr ⟨g, e, Nat.ne_of_lt (lt_of_block hh)⟩)
  clear HB
  obtain ⟨p0, p1, p2⟩ := three_old HK.out.p
  obtain ⟨g0, g1, g2⟩ := three_old HK.out.av
  obtain ⟨s0, s1, s2, s3, s4, s5, s6, s7⟩ := eight_cells HK.out.r
  have hl_i := lt_of_block HK.out.i
  have hl_r := lt_of_block HK.out.r
  have hlw0 : w.heap.size < w4.heap.size := lt_of_block HK.out.p
  have hlw2 : w.heap.size + 1 + 1 < w4.heap.size := lt_of_block HK.out.av
  have hlw3 : w.heap.size + 1 + 1 + 1 < w4.heap.size := lt_of_block HK.out.pv
  go_wp2_with fail
  refine (rCommand_call n d pl ms a c x x2 _ (HK.out.alloc _).q HA.out.1 HA.out.2.1 HA.out.2.2.1 HA.out.2.2.2.1 HA.out.2.2.2.2.1).mono ?_
  intro e w5 hpost; obtain ⟨aC, cC, rfl, hAC, hb⟩ := rcmdPost_as hpost HY.out.1 HY.out.2.1 HY.out.2.2; clear hpost
  have N17 := Lib.hid (show w5.heap[w4.heap.size]? = some (.cells #[.slice aB L cB, .int .u8 y.due.s, .int .i64 y.due.r, .bool y.due.k, .int .u8 y.fl.s, .int .i64 y.fl.r, .bool y.fl.k, .int .i64 y.c] 38 (0, 0)) from keepO hb (block_new _ _ rfl))
  replace QB := Lib.hid ((QB.out.below (below_alloc _ _)).below hb)
  replace AB := Lib.hid ((AB.out.below (below_alloc _ _)).below hb)
  replace HC := Lib.hid (chain HC.out hb)
  replace HK := Lib.hid ((HK.out.alloc _).keep hb)
  clear hb
  clear p0 p1 p2 g0 g1 g2 s0 s1 s2 s3 s4 s5 s6 s7 hl_i hl_r hlw0 hlw2 hlw3
  have AC := Lib.hid hAC
  clear hAC
  obtain ⟨p0, p1, p2⟩ := three_old HK.out.p
  obtain ⟨x0, x1, _, _⟩ := two_old HK.out.pv
  obtain ⟨s0, s1, s2, s3, s4, s5, s6, s7⟩ := eight_cells HK.out.i
  have hl_i := lt_of_block HK.out.i
  have hl_r := lt_of_block HK.out.r
  have hlw0 : w.heap.size < w5.heap.size := lt_of_block HK.out.p
  have hlw2 : w.heap.size + 1 + 1 < w5.heap.size := lt_of_block HK.out.av
  have hlw3 : w.heap.size + 1 + 1 + 1 < w5.heap.size := lt_of_block HK.out.pv
  go_wp2_with fail
  refine (pFly_call n d pl ms a' c' x z v _ (HK.out.alloc _).q' HA.out.2.1 HA.out.2.2.1 HA.out.2.2.2.1).mono ?_
  rintro e w6 ⟨rfl, hb⟩
  replace N17 := Lib.hid (keepO hb (block_alloc N17.out))
  have N19 := Lib.hid (show w6.heap[w5.heap.size]? = some (.cells #[.slice aC L cC, .int .u8 y.due.s, .int .i64 y.due.r, .bool y.due.k, .int .u8 y.fl.s, .int .i64 y.fl.r, .bool y.fl.k, .int .i64 y.c] 48 (0, 0)) from keepO hb (block_new _ _ rfl))
  replace QB := Lib.hid ((QB.out.below (below_alloc _ _)).below hb)
  replace AB := Lib.hid ((AB.out.below (below_alloc _ _)).below hb)
  replace AC := Lib.hid ((AC.out.below (below_alloc _ _)).below hb)
  replace HC := Lib.hid (chain HC.out hb)
  replace HK := Lib.hid ((HK.out.alloc _).keep hb)
  clear hb
  clear p0 p1 p2 x0 x1 s0 s1 s2 s3 s4 s5 s6 s7 hl_i hl_r hlw0 hlw2 hlw3
  obtain ⟨p0, p1, p2⟩ := three_old HK.out.p
  obtain ⟨x0, x1, _, _⟩ := two_old HK.out.pv
  obtain ⟨s0, s1, s2, s3, s4, s5, s6, s7⟩ := eight_cells HK.out.r
  have hl_i := lt_of_block HK.out.i
  have hl_r := lt_of_block HK.out.r
  have hlw0 : w.heap.size < w6.heap.size := lt_of_block HK.out.p
  have hlw2 : w.heap.size + 1 + 1 < w6.heap.size := lt_of_block HK.out.av
  have hlw3 : w.heap.size + 1 + 1 + 1 < w6.heap.size := lt_of_block HK.out.pv
  go_wp2_with fail
  refine (rFly_call n d pl ms a c x z v _ (HK.out.alloc _).q HA.out.1 HA.out.2.1 HA.out.2.2.1 HA.out.2.2.2.1).mono ?_
  rintro e w7 ⟨rfl, hb⟩
  replace N17 := Lib.hid (keepO hb (block_alloc N17.out))
  replace N19 := Lib.hid (keepO hb (block_alloc N19.out))
  have N21 := Lib.hid (show w7.heap[w6.heap.size]? = some (.cells #[.int .i64 (pfZ d pl ms x z v), .int .i64 (pfV d pl ms x z v)] 25 (0, 0)) from keepO hb (block_new _ _ rfl))
  replace QB := Lib.hid ((QB.out.below (below_alloc _ _)).below hb)
  replace AB := Lib.hid ((AB.out.below (below_alloc _ _)).below hb)
  replace AC := Lib.hid ((AC.out.below (below_alloc _ _)).below hb)
  replace HC := Lib.hid (chain HC.out hb)
  replace HK := Lib.hid ((HK.out.alloc _).keep hb)
  clear hb
  clear p0 p1 p2 x0 x1 s0 s1 s2 s3 s4 s5 s6 s7 hl_i hl_r hlw0 hlw2 hlw3
  obtain ⟨p0, p1, p2⟩ := three_old HK.out.p
  have hl_i := lt_of_block HK.out.i
  have hl_r := lt_of_block HK.out.r
  have hlw0 : w.heap.size < w7.heap.size := lt_of_block HK.out.p
  have hlw2 : w.heap.size + 1 + 1 < w7.heap.size := lt_of_block HK.out.av
  have hlw3 : w.heap.size + 1 + 1 + 1 < w7.heap.size := lt_of_block HK.out.pv
  go_wp2_with fail
  refine (pNew d pl ms _).mono ?_
  rintro e w8 ⟨aN, cN, qN, rfl, hq1, hq2, hQN, hb⟩
  replace N17 := Lib.hid (keepO hb (block_alloc N17.out))
  replace N19 := Lib.hid (keepO hb (block_alloc N19.out))
  replace N21 := Lib.hid (keepO hb (block_alloc N21.out))
  have N23 := Lib.hid (show w8.heap[w7.heap.size]? = some (.cells #[.int .i64 (pfZ d pl ms x z v), .int .i64 (pfV d pl ms x z v)] 25 (0, 0)) from keepO hb (block_new _ _ rfl))
  replace QB := Lib.hid ((QB.out.below (below_alloc _ _)).below hb)
  replace AB := Lib.hid ((AB.out.below (below_alloc _ _)).below hb)
  replace AC := Lib.hid ((AC.out.below (below_alloc _ _)).below hb)
  replace HC := Lib.hid (chain HC.out hb)
  replace HK := Lib.hid ((HK.out.alloc _).keep hb)
  clear hb
  clear p0 p1 p2 hl_i hl_r hlw0 hlw2 hlw3
  have AN := Lib.hid hQN.1
  have HQN := Lib.hid (And.intro hq1 hq2)
  clear hQN hq1 hq2
  unfold stV
  have ad : adv0.s = 0 ∧ adv0.r = 0 ∧ adv0.k = false := ⟨rfl, rfl, rfl⟩
  simp only [adv0]
  clear ad
  generalize hlN : qN.length = LN at *
  have HLN := Lib.hid hlN
  clear hlN
  obtain ⟨p0, p1, p2⟩ := three_old HK.out.p
  have hl_i := lt_of_block HK.out.i
  have hl_r := lt_of_block HK.out.r
  have hlw0 : w.heap.size < w8.heap.size := lt_of_block HK.out.p
  have hlw2 : w.heap.size + 1 + 1 < w8.heap.size := lt_of_block HK.out.av
  have hlw3 : w.heap.size + 1 + 1 + 1 < w8.heap.size := lt_of_block HK.out.pv
  go_wp2_with fail
  refine (rNew d pl ms _).mono ?_
  rintro e w9 ⟨aM, cM, qM, rfl, hq1, hq2, hQM, hb⟩
  obtain rfl := newPost_q HQN.out.1 HQN.out.2 hq1 hq2
  have hQM1 := hQM.1
  rw [HLN.out] at hQM1
  unfold stV
  rw [HLN.out]
  simp only [adv0]
  replace N17 := Lib.hid (keepO hb (block_alloc N17.out))
  replace N19 := Lib.hid (keepO hb (block_alloc N19.out))
  replace N21 := Lib.hid (keepO hb (block_alloc N21.out))
  replace N23 := Lib.hid (keepO hb (block_alloc N23.out))
  have N25 := Lib.hid (show w9.heap[w8.heap.size]? = some (.cells #[.slice aN LN cN, .int .u8 0, .int .i64 0, .bool false, .int .u8 0, .int .i64 0, .bool false, .int .i64 0] 38 (0, 0)) from keepO hb (block_new _ _ rfl))
  replace QB := Lib.hid ((QB.out.below (below_alloc _ _)).below hb)
  replace AB := Lib.hid ((AB.out.below (below_alloc _ _)).below hb)
  replace AC := Lib.hid ((AC.out.below (below_alloc _ _)).below hb)
  replace AN := Lib.hid ((AN.out.below (below_alloc _ _)).below hb)
  replace HC := Lib.hid (chain HC.out hb)
  replace HK := Lib.hid ((HK.out.alloc _).keep hb)
  clear hb
  clear p0 p1 p2 hl_i hl_r hlw0 hlw2 hlw3
  have AM := Lib.hid hQM1
  clear hQM hQM1 hq1 hq2
  go_wp2_with fail
  replace N17 := Lib.hid (block_alloc (o' := (.cells #[.slice aM LN cM, .int .u8 0, .int .i64 0, .bool false, .int .u8 0, .int .i64 0, .bool false, .int .i64 0] 48)) N17.out)
  replace N19 := Lib.hid (block_alloc (o' := (.cells #[.slice aM LN cM, .int .u8 0, .int .i64 0, .bool false, .int .u8 0, .int .i64 0, .bool false, .int .i64 0] 48)) N19.out)
  replace N21 := Lib.hid (block_alloc (o' := (.cells #[.slice aM LN cM, .int .u8 0, .int .i64 0, .bool false, .int .u8 0, .int .i64 0, .bool false, .int .i64 0] 48)) N21.out)
  replace N23 := Lib.hid (block_alloc (o' := (.cells #[.slice aM LN cM, .int .u8 0, .int .i64 0, .bool false, .int .u8 0, .int .i64 0, .bool false, .int .i64 0] 48)) N23.out)
  replace N25 := Lib.hid (block_alloc (o' := (.cells #[.slice aM LN cM, .int .u8 0, .int .i64 0, .bool false, .int .u8 0, .int .i64 0, .bool false, .int .i64 0] 48)) N25.out)
  have N27 := Lib.hid (block_new w9 (.cells #[.slice aM LN cM, .int .u8 0, .int .i64 0, .bool false, .int .u8 0, .int .i64 0, .bool false, .int .i64 0] 48) rfl)
  replace QB := Lib.hid (QB.out.below (below_alloc w9 (.cells #[.slice aM LN cM, .int .u8 0, .int .i64 0, .bool false, .int .u8 0, .int .i64 0, .bool false, .int .i64 0] 48)))
  replace AB := Lib.hid (AB.out.below (below_alloc w9 (.cells #[.slice aM LN cM, .int .u8 0, .int .i64 0, .bool false, .int .u8 0, .int .i64 0, .bool false, .int .i64 0] 48)))
  replace AC := Lib.hid (AC.out.below (below_alloc w9 (.cells #[.slice aM LN cM, .int .u8 0, .int .i64 0, .bool false, .int .u8 0, .int .i64 0, .bool false, .int .i64 0] 48)))
  replace AN := Lib.hid (AN.out.below (below_alloc w9 (.cells #[.slice aM LN cM, .int .u8 0, .int .i64 0, .bool false, .int .u8 0, .int .i64 0, .bool false, .int .i64 0] 48)))
  replace AM := Lib.hid (AM.out.below (below_alloc w9 (.cells #[.slice aM LN cM, .int .u8 0, .int .i64 0, .bool false, .int .u8 0, .int .i64 0, .bool false, .int .i64 0] 48)))
  replace HC := Lib.hid (HC.out.alloc HC.out.size (.cells #[.slice aM LN cM, .int .u8 0, .int .i64 0, .bool false, .int .u8 0, .int .i64 0, .bool false, .int .i64 0] 48))
  replace HK := Lib.hid (HK.out.alloc (.cells #[.slice aM LN cM, .int .u8 0, .int .i64 0, .bool false, .int .u8 0, .int .i64 0, .bool false, .int .i64 0] 48))
  generalize w9.alloc (.cells #[.slice aM LN cM, .int .u8 0, .int .i64 0, .bool false, .int .u8 0, .int .i64 0, .bool false, .int .i64 0] 48) = wD at *
  generalize w4.heap.size = b17 at *
  generalize w5.heap.size = b19 at *
  generalize w6.heap.size = b21 at *
  generalize w7.heap.size = b23 at *
  generalize w8.heap.size = b25 at *
  generalize w9.heap.size = b27 at *
  generalize pfZ d pl ms x z v = fz at *
  generalize pfV d pl ms x z v = fv at *
  have gd := pln_guard
  have ng := pln_neq
  have ht : prB (fz, fv) (fz, fv) = true := prB_true.2 rfl
  have N17' : wD.drew.heap[b17]? = some (.cells #[.slice aB L cB, .int .u8 y.due.s, .int .i64 y.due.r, .bool y.due.k, .int .u8 y.fl.s, .int .i64 y.fl.r, .bool y.fl.k, .int .i64 y.c] 38 (0, 0)) := N17.out
  have N19' : wD.drew.heap[b19]? = some (.cells #[.slice aC L cC, .int .u8 y.due.s, .int .i64 y.due.r, .bool y.due.k, .int .u8 y.fl.s, .int .i64 y.fl.r, .bool y.fl.k, .int .i64 y.c] 48 (0, 0)) := N19.out
  have N21' : wD.drew.heap[b21]? = some (.cells #[.int .i64 fz, .int .i64 fv] 25 (0, 0)) := N21.out
  have N23' : wD.drew.heap[b23]? = some (.cells #[.int .i64 fz, .int .i64 fv] 25 (0, 0)) := N23.out
  have N25' : wD.drew.heap[b25]? = some (.cells #[.slice aN LN cN, .int .u8 0, .int .i64 0, .bool false, .int .u8 0, .int .i64 0, .bool false, .int .i64 0] 38 (0, 0)) := N25.out
  have N27' : wD.drew.heap[b27]? = some (.cells #[.slice aM LN cM, .int .u8 0, .int .i64 0, .bool false, .int .u8 0, .int .i64 0, .bool false, .int .i64 0] 48 (0, 0)) := N27.out
  clear N17 N19 N21 N23 N25 N27
  have N17 := N17'
  clear N17'
  have N19 := N19'
  clear N19'
  have N21 := N21'
  clear N21'
  have N23 := N23'
  clear N23'
  have N25 := N25'
  clear N25'
  have N27 := N27'
  clear N27'
  have b0 := (Below.refl wD.heap.size wD).drew
  replace QB := Lib.hid (QB.out.below b0)
  replace AB := Lib.hid (AB.out.below b0)
  replace AC := Lib.hid (AC.out.below b0)
  replace AN := Lib.hid (AN.out.below b0)
  replace AM := Lib.hid (AM.out.below b0)
  replace HC := Lib.hid (HC.out.trans (b0.mono HC.out.size))
  replace HK := Lib.hid (HK.out.keep b0)
  clear b0
  go_upto_region 13 with fail
  go_cut [139] (fun t wx => t = .bool false ∧ wx.heap[b17]? = some (.cells #[.slice aB L cB, .int .u8 y.due.s, .int .i64 y.due.r, .bool y.due.k, .int .u8 y.fl.s, .int .i64 y.fl.r, .bool y.fl.k, .int .i64 y.c] 38 (0, 0)) ∧ QNew wx w3.heap.size aB cB y.q ∧ Below w3.heap.size w3 wx)
  case first =>
    go_region_held3 (fun w' => (w'.cell? ⟨w.heap.size, 0, none⟩ = some (.int .i64 d) ∧ w'.cell? ⟨w.heap.size, 1, none⟩ = some (.int .i64 pl) ∧ w'.cell? ⟨w.heap.size, 2, none⟩ = some (.int .i64 ms)) ∧ (w'.cell? ⟨b17, 0, none⟩ = some (.slice aB L cB) ∧ w'.cell? ⟨b17, 1, none⟩ = some (.int .u8 y.due.s) ∧ w'.cell? ⟨b17, 2, none⟩ = some (.int .i64 y.due.r) ∧ w'.cell? ⟨b17, 3, none⟩ = some (.bool y.due.k) ∧ w'.cell? ⟨b17, 4, none⟩ = some (.int .u8 y.fl.s) ∧ w'.cell? ⟨b17, 5, none⟩ = some (.int .i64 y.fl.r) ∧ w'.cell? ⟨b17, 6, none⟩ = some (.bool y.fl.k) ∧ w'.cell? ⟨b17, 7, none⟩ = some (.int .i64 y.c)) ∧ (w'.cell? ⟨b19, 0, none⟩ = some (.slice aC L cC) ∧ w'.cell? ⟨b19, 1, none⟩ = some (.int .u8 y.due.s) ∧ w'.cell? ⟨b19, 2, none⟩ = some (.int .i64 y.due.r) ∧ w'.cell? ⟨b19, 3, none⟩ = some (.bool y.due.k) ∧ w'.cell? ⟨b19, 4, none⟩ = some (.int .u8 y.fl.s) ∧ w'.cell? ⟨b19, 5, none⟩ = some (.int .i64 y.fl.r) ∧ w'.cell? ⟨b19, 6, none⟩ = some (.bool y.fl.k) ∧ w'.cell? ⟨b19, 7, none⟩ = some (.int .i64 y.c)) ∧ (w'.cell? ⟨b21, 0, none⟩ = some (.int .i64 fz) ∧ w'.cell? ⟨b21, 1, none⟩ = some (.int .i64 fv)) ∧ (w'.cell? ⟨b23, 0, none⟩ = some (.int .i64 fz) ∧ w'.cell? ⟨b23, 1, none⟩ = some (.int .i64 fv)) ∧ (w'.cell? ⟨b25, 0, none⟩ = some (.slice aN LN cN) ∧ w'.cell? ⟨b25, 1, none⟩ = some (.int .u8 0) ∧ w'.cell? ⟨b25, 2, none⟩ = some (.int .i64 0) ∧ w'.cell? ⟨b25, 3, none⟩ = some (.bool false) ∧ w'.cell? ⟨b25, 4, none⟩ = some (.int .u8 0) ∧ w'.cell? ⟨b25, 5, none⟩ = some (.int .i64 0) ∧ w'.cell? ⟨b25, 6, none⟩ = some (.bool false) ∧ w'.cell? ⟨b25, 7, none⟩ = some (.int .i64 0)) ∧ (w'.cell? ⟨b27, 0, none⟩ = some (.slice aM LN cM) ∧ w'.cell? ⟨b27, 1, none⟩ = some (.int .u8 0) ∧ w'.cell? ⟨b27, 2, none⟩ = some (.int .i64 0) ∧ w'.cell? ⟨b27, 3, none⟩ = some (.bool false) ∧ w'.cell? ⟨b27, 4, none⟩ = some (.int .u8 0) ∧ w'.cell? ⟨b27, 5, none⟩ = some (.int .i64 0) ∧ w'.cell? ⟨b27, 6, none⟩ = some (.bool false) ∧ w'.cell? ⟨b27, 7, none⟩ = some (.int .i64 0))) (exact ⟨three_old HK.out.p, eight_cells N17, eight_cells N19, ⟨(two_old N21).1, (two_old N21).2.1⟩, ⟨(two_old N23).1, (two_old N23).2.1⟩, eight_cells N25, eight_cells N27⟩)
      (first
        | (go_at_call 23; refine (pCheckP d pl ms _).mono ?_; rintro e wn ⟨rfl, hb⟩; replace N17 := keepO hb N17; replace N19 := keepO hb N19; replace N21 := keepO hb N21; replace N23 := keepO hb N23; replace N25 := keepO hb N25; replace N27 := keepO hb N27; replace QB := Lib.hid (QB.out.below hb); replace AB := Lib.hid (AB.out.below hb); replace AC := Lib.hid (AC.out.below hb); replace AN := Lib.hid (AN.out.below hb); replace AM := Lib.hid (AM.out.below hb); replace HC := Lib.hid (HC.out.trans (hb.mono HC.out.size)); replace HK := Lib.hid (HK.out.keep hb); clear hb)
        | (go_at_call 24; refine (rCheckP d pl ms _).mono ?_; rintro e wn ⟨rfl, hb⟩; replace N17 := keepO hb N17; replace N19 := keepO hb N19; replace N21 := keepO hb N21; replace N23 := keepO hb N23; replace N25 := keepO hb N25; replace N27 := keepO hb N27; replace QB := Lib.hid (QB.out.below hb); replace AB := Lib.hid (AB.out.below hb); replace AC := Lib.hid (AC.out.below hb); replace AN := Lib.hid (AN.out.below hb); replace AM := Lib.hid (AM.out.below hb); replace HC := Lib.hid (HC.out.trans (hb.mono HC.out.size)); replace HK := Lib.hid (HK.out.keep hb); clear hb)
        | (go_at_call 25; refine (same_lit _ _ _ _ _ _ _ _ _ _ _ _ _ _ (by first | exact AB.out | exact AN.out) (by first | exact AC.out | exact AM.out)).mono ?_; rintro e wn ⟨rfl, hb⟩; replace N17 := keepO hb N17; replace N19 := keepO hb N19; replace N21 := keepO hb N21; replace N23 := keepO hb N23; replace N25 := keepO hb N25; replace N27 := keepO hb N27; replace QB := Lib.hid (QB.out.below hb); replace AB := Lib.hid (AB.out.below hb); replace AC := Lib.hid (AC.out.below hb); replace AN := Lib.hid (AN.out.below hb); replace AM := Lib.hid (AM.out.below hb); replace HC := Lib.hid (HC.out.trans (hb.mono HC.out.size)); replace HK := Lib.hid (HK.out.keep hb); clear hb))
    all_goals go_wp2_with fail
    all_goals go_meet
    all_goals exact ⟨rfl, N17, QB.out, HC.out⟩
  case rest =>
  obtain ⟨rfl, N17, hQ, hC⟩ := hcut
  have hR := hQ.2.1
  rw [HY.out.2.2] at hR
  have hLm := AB.out.bound
  have H13 := Lib.hid (And.intro N17 (And.intro hR hC))
  clear N17 hQ hR hC QB AB AC AN AM HC HK gd ng ht
  obtain ⟨w13, rfl⟩ : ∃ w13 : World, w13 = wc := ⟨_, rfl⟩
  go_wp2_with fail
  go_loopw [29] (fun kv wr => ∃ k : Nat, k ≤ L ∧ kv = .int .i64 k ∧ wr.heap[b17]? = some (.cells #[.slice aB L cB, .int .u8 y.due.s, .int .i64 y.due.r, .bool y.due.k, .int .u8 y.fl.s, .int .i64 y.fl.r, .bool y.fl.k, .int .i64 y.c] 38 (0, 0)) ∧ Row3 wr w3.heap.size aB L ∧ Below w3.heap.size w3 wr) (fun kv _ => L - (intOf kv).toNat)
  case atStart => exact ⟨0, by omega, rfl, H13.out⟩
  case round =>
    obtain ⟨k, hk, rfl, hN, hR, hB⟩ := hrel
    clear H13
    obtain ⟨v0, _⟩ := eight_cells hN
    by_cases hlt : k < L
    · obtain ⟨g, rfl, hg, hgs, ⟨u0, g0⟩, ⟨u1, g1⟩, ⟨u2, g2⟩, f0, f1, f2, hnew⟩ := row3_at hR hlt
      have hgb : b17 ≠ g := by
        rcases HGB.out with h0 | ⟨g', e, hne⟩
        · omega
        · cases e; exact fun e => hne e.symm
      have HN := Lib.hid (And.intro hnew (And.intro hB (And.intro hN hgb)))
      have hk0 : (0 : Int) ≤ (k : Int) := by omega
      have hk1 : (k : Int) < (L : Int) := by omega
      clear hR hnew hB hN hgb
      go_wp2_with fail
      go_roundw
      case rel => exact ⟨k + 1, by omega, by go_num, (Below.heap_setCell _ _ _ _ (by simpa using HN.out.2.2.2)).trans ((Below.heap_setCell _ _ _ _ (by simpa using HN.out.2.2.2)).trans ((Below.heap_setCell _ _ _ _ (by simpa using HN.out.2.2.2)).trans HN.out.2.2.1)), HN.out.1 _ _ _, ((HN.out.2.1.setCell (p := ⟨g, k * 3, none⟩) hg _).setCell (p := ⟨g, k * 3 + 1, none⟩) hg _).setCell (p := ⟨g, k * 3 + 2, none⟩) hg _⟩
      case measure => simp [intOf]; omega
    · obtain rfl : k = L := by omega
      have HK := Lib.hid (HKC.out.keep hB)
      clear hN hR hB
      obtain ⟨s0, s1, s2, s3, s4, s5, s6, s7⟩ := eight_cells HK.out.i
      obtain ⟨r0, r1, r2, r3, r4, r5, r6, r7⟩ := eight_cells HK.out.r
      go_wp2_with fail
      refine (same_lit _ _ _ _ _ _ _ _ _ _ _ _ _ _ HK.out.q' HK.out.q).mono ?_; rintro e wa ⟨rfl, hb⟩
      have HB := Lib.hid (HK.out.b.trans (hb.mono HK.out.b.size))
      clear hb
      go_wp2_with fail
      refine (awake_call _).mono ?_; rintro e wb ⟨rfl, hb⟩
      have HB2 := Lib.hid (HB.out.trans (hb.mono HB.out.size))
      clear hb
      go_wp2
      go_ret
      exact ⟨rfl, HB2.out⟩
theorem MatchesLaw_call (a : Option Addr) (n c : Nat) (x : St) (x2 : Adv) (d pl ms z v : Int) (w : World) (hq : Advs w a n x.q) (hnc : n ≤ c) (hnil : a = none → n = 0 ∧ c = 0) (hs : Pos x.q) (hd : 0 ≤ x.due.s) (hf : 0 ≤ x.fl.s) (hx : 0 ≤ x2.s) :
    Calls Try.prog 7 #[.agg #[.int .i64 d, .int .i64 pl, .int .i64 ms], stV (.slice a n c) x, .agg #[.int .u8 x2.s, .int .i64 x2.r, .bool x2.k], .agg #[.int .i64 z, .int .i64 v]] w fun e w' => e = .returned (.bool true) ∧ Below w.heap.size w w' := by
  by_cases hn : 40 < n
  · exact MatchesLaw_long a n c x x2 d pl ms z v w hq.bound hn
  · exact MatchesLaw_good a n c x x2 d pl ms z v w hq hnil hs hd hf hx hnc (by omega)

end Go.Proofs.Ytjidpkcoaoflbaa
