/-
  Layer 19 (assign): the law's own tried.
-/
import Derived.Test.YtbehpkggmomgeaaAsgO
import Derived.Test.YtbehpkggmomgeaaAsgD
import Derived.Test.YtbehpkggmomgeaaAsgTn
namespace Go.Proofs.Ytbehpkggmomgeaa
open Go.RowKit AsgRows AsgMath MyHeap MyOwn MyCopy

/-- The columns that are used, in memory. -/
def Usd (W : World) (b m : Nat) (T : Nat → Bool) : Prop := ∃ cs : Array Value, W.heap[b]? = some (.cells cs 4 (0, 0)) ∧ cs.size = m ∧ ∀ k, k < m → cs[k]? = some (.bool (T k))
theorem Usd.keep {W W' : World} {b m : Nat} {T : Nat → Bool} (h : Usd W b m T) (hb : Below W.heap.size W W') : Usd W' b m T := by
  obtain ⟨cs, h1, h2⟩ := h
  exact ⟨cs, keepO hb h1, h2⟩
theorem Usd.cell {W : World} {b m : Nat} {T : Nat → Bool} (h : Usd W b m T) {k : Nat} (hk : k < m) : W.cell? ⟨b, k, none⟩ = some (.bool (T k)) ∧ W.frozen? ⟨b, k, none⟩ = false := by
  obtain ⟨cs, h1, h2, h3⟩ := h
  exact ⟨cell_of_block h1 (h3 k hk), free_of_block h1⟩
theorem Usd.lt {W : World} {b m : Nat} {T : Nat → Bool} (h : Usd W b m T) : b < W.heap.size := by
  obtain ⟨cs, h1, -⟩ := h
  exact lt_of_block h1
theorem Usd.set {W : World} {b m : Nat} {T : Nat → Bool} (h : Usd W b m T) {k : Nat} (hk : k < m) (x : Bool) : Usd (W.setCell ⟨b, k, none⟩ (.bool x)) b m (upd T k x) := by
  obtain ⟨cs, h1, h2, h3⟩ := h
  refine ⟨cs.setIfInBounds k (.bool x), block_setCell h1, by rw [Array.size_setIfInBounds]; exact h2, fun j hj => ?_⟩
  by_cases e : j = k
  · subst e
    rw [upd_at, Array.getElem?_setIfInBounds_self_of_lt (by omega)]
  · rw [upd_ne e, Array.getElem?_setIfInBounds_ne (fun q => e q.symm)]
    exact h3 j hj
theorem Usd.off {W W' : World} {b m x : Nat} {T : Nat → Bool} (h : Usd W b m T) (ho : Only x W W') (hne : b ≠ x) : Usd W' b m T := by
  obtain ⟨cs, h1, h2⟩ := h
  exact ⟨cs, ho.keeps h1 hne, h2⟩
/-- A list that lies off the used columns. -/
structure Pl (W : World) (ub : Nat) (a : Option Addr) (n c : Nat) (l : List (Nat × Nat)) : Prop where
  P : Prs W a n (toPm l)
  nil : a = none → n = 0 ∧ c = 0
  off : ∀ b o s, a = some ⟨b, o, s⟩ → b ≠ ub
theorem Pl.only {W W' : World} {ub n c : Nat} {a : Option Addr} {l : List (Nat × Nat)} (h : Pl W ub a n c l) (ho : Only ub W W') : Pl W' ub a n c l := by
  refine ⟨⟨h.P.len, h.P.bound, ?_⟩, h.nil, h.off⟩
  rcases h.P.cells with h0 | ⟨b, off, e, hc⟩
  · exact Or.inl h0
  · exact Or.inr ⟨b, off, e, fun i hi => ⟨ho.cell (hc i hi).1 (h.off _ _ _ e), ho.cell (hc i hi).2 (h.off _ _ _ e)⟩⟩
theorem Pl.below {W W' : World} {ub n c : Nat} {a : Option Addr} {l : List (Nat × Nat)} (h : Pl W ub a n c l) (hb : Below W.heap.size W W') : Pl W' ub a n c l := h.only (Only.of_below hb)
theorem pl_own {W : World} {base ub n : Nat} {v : Value} {l : List (Nat × Nat)} (h : W.ownsRow base 42 2 v n (flat2 (toPm l))) (hl : l.length = n) (hub : ub < base) (hn : n ≤ 1000) : ∃ a c, v = .slice a n c ∧ Pl W ub a n c l := by
  have hlen : (toPm l).length = n := by unfold toPm; rw [List.length_map]; exact hl
  subst hlen
  obtain ⟨a, c, rfl, hP⟩ := prsOwn h (by omega)
  refine ⟨a, c, rfl, hP, fun e => ?_, fun b o s e => ?_⟩
  · subst e
    rcases h.2 with ⟨hv, h0⟩ | ⟨g, cap, cur, hv, -⟩
    · injection hv with _ h1 h2
      exact ⟨h1, h2⟩
    · injection hv with h1
      cases h1
  · subst e
    rcases h.2 with ⟨hv, h0⟩ | ⟨g, cap, cur, hv, hg, -⟩
    · injection hv with h1
      cases h1
    · injection hv with h1
      have e1 := Option.some.inj h1
      injection e1 with e2
      omega
/-- What tried tells. -/
def TrPost (L : List (List Int)) (n m r : Nat) (T : Nat → Bool) (l : List (Nat × Nat)) (ub : Nat) (w : World) (e : Ending) (w' : World) : Prop :=
  ∃ a k c, e = .returned (.slice a k c) ∧ Pl w' ub a k c (l ++ bestL (AsgRows.ent L) n m r T) ∧ Only ub w w' ∧ Usd w' ub m T
theorem toPm_len (l : List (Nat × Nat)) : (toPm l).length = l.length := by unfold toPm; simp

set_option maxRecDepth 100000 in
set_option maxHeartbeats 16000000 in
theorem tried_call (a : Option Addr) (n cc m : Nat) (L : List (List Int)) (w0 : World) (hM : Ma w0 a n L m) (h0 : chM L = 0) : ∀ (r i : Nat), i + r = n → ∀ (l : List (Nat × Nat)) (T : Nat → Bool) (al : Option Addr) (nl cl ub uc : Nat) (w : World), Below w0.heap.size w0 w → w0.heap.size ≤ ub → Pl w ub al nl cl l → Pv L l i T → l.length ≤ i → Usd w ub m T →
    Calls Try.prog 25 #[.slice a n cc, .int .i64 (i : Int), .slice al nl cl, .slice (some ⟨ub, 0, none⟩) m uc] w (TrPost L n m r T l ub w) := by
  have m16 := hM.m16
  have n16 : n ≤ 16 := by have := hM.ok.n16; rw [hM.M.len] at this; exact this
  have HM := Lib.hid hM
  have H0 := Lib.hid h0
  clear hM h0
  intro r
  induction r with
  | zero =>
    intro i hi l T al nl cl ub uc w hB hub hP hV hl hU
    obtain rfl : i = n := by omega
    have hii : ((i : Int) == (i : Int)) = true := by simp
    have H := Lib.hid (And.intro hP hU)
    clear hP hU hV hB
    go_enter Try.func25, Try.ntmps25
    go_wp2_with fail
    go_ret
    exact ⟨al, nl, cl, rfl, by rw [show bestL (AsgRows.ent L) i m 0 T = [] from rfl, List.append_nil]; exact H.out.1, Only.refl _ _, H.out.2⟩
  | succ r ih =>
    intro i hi l T al nl cl ub uc w hB hub hP hV hl hU
    have IH := Lib.hid (fun l T al nl cl ub uc w => ih (i + 1) (by omega) l T al nl cl ub uc w)
    have H := Lib.hid (And.intro hB (And.intro hP (And.intro hV hU)))
    have hne : ((i : Int) == (n : Int)) = false := by rw [beq_eq_false_iff_ne]; omega
    have hir : n - (r + 1) = i := by omega
    have HIR := Lib.hid hir
    have hubw := hU.lt
    clear ih hB hP hV hU hir
    go_enter Try.func25, Try.ntmps25
    go_wp2_with fail
    have hc := IH.out l T al nl cl ub uc w H.out.1 hub H.out.2.1 H.out.2.2.1.up (by omega) H.out.2.2.2
    rw [show ((i + 1 : Nat) : Int) = (i : Int) + 1 from rfl] at hc
    refine hc.mono ?_; clear hc
    rintro e w1 ⟨at1, kt, ct, rfl, hPt, hO, hU⟩
    have K := Lib.hid (And.intro (show Pl w1 ub at1 kt ct (l ++ Yk (AsgRows.ent L) n m r T 0) from hPt) (And.intro hO hU))
    clear hPt hO hU
    go_wp2_with fail
    go_loopw [9, 10] (fun tv kv wr => ∃ (k : Nat) (at1 : Option Addr) (kt ct : Nat), k ≤ m ∧ kv = .int .i64 k ∧ tv = .slice at1 kt ct ∧ Pl wr ub at1 kt ct (l ++ Yk (AsgRows.ent L) n m r T k) ∧ Only ub w wr ∧ Usd wr ub m T) (fun _ kv _ => m - (intOf kv).toNat)
    case atStart => exact ⟨0, at1, kt, ct, Nat.zero_le _, rfl, rfl, K.out.1, K.out.2.1, K.out.2.2⟩
    case round =>
      clear K
      obtain ⟨k, at1, kt, ct, hk, rfl, rfl, hPt, hO, hU⟩ := hrel
      have K := Lib.hid (And.intro hPt (And.intro hO hU))
      have hBw : Below w0.heap.size w0 wr := H.out.1.trans (hO.below hub H.out.1.size)
      have HB := Lib.hid hBw
      obtain ⟨b, off, rfl, ra, rc, x0, xi⟩ := mtx_at HM.out.M (show i < n by omega)
      have hrl : (rowL L i).length = m := by rw [HM.out.ok.form i (by rw [HM.out.M.len]; omega), HM.out.wd]
      rw [hrl] at x0 xi
      have x0w := keep1 hBw x0
      have q0 := World.block_lt_of_cell? wr _ x0w
      have q1 := hU.lt
      have hi0 : (0 : Int) ≤ (i : Int) := by omega
      have hi1 : (i : Int) < (n : Int) := by omega
      clear hPt hO hU hBw
      by_cases hkm : k < m
      · have hk0 : (0 : Int) ≤ (k : Int) := by omega
        have hk1 : (k : Int) < (m : Int) := by omega
        obtain ⟨t0, t1⟩ := K.out.2.2.cell hkm
        obtain ⟨b2, o2, rfl, x1⟩ := ints_at xi hkm
        have x1w : wr.cell? ⟨b2, o2 + k, none⟩ = some (.int .i64 (AsgRows.ent L i k)) := keep1 HB.out x1
        have q2 := World.block_lt_of_cell? wr _ x1w
        obtain ⟨X, hX⟩ : ∃ X, AsgRows.ent L i k = X := ⟨_, rfl⟩
        have HX := Lib.hid hX
        rw [hX] at x1w
        clear xi x0 x1 hX
        cases hT : T k with
        | true =>
          rw [hT] at t0
          have hok : okB (AsgRows.ent L) T (n - (r + 1)) k = false := by unfold okB; rw [hT]; simp
          have HY := Lib.hid (Yk_pass (m := m) hok)
          clear hT hok
          go_wp2_with fail
          go_roundw
          case rel => exact ⟨k + 1, at1, kt, ct, by omega, by go_num, rfl, by rw [HY.out]; exact K.out.1, K.out.2.1, K.out.2.2⟩
          case measure => simp [intOf]; omega
        | false =>
          rw [hT] at t0
          by_cases hx : X < 0
          · have hok : okB (AsgRows.ent L) T (n - (r + 1)) k = false := by unfold okB; rw [HIR.out, HX.out, decide_eq_false (by omega)]; rfl
            have HY := Lib.hid (Yk_pass (m := m) hok)
            clear hT hok
            go_wp2_with fail
            go_roundw
            case rel => exact ⟨k + 1, at1, kt, ct, by omega, by go_num, rfl, by rw [HY.out]; exact K.out.1, K.out.2.1, K.out.2.2⟩
            case measure => simp [intOf]; omega
          · have HT := Lib.hid hT
            have hok : okB (AsgRows.ent L) T (n - (r + 1)) k = true := by unfold okB; rw [HIR.out, HX.out, hT, decide_eq_true (by omega)]; rfl
            have HS := Lib.hid (tried_step H0.out HM.out.M.len HM.out.wd n16 (by omega) hkm hok (by rw [HIR.out]; exact H.out.2.2.1))
            clear hT hok
            go_wp2_with fail
            have HUs := Lib.hid (show Usd (wr.setCell ⟨ub, k, none⟩ (.bool true)) ub m (setT T k) from K.out.2.2.set hkm true)
            have hOn : Only ub wr (wr.setCell ⟨ub, k, none⟩ (.bool true)) := (Only.refl _ _).setCell k _
            have hO2 := K.out.2.1.trans hOn
            have HK := Lib.hid (And.intro (K.out.1.only hOn) (And.intro (H.out.2.1.only hO2) hO2))
            have HLL := Lib.hid (show nl = l.length by rw [← toPm_len]; exact H.out.2.1.P.len.symm)
            clear hOn hO2 t0 t1 x0w x1w q0 q1 q2
            generalize wr.setCell ⟨ub, k, none⟩ (.bool true) = w2 at *
            refine (copyPairs_call al nl cl (toPm l) _ HK.out.2.1.P HK.out.2.1.nil (by have := HLL.out; omega)).mono ?_
            rintro e w3 ⟨v, rfl, hO, hb⟩
            have HBs := Lib.hid hb.size
            have H3 := Lib.hid hb
            have HOw := Lib.hid (hO.alloc (.cells #[.int .i64 (i : Int), .int .i64 (k : Int)] 42))
            have hub2 : ub < w2.heap.size := HUs.out.lt
            obtain ⟨i0, hi, hiz, his, hib⟩ := info_parts infoPairI
            have HI := Lib.hid (And.intro hi (And.intro hiz (And.intro his hib)))
            have HLn := Lib.hid (toPm_len l)
            clear hO hb K hi hiz his hib
            go_wp2_with (at_builtin; refine wpList_append_own _ rfl _ _ 27 rfl w2.heap.size 42 i0 _ 2 16 Try.underlying27 HI.out.1 HI.out.2.1 HI.out.2.2.1 HI.out.2.2.2 rfl (by decide) _ (toPm l).length _ rfl HOw.out ⟨w3.heap.size, 0, none⟩ 1 1 [.int .i64 (i : Int), .int .i64 (k : Int)] rfl rfl ?c1 ?c2 ?c3 ?c4 ?c5 ?_; rotate_right; intro v7 w7 hown7 hgrow _)
            case c1 => exact cellsTwo rfl
            case c2 => intro u hu; simp at hu; rcases hu with rfl | rfl <;> rfl
            case c3 => rw [HLn.out]; unfold maxLen; omega
            case c4 => rw [HLn.out]; omega
            case c5 => have := HBs.out; simp <;> omega
            have hg2 : (w3.alloc (.cells #[.int .i64 (i : Int), .int .i64 (k : Int)] 42)).grownBy w7 v.ownBlock := hgrow
            have hB27 : Below w2.heap.size w2 w7 := (H3.out.alloc HBs.out _).trans (grownI HOw.out hg2 (Nat.le_refl _) (by have := HBs.out; simp; omega))
            have hl1 : (l ++ [(i, k)]).length = l.length + 1 := by rw [List.length_append]; rfl
            obtain ⟨a7, c7, rfl, hP7⟩ := pl_own (l := l ++ [(i, k)]) (n := l.length + 1) (ub := ub) (by
              rw [toPm_app, HLn.out] at *
              have e : toPm [(i, k)] = [((i : Int), (k : Int))] := rfl
              rw [e, flat2_snoc]
              exact hown7) hl1 hub2 (by omega)
            have K7 := Lib.hid (And.intro (HK.out.1.below hB27) (And.intro (HK.out.2.2.trans (Only.of_below hB27)) (And.intro (HUs.out.keep hB27) hP7)))
            have hB07 : Below w0.heap.size w0 w7 := H.out.1.trans (K7.out.2.1.below hub H.out.1.size)
            have HSn := Lib.hid (H.out.2.2.1.snoc (k := k) (by rw [HM.out.M.len]; omega) (by rw [HM.out.wd]; exact hkm) HT.out (by rw [HX.out]; omega))
            have hc := IH.out (l ++ [(i, k)]) (setT T k) a7 (l.length + 1) c7 ub uc w7 hB07 hub hP7 HSn.out (by rw [hl1]; omega) K7.out.2.2.1
            rw [show ((i + 1 : Nat) : Int) = (i : Int) + 1 from rfl] at hc
            refine hc.mono ?_; clear hc
            rintro e w8 ⟨an, kn, cn, rfl, hPn, hO8, hU8⟩
            have hnx : (l ++ [(i, k)]) ++ bestL (AsgRows.ent L) n m r (setT T k) = l ++ nextL (AsgRows.ent L) n m r T k := by
              unfold nextL
              rw [HIR.out, List.append_assoc]
              rfl
            rw [hnx] at hPn
            have K8 := Lib.hid (And.intro (K7.out.1.only hO8) (And.intro (K7.out.2.1.trans hO8) (And.intro hU8 hPn)))
            obtain ⟨t0, t1⟩ := hU8.cell hkm
            have q8 := hU8.lt
            clear hown7 hgrow hg2 hB27 hl1 hP7 hB07 hnx hPn hO8 hU8 K7 HSn HOw H3 HBs HK HUs
            go_upto_region 11 with fail
            have hOn : Only ub w8 (w8.setCell ⟨ub, k, none⟩ (.bool false)) := (Only.refl _ _).setCell k _
            have K9 := Lib.hid (And.intro (K8.out.1.only hOn) (And.intro (K8.out.2.1.trans hOn) (And.intro (by have h := K8.out.2.2.1.set hkm false; rw [upd_back HT.out] at h; exact h : Usd (w8.setCell ⟨ub, k, none⟩ (.bool false)) ub m T) (K8.out.2.2.2.only hOn))))
            clear K8 hOn t0 t1 q8
            generalize w8.setCell ⟨ub, k, none⟩ (.bool false) = w9 at *
            go_wp2_with fail
            refine (pBetter_call (some ⟨b, off, none⟩) an at1 n cc kn cn kt ct L _ _ _ (HM.out.M.below (H.out.1.trans (K9.out.2.1.below hub H.out.1.size))) K9.out.2.2.2.P K9.out.1.P).mono ?_
            rintro e w10 ⟨rfl, hb⟩
            rw [HS.out.1]
            have K10 := Lib.hid (And.intro (K9.out.1.below hb) (And.intro (K9.out.2.1.trans (Only.of_below hb)) (And.intro (K9.out.2.2.1.keep hb) (K9.out.2.2.2.below hb))))
            have HY := Lib.hid HS.out.2
            clear hb K9
            cases hb : btB L (toPm (l ++ nextL (AsgRows.ent L) n m r T k)) (toPm (l ++ Yk (AsgRows.ent L) n m r T k)) with
            | true =>
              have HY2 := Lib.hid (HY.out.trans (if_pos hb))
              go_wp2_with fail
              go_roundw
              case rel => exact ⟨k + 1, an, kn, cn, by omega, by go_num, rfl, by rw [HY2.out]; exact K10.out.2.2.2, K10.out.2.1, K10.out.2.2.1⟩
              case measure => simp [intOf]; omega
            | false =>
              have HY2 := Lib.hid (HY.out.trans (if_neg (by rw [hb]; decide)))
              go_wp2_with fail
              go_roundw
              case rel => exact ⟨k + 1, at1, kt, ct, by omega, by go_num, rfl, by rw [HY2.out]; exact K10.out.1, K10.out.2.1, K10.out.2.2.1⟩
              case measure => simp [intOf]; omega
      · obtain rfl : m = k := by omega
        clear hk hkm xi
        go_wp2_with fail
        go_ret
        exact ⟨at1, kt, ct, rfl, K.out.1, K.out.2.1, K.out.2.2⟩
end Go.Proofs.Ytbehpkggmomgeaa
