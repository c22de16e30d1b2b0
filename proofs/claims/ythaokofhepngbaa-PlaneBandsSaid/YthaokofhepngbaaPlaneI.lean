/-
  Layer 36 (plane): Path.
-/
import Derived.Test.YthaokofhepngbaaPlaneH
import Derived.Test.YthaokofhepngbaaPlaneG
import Derived.Test.YthaokofhepngbaaPlaneMathB
import Derived.Test.YthaokofhepngbaaOwnLib
namespace Go.Proofs.Ythaokofhepngbaa
open Go.RowKit PlaneMath MyHeap MyOwn

theorem infoPlane : (Try.prog.info? 23).map (fun i => (i.zero, i.size, i.bytes)) = some (some (.agg #[.int .i64 0, .int .i64 0]), 2, 16) := by kernel_rfl

/-- What Path leaves: the list, in memory of the call's own. -/
def PathPost (ps : List (Int × Int)) (E : Int) (w : World) (e : Ending) (w' : World) : Prop :=
  ∃ v, e = .returned (.tuple #[v, .int .i64 E]) ∧ w'.ownsRow w.heap.size 23 2 v ps.length (flat2 ps) ∧ Below w.heap.size w w'

/-- Between two rounds of Path's loop. -/
def PathRel (base fb : Nat) (l : List (Int × Int)) (z v pull : Int) (k : Nat) (s : Value) (w0 wr : World) : Prop :=
  BdTo l k ∧ (∃ lim, Flight wr fb (pst pull l k z v).1 (pst pull l k z v).2 pull lim) ∧ wr.ownsRow base 23 2 s (k + 1) (flat2 (psts pull l z v (k + 1))) ∧ Below w0.heap.size w0 wr

theorem ownBlock_ge {w : World} {base : Nat} {e : TypeId} {size : Nat} {v : Value} {n : Nat} {xs : List Value} (h : w.ownsRow base e size v n xs) {b : Nat} (hb : b < base) : v.ownBlock ≠ some b := fun e' => by
  have := (h.lt b e').1
  omega
theorem cells_two {w : World} {x y : Value} {T : TypeId} {n : Nat} (hn : n = w.heap.size) : ∀ (j : Nat) (u : Value), [x, y][j]? = some u → (w.alloc (.cells #[x, y] T)).cell? ((⟨n, 0, none⟩ : Addr).add j) = some u := by
  subst hn
  intro j u hu
  have hadd : (⟨w.heap.size, 0, none⟩ : Addr).add j = ⟨w.heap.size, j, none⟩ := by unfold Addr.add; split <;> simp_all
  rw [hadd, World.cell?_alloc_at _ _ _ _ rfl]
  match j, hu with
  | 0, hu => exact hu
  | 1, hu => exact hu

theorem grown_below {w w' : World} {base B : Nat} {e : TypeId} {size : Nat} {v : Value} {n : Nat} {xs : List Value} (h : w.ownsRow base e size v n xs) (hg : w.grownBy w' v.ownBlock) (hB : B ≤ base) (hs : B ≤ w.heap.size) : Below B w w' :=
  ⟨hg.os, hg.tape, hg.output, hg.size, fun k hk => hg.block k (by omega) (fun e' => by have := (h.lt k e'.symm).1; omega)⟩
theorem prs_at {w : World} {a : Option Addr} {n : Nat} {ps : List (Int × Int)} (h : Prs w a n ps) {k : Nat} (hk : k < n) : ∃ b off, a = some ⟨b, off, none⟩ ∧ w.cell? ⟨b, off + k * 2, none⟩ = some (.int .i64 (ps[k]?.getD (0, 0)).1) ∧ w.cell? ⟨b, off + k * 2 + 1, none⟩ = some (.int .i64 (ps[k]?.getD (0, 0)).2) := by
  rcases h.cells with h0 | ⟨b, off, e, hc⟩
  · omega
  · exact ⟨b, off, e, hc k hk⟩

theorem HO5' {w w' : World} {fb : Nat} {e : TypeId} {size : Nat} {v : Value} {n : Nat} {xs : List Value} (h : w.ownsRow (fb + 1) e size v n xs) (hO : Only fb w w') : w'.ownsRow (fb + 1) e size v n xs := ownsRow_only h hO (ownBlock_ge h (by omega))
theorem bdTo_succ {l : List (Int × Int)} {k : Nat} (h : BdTo l k) (hk : bdB (l[k]?.getD (0, 0)).1 (l[k]?.getD (0, 0)).2 = true) : BdTo l (k + 1) := fun i hi => by
  by_cases e : i = k
  · subst e; exact hk
  · exact h i (by omega)
/-- The list and the error once the start and the pull are good. -/
def lpL (z v pull : Int) (l : List (Int × Int)) (n : Nat) : List (Int × Int) := if allBd l then psts pull l z v (n + 1) else []
def lpE (l : List (Int × Int)) : Int := if allBd l then 0 else 1
def LpPost (z v pull : Int) (l : List (Int × Int)) (n : Nat) (w : World) (e : Ending) (w' : World) : Prop := PathPost (lpL z v pull l n) (lpE l) w e w'

theorem lp_yes {z v pull : Int} {l : List (Int × Int)} {n : Nat} (hn : l.length = n) (h : BdTo l n) : lpL z v pull l n = psts pull l z v (n + 1) ∧ lpE l = 0 := by
  have := allBd_iff.2 (hn ▸ h)
  simp [lpL, lpE, this]
theorem lp_no {z v pull : Int} {l : List (Int × Int)} {n k : Nat} (hn : l.length = n) (hk : k < n) (h : bdB (l[k]?.getD (0, 0)).1 (l[k]?.getD (0, 0)).2 = false) : lpL z v pull l n = [] ∧ lpE l = 1 := by
  have : allBd l = false := by
    cases ha : allBd l with
    | false => rfl
    | true => rw [allBd_iff.1 ha k (by omega)] at h; cases h
  simp [lpL, lpE, this]
theorem lpPost_yes {z v pull : Int} {l : List (Int × Int)} {n fb : Nat} {w w' : World} {s : Value} (hn : l.length = n) (h : BdTo l n) (ho : w'.ownsRow (fb + 1) 23 2 s (n + 1) (flat2 (psts pull l z v (n + 1)))) (hf : w.heap.size ≤ fb) (hB : Below w.heap.size w w') : LpPost z v pull l n w (.returned (.tuple #[s, .int .i64 0])) w' := by
  refine ⟨s, ?_, ?_, hB⟩
  · rw [(lp_yes (z := z) (v := v) (pull := pull) hn h).2]
  · rw [(lp_yes hn h).1, psts_length]; exact ownsRow_base ho (by omega)
theorem lpPost_no {z v pull : Int} {l : List (Int × Int)} {n k : Nat} {w w' : World} (hn : l.length = n) (hk : k < n) (h : bdB (l[k]?.getD (0, 0)).1 (l[k]?.getD (0, 0)).2 = false) (hB : Below w.heap.size w w') : LpPost z v pull l n w (.returned (.tuple #[.slice none 0 0, .int .i64 1])) w' := by
  refine ⟨.slice none 0 0, ?_, ?_, hB⟩
  · rw [(lp_no (z := z) (v := v) (pull := pull) hn hk h).2]
  · rw [(lp_no hn hk h).1]; exact ⟨rfl, Or.inl ⟨rfl, rfl⟩⟩

set_option maxRecDepth 100000 in
set_option maxHeartbeats 8000000 in
theorem Path_loop (a : Option Addr) (n c : Nat) (l : List (Int × Int)) (z v pull : Int) (w : World) (hl : Prs w a n l) (hs : stB z v = true) (hp0 : 0 ≤ pull) (hp1 : pull ≤ 32) (hn : n ≤ 256) :
    Calls Try.prog 17 #[.agg #[.int .i64 z, .int .i64 v], .slice a n c, .int .i64 pull] w (LpPost z v pull l n w) := by
  have hE : stE z v = 0 := stE_yes hs
  have hnl := hl.len
  have HS := Lib.hid hs
  have HL := Lib.hid hl
  have HN := Lib.hid hnl
  clear hs hl hnl
  obtain ⟨i0, hi, hiz, his, hib⟩ := info_parts infoPlane
  have hmk := fun W : World => run_make W 33 23 i0 _ Try.underlying33 hi hiz .i64 .i64 ((n : Int) + 1) ((n : Int) + 1) (by omega) (by omega) (by rw [hib]; omega) (by omega)
  have hn1 : ((n : Int) + 1).toNat = n + 1 := by omega
  rw [hn1, his] at hmk
  have HI := Lib.hid (And.intro hi (And.intro hiz (And.intro his hib)))
  clear hi hiz his hib hn1
  go_enter Try.func17, Try.ntmps17
  go_wp2_with fail
  refine (Check_call _ _ _).mono ?_; rintro e w1 ⟨rfl, hb1⟩
  have kp : w1.heap[w.heap.size]? = some (.cells #[.int .i64 z, .int .i64 v] 23 (0, 0)) := keepO hb1 (block_new _ _ rfl)
  have hB : Below w.heap.size w w1 := ((Below.refl _ w).alloc (Nat.le_refl _) _).trans (hb1.mono (by simp))
  have hz1 := lt_of_block kp
  clear hb1
  obtain ⟨p0, p1, _, _⟩ := two_old kp
  have HO := Lib.hid (show ((w1.alloc (.cells #[.int .i64 z, .int .i64 v, .int .i64 pull, .bool false] 60)).alloc (.cells (madeCells #[.int .i64 0, .int .i64 0] ((n + 1) * 2)) 23)).ownsRow (w1.heap.size + 1) 23 2 (.slice (some ⟨w1.heap.size + 1, 0, none⟩) 0 (n + 1)) 0 [] by
    have := World.ownsRow_made (base := w1.heap.size + 1) (e := 23) (size := 2) (w1.alloc (.cells #[.int .i64 z, .int .i64 v, .int .i64 pull, .bool false] 60)) (madeCells #[.int .i64 0, .int .i64 0] ((n + 1) * 2)) (n + 1) (by simp) (by unfold maxLen; omega) (by simp [madeCells])
    simpa using this)
  go_wp2_with fail
  refine (in_yes _ _ _ _ hp0 hp1).mono ?_; rintro e w3 ⟨rfl, rfl⟩
  go_wp2_with (at_builtin; refine wpList_append_own _ rfl _ _ 33 rfl (w1.heap.size + 1) 23 i0 _ 2 16 Try.underlying33 HI.out.1 HI.out.2.1 HI.out.2.2.1 HI.out.2.2.2 rfl (by decide) _ 0 [] rfl (HO.out.alloc _) ⟨w1.heap.size + 1 + 1, 0, none⟩ 1 1 [.int .i64 z, .int .i64 v] rfl rfl ?c1 ?c2 ?c3 ?c4 ?c5 ?_; rotate_right; intro v2 w2 hown2 hgrow _)
  case c1 => exact cells_two (by simp)
  case c2 => intro u hu; simp at hu; rcases hu with rfl | rfl <;> rfl
  case c3 => decide
  case c4 => decide
  case c5 => simp <;> omega
  have HO2 := HO.out.alloc (.cells #[.int .i64 z, .int .i64 v] 23)
  have hown3 : w2.ownsRow (w1.heap.size + 1) 23 2 v2 1 (flat2 (psts pull l z v 1)) := hown2
  have hF : Flight w2 w1.heap.size z v pull false := (hgrow.block w1.heap.size (by simp; omega) (ownBlock_ge HO2 (by omega)).symm).trans (block_alloc (block_alloc (block_new _ _ rfl)))
  have hB2 : Below w.heap.size w w2 := (((hB.alloc hB.size _).alloc (by have := hB.size; simp; omega) _).alloc (by have := hB.size; simp; omega) _).trans (grown_below HO2 hgrow (by have := hB.size; omega) (by have := hB.size; simp; omega))
  have hw1 := hB.size
  have hrel0 : PathRel (w1.heap.size + 1) w1.heap.size l z v pull 0 v2 w w2 := ⟨fun i hi => by omega, ⟨false, hF⟩, hown3, hB2⟩
  generalize hfb : w1.heap.size = fb at *
  have HR0 := Lib.hid hrel0
  clear HO2 hrel0 hown3 hF hB2 hown2 hgrow hmk kp p0 p1 HO hB
  go_loopw [11, 44] (fun s kv wr => ∃ k : Nat, k ≤ n ∧ kv = .int .i64 k ∧ PathRel (fb + 1) fb l z v pull k s w wr) (fun _ kv _ => n - (intOf kv).toNat)
  case atStart => exact ⟨0, by omega, rfl, HR0.out⟩
  case round =>
    obtain ⟨k, hk, rfl, hbt, ⟨lim, hF⟩, hown, hB⟩ := hrel
    clear HR0
    have hst := pst_st hp0 HS.out k hbt
    by_cases hlt : k < n
    · obtain ⟨b, off, rfl, x0, x1⟩ := prs_at (HL.out.below hB) hlt
      have HB := Lib.hid (And.intro hbt (And.intro hF (And.intro hown (And.intro hB hst))))
      clear hbt hF hown hst
      have hfw := HB.out.2.2.2.1.size
      cases hbd : bdB (l[k]?.getD (0, 0)).1 (l[k]?.getD (0, 0)).2 with
      | true =>
        have HD := Lib.hid hbd
        clear hbd
        go_wp2_with fail
        refine (valid_call _ _ _).mono ?_; rintro e w4 ⟨rfl, hb4⟩
        rw [HD.out]
        have kp4 : w4.heap[wr.heap.size]? = some (.cells #[.int .i64 (l[k]?.getD (0, 0)).1, .int .i64 (l[k]?.getD (0, 0)).2] 38 (0, 0)) := keepO hb4 (block_new _ _ rfl)
        obtain ⟨p0, p1, _, _⟩ := two_old kp4
        have hF4 : Flight w4 fb (pst pull l k z v).1 (pst pull l k z v).2 pull lim := keepO hb4 (block_alloc HB.out.2.1)
        have hown4 := ownsRow_below (HB.out.2.2.1.alloc _) hb4 (Nat.le_refl _)
        have hB4 : Below w.heap.size w w4 := (HB.out.2.2.2.1.alloc hfw _).trans (hb4.mono (by simp; omega))
        have hfw4 : fb < w4.heap.size := lt_of_block hF4
        have H4 := Lib.hid (And.intro hF4 (And.intro hown4 hB4))
        clear hF4 hown4 hB4 hb4 kp4
        go_wp2_with fail
        refine (fly_call fb _ _ pull _ _ lim _ H4.out.1 HB.out.2.2.2.2 HD.out hp0 hp1).mono ?_; rintro e w5 ⟨rfl, hF5, hO5⟩
        have hown5 := HO5' H4.out.2.1 hO5
        have hB5 : Below w.heap.size w w5 := H4.out.2.2.trans (hO5.below (by omega) H4.out.2.2.size)
        have hw5 := hB5.size
        have hfw5 : fb < w5.heap.size := Nat.lt_of_lt_of_le hfw4 hO5.size
        have hown6 := hown5.alloc (.cells #[.int .i64 (nxtZ (pst pull l k z v).1 (pst pull l k z v).2), .int .i64 (nxtV (pst pull l k z v).1 (pst pull l k z v).2 (l[k]?.getD (0, 0)).1 (l[k]?.getD (0, 0)).2 pull)] 23)
        have H6 := Lib.hid (And.intro hown6 (And.intro hF5 hB5))
        clear hown5 hown6 hF5 hB5 hO5
        go_wp2_with (at_builtin; refine wpList_append_own _ rfl _ _ 33 rfl (fb + 1) 23 i0 _ 2 16 Try.underlying33 HI.out.1 HI.out.2.1 HI.out.2.2.1 HI.out.2.2.2 rfl (by decide) _ (k + 1) _ rfl H6.out.1 ⟨w5.heap.size, 0, none⟩ 1 1 [.int .i64 (nxtZ (pst pull l k z v).1 (pst pull l k z v).2), .int .i64 (nxtV (pst pull l k z v).1 (pst pull l k z v).2 (l[k]?.getD (0, 0)).1 (l[k]?.getD (0, 0)).2 pull)] rfl rfl ?c1 ?c2 ?c3 ?c4 ?c5 ?_; rotate_right; intro v7 w7 hown7 hgrow _)
        case c1 => exact cells_two rfl
        case c2 => intro u hu; simp at hu; rcases hu with rfl | rfl <;> rfl
        case c3 => unfold maxLen; omega
        case c4 => omega
        case c5 => simp <;> omega
        have hg' := grown_below (B := w.heap.size) H6.out.1 hgrow (by omega) (by simp; omega)
        go_roundw
        case rel => exact ⟨k + 1, by omega, by go_num, bdTo_succ HB.out.1 HD.out, ⟨_, (hgrow.block fb (by simp; omega) (ownBlock_ge H6.out.1 (by omega)).symm).trans (block_alloc H6.out.2.1)⟩, by rw [psts_succ, flat2_snoc]; exact hown7, (H6.out.2.2.alloc hw5 _).trans hg'⟩
        case measure => simp [intOf]; omega
      | false =>
        have HD := Lib.hid hbd
        clear hbd
        go_wp2_with fail
        refine (valid_call _ _ _).mono ?_; rintro e w4 ⟨rfl, hb4⟩
        rw [HD.out]
        go_wp2_with fail
        go_ret2
        exact lpPost_no HN.out hlt HD.out ((HB.out.2.2.2.1.alloc hfw _).trans (hb4.mono (by simp; omega)))
    · obtain rfl : k = n := by omega
      have HB := Lib.hid (And.intro hbt (And.intro hF (And.intro hown (And.intro hB hst))))
      clear hbt hF hown hst
      go_wp2
      go_ret2
      exact lpPost_yes HN.out HB.out.1 HB.out.2.2.1 hw1 HB.out.2.2.2.1
end Go.Proofs.Ythaokofhepngbaa
