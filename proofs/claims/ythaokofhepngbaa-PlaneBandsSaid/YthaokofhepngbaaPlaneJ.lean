/-
  Layer 36 (plane): Path, whole; the reference's Path.
-/
import Derived.Test.YthaokofhepngbaaPlaneI
namespace Go.Proofs.Ythaokofhepngbaa
open Go.RowKit PlaneMath MyHeap MyOwn

def PthPost (z v pull : Int) (l : List (Int × Int)) (w : World) (e : Ending) (w' : World) : Prop := PathPost (pthL z v pull l) (pthE z v pull l) w e w'
theorem pth_bad {z v pull : Int} {l : List (Int × Int)} {E : Int} (h : pthE z v pull l = E) (hE : E ≠ 0) {w w' : World} (hB : Below w.heap.size w w') : PthPost z v pull l w (.returned (.tuple #[.slice none 0 0, .int .i64 E])) w' := by
  refine ⟨.slice none 0 0, by rw [h], ?_, hB⟩
  unfold pthL
  rw [if_neg (by rw [h]; exact hE)]
  exact ⟨rfl, Or.inl ⟨rfl, rfl⟩⟩
theorem pth_st {z v pull : Int} {l : List (Int × Int)} (h : stB z v = false) : pthE z v pull l = 1 := by unfold pthE; rw [if_pos h]
theorem pth_pull {z v pull : Int} {l : List (Int × Int)} (h : stB z v = true) (hp : pull < 0 ∨ 32 < pull) : pthE z v pull l = 1 := by unfold pthE; rw [if_neg (by rw [h]; decide), if_pos hp]
theorem pth_long {z v pull : Int} {l : List (Int × Int)} (h : stB z v = true) (hp0 : 0 ≤ pull) (hp1 : pull ≤ 32) (hn : 256 < l.length) : pthE z v pull l = 4 := by unfold pthE; rw [if_neg (by rw [h]; decide), if_neg (by omega), if_pos hn]
theorem pth_lp {z v pull : Int} {l : List (Int × Int)} (h : stB z v = true) (hp0 : 0 ≤ pull) (hp1 : pull ≤ 32) (hn : l.length ≤ 256) : pthE z v pull l = lpE l ∧ pthL z v pull l = lpL z v pull l l.length := by
  have e : pthE z v pull l = lpE l := by unfold pthE; rw [if_neg (by rw [h]; decide), if_neg (by omega), if_neg (by omega)]; rfl
  refine ⟨e, ?_⟩
  unfold pthL
  rw [e]
  unfold lpE lpL
  cases allBd l <;> rfl
theorem lp_pth {z v pull : Int} {l : List (Int × Int)} {n : Nat} (hl : l.length = n) (h : stB z v = true) (hp0 : 0 ≤ pull) (hp1 : pull ≤ 32) (hn : n ≤ 256) {w w' : World} {e : Ending} (hh : LpPost z v pull l n w e w') : PthPost z v pull l w e w' := by
  subst hl
  have := pth_lp (l := l) h hp0 hp1 hn
  unfold PthPost
  rw [this.1, this.2]
  exact hh

set_option maxRecDepth 100000 in
set_option maxHeartbeats 4000000 in
theorem Path_call (a : Option Addr) (n c : Nat) (l : List (Int × Int)) (z v pull : Int) (w : World) (hl : Prs w a n l) :
    Calls Try.prog 17 #[.agg #[.int .i64 z, .int .i64 v], .slice a n c, .int .i64 pull] w (PthPost z v pull l w) := by
  have hnl := hl.len
  have hm := hl.bound
  cases hs : stB z v with
  | false =>
    have hE : stE z v = 1 := by unfold stE; rw [hs]; rfl
    have HP := Lib.hid (pth_st (pull := pull) (l := l) hs)
    clear hs hl hnl
    go_enter Try.func17, Try.ntmps17
    go_wp2_with fail
    refine (Check_call _ _ _).mono ?_; rintro e w1 ⟨rfl, hb1⟩
    have hB : Below w.heap.size w w1 := ((Below.refl _ w).alloc (Nat.le_refl _) _).trans (hb1.mono (by simp))
    go_wp2_with fail
    go_ret2
    exact pth_bad HP.out (by decide) hB
  | true =>
    by_cases hp : pull < 0 ∨ 32 < pull
    · have hE : stE z v = 0 := stE_yes hs
      have HP := Lib.hid (pth_pull (l := l) hs hp)
      have HP2 := Lib.hid hp
      clear hs hl hnl hp
      go_enter Try.func17, Try.ntmps17
      go_wp2_with fail
      refine (Check_call _ _ _).mono ?_; rintro e w1 ⟨rfl, hb1⟩
      have hB : Below w.heap.size w w1 := ((Below.refl _ w).alloc (Nat.le_refl _) _).trans (hb1.mono (by simp))
      go_wp2_with fail
      refine (in_no _ _ _ _ HP2.out).mono ?_; rintro e w3 ⟨rfl, rfl⟩
      go_wp2_with fail
      go_ret2
      exact pth_bad HP.out (by decide) hB
    · by_cases hn : n ≤ 256
      · exact (Path_loop a n c l z v pull w hl hs (by omega) (by omega) hn).mono fun e w' h => lp_pth hnl hs (by omega) (by omega) hn h
      · have hE : stE z v = 0 := stE_yes hs
        have hp0 : 0 ≤ pull := by omega
        have hp1 : pull ≤ 32 := by omega
        have HP := Lib.hid (pth_long hs hp0 hp1 (show 256 < l.length by omega))
        clear hs hl hnl hp
        go_enter Try.func17, Try.ntmps17
        go_wp2_with fail
        refine (Check_call _ _ _).mono ?_; rintro e w1 ⟨rfl, hb1⟩
        have hB : Below w.heap.size w w1 := ((Below.refl _ w).alloc (Nat.le_refl _) _).trans (hb1.mono (by simp))
        go_wp2_with fail
        refine (in_yes _ _ _ _ hp0 hp1).mono ?_; rintro e w3 ⟨rfl, rfl⟩
        go_wp2_with fail
        go_ret2
        exact pth_bad HP.out (by decide) hB
end Go.Proofs.Ythaokofhepngbaa
