/-
  TrkB
-/
import Derived.Test.YtikjjpjekchcjaaPb8
namespace Go.Proofs.Ytikjjpjekchcjaa
open Go.RowKit TrkMath MyHeap MyOwn
def N2Post (a b : Int) (w : World) (e : Ending) (w' : World) : Prop := e = .returned (.tuple #[.int .i64 a, .int .i64 b]) ∧ Below w.heap.size w w'
theorem n2Post_of {a b a' b' : Int} {w w' : World} (h1 : a' = a) (h2 : b' = b) (hB : Below w.heap.size w w') : N2Post a' b' w (.returned (.tuple #[.int .i64 a, .int .i64 b])) w' := by subst h1; subst h2; exact ⟨rfl, hB⟩
theorem prE_ch {x : Rg} {c : Int} (h : rgE x ≠ 0) : prE x c = rgE x ∧ prV x c = 0 := by
 have e : prE x c = rgE x := if_pos h
 exact ⟨e, if_neg (by rw [e]; exact h)⟩
theorem prE_arg {x : Rg} {c : Int} (h : rgE x = 0) (hc : c < 0 ∨ 16 < c) : prE x c = 1 ∧ prV x c = 0 := by
 have e : prE x c = 1 := by unfold prE; rw [if_neg (by rw [h]; decide), if_pos hc]
 exact ⟨e, if_neg (by rw [e]; decide)⟩
theorem prE_ok {x : Rg} {c : Int} (h : rgE x = 0) (hc : ¬ (c < 0 ∨ 16 < c)) : prE x c = 0 ∧ prV x c = lim (x.r + c * x.v) 0 2097152 := by
 have e : prE x c = 0 := by unfold prE; rw [if_neg (by rw [h]; decide), if_neg hc]
 exact ⟨e, if_pos e⟩
theorem mul_bd {c v : Int} (h1 : 0 ≤ c) (h2 : c ≤ 16) (h3 : -16384 ≤ v) (h4 : v ≤ 16384) : -262144 ≤ c * v ∧ c * v ≤ 262144 := by
 have a1 : c * v ≤ 16 * 16384 := by
  rcases Int.lt_or_le v 0 with h | h
  ·have : c * v ≤ 0 := Int.mul_nonpos_of_nonneg_of_nonpos h1 (by omega)
   omega
  ·exact Int.mul_le_mul h2 h4 h (by decide)
 have a2 : c * -v ≤ 16 * 16384 := by
  rcases Int.lt_or_le (-v) 0 with h | h
  ·have : c * -v ≤ 0 := Int.mul_nonpos_of_nonneg_of_nonpos h1 (by omega)
   omega
  ·exact Int.mul_le_mul h2 (by omega) h (by decide)
 rw [Int.mul_neg] at a2
 omega
theorem limit_below (w : World) (lo hi : Int) : Below w.heap.size w ((w.alloc (.cells #[.int .i64 lo] 3)).alloc (.cells #[.int .i64 hi] 3)) := by
 have h := below_alloc w (.cells #[.int .i64 lo] 3)
 exact h.alloc h.size _
theorem limit_cells (w : World) (lo hi : Int) : ((w.alloc (.cells #[.int .i64 lo] 3)).alloc (.cells #[.int .i64 hi] 3)).cell? ⟨w.heap.size, 0, none⟩ = some (.int .i64 lo) ∧ ((w.alloc (.cells #[.int .i64 lo] 3)).alloc (.cells #[.int .i64 hi] 3)).cell? ⟨w.heap.size + 1, 0, none⟩ = some (.int .i64 hi) :=
 ⟨cell_of_block (block_alloc (block_new w (.cells #[.int .i64 lo] 3 (0, 0)) rfl)) rfl, cell_of_block (block_new (w.alloc (.cells #[.int .i64 lo] 3)) (.cells #[.int .i64 hi] 3 (0, 0)) (by simp)) rfl⟩
set_option maxRecDepth 100000 in
set_option maxHeartbeats 4000000 in
theorem pPredict_call (x : Rg) (c : Int) (w : World) : Calls Try.prog 86 #[rgV x, .int .i64 c] w (N2Post (prV x c) (prE x c) w) := by
 have HB := Lib.hid (below_alloc w (.cells #[.int .i64 x.r, .int .i64 x.v, .int .i64 x.n] 42))
 have HX0 := Lib.hid (block_new w (.cells #[.int .i64 x.r, .int .i64 x.v, .int .i64 x.n] 42 (0, 0)) rfl)
 by_cases hE : rgE x = 0
 ·have HE := Lib.hid hE
  have hz := rgE_zero hE
  unfold rgV
  clear hE
  go_enter Try.func86, Try.ntmps86
  go_wp2_with fail
  refine (pRgCheck_call x _).mono ?_; rintro e w1 ⟨rfl, hb⟩
  rw [HE.out]
  have K := Lib.hid (And.intro (HB.out.trans (hb.mono HB.out.size)) (keepO hb HX0.out))
  clear hb
  by_cases h1 : c < 0
  ·have HR := Lib.hid (prE_arg HE.out (Or.inl h1))
   go_wp2_with fail
   go_ret2
   exact n2Post_of HR.out.2 HR.out.1 K.out.1
  ·by_cases h2 : 16 < c
   ·have HR := Lib.hid (prE_arg HE.out (Or.inr h2))
    go_wp2_with fail
    go_ret2
    exact n2Post_of HR.out.2 HR.out.1 K.out.1
   ·have HR := Lib.hid (prE_ok (c := c) HE.out (by omega))
    have HY := Lib.hid (show w1.cell? ⟨w.heap.size, 0, none⟩ = some (.int .i64 x.r) ∧ w1.cell? ⟨w.heap.size, 1, none⟩ = some (.int .i64 x.v) from ⟨cell_of_block K.out.2 rfl, cell_of_block K.out.2 rfl⟩)
    have yl := lt_of_block K.out.2
    have hm := mul_bd (c := c) (v := x.v) (by omega) (by omega) hz.2.2.1 hz.2.2.2.1
    obtain ⟨M, hM⟩ : ∃ M, c * x.v = M := ⟨_, rfl⟩
    have HM := Lib.hid hM
    have w1' : IntKind.i64.wrap (c * x.v) = M := by rw [hM]; exact IntWalk.i64_in _ (by omega)
    have w2' : IntKind.i64.wrap (x.r + M) = x.r + M := IntWalk.i64_in _ (by omega)
    have HL := Lib.hid (show prV x c = lim (x.r + M) 0 2097152 from by rw [HR.out.2, HM.out])
    clear hM hm
    go_wp2_with fail
    have KD := Lib.hid (show Below w1.heap.size w1 w1.drew from below_drewN (Below.refl _ _) 1)
    go_region_held3 (fun w' => w'.cell? ⟨w.heap.size, 0, none⟩ = some (.int .i64 x.r) ∧ w'.cell? ⟨w.heap.size, 1, none⟩ = some (.int .i64 x.v)) (exact ⟨keep1 KD.out HY.out.1, keep1 KD.out HY.out.2⟩)
     (first
      | (go_at_call 89; refine (limit_call _ _ _).mono ?_; rintro e w5 ⟨rfl, rfl⟩; have PP := limit_cells w1.drew 0 2097152; replace KD := Lib.hid (KD.out.trans ((limit_below w1.drew 0 2097152).mono KD.out.size)))
      | (go_at_call 98; refine (limit1_call (x.r + M) 0 2097152 _ _ _ PP.1 PP.2).mono ?_; rintro e w6 ⟨rfl, hb⟩; replace KD := Lib.hid (KD.out.trans (hb.mono KD.out.size)); clear hb))
    all_goals
     go_wp2_with fail
     go_ret2
     exact n2Post_of HL.out HR.out.1 (K.out.1.trans (KD.out.mono K.out.1.size))
 ·have hne : (rgE x != 0) = true := by rw [bne_iff_ne]; exact hE
  have HR := Lib.hid (prE_ch (c := c) hE)
  obtain ⟨E, hE2⟩ : ∃ E, rgE x = E := ⟨_, rfl⟩
  have HE := Lib.hid hE2
  rw [hE2] at hne
  unfold rgV
  clear hE hE2
  go_enter Try.func86, Try.ntmps86
  go_wp2_with fail
  refine (pRgCheck_call x _).mono ?_; rintro e w1 ⟨rfl, hb⟩
  rw [HE.out]
  go_wp2_with fail
  go_ret2
  exact n2Post_of HR.out.2 (by rw [HR.out.1, HE.out]) (HB.out.trans (hb.mono HB.out.size))
end Go.Proofs.Ytikjjpjekchcjaa
