/-
  TrkA, TrkRep
-/
import Derived.Test.YtikjjpjekchcjaaGreatPm10
set_option linter.all false
set_option maxRecDepth 100000
set_option maxHeartbeats 64000000
section
namespace Go.Proofs.YtikjjpjekchcjaaGreat
open Go.RowKit TrkMath MyHeap MyOwn
theorem aC (w : World) (o : Obj) : Below w.heap.size w (w.alloc o) := (Below.refl _ _).alloc (Nat.le_refl _) _
theorem aM {b : Nat} {w w' : World} (h : Below b w w') (d : Nat) : Below b w (w'.drewN d) := ⟨h.os, h.tape, h.output, h.size, h.block⟩
def rgV (x : Rg) : Value := .agg #[.int .i64 x.r, .int .i64 x.v, .int .i64 x.n]
def NPost (r : Int) (w : World) (e : Ending) (w' : World) : Prop := e = .returned (.int .i64 r) ∧ Below w.heap.size w w'
theorem aJ {r r' : Int} {w w' : World} (h : r = r') (hB : Below w.heap.size w w') : NPost r' w (.returned (.int .i64 r)) w' := by subst h; exact ⟨rfl, hB⟩
theorem jS (f : Nat) (x : Rg) (w : World) (hf : f = 40 ∨ f = 43) : Calls Tryz.prog f #[rgV x] w (NPost (rgE x) w) := by
 obtain ⟨r, v, n⟩ := x
 show Calls Tryz.prog f #[.agg #[.int .i64 r, .int .i64 v, .int .i64 n]] w _
 have HB := qh (aC w (.cells #[.int .i64 r, .int .i64 v, .int .i64 n] 50))
 by_cases h1 : r < 0
 ·have HE := qh (jG (x := ⟨r, v, n⟩) (Or.inl h1))
  rcases hf with rfl | rfl
  ·go_enter Tryz.func40, Tryz.ntmps40
   go_wp2_with fail
   go_ret
   exact aJ HE.out.symm HB.out
  go_enter Tryz.func43, Tryz.ntmps43
  go_wp2_with fail
  go_ret
  exact aJ HE.out.symm HB.out
 by_cases h2 : 2097152 < r
 ·have HE := qh (jG (x := ⟨r, v, n⟩) (Or.inr (Or.inl h2)))
  rcases hf with rfl | rfl
  ·go_enter Tryz.func40, Tryz.ntmps40
   go_wp2_with fail
   go_ret
   exact aJ HE.out.symm HB.out
  go_enter Tryz.func43, Tryz.ntmps43
  go_wp2_with fail
  go_ret
  exact aJ HE.out.symm HB.out
 by_cases h3 : v < -16384
 ·have HE := qh (jG (x := ⟨r, v, n⟩) (Or.inr (Or.inr (Or.inl h3))))
  rcases hf with rfl | rfl
  ·go_enter Tryz.func40, Tryz.ntmps40
   go_wp2_with fail
   go_ret
   exact aJ HE.out.symm HB.out
  go_enter Tryz.func43, Tryz.ntmps43
  go_wp2_with fail
  go_ret
  exact aJ HE.out.symm HB.out
 by_cases h4 : 16384 < v
 ·have HE := qh (jG (x := ⟨r, v, n⟩) (Or.inr (Or.inr (Or.inr (Or.inl h4)))))
  rcases hf with rfl | rfl
  ·go_enter Tryz.func40, Tryz.ntmps40
   go_wp2_with fail
   go_ret
   exact aJ HE.out.symm HB.out
  go_enter Tryz.func43, Tryz.ntmps43
  go_wp2_with fail
  go_ret
  exact aJ HE.out.symm HB.out
 by_cases h5 : n < 1
 ·have HE := qh (jG (x := ⟨r, v, n⟩) (Or.inr (Or.inr (Or.inr (Or.inr (Or.inl h5))))))
  rcases hf with rfl | rfl
  ·go_enter Tryz.func40, Tryz.ntmps40
   go_wp2_with fail
   go_ret
   exact aJ HE.out.symm HB.out
  go_enter Tryz.func43, Tryz.ntmps43
  go_wp2_with fail
  go_ret
  exact aJ HE.out.symm HB.out
 by_cases h6 : 1000 < n
 ·have HE := qh (jG (x := ⟨r, v, n⟩) (Or.inr (Or.inr (Or.inr (Or.inr (Or.inr h6))))))
  rcases hf with rfl | rfl
  ·go_enter Tryz.func40, Tryz.ntmps40
   go_wp2_with fail
   go_ret
   exact aJ HE.out.symm HB.out
  go_enter Tryz.func43, Tryz.ntmps43
  go_wp2_with fail
  go_ret
  exact aJ HE.out.symm HB.out
 have HE := qh (rgE_ok (x := ⟨r, v, n⟩) (by unfold rgBad; dsimp only; omega))
 rcases hf with rfl | rfl
 ·go_enter Tryz.func40, Tryz.ntmps40
  go_wp2_with fail
  go_ret
  exact aJ HE.out.symm HB.out
 go_enter Tryz.func43, Tryz.ntmps43
 go_wp2_with fail
 go_ret
 exact aJ HE.out.symm HB.out
theorem bG (x : Rg) (w : World) : Calls Tryz.prog 40 #[rgV x] w (NPost (rgE x) w) := jS _ x w (Or.inl rfl)
theorem bE (x : Rg) (w : World) : Calls Tryz.prog 43 #[rgV x] w (NPost (rgE x) w) := jS _ x w (Or.inr rfl)
def RgPost (x : Rg) (E : Int) (w : World) (e : Ending) (w' : World) : Prop := e = .returned (.tuple #[rgV x, .int .i64 E]) ∧ Below w.heap.size w w'
theorem bM {x x' : Rg} {E E' : Int} {w w' : World} (hx : x' = x) (hE : E' = E) (hB : Below w.heap.size w w') : RgPost x' E' w (.returned (.tuple #[.agg #[.int .i64 x.r, .int .i64 x.v, .int .i64 x.n], .int .i64 E])) w' := by subst hx; subst hE; exact ⟨rfl, hB⟩
theorem nw_call (f : Nat) (r : Int) (w : World) (hf : f = 59 ∨ f = 37) : Calls Tryz.prog f #[.int .i64 r] w (RgPost (nwX r) (nwE r) w) := by
 have hbad : (r < 0 ∨ 8192 < r) → nwE r = 1 ∧ nwX r = rg0 := fun h => by
  have e : nwE r = 1 := if_pos h
  exact ⟨e, by unfold nwX; rw [if_neg (by rw [e]; decide)]⟩
 have HBad := qh hbad
 have HOk := qh (show ¬ (r < 0 ∨ 8192 < r) → nwE r = 0 ∧ nwX r = ⟨256 * r, 0, 1⟩ from fun h => by
  have e : nwE r = 0 := if_neg h
  exact ⟨e, by unfold nwX; rw [if_pos e]⟩)
 clear hbad
 by_cases h1 : r < 0
 ·have HE := qh (HBad.out (Or.inl h1))
  rcases hf with rfl | rfl
  ·go_enter Tryz.func59, Tryz.ntmps59
   go_wp2_with fail
   refine bodyPost_ret (v := .tuple #[.agg #[.int .i64 0, .int .i64 0, .int .i64 0], .int .i64 1]) ?_ rfl (bM (x := rg0) HE.out.2 HE.out.1 (aC _ _))
   simp [results, Tryz.f59, go_sem]
  go_enter Tryz.func37, Tryz.ntmps37
  go_wp2_with fail
  refine bodyPost_ret (v := .tuple #[.agg #[.int .i64 0, .int .i64 0, .int .i64 0], .int .i64 1]) ?_ rfl (bM (x := rg0) HE.out.2 HE.out.1 (aC _ _))
  simp [results, Tryz.f37, go_sem]
 by_cases h2 : 8192 < r
 ·have HE := qh (HBad.out (Or.inr h2))
  rcases hf with rfl | rfl
  ·go_enter Tryz.func59, Tryz.ntmps59
   go_wp2_with fail
   refine bodyPost_ret (v := .tuple #[.agg #[.int .i64 0, .int .i64 0, .int .i64 0], .int .i64 1]) ?_ rfl (bM (x := rg0) HE.out.2 HE.out.1 (aC _ _))
   simp [results, Tryz.f59, go_sem]
  go_enter Tryz.func37, Tryz.ntmps37
  go_wp2_with fail
  refine bodyPost_ret (v := .tuple #[.agg #[.int .i64 0, .int .i64 0, .int .i64 0], .int .i64 1]) ?_ rfl (bM (x := rg0) HE.out.2 HE.out.1 (aC _ _))
  simp [results, Tryz.f37, go_sem]
 have HE := qh (HOk.out (by omega))
 have hw : IntKind.i64.wrap (256 * r) = 256 * r := IntWalk.i64_in _ (by omega)
 rcases hf with rfl | rfl
 ·go_enter Tryz.func59, Tryz.ntmps59
  go_wp2_with fail
  refine bodyPost_ret (v := .tuple #[.agg #[.int .i64 (256 * r), .int .i64 0, .int .i64 1], .int .i64 0]) ?_ rfl (bM (x := ⟨256 * r, 0, 1⟩) HE.out.2 HE.out.1 (aC _ _))
  simp [results, Tryz.f59, go_sem]
 go_enter Tryz.func37, Tryz.ntmps37
 go_wp2_with fail
 refine bodyPost_ret (v := .tuple #[.agg #[.int .i64 (256 * r), .int .i64 0, .int .i64 1], .int .i64 0]) ?_ rfl (bM (x := ⟨256 * r, 0, 1⟩) HE.out.2 HE.out.1 (aC _ _))
 simp [results, Tryz.f37, go_sem]
theorem pNw_call (r : Int) (w : World) : Calls Tryz.prog 59 #[.int .i64 r] w (RgPost (nwX r) (nwE r) w) := nw_call _ r w (Or.inl rfl)
theorem rNw_call (r : Int) (w : World) : Calls Tryz.prog 37 #[.int .i64 r] w (RgPost (nwX r) (nwE r) w) := nw_call _ r w (Or.inr rfl)
theorem cM (n lo hi : Int) (w : World) : Calls Tryz.prog 96 #[.int .i64 n, .int .i64 lo, .int .i64 hi] w (NPost (lim n lo hi) w) := by
 go_enter Tryz.func96, Tryz.ntmps96
 go_wp2_with fail
 all_goals
  rename_i h1
  go_ret
  refine aJ ?_ (Below.refl _ _)
  unfold lim
  split at h1 <;> omega
theorem dG (n lo hi : Int) (p q : Nat) (w : World) (h1 : w.cell? ⟨p, 0, none⟩ = some (.int .i64 lo)) (h2 : w.cell? ⟨q, 0, none⟩ = some (.int .i64 hi)) : Calls Tryz.prog 102 #[.int .i64 n, .pointer (some ⟨p, 0, none⟩), .pointer (some ⟨q, 0, none⟩)] w (NPost (lim n lo hi) w) := by
 go_enter Tryz.func102, Tryz.ntmps102
 go_wp2_with fail
 all_goals
  rename_i h3
  go_ret
  refine aJ ?_ (Below.refl _ _)
  unfold lim
  split at h3 <;> omega
theorem dS (lo hi : Int) (w : World) : Calls Tryz.prog 91 #[.int .i64 lo, .int .i64 hi] w fun e w' => e = .returned (.func (.func 102) #[] #[.pointer (some ⟨w.heap.size, 0, none⟩), .pointer (some ⟨w.heap.size + 1, 0, none⟩)]) ∧ w' = (w.alloc (.cells #[.int .i64 lo] 3)).alloc (.cells #[.int .i64 hi] 3) := by
 go_enter Tryz.func91, Tryz.ntmps91
 go_wp2_with fail
 go_ret
 exact ⟨rfl, rfl⟩
theorem fB (p q : Int) (w : World) (h1 : -100000000000 ≤ p) (h2 : p ≤ 100000000000) (h3 : 1 ≤ q) (h4 : q ≤ 100000) : Calls Tryz.prog 92 #[.int .i64 p, .int .i64 q] w (NPost (rnd p q) w) := by
 have hz : (2 * q == 0) = false := by rw [beq_eq_false_iff_ne]; omega
 have w2 : IntKind.i64.wrap (2 * p) = 2 * p := IntWalk.i64_in _ (by omega)
 have w3 : IntKind.i64.wrap (2 * q) = 2 * q := IntWalk.i64_in _ (by omega)
 by_cases hp : p < 0
 ·have hb := jF (p := 2 * p + -q) (q := 2 * q) (B := 300000000000) (by omega) (by omega) (by omega)
  have w1 : IntKind.i64.wrap (-q) = -q := IntWalk.i64_in _ (by omega)
  have w4 : IntKind.i64.wrap (2 * p + -q) = 2 * p + -q := IntWalk.i64_in _ (by omega)
  have w5 : IntKind.i64.wrap ((2 * p + -q).tdiv (2 * q)) = (2 * p + -q).tdiv (2 * q) := IntWalk.i64_in _ (by omega)
  have HR := qh (rnd_neg (q := q) hp)
  go_enter Tryz.func92, Tryz.ntmps92
  go_wp2_with fail
  go_ret
  exact aJ HR.out.symm (Below.refl _ _)
 have hb := jF (p := 2 * p + q) (q := 2 * q) (B := 300000000000) (by omega) (by omega) (by omega)
 have w4 : IntKind.i64.wrap (2 * p + q) = 2 * p + q := IntWalk.i64_in _ (by omega)
 have w5 : IntKind.i64.wrap ((2 * p + q).tdiv (2 * q)) = (2 * p + q).tdiv (2 * q) := IntWalk.i64_in _ (by omega)
 have HR := qh (show rnd p q = (2 * p + q).tdiv (2 * q) from if_neg hp)
 go_enter Tryz.func92, Tryz.ntmps92
 go_wp2_with fail
 go_ret
 exact aJ HR.out.symm (Below.refl _ _)
theorem qV (p q : Int) (w : World) (h1 : 0 ≤ p) (h2 : p ≤ 100000000000) (h3 : 1 ≤ q) (h4 : q ≤ 100000) : Calls Tryz.prog 98 #[.int .i64 p, .int .i64 q] w (NPost ((2 * p + q).tdiv (2 * q)) w) := by
 have hz : (2 * q == 0) = false := by rw [beq_eq_false_iff_ne]; omega
 have hp : ¬ p < 0 := by omega
 have hb := jF (p := 2 * p + q) (q := 2 * q) (B := 300000000000) (by omega) (by omega) (by omega)
 have w2 : IntKind.i64.wrap (2 * p) = 2 * p := IntWalk.i64_in _ (by omega)
 have w3 : IntKind.i64.wrap (2 * q) = 2 * q := IntWalk.i64_in _ (by omega)
 have w4 : IntKind.i64.wrap (2 * p + q) = 2 * p + q := IntWalk.i64_in _ (by omega)
 have w5 : IntKind.i64.wrap ((2 * p + q).tdiv (2 * q)) = (2 * p + q).tdiv (2 * q) := IntWalk.i64_in _ (by omega)
 go_enter Tryz.func98, Tryz.ntmps98
 go_wp2_with fail
 go_ret
 exact aJ rfl (Below.refl _ _)
theorem e9 (p q : Int) (w : World) (h1 : -100000000000 ≤ p) (h2 : p ≤ 100000000000) (h3 : 1 ≤ q) (h4 : q ≤ 100000) : Calls Tryz.prog 98 #[.int .i64 p, .int .i64 q] w (NPost (rnd p q) w) := by
 by_cases hp : p < 0
 ·have w1 : IntKind.i64.wrap (-p) = -p := IntWalk.i64_in _ (by omega)
  have hb := jF (p := 2 * -p + q) (q := 2 * q) (B := 300000000000) (by omega) (by omega) (by omega)
  have w5 : IntKind.i64.wrap (-((2 * -p + q).tdiv (2 * q))) = -((2 * -p + q).tdiv (2 * q)) := IntWalk.i64_in _ (by omega)
  have HR := qh (show rnd p q = -((2 * -p + q).tdiv (2 * q)) from if_pos hp)
  have HX := qh (And.intro h1 (And.intro h3 h4))
  go_enter Tryz.func98, Tryz.ntmps98
  go_wp2_with fail
  refine (qV (-p) q _ (by omega) (by omega) h3 h4).mono ?_; rintro e w1 ⟨rfl, hb⟩
  go_wp2_with fail
  go_ret
  exact aJ HR.out.symm hb
 have HR := qh (show rnd p q = (2 * p + q).tdiv (2 * q) from if_neg hp)
 refine (qV p q _ (by omega) h2 h3 h4).mono ?_; rintro e w1 ⟨rfl, hb⟩
 exact aJ HR.out.symm hb
end Go.Proofs.YtikjjpjekchcjaaGreat
end
section
namespace Go.Proofs.YtikjjpjekchcjaaGreat
open Go.RowKit TrkMath MyHeap MyOwn
structure Outs (X : List (Option Nat)) (w w' : World) : Prop where
 os : w'.os = w.os
 tape : w'.tape = w.tape
 output : w'.output = w.output
 size : w.heap.size ≤ w'.heap.size
 block : ∀ k, k < w.heap.size → some k ∉ X → w'.heap[k]? = w.heap[k]?
theorem Outs.refl (X : List (Option Nat)) (w : World) : Outs X w w := ⟨rfl, rfl, rfl, Nat.le_refl _, fun _ _ _ => rfl⟩
theorem Outs.of_below {X : List (Option Nat)} {w w' : World} (h : Below w.heap.size w w') : Outs X w w' := ⟨h.os, h.tape, h.output, h.size, fun k hk _ => h.block k hk⟩
theorem Outs.of_grown {X : List (Option Nat)} {w w' : World} {row : Option Nat} (h : w.grownBy w' row) (hr : ∀ k, row = some k → some k ∈ X) : Outs X w w' := ⟨h.os, h.tape, h.output, h.size, fun k hk hn => h.block k hk (fun e => hn (hr k e.symm))⟩
theorem Outs.of_only {X : List (Option Nat)} {w w' : World} {b : Nat} (h : Only b w w') (hr : some b ∈ X) : Outs X w w' := Outs.of_grown h (fun k e => by cases e; exact hr)
theorem Outs.trans {X : List (Option Nat)} {a b c : World} (h : Outs X a b) (k : Outs X b c) : Outs X a c :=
 ⟨k.os.trans h.os, k.tape.trans h.tape, k.output.trans h.output, Nat.le_trans h.size k.size, fun j hj hn => (k.block j (Nat.lt_of_lt_of_le hj h.size) hn).trans (h.block j hj hn)⟩
theorem Outs.next {X Y : List (Option Nat)} {a b c : World} (h : Outs X a b) (k : Outs Y b c) (hY : ∀ j, some j ∈ Y → some j ∈ X ∨ a.heap.size ≤ j) : Outs X a c :=
 ⟨k.os.trans h.os, k.tape.trans h.tape, k.output.trans h.output, Nat.le_trans h.size k.size, fun j hj hn => (k.block j (Nat.lt_of_lt_of_le hj h.size) (fun e => by
  rcases hY j e with q | q
  ·exact hn q
  omega)).trans (h.block j hj hn)⟩
theorem Outs.mono {X Y : List (Option Nat)} {a b : World} (h : Outs X a b) (hs : ∀ x ∈ X, x ∈ Y) : Outs Y a b := ⟨h.os, h.tape, h.output, h.size, fun k hk hn => h.block k hk (fun e => hn (hs _ e))⟩
theorem Outs.below {X : List (Option Nat)} {a b : World} {B : Nat} (h : Outs X a b) (hB : B ≤ a.heap.size) (hX : ∀ k, some k ∈ X → B ≤ k) : Below B a b := ⟨h.os, h.tape, h.output, h.size, fun k hk => h.block k (Nat.lt_of_lt_of_le hk hB) (fun e => by have := hX k e; omega)⟩
theorem Outs.keeps {X : List (Option Nat)} {w w' : World} {k : Nat} {o : Obj} (h : Outs X w w') (hk : w.heap[k]? = some o) (hn : some k ∉ X) : w'.heap[k]? = some o := (h.block k (aB hk) hn).trans hk
theorem Outs.cell {X : List (Option Nat)} {w w' : World} {a : Addr} {v : Value} (h : Outs X w w') (hv : w.cell? a = some v) (hn : some a.block ∉ X) : w'.cell? a = some v := by
 have hlt := World.block_lt_of_cell? w a hv
 rw [World.cell?_of_block (h.block a.block hlt hn)]
 exact hv
theorem Outs.row {X : List (Option Nat)} {w w' : World} {b : Nat} {e : TypeId} {s : Nat} {v : Value} {n : Nat} {xs : List Value} (h : Outs X w w') (hw : w.ownsRow b e s v n xs) (hn : ∀ g, v.ownBlock = some g → some g ∉ X) : w'.ownsRow b e s v n xs := by
 refine ⟨hw.1, ?_⟩
 rcases hw.2 with h0 | ⟨g, cap, cur, rfl, hg, hh, hc, hcm, hcs, ht⟩
 ·exact Or.inl h0
 exact Or.inr ⟨g, cap, cur, rfl, hg, h.keeps hh (hn g rfl), hc, hcm, hcs, ht⟩
structure Bs where
 aL : Option Addr
 nL : Nat
 cL : Nat
 aH : Option Addr
 nH : Nat
 cH : Nat
def bs0 : Bs := ⟨none, 0, 0, none, 0, 0⟩
def blk (a : Option Addr) : Option Nat := a.map (·.block)
abbrev TB := Tk × Bs
def tb0 : TB := (tk0, bs0)
def tkC (q : TB) : Array Value := #[.int .i64 q.1.id, .int .i64 q.1.addr, .int .i64 q.1.rg.r, .int .i64 q.1.rg.v, .int .i64 q.1.rg.n, .slice q.2.aL q.2.nL q.2.cL, .slice q.2.aH q.2.nH q.2.cH, .int .i64 q.1.hits, .int .i64 q.1.misses, .bool q.1.firm]
def tkV (q : TB) : Value := .agg (tkC q)
theorem qN (q : TB) : (tkC q).size = 10 := rfl
def flat10 (L : List TB) : List Value := L.flatMap fun q => (tkC q).toList
theorem pO (L : List TB) (q : TB) : flat10 (L ++ [q]) = flat10 L ++ (tkC q).toList := by simp [flat10]
theorem flat10_len (L : List TB) : (flat10 L).length = L.length * 10 := by
 induction L with
 | nil => rfl
 | cons q l ih => rw [show flat10 (q :: l) = (tkC q).toList ++ flat10 l from by simp [flat10], List.length_append, ih]; simp [tkC]; omega
def gt (L : List TB) (k : Nat) : TB := L[k]?.getD tb0
theorem jN (L : List TB) (i j : Nat) (hi : i < L.length) (hj : j < 10) : (flat10 L)[i * 10 + j]? = (tkC (gt L i))[j]? := by
 induction L generalizing i with
 | nil => cases hi
 | cons q l ih =>
  rw [show flat10 (q :: l) = (tkC q).toList ++ flat10 l from by simp [flat10]]
  cases i with
  | zero =>
   rw [List.getElem?_append_left (by simp [tkC]; omega)]
   simp [gt]
  | succ i =>
   rw [List.getElem?_append_right (by simp [tkC]; omega)]
   have e : (i + 1) * 10 + j - (tkC q).toList.length = i * 10 + j := by simp [tkC]; omega
   rw [e, ih i (by simpa using hi)]
   simp [gt]
structure TkAt (w : World) (b o : Nat) (q : TB) : Prop where
 c0 : w.cell? ⟨b, o, none⟩ = some (.int .i64 q.1.id)
 c1 : w.cell? ⟨b, o + 1, none⟩ = some (.int .i64 q.1.addr)
 c2 : w.cell? ⟨b, o + 2, none⟩ = some (.int .i64 q.1.rg.r)
 c3 : w.cell? ⟨b, o + 3, none⟩ = some (.int .i64 q.1.rg.v)
 c4 : w.cell? ⟨b, o + 4, none⟩ = some (.int .i64 q.1.rg.n)
 c5 : w.cell? ⟨b, o + 5, none⟩ = some (.slice q.2.aL q.2.nL q.2.cL)
 c6 : w.cell? ⟨b, o + 6, none⟩ = some (.slice q.2.aH q.2.nH q.2.cH)
 c7 : w.cell? ⟨b, o + 7, none⟩ = some (.int .i64 q.1.hits)
 c8 : w.cell? ⟨b, o + 8, none⟩ = some (.int .i64 q.1.misses)
 c9 : w.cell? ⟨b, o + 9, none⟩ = some (.bool q.1.firm)
theorem TkAt.of {w : World} {b o : Nat} {q : TB} (h : ∀ j, j < 10 → ∃ v, (tkC q)[j]? = some v ∧ w.cell? ⟨b, o + j, none⟩ = some v) : TkAt w b o q := by
 have g : ∀ j v, j < 10 → (tkC q)[j]? = some v → w.cell? ⟨b, o + j, none⟩ = some v := fun j v hj hv => by
  obtain ⟨v', h1, h2⟩ := h j hj
  rw [h1] at hv
  cases hv
  exact h2
 exact ⟨g 0 _ (by decide) rfl, g 1 _ (by decide) rfl, g 2 _ (by decide) rfl, g 3 _ (by decide) rfl, g 4 _ (by decide) rfl, g 5 _ (by decide) rfl, g 6 _ (by decide) rfl, g 7 _ (by decide) rfl, g 8 _ (by decide) rfl, g 9 _ (by decide) rfl⟩
theorem TkAt.block {w : World} {b : Nat} {q : TB} {T : TypeId} {fr : Nat × Nat} (h : w.heap[b]? = some (.cells (tkC q) T fr)) : TkAt w b 0 q := by
 refine TkAt.of fun j hj => ?_
 obtain ⟨v, hv⟩ : ∃ v, (tkC q)[j]? = some v := ⟨(tkC q)[j]'(by rw [qN]; exact hj), Array.getElem?_eq_getElem _⟩
 exact ⟨v, hv, aA h (by rw [Nat.zero_add]; exact hv)⟩
structure Trs (w : World) (a : Option Addr) (n : Nat) (L : List TB) : Prop where
 len : L.length = n
 bound : n ≤ 9223372036854775807
 cells : n = 0 ∨ ∃ b off, a = some ⟨b, off, none⟩ ∧ ∀ i, i < n → TkAt w b (off + i * 10) (gt L i)
theorem TkAt.below {w w' : World} {b o : Nat} {q : TB} (h : TkAt w b o q) (hb : Below w.heap.size w w') : TkAt w' b o q :=
 ⟨aS hb h.c0, aS hb h.c1, aS hb h.c2, aS hb h.c3, aS hb h.c4, aS hb h.c5, aS hb h.c6, aS hb h.c7, aS hb h.c8, aS hb h.c9⟩
theorem TkAt.outs {X : List (Option Nat)} {w w' : World} {b o : Nat} {q : TB} (h : TkAt w b o q) (hb : Outs X w w') (hn : some b ∉ X) : TkAt w' b o q :=
 ⟨hb.cell h.c0 hn, hb.cell h.c1 hn, hb.cell h.c2 hn, hb.cell h.c3 hn, hb.cell h.c4 hn, hb.cell h.c5 hn, hb.cell h.c6 hn, hb.cell h.c7 hn, hb.cell h.c8 hn, hb.cell h.c9 hn⟩
theorem Trs.below {w w' : World} {a : Option Addr} {n : Nat} {L : List TB} (h : Trs w a n L) (hb : Below w.heap.size w w') : Trs w' a n L := by
 refine ⟨h.len, h.bound, ?_⟩
 rcases h.cells with h0 | ⟨b, off, e, hc⟩
 ·exact Or.inl h0
 exact Or.inr ⟨b, off, e, fun i hi => (hc i hi).below hb⟩
theorem eO {w : World} {a : Option Addr} {n : Nat} {L : List TB} (h : Trs w a n L) {k : Nat} (hk : k < n) : ∃ b off, a = some ⟨b, off, none⟩ ∧ TkAt w b (off + k * 10) (gt L k) := by
 rcases h.cells with h0 | ⟨b, off, e, hc⟩
 ·omega
 exact ⟨b, off, e, hc k hk⟩
theorem trs_nil (w : World) (a : Option Addr) : Trs w a 0 [] := ⟨rfl, by decide, Or.inl rfl⟩
theorem lU {w : World} {base : Nat} {e : TypeId} {v : Value} {L : List TB} (h : w.ownsRow base e 10 v L.length (flat10 L)) (hm : L.length ≤ 9223372036854775807) : ∃ a c, v = .slice a L.length c ∧ Trs w a L.length L := by
 rcases h.2 with ⟨rfl, h0⟩ | ⟨g, cap, cur, rfl, hg, hh, hc, hcm, hcs, htake⟩
 ·exact ⟨none, 0, by rw [h0], rfl, hm, Or.inl h0⟩
 refine ⟨some ⟨g, 0, none⟩, cap, rfl, rfl, hm, ?_⟩
 rcases Nat.eq_zero_or_pos L.length with h0 | h0
 ·exact Or.inl h0
 refine Or.inr ⟨g, 0, rfl, fun i hi => ?_⟩
 refine TkAt.of fun j hj => ?_
 obtain ⟨v, hv⟩ : ∃ v, (tkC (gt L i))[j]? = some v := ⟨(tkC (gt L i))[j]'(by rw [qN]; exact hj), Array.getElem?_eq_getElem _⟩
 refine ⟨v, hv, ?_⟩
 rw [← jN L i j hi hj, ← htake, List.getElem?_take_of_lt (by omega)] at hv
 rw [Nat.zero_add]
 exact aA hh (by simpa using hv)
def Fz (w : World) (g : Nat) : Prop := ∃ cs T, w.heap[g]? = some (.cells cs T (0, 0))
theorem Fz.lt {w : World} {g : Nat} (h : Fz w g) : g < w.heap.size := by
 obtain ⟨cs, T, h⟩ := h
 exact aB h
theorem Fz.outs {X : List (Option Nat)} {w w' : World} {g : Nat} (h : Fz w g) (hb : Outs X w w') (hn : some g ∉ X) : Fz w' g := by
 obtain ⟨cs, T, h⟩ := h
 exact ⟨cs, T, hb.keeps h hn⟩
structure BdX (B : Nat) (X : List (Option Nat)) (w : World) (q : TB) : Prop where
 L : Alt.Ints w q.2.aL q.2.nL q.1.lo
 H : Alt.Ints w q.2.aH q.2.nH q.1.hi
 gL : ∀ g, blk q.2.aL = some g → (B ≤ g ∧ some g ∉ X) ∧ Fz w g
 gH : ∀ g, blk q.2.aH = some g → (B ≤ g ∧ some g ∉ X) ∧ Fz w g
structure BdI (w : World) (q : TB) : Prop where
 L : Alt.Ints w q.2.aL q.2.nL q.1.lo
 H : Alt.Ints w q.2.aH q.2.nH q.1.hi
theorem BdI.below {w w' : World} {q : TB} (h : BdI w q) (hb : Below w.heap.size w w') : BdI w' q := ⟨h.L.below hb, h.H.below hb⟩
theorem BdX.I {B : Nat} {X : List (Option Nat)} {w : World} {q : TB} (h : BdX B X w q) : BdI w q := ⟨h.L, h.H⟩
theorem nX {X : List (Option Nat)} {w w' : World} {a : Option Addr} {n : Nat} {l : List Int} (h : Alt.Ints w a n l) (hb : Outs X w w') (hn : ∀ g, blk a = some g → some g ∉ X) : Alt.Ints w' a n l := by
 refine ⟨h.len, h.bound, ?_⟩
 rcases h.cells with h0 | ⟨b, off, e, hc⟩
 ·exact Or.inl h0
 exact Or.inr ⟨b, off, e, fun i hi => hb.cell (hc i hi) (hn b (by rw [e]; rfl))⟩
theorem BdX.outs {B : Nat} {X : List (Option Nat)} {w w' : World} {q : TB} (h : BdX B X w q) (hb : Outs X w w') : BdX B X w' q :=
 ⟨nX h.L hb (fun g e => (h.gL g e).1.2), nX h.H hb (fun g e => (h.gH g e).1.2), fun g e => ⟨(h.gL g e).1, (h.gL g e).2.outs hb (h.gL g e).1.2⟩, fun g e => ⟨(h.gH g e).1, (h.gH g e).2.outs hb (h.gH g e).1.2⟩⟩
theorem BdX.turn {B : Nat} {X Y : List (Option Nat)} {w : World} {q : TB} (h : BdX B X w q) (hY : ∀ g, some g ∈ Y → some g ∈ X ∨ w.heap.size ≤ g) : BdX B Y w q :=
 ⟨h.L, h.H, fun g e => ⟨⟨(h.gL g e).1.1, fun hy => by
     rcases hY g hy with q | q
     ·exact (h.gL g e).1.2 q
     have := (h.gL g e).2.lt; omega⟩, (h.gL g e).2⟩,
  fun g e => ⟨⟨(h.gH g e).1.1, fun hy => by
   rcases hY g hy with q | q
   ·exact (h.gH g e).1.2 q
   have := (h.gH g e).2.lt; omega⟩, (h.gH g e).2⟩⟩
theorem BdX.next {B : Nat} {X Y : List (Option Nat)} {w w' : World} {q : TB} (h : BdX B X w q) (hb : Outs X w w') (hY : ∀ g, some g ∈ Y → some g ∈ X ∨ w.heap.size ≤ g) : BdX B Y w' q := by
 have h1 := h.turn hY
 have h2 := h.outs hb
 exact ⟨h2.L, h2.H, fun g e => ⟨(h1.gL g e).1, (h2.gL g e).2⟩, fun g e => ⟨(h1.gH g e).1, (h2.gH g e).2⟩⟩
theorem BdX.base {B B' : Nat} {X : List (Option Nat)} {w : World} {q : TB} (h : BdX B X w q) (hB : B' ≤ B) : BdX B' X w q :=
 ⟨h.L, h.H, fun g e => ⟨⟨Nat.le_trans hB (h.gL g e).1.1, (h.gL g e).1.2⟩, (h.gL g e).2⟩, fun g e => ⟨⟨Nat.le_trans hB (h.gH g e).1.1, (h.gH g e).1.2⟩, (h.gH g e).2⟩⟩
theorem ints_own {w : World} {base : Nat} {e : TypeId} {v : Value} {l : List Int} (h : w.ownsRow base e 1 v l.length (Alt.flatI l)) (hm : l.length ≤ 9223372036854775807) : ∃ a c, v = .slice a l.length c ∧ Alt.Ints w a l.length l := by
 rcases h.2 with ⟨rfl, h0⟩ | ⟨g, cap, cur, rfl, hg, hh, hc, hcm, hcs, htake⟩
 ·exact ⟨none, 0, by rw [h0], rfl, hm, Or.inl h0⟩
 refine ⟨some ⟨g, 0, none⟩, cap, rfl, rfl, hm, Or.inr ⟨g, 0, rfl, fun i hi => ?_⟩⟩
 have hx : (Alt.flatI l)[i]? = some (.int .i64 (AltMath.gi l i)) := by
  unfold Alt.flatI AltMath.gi
  rw [List.getElem?_map, List.getElem?_eq_getElem hi]
  rfl
 rw [← htake, List.getElem?_take_of_lt (by omega)] at hx
 rw [Nat.zero_add]
 exact aA hh (by simpa using hx)
theorem j8 {w : World} {B : Nat} {v : Value} {l : List Int} (h : w.ownsRow B 3 1 v l.length (Alt.flatI l)) (hm : l.length ≤ 9223372036854775807) : ∃ a c, v = .slice a l.length c ∧ Alt.Ints w a l.length l ∧ ∀ g, blk a = some g → B ≤ g ∧ Fz w g := by
 obtain ⟨a, c, e, hI⟩ := ints_own h hm
 subst e
 refine ⟨a, c, rfl, hI, fun g hg => ?_⟩
 have hg' : (Value.slice a l.length c).ownBlock = some g := by
  cases a with
  | none => cases hg
  | some x => exact hg
 refine ⟨(h.lt g hg').1, ?_⟩
 rcases h.2 with ⟨e, -⟩ | ⟨g', cap, cur, e, -, hh, -⟩
 ·rw [e] at hg'; cases hg'
 rw [e] at hg'; cases hg'; exact ⟨_, _, hh⟩
theorem BdX.of_own {w : World} {B : Nat} {X : List (Option Nat)} {vL vH : Value} {t : Tk} (h : Alt.TwoOwn B vL vH t.lo t.hi w) (hL : t.lo.length ≤ 201) (hH : t.hi.length ≤ 201) (hX : ∀ g, some g ∈ X → g < B) :
    ∃ s : Bs, vL = .slice s.aL s.nL s.cL ∧ vH = .slice s.aH s.nH s.cH ∧ BdX B X w (t, s) := by
 obtain ⟨aL, cL, e1, hI1, hg1⟩ := j8 h.L (by omega)
 obtain ⟨aH, cH, e2, hI2, hg2⟩ := j8 h.H (by omega)
 exact ⟨⟨aL, t.lo.length, cL, aH, t.hi.length, cH⟩, e1, e2, hI1, hI2, fun g e => ⟨⟨(hg1 g e).1, fun hx => by have := hX g hx; have := (hg1 g e).1; omega⟩, (hg1 g e).2⟩, fun g e => ⟨⟨(hg2 g e).1, fun hx => by have := hX g hx; have := (hg2 g e).1; omega⟩, (hg2 g e).2⟩⟩
structure Pls (w : World) (a : Option Addr) (n : Nat) (L : List Pl) : Prop where
 len : L.length = n
 bound : n ≤ 9223372036854775807
 cells : n = 0 ∨ ∃ b off, a = some ⟨b, off, none⟩ ∧ ∀ i, i < n → w.cell? ⟨b, off + i * 3, none⟩ = some (.int .i64 (gp L i).r) ∧ w.cell? ⟨b, off + i * 3 + 1, none⟩ = some (.int .i64 (gp L i).code) ∧ w.cell? ⟨b, off + i * 3 + 2, none⟩ = some (.int .i64 (gp L i).addr)
theorem Pls.below {w w' : World} {a : Option Addr} {n : Nat} {L : List Pl} (h : Pls w a n L) (hb : Below w.heap.size w w') : Pls w' a n L := by
 refine ⟨h.len, h.bound, ?_⟩
 rcases h.cells with h0 | ⟨b, off, e, hc⟩
 ·exact Or.inl h0
 exact Or.inr ⟨b, off, e, fun i hi => ⟨aS hb (hc i hi).1, aS hb (hc i hi).2.1, aS hb (hc i hi).2.2⟩⟩
theorem fS {w : World} {a : Option Addr} {n : Nat} {L : List Pl} (h : Pls w a n L) {k : Nat} (hk : k < n) : ∃ b off, a = some ⟨b, off, none⟩ ∧ w.cell? ⟨b, off + k * 3, none⟩ = some (.int .i64 (gp L k).r) ∧ w.cell? ⟨b, off + k * 3 + 1, none⟩ = some (.int .i64 (gp L k).code) ∧ w.cell? ⟨b, off + k * 3 + 2, none⟩ = some (.int .i64 (gp L k).addr) := by
 rcases h.cells with h0 | ⟨b, off, e, hc⟩
 ·omega
 exact ⟨b, off, e, hc k hk⟩
def flatE (l : List Ev) : List Value := l.flatMap fun e => [.int .u8 e.kind, .int .i64 e.id, .int .i64 e.plot]
theorem lP (l : List Ev) (e : Ev) : flatE (l ++ [e]) = flatE l ++ [.int .u8 e.kind, .int .i64 e.id, .int .i64 e.plot] := by simp [flatE]
theorem flatE_len (l : List Ev) : (flatE l).length = l.length * 3 := by
 induction l with
 | nil => rfl
 | cons e l ih => simp [flatE] at ih ⊢; omega
def tbV (p : Par) (now next : Int) (tV : Value) : Value := .agg #[.int .i64 p.gate, .int .i64 p.need, .int .i64 p.most, .int .i64 p.pull, .int .i64 now, .int .i64 next, tV]
def runC (p : Par) (now next : Int) (tV pV lV eV : Value) : Array Value := #[.int .i64 p.gate, .int .i64 p.need, .int .i64 p.most, .int .i64 p.pull, .int .i64 now, .int .i64 next, tV, pV, lV, eV]
end Go.Proofs.YtikjjpjekchcjaaGreat
end
