/-
  PtAltA, HeldBy
-/
import Derived.Test.YtikjjpjekchcjaaGreatProg
import Derived.Test.YtikjjpjekchcjaaGreatPm1
import Derived.WalkSpells
import Derived.WalkLawsBesides
import Derived.Handy
import Derived.BigQuiet
import Derived.IntWalk
import Derived.Deep.LoopGhost
import Derived.Deep.QuietTactic
import Derived.Deep.RegionHeld3
import Derived.Deep.DeepCutAuto
set_option linter.all false
set_option maxRecDepth 100000
set_option maxHeartbeats 64000000
section
namespace Go.Proofs.YtikjjpjekchcjaaGreat.Alt
open Go.RowKit AltMath MyHeap
theorem aC (w : World) (o : Obj) : Below w.heap.size w (w.alloc o) := (Below.refl _ _).alloc (Nat.le_refl _) _
structure Ints (w : World) (a : Option Addr) (n : Nat) (l : List Int) : Prop where
 len : l.length = n
 bound : n ≤ 9223372036854775807
 cells : n = 0 ∨ ∃ b off, a = some ⟨b, off, none⟩ ∧ ∀ i, i < n → w.cell? ⟨b, off + i, none⟩ = some (.int .i64 (gi l i))
theorem Ints.below {w w' : World} {a : Option Addr} {n : Nat} {l : List Int} (h : Ints w a n l) (hb : Below w.heap.size w w') : Ints w' a n l := by
 refine ⟨h.len, h.bound, ?_⟩
 rcases h.cells with h0 | ⟨b, off, e, hc⟩
 ·exact Or.inl h0
 exact Or.inr ⟨b, off, e, fun i hi => aS hb (hc i hi)⟩
theorem ints_at {w : World} {a : Option Addr} {n : Nat} {l : List Int} (h : Ints w a n l) {k : Nat} (hk : k < n) : ∃ b off, a = some ⟨b, off, none⟩ ∧ w.cell? ⟨b, off + k, none⟩ = some (.int .i64 (gi l k)) := by
 rcases h.cells with h0 | ⟨b, off, e, hc⟩
 ·omega
 exact ⟨b, off, e, hc k hk⟩
def bdC (aL : Option Addr) (nL cL : Nat) (aH : Option Addr) (nH cH : Nat) : Array Value := #[.slice aL nL cL, .slice aH nH cH]
def bdV (aL : Option Addr) (nL cL : Nat) (aH : Option Addr) (nH cH : Nat) : Value := .agg #[.slice aL nL cL, .slice aH nH cH]
def BPost (r : Bool) (w : World) (e : Ending) (w' : World) : Prop := e = .returned (.bool r) ∧ Below w.heap.size w w'
theorem cO {r r' : Bool} {w w' : World} (h : r = r') (hB : Below w.heap.size w w') : BPost r' w (.returned (.bool r)) w' := by subst h; exact ⟨rfl, hB⟩
def NPost (r : Int) (w : World) (e : Ending) (w' : World) : Prop := e = .returned (.int .i64 r) ∧ Below w.heap.size w w'
theorem aJ {r r' : Int} {w w' : World} (h : r = r') (hB : Below w.heap.size w w') : NPost r' w (.returned (.int .i64 r)) w' := by subst h; exact ⟨rfl, hB⟩
theorem d8 (aL aH : Option Addr) (nL nH cL cH : Nat) (lo hi : List Int) (i : Nat) (w : World) (hL : Ints w aL nL lo) (hH : Ints w aH nH hi) (h1 : i < nL) (h2 : i < nH) :
    Calls Tryz.prog 99 #[bdV aL nL cL aH nH cH, .int .i64 (i : Int)] w (BPost (nonB lo hi i) w) := by
 unfold bdV
 obtain ⟨b1, o1, rfl, x0⟩ := ints_at hL h1
 obtain ⟨b2, o2, rfl, y0⟩ := ints_at hH h2
 have hi0 : (0 : Int) ≤ (i : Int) := by omega
 have hi1 : (i : Int) < (nL : Int) := by omega
 have hi2 : (i : Int) < (nH : Int) := by omega
 have hb1 := World.block_lt_of_cell? w _ x0
 have hb2 := World.block_lt_of_cell? w _ y0
 have x1 := dJ (.cells (bdC (some ⟨b1, o1, none⟩) nL cL (some ⟨b2, o2, none⟩) nH cH) 53) x0
 have y1 := dJ (.cells (bdC (some ⟨b1, o1, none⟩) nL cL (some ⟨b2, o2, none⟩) nH cH) 53) y0
 have HB := qh (aC w (.cells (bdC (some ⟨b1, o1, none⟩) nL cL (some ⟨b2, o2, none⟩) nH cH) 53))
 have HN := qh (show nonB lo hi i = (gi lo i == 1 && gi hi i == 0) from rfl)
 clear hL hH
 unfold bdC at *
 generalize gi lo i = X at *
 generalize gi hi i = Y at *
 by_cases hX : X = 1
 ·subst hX
  by_cases hY : Y = 0
  ·subst hY
   go_enter Tryz.func99, Tryz.ntmps99
   go_wp2_with fail
   go_ret
   exact cO HN.out.symm HB.out
  go_enter Tryz.func99, Tryz.ntmps99
  go_wp2_with fail
  go_ret
  exact cO (by rw [HN.out]; simp) HB.out
 go_enter Tryz.func99, Tryz.ntmps99
 go_wp2_with fail
 go_ret
 exact cO (by rw [HN.out]; simp [hX]) HB.out
theorem rG (f : Nat) (alt size : Int) (w : World) (hf : f = 94 ∨ f = 75) :
    Calls Tryz.prog f #[.int .i64 alt, .int .i64 size] w fun e w' => e = .returned (.int .i64 (meE alt size)) ∧ w = w' := by
 unfold meE
 by_cases h1 : alt < -1000
 ·rw [if_pos (Or.inl h1)]
  rcases hf with rfl | rfl
  ·go_enter Tryz.func94, Tryz.ntmps94
   go_wp2_with fail
   go_ret
   exact ⟨rfl, rfl⟩
  go_enter Tryz.func75, Tryz.ntmps75
  go_wp2_with fail
  go_ret
  exact ⟨rfl, rfl⟩
 by_cases h2 : 50000 < alt
 ·rw [if_pos (Or.inr (Or.inl h2))]
  rcases hf with rfl | rfl
  ·go_enter Tryz.func94, Tryz.ntmps94
   go_wp2_with fail
   go_ret
   exact ⟨rfl, rfl⟩
  go_enter Tryz.func75, Tryz.ntmps75
  go_wp2_with fail
  go_ret
  exact ⟨rfl, rfl⟩
 by_cases h3 : size = 25
 ·subst h3
  rw [if_neg (by omega)]
  rcases hf with rfl | rfl
  ·go_enter Tryz.func94, Tryz.ntmps94
   go_wp2_with fail
   go_ret
   exact ⟨rfl, rfl⟩
  go_enter Tryz.func75, Tryz.ntmps75
  go_wp2_with fail
  go_ret
  exact ⟨rfl, rfl⟩
 by_cases h4 : size = 100
 ·subst h4
  rw [if_neg (by omega)]
  rcases hf with rfl | rfl
  ·go_enter Tryz.func94, Tryz.ntmps94
   go_wp2_with fail
   go_ret
   exact ⟨rfl, rfl⟩
  go_enter Tryz.func75, Tryz.ntmps75
  go_wp2_with fail
  go_ret
  exact ⟨rfl, rfl⟩
 rw [if_pos (by omega)]
 have d3 : (size != 25) = true := bne_iff_ne.2 h3
 have d4 : (size != 100) = true := bne_iff_ne.2 h4
 clear h3 h4
 rcases hf with rfl | rfl
 ·go_enter Tryz.func94, Tryz.ntmps94
  go_wp2_with fail
  go_ret
  exact ⟨rfl, rfl⟩
 go_enter Tryz.func75, Tryz.ntmps75
 go_wp2_with fail
 go_ret
 exact ⟨rfl, rfl⟩
theorem eF (alt size : Int) (w : World) : Calls Tryz.prog 94 #[.int .i64 alt, .int .i64 size] w fun e w' => e = .returned (.int .i64 (meE alt size)) ∧ w = w' := rG _ alt size w (Or.inl rfl)
theorem gK (alt size : Int) (w : World) : Calls Tryz.prog 75 #[.int .i64 alt, .int .i64 size] w fun e w' => e = .returned (.int .i64 (meE alt size)) ∧ w = w' := rG _ alt size w (Or.inr rfl)
end Go.Proofs.YtikjjpjekchcjaaGreat.Alt
end
section
namespace Go.MyHeld
variable {P : Program} {l : List Oper} {Q : Exit → Act → World → Prop} {md : Region.Mode} {S : World → Prop}
inductive At : List Oper → Nat → Oper → Prop
 | z {o : Oper} {l : List Oper} : At (o :: l) 0 o
 | s {o q : Oper} {l : List Oper} {i : Nat} : At l i o → At (q :: l) (i + 1) o
theorem jE {l : List Oper} {i : Nat} {o : Oper} (h : At l i o) : l.toArray[i]? = some o := by
 induction h with
 | z => simp
 | s _ ih => simpa using ih
theorem skip (i : Nat) {oi : Oper} {fuel : Nat} {listed : Array Bool} {a : Act} {w : World} (hi : At l i oi)
    (hs : Region.noSelect l.toArray = true) (hf : Region.free md l.toArray listed i = true) (hr : (Region.ready md l.toArray listed).contains i = true)
    (hQ : ∀ c a w, Q (.panic c) (a.put oi.dst undef) w → Q (.panic c) a w) (hw : Region.wanted oi (yielded l.toArray a.tmps) = false) (hS : S w)
    (h : wpAnyH P md l.toArray Q S fuel (listed.setIfInBounds i true) (a.put oi.dst undef) w) : wpAnyH P md l.toArray Q S (fuel + 1) listed a w :=
 wpAnyH_take (jE hi) hs hf hr hQ (Or.inr ⟨hw, rfl⟩) hS h
theorem take (i : Nat) {oi : Oper} {v : Value} {fuel : Nat} {listed : Array Bool} {a : Act} {w : World} (hi : At l i oi)
    (hs : Region.noSelect l.toArray = true) (hf : Region.free md l.toArray listed i = true) (hr : (Region.ready md l.toArray listed).contains i = true)
    (hQ : ∀ c a w, Q (.panic c) (a.put oi.dst v) w → Q (.panic c) a w) (hw : Region.wanted oi (yielded l.toArray a.tmps) = true) (hS : S w)
    (hy : ∀ w, S w → (execOp a.eval oi).run P w = .ok (.value v) w)
    (h : wpAnyH P md l.toArray Q S fuel (listed.setIfInBounds i true) (a.put oi.dst v) w) : wpAnyH P md l.toArray Q S (fuel + 1) listed a w :=
 wpAnyH_take (jE hi) hs hf hr hQ (Or.inl ⟨hw, hy⟩) hS h
theorem next (i : Nat) {fuel : Nat} {listed : Array Bool} {a : Act} {w : World} {o : Oper} {rs : List Nat} (ho : At l i o)
    (h : ∀ K' : Act → World → Prop, Shut (∀ a w, S w → (S w → wpAnyH P md l.toArray Q S fuel (listed.setIfInBounds i true) a w) → K' a w) → if Region.wanted o (yielded l.toArray a.tmps) = true then Oper.wp P o a w K' Q else K' (a.put o.dst undef) w)
    (hs : AllReadyH P md l.toArray Q S fuel listed a w rs) : AllReadyH P md l.toArray Q S fuel listed a w (i :: rs) := AllReadyH.cons (jE ho) h hs
theorem at_rfl {l : List Oper} {i : Nat} {o : Oper} (h : l[i]? = some o) : At l i o := by
 induction l generalizing i with
 | nil => rw [List.getElem?_nil] at h; cases h
 | cons q l ih =>
  cases i with
  | zero => rw [List.getElem?_cons_zero] at h; cases h; exact At.z
  | succ i => rw [List.getElem?_cons_succ] at h; exact At.s (ih h)
theorem tk (i : Nat) {oi : Oper} {v : Value} {fuel : Nat} {listed : Array Bool} {a a' : Act} {w : World} (h : wpAnyH P md l.toArray Q S fuel (listed.setIfInBounds i true) a' w) (hi : l[i]? = some oi := by rfl) (hy : ∀ w, S w → (execOp a.eval oi).run P w = .ok (.value v) w := by intro w hSw; (try dsimp only at hSw); go_simp; (try with_reducible rfl))
    (hp : a.put oi.dst v = a' := by (try simp only [Act.put, List.setIfInBounds_toArray, List.set_cons_zero, List.set_cons_succ]); exact rfl) (hS : S w := by assumption)
    (hQ : ∀ c a w, Q (.panic c) (a.put oi.dst v) w → Q (.panic c) a w := by intro _ _ _ h; exact h) (hw : Region.wanted oi (yielded l.toArray a.tmps) = true := by rfl)
    (hs : Region.noSelect l.toArray = true := by kernel_rfl) (hf : Region.free md l.toArray listed i = true := by kernel_rfl) (hr : (Region.ready md l.toArray listed).contains i = true := by kernel_rfl) : wpAnyH P md l.toArray Q S (fuel + 1) listed a w :=
 take i (at_rfl hi) hs hf hr hQ hw hS hy (hp ▸ h)
theorem sk (i : Nat) {oi : Oper} {fuel : Nat} {listed : Array Bool} {a a' : Act} {w : World} (h : wpAnyH P md l.toArray Q S fuel (listed.setIfInBounds i true) a' w) (hi : l[i]? = some oi := by rfl)
    (hp : a.put oi.dst undef = a' := by (try simp only [Act.put, List.setIfInBounds_toArray, List.set_cons_zero, List.set_cons_succ]); exact rfl) (hS : S w := by assumption)
    (hQ : ∀ c a w, Q (.panic c) (a.put oi.dst undef) w → Q (.panic c) a w := by intro _ _ _ h; exact h) (hw : Region.wanted oi (yielded l.toArray a.tmps) = false := by rfl)
    (hs : Region.noSelect l.toArray = true := by kernel_rfl) (hf : Region.free md l.toArray listed i = true := by kernel_rfl) (hr : (Region.ready md l.toArray listed).contains i = true := by kernel_rfl) : wpAnyH P md l.toArray Q S (fuel + 1) listed a w :=
 skip i (at_rfl hi) hs hf hr hQ hw hS (hp ▸ h)
end Go.MyHeld
end
