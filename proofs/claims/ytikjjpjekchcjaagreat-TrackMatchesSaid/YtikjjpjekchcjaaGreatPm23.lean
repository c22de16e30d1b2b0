/-
  TrkMx, TrkB
-/
import Derived.Test.YtikjjpjekchcjaaGreatPm22
import Derived.Maps.RangeWalk
import Derived.Maps.OwnSet
set_option linter.all false
set_option maxRecDepth 100000
set_option maxHeartbeats 64000000
section
namespace Go.Proofs.YtikjjpjekchcjaaGreat
open Go.RowKit TrkMath MyHeap MyOwn
def CM (base cb n : Nat) (F : Nat → List Int) (W : World) : Prop :=
 base ≤ cb ∧ ∃ cs : Array Value, W.heap[cb]? = some (.cells cs 51 (0, 0)) ∧ cs.size = n ∧
  (∀ i, i < n → ∃ u, cs[i]? = some u ∧ W.ownsRow base 3 1 u (F i).length (Asg.flatI (F i))) ∧
  ∀ (i j : Nat) (u u' : Value) (g : Nat), i ≠ j → cs[i]? = some u → cs[j]? = some u' → u.ownBlock = some g → u'.ownBlock ≠ some g
theorem CM.below {base cb n : Nat} {F : Nat → List Int} {W W' : World} (h : CM base cb n F W) (hb : Below W.heap.size W W') : CM base cb n F W' := by
 obtain ⟨h0, cs, h1, h2, h3, h4⟩ := h
 exact ⟨h0, cs, aN hb h1, h2, fun i hi => by
  obtain ⟨u, e, r⟩ := h3 i hi
  exact ⟨u, e, aO r hb (Nat.le_refl _)⟩, h4⟩
theorem CM.congr {base cb n : Nat} {F G : Nat → List Int} {W : World} (h : CM base cb n F W) (he : ∀ i, i < n → F i = G i) : CM base cb n G W := by
 obtain ⟨h0, cs, h1, h2, h3, h4⟩ := h
 exact ⟨h0, cs, h1, h2, fun i hi => by rw [← he i hi]; exact h3 i hi, h4⟩
theorem CM.made {base n : Nat} {W : World} (hb : base ≤ W.heap.size) : CM base W.heap.size n (fun _ => []) (W.alloc (.cells (madeCells #[.slice none 0 0] n) 51)) := by
 have hm : ∀ i, i < n → (madeCells #[Value.slice none 0 0] n)[i]? = some (.slice none 0 0) := fun i hi => by
  simp [madeCells, hi, Nat.mod_one]
 have hall : ∀ (i : Nat) (u : Value), (madeCells #[Value.slice none 0 0] n)[i]? = some u → u = Value.slice none 0 0 := fun i u hu => by
  by_cases hi : i < n
  ·rw [hm i hi] at hu; exact (Option.some.inj hu).symm
  simp [madeCells, hi] at hu
 refine ⟨hb, _, aI _ _ rfl, by simp [madeCells], fun i hi => ⟨_, hm i hi, rfl, Or.inl ⟨rfl, rfl⟩⟩, fun i j u u' g _ h1 _ h3 => ?_⟩
 rw [hall i u h1] at h3
 cases h3
theorem CM.at {base cb n : Nat} {F : Nat → List Int} {W : World} (h : CM base cb n F W) {i : Nat} (hi : i < n) : ∃ a c, W.cell? ⟨cb, i, none⟩ = some (.slice a (F i).length c) ∧ W.ownsRow base 3 1 (.slice a (F i).length c) (F i).length (Asg.flatI (F i)) ∧ W.frozen? ⟨cb, i, none⟩ = false ∧ cb < W.heap.size := by
 obtain ⟨h0, cs, h1, h2, h3, h4⟩ := h
 obtain ⟨u, e, r⟩ := h3 i hi
 obtain ⟨a, c, rfl⟩ := aU r
 exact ⟨a, c, aA h1 e, r, aF h1, aB h1⟩
theorem eS {W : World} {base : Nat} {e : TypeId} {s : Nat} {u : Value} {n : Nat} {xs : List Value} {g : Nat} (h : W.ownsRow base e s u n xs) (hg : u.ownBlock = some g) : ∃ cs, W.heap[g]? = some (.cells cs e (0, 0)) := by
 rcases h.2 with ⟨rfl, -⟩ | ⟨g', cap, cur, rfl, -, hh, -⟩
 ·cases hg
 cases hg; exact ⟨cur, hh⟩
theorem CM.put {base cb n i : Nat} {F G : Nat → List Int} {x : Int} {W W' : World} {u u' : Value} (h : CM base cb n F W) (hi : i < n) (hu : W.cell? ⟨cb, i, none⟩ = some u) (hg : W.grownBy W' u.ownBlock) (ho : W'.ownsRow base 3 1 u' ((F i).length + 1) (Asg.flatI (F i) ++ [.int .i64 x])) (ha : u'.ownBlock = u.ownBlock ∨ u'.ownBlock = some W.heap.size)
    (hG : ∀ j, j < n → G j = if j = i then F i ++ [x] else F j) (hbase : base ≤ W.heap.size) : CM base cb n G (W'.setCell ⟨cb, i, none⟩ u') ∧ Below base W (W'.setCell ⟨cb, i, none⟩ u') := by
 obtain ⟨h0, cs, h1, h2, h3, h4⟩ := h
 have hcb := aB h1
 obtain ⟨u0, e0, r0⟩ := h3 i hi
 have : u0 = u := by
  have := aA (i := i) h1 e0
  rw [this] at hu
  exact Option.some.inj hu
 subst this
 have hne : u0.ownBlock ≠ some cb := fun e => by
  obtain ⟨cs', h'⟩ := eS r0 e
  rw [h1] at h'
  injection h' with h'
  injection h' with _ h''
  exact absurd h'' (by decide)
 have hcb' : W'.heap[cb]? = some (.cells cs 51 (0, 0)) := (hg.block cb hcb (fun e => hne e.symm)).trans h1
 have hO : Only cb W' (W'.setCell ⟨cb, i, none⟩ u') := (Only.refl _ _).setCell _ _
 have hblk := aD (i := i) (v := u') hcb'
 have hcs : (cs.setIfInBounds i u').size = n := by simp [h2]
 have hrow : ∀ (j : Nat) (v : Value) (m : Nat) (xs : List Value), W'.ownsRow base 3 1 v m xs → (W'.setCell ⟨cb, i, none⟩ u').ownsRow base 3 1 v m xs := fun j v m xs hr =>
  Outs.row (Outs.of_only (X := [some cb]) hO (List.mem_singleton.2 rfl)) hr (fun g e hgm => by
   have := Option.some.inj (List.mem_singleton.1 hgm)
   subst this
   obtain ⟨cs', h'⟩ := eS hr e
   rw [hcb'] at h'
   injection h' with h'
   injection h' with _ h''
   exact absurd h'' (by decide))
 have hlow : ∀ j v g, j ≠ i → j < n → cs[j]? = some v → v.ownBlock = some g → g < W.heap.size := fun j v g _ hj hv hvg => by
  obtain ⟨y, q1, q2⟩ := h3 j hj
  rw [hv] at q1
  cases q1
  exact (q2.lt g hvg).2
 have hget : ∀ j, j ≠ i → (cs.setIfInBounds i u')[j]? = cs[j]? := fun j hj => Array.getElem?_setIfInBounds_ne (Ne.symm hj)
 have hself : (cs.setIfInBounds i u')[i]? = some u' := by rw [Array.getElem?_setIfInBounds_self_of_lt (by omega)]
 have hin : ∀ (j : Nat) (v : Value), (cs.setIfInBounds i u')[j]? = some v → j < n := fun j v hv => by
  have := (Array.getElem?_eq_some_iff.1 hv).1
  omega
 have hap : ∀ j v g, j ≠ i → j < n → cs[j]? = some v → v.ownBlock = some g → u'.ownBlock ≠ some g := fun j v g hj hjn hv hvg e => by
  rcases ha with q | q
  ·exact h4 j i v u0 g hj hv e0 hvg (by rw [← q]; exact e)
  have := hlow j v g hj hjn hv hvg
  rw [q] at e
  have := Option.some.inj e
  omega
 refine ⟨⟨h0, cs.setIfInBounds i u', by simpa using hblk, hcs, fun j hj => ?_, fun j k v v' g hjk hv hv' hvg => ?_⟩, ?_⟩
 ·rw [hG j hj]
  by_cases e : j = i
  ·subst e
   refine ⟨u', hself, ?_⟩
   rw [if_pos rfl]
   have hl : (F j ++ [x]).length = (F j).length + 1 := by simp
   have hf : Asg.flatI (F j ++ [x]) = Asg.flatI (F j) ++ [.int .i64 x] := by simp [Asg.flatI]
   rw [hl, hf]
   exact hrow j _ _ _ ho
  obtain ⟨v, q1, q2⟩ := h3 j hj
  refine ⟨v, by rw [hget j e]; exact q1, ?_⟩
  rw [if_neg e]
  refine hrow j _ _ _ (Asg.own_over q2 hg (fun g hvg hc => ?_))
  exact h4 j i v u0 g e q1 e0 hvg hc
 ·have hj := hin j v hv
  have hk := hin k v' hv'
  by_cases e : j = i
  ·subst e
   rw [hself] at hv
   cases hv
   rw [hget k (Ne.symm hjk)] at hv'
   exact fun c => hap k v' g (Ne.symm hjk) hk hv' c hvg
  rw [hget j e] at hv
  by_cases e' : k = i
  ·subst e'
   rw [hself] at hv'
   cases hv'
   exact hap j v g e hj hv hvg
  rw [hget k e'] at hv'
  exact h4 j k v v' g hjk hv hv' hvg
 refine Below.trans (?_ : Below base W W') (hO.below h0 (Nat.le_trans hbase hg.size))
 exact ⟨hg.os, hg.tape, hg.output, hg.size, fun k hk => hg.block k (by omega) (fun e => by have := (r0.lt k e.symm).1; omega)⟩
theorem CM.mtx {base cb n : Nat} {F : Nat → List Int} {W : World} {L : List (List Int)} (h : CM base cb n F W) (hl : L.length = n) (hn : n ≤ 1000) (hF : ∀ i, i < n → F i = AsgRows.rowL L i) (hr : ∀ i, i < n → (F i).length ≤ 1000) : Asg.Mtx W (some ⟨cb, 0, none⟩) n L := by
 obtain ⟨h0, cs, h1, h2, h3, h4⟩ := h
 refine ⟨hl, by omega, Or.inr ⟨cb, 0, rfl, fun i hi => ?_⟩⟩
 obtain ⟨u, e, r⟩ := h3 i hi
 have := hr i hi
 obtain ⟨a, c, rfl, hI⟩ := Asg.ints_own rfl r (by omega)
 rw [← hF i hi]
 exact ⟨a, c, by rw [Nat.zero_add]; exact aA h1 e, hI⟩
def MapI (b : Nat) (l : List (Nat × Nat)) (w : World) : Prop :=
 ∃ D : DataW Unit, w.ownsMap Tryz.prog 3 (plainElem Tryz.prog 3) b l.length D ∧ Maps.IsMap D ∧
  ∀ (x : Int) (z : DataW Unit), (Lit.int .i64 x).wf = true → D.atKey (.int .i64 x) z = match l.find? (fun q => (q.1 : Int) == x) with | none => z | some q => .lit (.int .i64 (q.2 : Int))
theorem MapI.grown {b : Nat} {l : List (Nat × Nat)} {w w' : World} {row : Option Nat} (h : MapI b l w) (hg : w.grownBy w' row) (hne : some b ≠ row) : MapI b l w' := by
 obtain ⟨D, h1, h2, h3⟩ := h
 exact ⟨D, h1.kept hg hne, h2, h3⟩
theorem MapI.lt {b : Nat} {l : List (Nat × Nat)} {w : World} (h : MapI b l w) : b < w.heap.size := by
 obtain ⟨D, h1, -⟩ := h
 exact h1.lt
theorem MapI.below {b : Nat} {l : List (Nat × Nat)} {w w' : World} (h : MapI b l w) (hb : Below w.heap.size w w') : MapI b l w' := by
 have hlt := h.lt
 exact h.grown (row := none) ⟨hb.os, hb.tape, hb.output, hb.size, fun k hk _ => hb.block k hk⟩ (by simp)
theorem MapI.outs {X : List (Option Nat)} {b : Nat} {l : List (Nat × Nat)} {w w' : World} (h : MapI b l w) (hb : Outs X w w') (hn : some b ∉ X) : MapI b l w' := by
 obtain ⟨D, ⟨es, clock, h0, r⟩, h2, h3⟩ := h
 exact ⟨D, ⟨es, clock, hb.keeps h0 hn, r⟩, h2, h3⟩
theorem MapI.made (w : World) : MapI w.heap.size [] (w.alloc (.map #[] 0)) := ⟨.map [], World.ownsMap_made _ _ _ _, ⟨[], rfl⟩, fun _ _ _ => rfl⟩
theorem wf64 {x : Int} (h : -9223372036854775808 ≤ x) (h2 : x ≤ 9223372036854775807) : (Lit.int .i64 x).wf = true := by
 simp [Lit.wf]
 exact ⟨Int.le_trans (by decide) h, h2⟩
theorem keyI : Maps.Keyed Tryz.prog 3 := Maps.int_keyed Tryz.underlying3
theorem zeroI (w : World) : (zeroValue 3).run Tryz.prog w = .ok (.int .i64 0) w := by kernel_rfl
theorem zeroB (w : World) : (zeroValue 4).run Tryz.prog w = .ok (.bool false) w := by kernel_rfl
theorem qB {x : Int} (h : -9223372036854775808 ≤ x) (h2 : x ≤ 9223372036854775807) : keyOf Tryz.prog 3 (.int .i64 x) = some (.int .i64 x) := Maps.keyOf_int_mk Tryz.underlying3 (wf64 h h2)
theorem MapI.put {b i k : Nat} {l : List (Nat × Nat)} {w' : World} {D : DataW Unit} (h2 : Maps.IsMap D)
    (h3 : ∀ (x : Int) (z : DataW Unit), (Lit.int .i64 x).wf = true → D.atKey (.int .i64 x) z = match l.find? (fun q => (q.1 : Int) == x) with | none => z | some q => .lit (.int .i64 (q.2 : Int)))
    (ho : w'.ownsMap Tryz.prog 3 (plainElem Tryz.prog 3) b (l.length + 1) (D.put (.int .i64 (i : Int)) (.lit (.int .i64 (k : Int))))) (hn : ∀ q ∈ l, q.1 ≠ i) : MapI b (l ++ [(i, k)]) w' := by
 refine ⟨_, by rw [List.length_append]; exact ho, h2.put _ _, fun x z hx => ?_⟩
 rw [List.find?_append]
 by_cases e : x = (i : Int)
 ·subst e
  rw [Maps.atKey_put_same h2 (show WideAt.IsKeyLit (.int _ _) from trivial)]
  have : l.find? (fun q => (q.1 : Int) == (i : Int)) = none := List.find?_eq_none.2 fun q hq => by
   have := hn q hq
   simp
   omega
  rw [this]
  simp
 rw [Maps.atKey_put_other (fun c => e (by injection c)), h3 x z hx]
 cases hf : l.find? (fun q => (q.1 : Int) == x) with
 | some q => rfl
 | none =>
  have : [(i, k)].find? (fun q => (q.1 : Int) == x) = none := by
   simp
   exact fun c => e c.symm
  rw [this]
  rfl
theorem rC (l : List (Nat × Nat)) (i : Nat) : ofF l i = (l.find? (fun q => (q.1 : Int) == (i : Int))).map (·.2) := by
 unfold ofF
 congr 1
 congr 1
 funext q
 by_cases e : q.1 = i
 ·subst e; simp
 rw [beq_eq_false_iff_ne.2 e, beq_eq_false_iff_ne.2 (by omega)]
theorem MapI.look {b : Nat} {l : List (Nat × Nat)} {w : World} (h : MapI b l w) {i : Nat} (hi : i ≤ 1000) : (Instr.lookup 81 (.map (some b)) (.int .i64 (i : Int)) true).run Tryz.prog w = .ok (.tuple #[.int .i64 (((ofF l i).getD 0 : Nat) : Int), .bool (ofF l i).isSome]) w := by
 obtain ⟨D, h1, h2, h3⟩ := h
 have hw := wf64 (x := (i : Int)) (by omega) (by omega)
 obtain ⟨v, ps, hr, hv⟩ := h1.look_ok keyI Tryz.underlying81 (zeroI w) (plainElem_int Tryz.underlying3 (by decide)) (qB (x := (i : Int)) (by omega) (by omega))
 obtain ⟨c, rfl, hc, -⟩ := plainElem_int_inv Tryz.underlying3 hv
 have hc := congrArg Prod.fst hc
 simp only [] at hc
 rw [hr, rC]
 rw [h3 _ _ hw] at hc
 have h4 := h3 (i : Int)
 cases hf : l.find? (fun q => (q.1 : Int) == (i : Int)) with
 | none =>
  rw [hf] at hc h4
  have : Maps.has D (.int .i64 (i : Int)) = false := Maps.has_false_of_atKey fun z => h4 z hw
  rw [this]
  injection hc with hc
  injection hc with _ hc
  subst hc
  rfl
 | some q =>
  rw [hf] at hc h4
  have : Maps.has D (.int .i64 (i : Int)) = true := Maps.has_true_of_atKey (y := .lit (.int .i64 (q.2 : Int))) fun z => h4 z hw
  rw [this]
  injection hc with hc
  injection hc with _ hc
  subst hc
  rfl
def MapB (b n : Nat) (S : Int → Bool) (w : World) : Prop :=
 ∃ D : DataW Unit, w.ownsMap Tryz.prog 3 (plainElem Tryz.prog 4) b n D ∧ Maps.IsMap D ∧ ∀ (x : Int) (z : DataW Unit), (Lit.int .i64 x).wf = true → D.atKey (.int .i64 x) z = if S x = true then .lit (.bool true) else z
theorem MapB.outs {X : List (Option Nat)} {b n : Nat} {S : Int → Bool} {w w' : World} (h : MapB b n S w) (hb : Outs X w w') (hn : some b ∉ X) : MapB b n S w' := by
 obtain ⟨D, ⟨es, clock, h0, r⟩, h2, h3⟩ := h
 exact ⟨D, ⟨es, clock, hb.keeps h0 hn, r⟩, h2, h3⟩
theorem MapB.lt {b n : Nat} {S : Int → Bool} {w : World} (h : MapB b n S w) : b < w.heap.size := by
 obtain ⟨D, h1, -⟩ := h
 exact h1.lt
theorem MapB.below {b n : Nat} {S : Int → Bool} {w w' : World} (h : MapB b n S w) (hb : Below w.heap.size w w') : MapB b n S w' := h.outs (X := []) (Outs.of_below hb) (by simp)
theorem MapB.made (w : World) : MapB w.heap.size 0 (fun _ => false) (w.alloc (.map #[] 0)) := ⟨.map [], World.ownsMap_made _ _ _ _, ⟨[], rfl⟩, fun _ _ _ => rfl⟩
theorem MapB.put {b n : Nat} {S : Int → Bool} {y : Int} {w' : World} {D : DataW Unit} (h2 : Maps.IsMap D) (h3 : ∀ (x : Int) (z : DataW Unit), (Lit.int .i64 x).wf = true → D.atKey (.int .i64 x) z = if S x = true then .lit (.bool true) else z)
    (ho : w'.ownsMap Tryz.prog 3 (plainElem Tryz.prog 4) b (n + 1) (D.put (.int .i64 y) (.lit (.bool true)))) : MapB b (n + 1) (fun x => S x || x == y) w' := by
 refine ⟨_, ho, h2.put _ _, fun x z hx => ?_⟩
 by_cases e : x = y
 ·subst e
  rw [Maps.atKey_put_same h2 (show WideAt.IsKeyLit (.int _ _) from trivial)]
  simp
 rw [Maps.atKey_put_other (fun c => e (by injection c)), h3 x z hx]
 simp [e]
theorem MapB.look {b n : Nat} {S : Int → Bool} {w : World} (h : MapB b n S w) {x : Int} (h0 : 0 ≤ x) (h1 : x ≤ 1000) : (Instr.lookup 122 (.map (some b)) (.int .i64 x) false).run Tryz.prog w = .ok (.bool (S x)) w := by
 obtain ⟨D, hD, h2, h3⟩ := h
 have hw := wf64 (x := x) (by omega) (by omega)
 obtain ⟨v, ps, hr, hv⟩ := hD.lookup keyI Tryz.underlying122 (zeroB w) (plainElem_bool Tryz.underlying4 false) (qB (x := x) (by omega) (by omega))
 rw [hr]
 rw [h3 x _ hw] at hv
 have hval : ∀ c : Bool, plainElem (H := Unit) Tryz.prog 4 v = some (.lit (.bool c), ps) → v = .bool c := fun c hc => by
  unfold plainElem at hc
  rw [Tryz.underlying4] at hc
  cases v <;> simp at hc
  rw [hc.1]
 cases hS : S x with
 | true => rw [hS] at hv; rw [hval true (by simpa using hv)]
 | false => rw [hS] at hv; rw [hval false (by simpa using hv)]
end Go.Proofs.YtikjjpjekchcjaaGreat
end
section
namespace Go.Proofs.YtikjjpjekchcjaaGreat
open Go.RowKit TrkMath MyHeap MyOwn
def N2Post (a b : Int) (w : World) (e : Ending) (w' : World) : Prop := e = .returned (.tuple #[.int .i64 a, .int .i64 b]) ∧ Below w.heap.size w w'
theorem eA {a b a' b' : Int} {w w' : World} (h1 : a' = a) (h2 : b' = b) (hB : Below w.heap.size w w') : N2Post a' b' w (.returned (.tuple #[.int .i64 a, .int .i64 b])) w' := by subst h1; subst h2; exact ⟨rfl, hB⟩
theorem prE_ch {x : Rg} {c : Int} (h : rgE x ≠ 0) : prE x c = rgE x ∧ prV x c = 0 := by
 have e : prE x c = rgE x := if_pos h
 exact ⟨e, if_neg (by rw [e]; exact h)⟩
theorem l4 {x : Rg} {c : Int} (h : rgE x = 0) (hc : c < 0 ∨ 16 < c) : prE x c = 1 ∧ prV x c = 0 := by
 have e : prE x c = 1 := by unfold prE; rw [if_neg (by rw [h]; decide), if_pos hc]
 exact ⟨e, if_neg (by rw [e]; decide)⟩
theorem prE_ok {x : Rg} {c : Int} (h : rgE x = 0) (hc : ¬ (c < 0 ∨ 16 < c)) : prE x c = 0 ∧ prV x c = lim (x.r + c * x.v) 0 2097152 := by
 have e : prE x c = 0 := by unfold prE; rw [if_neg (by rw [h]; decide), if_neg hc]
 exact ⟨e, if_pos e⟩
theorem jP {c v : Int} (h1 : 0 ≤ c) (h2 : c ≤ 16) (h3 : -16384 ≤ v) (h4 : v ≤ 16384) : -262144 ≤ c * v ∧ c * v ≤ 262144 := by
 have a1 : c * v ≤ 16 * 16384 := by
  rcases Int.lt_or_le v 0 with h | h
  ·have : c * v ≤ 0 := Int.mul_nonpos_of_nonneg_of_nonpos h1 (by omega)
   omega
  exact Int.mul_le_mul h2 h4 h (by decide)
 have a2 : c * -v ≤ 16 * 16384 := by
  rcases Int.lt_or_le (-v) 0 with h | h
  ·have : c * -v ≤ 0 := Int.mul_nonpos_of_nonneg_of_nonpos h1 (by omega)
   omega
  exact Int.mul_le_mul h2 (by omega) h (by decide)
 rw [Int.mul_neg] at a2
 omega
theorem eN (w : World) (lo hi : Int) : Below w.heap.size w ((w.alloc (.cells #[.int .i64 lo] 3)).alloc (.cells #[.int .i64 hi] 3)) := by
 have h := aC w (.cells #[.int .i64 lo] 3)
 exact h.alloc h.size _
theorem eM (w : World) (lo hi : Int) : ((w.alloc (.cells #[.int .i64 lo] 3)).alloc (.cells #[.int .i64 hi] 3)).cell? ⟨w.heap.size, 0, none⟩ = some (.int .i64 lo) ∧ ((w.alloc (.cells #[.int .i64 lo] 3)).alloc (.cells #[.int .i64 hi] 3)).cell? ⟨w.heap.size + 1, 0, none⟩ = some (.int .i64 hi) :=
 ⟨aA (aG (aI w (.cells #[.int .i64 lo] 3 (0, 0)) rfl)) rfl, aA (aI (w.alloc (.cells #[.int .i64 lo] 3)) (.cells #[.int .i64 hi] 3 (0, 0)) (by simp)) rfl⟩
theorem mY (x : Rg) (c : Int) (w : World) : Calls Tryz.prog 66 #[rgV x, .int .i64 c] w (N2Post (prV x c) (prE x c) w) := by
 have HB := qh (aC w (.cells #[.int .i64 x.r, .int .i64 x.v, .int .i64 x.n] 50))
 have HX0 := qh (aI w (.cells #[.int .i64 x.r, .int .i64 x.v, .int .i64 x.n] 50 (0, 0)) rfl)
 by_cases hE : rgE x = 0
 ·have HE := qh hE
  have hz := eR hE
  unfold rgV
  clear hE
  go_enter Tryz.func66, Tryz.ntmps66
  go_wp2_with fail
  refine (bE x _).mono ?_; rintro e w1 ⟨rfl, hb⟩
  rw [HE.out]
  have K := qh (And.intro (HB.out.trans (hb.mono HB.out.size)) (aN hb HX0.out))
  clear hb
  by_cases h1 : c < 0
  ·have HR := qh (l4 HE.out (Or.inl h1))
   go_wp2_with fail
   go_ret2
   exact eA HR.out.2 HR.out.1 K.out.1
  by_cases h2 : 16 < c
  ·have HR := qh (l4 HE.out (Or.inr h2))
   go_wp2_with fail
   go_ret2
   exact eA HR.out.2 HR.out.1 K.out.1
  have HR := qh (prE_ok (c := c) HE.out (by omega))
  have y0 : w1.cell? ⟨w.heap.size, 0, none⟩ = some (.int .i64 x.r) := aA K.out.2 rfl
  have y1 : w1.cell? ⟨w.heap.size, 1, none⟩ = some (.int .i64 x.v) := aA K.out.2 rfl
  have yl := aB K.out.2
  have hm := jP (c := c) (v := x.v) (by omega) (by omega) hz.2.2.1 hz.2.2.2.1
  obtain ⟨M, hM⟩ : ∃ M, c * x.v = M := ⟨_, rfl⟩
  have HM := qh hM
  have w1' : IntKind.i64.wrap (c * x.v) = M := by rw [hM]; exact IntWalk.i64_in _ (by omega)
  have w2' : IntKind.i64.wrap (x.r + M) = x.r + M := IntWalk.i64_in _ (by omega)
  have v1' : wrap64 (c * x.v) = M := by rw [hM]; unfold wrap64; omega
  clear hM hm
  go_wp2_with fail
  refine (cM _ _ _ _).mono ?_; rintro e w2 ⟨rfl, hb⟩
  have HL := qh (show prV x c = lim (x.r + M) 0 2097152 from by rw [HR.out.2, HM.out])
  obtain ⟨R, hR⟩ : ∃ R, lim (x.r + M) 0 2097152 = R := ⟨_, rfl⟩
  rw [hR] at HL ⊢
  clear hR
  go_wp2_with fail
  go_ret2
  exact eA HL.out HR.out.1 (K.out.1.trans (hb.mono K.out.1.size))
 have hne : (rgE x != 0) = true := by rw [bne_iff_ne]; exact hE
 have HR := qh (prE_ch (c := c) hE)
 obtain ⟨E, hE2⟩ : ∃ E, rgE x = E := ⟨_, rfl⟩
 have HE := qh hE2
 rw [hE2] at hne
 unfold rgV
 clear hE hE2
 go_enter Tryz.func66, Tryz.ntmps66
 go_wp2_with fail
 refine (bE x _).mono ?_; rintro e w1 ⟨rfl, hb⟩
 rw [HE.out]
 go_wp2_with fail
 go_ret2
 exact eA HR.out.2 (by rw [HR.out.1, HE.out]) (HB.out.trans (hb.mono HB.out.size))
theorem bI (x : Rg) (c : Int) (w : World) : Calls Tryz.prog 88 #[rgV x, .int .i64 c] w (N2Post (prV x c) (prE x c) w) := by
 have HB := qh (aC w (.cells #[.int .i64 x.r, .int .i64 x.v, .int .i64 x.n] 50))
 have HX0 := qh (aI w (.cells #[.int .i64 x.r, .int .i64 x.v, .int .i64 x.n] 50 (0, 0)) rfl)
 by_cases hE : rgE x = 0
 ·have HE := qh hE
  have hz := eR hE
  unfold rgV
  clear hE
  go_enter Tryz.func88, Tryz.ntmps88
  go_wp2_with fail
  refine (bG x _).mono ?_; rintro e w1 ⟨rfl, hb⟩
  rw [HE.out]
  have K := qh (And.intro (HB.out.trans (hb.mono HB.out.size)) (aN hb HX0.out))
  clear hb
  by_cases h1 : c < 0
  ·have HR := qh (l4 HE.out (Or.inl h1))
   go_wp2_with fail
   go_ret2
   exact eA HR.out.2 HR.out.1 K.out.1
  by_cases h2 : 16 < c
  ·have HR := qh (l4 HE.out (Or.inr h2))
   go_wp2_with fail
   go_ret2
   exact eA HR.out.2 HR.out.1 K.out.1
  have HR := qh (prE_ok (c := c) HE.out (by omega))
  have HY := qh (show w1.cell? ⟨w.heap.size, 0, none⟩ = some (.int .i64 x.r) ∧ w1.cell? ⟨w.heap.size, 1, none⟩ = some (.int .i64 x.v) from ⟨aA K.out.2 rfl, aA K.out.2 rfl⟩)
  have yl := aB K.out.2
  have hm := jP (c := c) (v := x.v) (by omega) (by omega) hz.2.2.1 hz.2.2.2.1
  obtain ⟨M, hM⟩ : ∃ M, c * x.v = M := ⟨_, rfl⟩
  have HM := qh hM
  have w1' : IntKind.i64.wrap (c * x.v) = M := by rw [hM]; exact IntWalk.i64_in _ (by omega)
  have w2' : IntKind.i64.wrap (x.r + M) = x.r + M := IntWalk.i64_in _ (by omega)
  have HL := qh (show prV x c = lim (x.r + M) 0 2097152 from by rw [HR.out.2, HM.out])
  clear hM hm
  go_wp2_with fail
  have KD := qh (show Below w1.heap.size w1 w1.drew from aM (Below.refl _ _) 1)
  go_region_held3 (fun w' => w'.cell? ⟨w.heap.size, 0, none⟩ = some (.int .i64 x.r) ∧ w'.cell? ⟨w.heap.size, 1, none⟩ = some (.int .i64 x.v)) (exact ⟨aS KD.out HY.out.1, aS KD.out HY.out.2⟩)
   (first
    | (go_at_call 91; refine (dS _ _ _).mono ?_; rintro e w5 ⟨rfl, rfl⟩; have PP := eM w1.drew 0 2097152; replace KD := qh (KD.out.trans ((eN w1.drew 0 2097152).mono KD.out.size)))
    | (go_at_call 102; refine (dG (x.r + M) 0 2097152 _ _ _ PP.1 PP.2).mono ?_; rintro e w6 ⟨rfl, hb⟩; replace KD := qh (KD.out.trans (hb.mono KD.out.size)); clear hb))
  all_goals
   go_wp2_with fail
   go_ret2
   exact eA HL.out HR.out.1 (K.out.1.trans (KD.out.mono K.out.1.size))
 have hne : (rgE x != 0) = true := by rw [bne_iff_ne]; exact hE
 have HR := qh (prE_ch (c := c) hE)
 obtain ⟨E, hE2⟩ : ∃ E, rgE x = E := ⟨_, rfl⟩
 have HE := qh hE2
 rw [hE2] at hne
 unfold rgV
 clear hE hE2
 go_enter Tryz.func88, Tryz.ntmps88
 go_wp2_with fail
 refine (bG x _).mono ?_; rintro e w1 ⟨rfl, hb⟩
 rw [HE.out]
 go_wp2_with fail
 go_ret2
 exact eA HR.out.2 (by rw [HR.out.1, HE.out]) (HB.out.trans (hb.mono HB.out.size))
end Go.Proofs.YtikjjpjekchcjaaGreat
end
