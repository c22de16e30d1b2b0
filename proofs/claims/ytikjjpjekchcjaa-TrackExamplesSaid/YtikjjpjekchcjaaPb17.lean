/-
  TrkSk, TrkHp, AsgVa, PtAsgA, PtAsgPr, CopyLib, PtAsgI, PtAsgJ
-/
import Derived.Test.YtikjjpjekchcjaaPb16
import Derived.Test.YtikjjpjekchcjaaPb13
import Derived.Test.YtikjjpjekchcjaaProg
import Derived.Test.YtikjjpjekchcjaaPb1
import Derived.WalkKit
import Derived.WalkSpells
import Derived.WalkLawsBesides
import Derived.Handy
import Derived.Lib.Hide
import Derived.BigQuiet
import Derived.IntWalk
import Derived.Deep.LoopGhost
import Derived.Deep.QuietTactic
import Derived.Deep.RegionHeld3
import Derived.Deep.DeepCutAuto
import Derived.Laws.AppendOwnNone
import Derived.Laws.StructEq
import Derived.Deep.RegionWith
section
namespace Go.Proofs.Ytikjjpjekchcjaa
open Go.RowKit TrkMath MyHeap MyOwn
structure TbI (W : World) (a : Option Addr) (n : Nat) (M : List TB) : Prop where
 T : Trs W a n M
 B : ∀ k, k < n → BdI W (gt M k)
theorem TbI.below {W W' : World} {a : Option Addr} {n : Nat} {M : List TB} (h : TbI W a n M) (hb : Below W.heap.size W W') : TbI W' a n M := ⟨h.T.below hb, fun k hk => (h.B k hk).below hb⟩
theorem TbI.nil (W : World) (a : Option Addr) : TbI W a 0 [] := ⟨trs_nil W a, fun _ hk => absurd hk (Nat.not_lt_zero _)⟩
theorem Lf.tbI {base : Nat} {X : List (Option Nat)} {v : Value} {M : List TB} {W : World} (h : Lf base X v M W) (hm : M.length ≤ 9223372036854775807) : ∃ a c, v = .slice a M.length c ∧ TbI W a M.length M := by
 obtain ⟨a, c, e, hT⟩ := trs_own h.row hm
 exact ⟨a, c, e, hT, fun k hk => (h.bd k hk).I⟩
def ev0 : Ev := ⟨0, 0, 0⟩
def ge (V : List Ev) (k : Nat) : Ev := V[k]?.getD ev0
structure EvI (W : World) (a : Option Addr) (n : Nat) (V : List Ev) : Prop where
 len : V.length = n
 cells : n = 0 ∨ ∃ b off, a = some ⟨b, off, none⟩ ∧ ∀ i, i < n → W.cell? ⟨b, off + i * 3, none⟩ = some (.int .u8 (ge V i).kind) ∧ W.cell? ⟨b, off + i * 3 + 1, none⟩ = some (.int .i64 (ge V i).id) ∧ W.cell? ⟨b, off + i * 3 + 2, none⟩ = some (.int .i64 (ge V i).plot)
theorem EvI.below {W W' : World} {a : Option Addr} {n : Nat} {V : List Ev} (h : EvI W a n V) (hb : Below W.heap.size W W') : EvI W' a n V := by
 refine ⟨h.len, ?_⟩
 rcases h.cells with h0 | ⟨b, off, e, hc⟩
 ·exact Or.inl h0
 ·exact Or.inr ⟨b, off, e, fun i hi => ⟨keep1 hb (hc i hi).1, keep1 hb (hc i hi).2.1, keep1 hb (hc i hi).2.2⟩⟩
theorem evi_at {W : World} {a : Option Addr} {n : Nat} {V : List Ev} (h : EvI W a n V) {k : Nat} (hk : k < n) : ∃ b off, a = some ⟨b, off, none⟩ ∧ W.cell? ⟨b, off + k * 3, none⟩ = some (.int .u8 (ge V k).kind) ∧ W.cell? ⟨b, off + k * 3 + 1, none⟩ = some (.int .i64 (ge V k).id) ∧ W.cell? ⟨b, off + k * 3 + 2, none⟩ = some (.int .i64 (ge V k).plot) := by
 rcases h.cells with h0 | ⟨b, off, e, hc⟩
 ·omega
 ·exact ⟨b, off, e, hc k hk⟩
theorem flatE_get (V : List Ev) (i : Nat) (hi : i < V.length) : (flatE V)[i * 3]? = some (.int .u8 (ge V i).kind) ∧ (flatE V)[i * 3 + 1]? = some (.int .i64 (ge V i).id) ∧ (flatE V)[i * 3 + 2]? = some (.int .i64 (ge V i).plot) := by
 induction V generalizing i with
 | nil => exact absurd hi (Nat.not_lt_zero _)
 | cons x V ih =>
  have e : flatE (x :: V) = .int .u8 x.kind :: .int .i64 x.id :: .int .i64 x.plot :: flatE V := rfl
  cases i with
  | zero => rw [e]; exact ⟨rfl, rfl, rfl⟩
  | succ i =>
   have h := ih i (by simpa using hi)
   rw [e, show (i + 1) * 3 = i * 3 + 1 + 1 + 1 by omega]
   simpa [ge] using h
theorem evi_own {w : World} {base : Nat} {e : TypeId} {v : Value} {V : List Ev} (h : w.ownsRow base e 3 v V.length (flatE V)) : ∃ a c, v = .slice a V.length c ∧ EvI w a V.length V := by
 rcases h.2 with ⟨rfl, h0⟩ | ⟨g, cap, cur, rfl, hg, hh, hc, hcm, hcs, htake⟩
 ·exact ⟨none, 0, by rw [h0], rfl, Or.inl h0⟩
 ·refine ⟨some ⟨g, 0, none⟩, cap, rfl, rfl, Or.inr ⟨g, 0, rfl, fun i hi => ?_⟩⟩
  obtain ⟨h1, h2, h3⟩ := flatE_get V i hi
  rw [← htake, List.getElem?_take_of_lt (by omega)] at h1 h2 h3
  rw [Nat.zero_add]
  exact ⟨cell_of_block hh (by simpa using h1), cell_of_block hh (by simpa using h2), cell_of_block hh (by simpa using h3)⟩
def CyI (R : TbR) (V : List Ev) (E : Int) (w : World) (e : Ending) (w' : World) : Prop :=
 ∃ a c ea ec M, e = .returned (.tuple #[tbV R.par R.now R.next (.slice a M.length c), .slice ea V.length ec, .int .i64 E]) ∧ TbI w' a M.length M ∧ fsts M = R.tk ∧ EvI w' ea V.length V ∧ Below w.heap.size w w'
theorem CyPost.I {ty : TypeId} {R : TbR} {V : List Ev} {E : Int} {w w' : World} {e : Ending} (h : CyPost ty R V E w e w') (hm : R.tk.length ≤ 1000) : CyI R V E w e w' := by
 obtain ⟨tV, eV, M, rfl, hL, hM, hE, hB⟩ := h
 obtain ⟨a, c, rfl, hI⟩ := hL.tbI (by rw [← hM, fsts_len] at hm; omega)
 obtain ⟨ea, ec, rfl, hEv⟩ := evi_own hE
 exact ⟨a, c, ea, ec, M, rfl, hI, hM, hEv, hB⟩
def fdE (p : Par) (now next : Int) (L : List Tk) (id : Int) : Int := if ckE p now next L ≠ 0 then ckE p now next L else if (L.find? fun t => t.id == id).isSome then 0 else 9
def fdT (p : Par) (now next : Int) (L : List Tk) (id : Int) : Tk := if fdE p now next L id = 0 then (L.find? fun t => t.id == id).getD tk0 else tk0
theorem fdE_ck {p : Par} {now next : Int} {L : List Tk} {id : Int} (h : ckE p now next L ≠ 0) : fdE p now next L id = ckE p now next L ∧ fdT p now next L id = tk0 := by
 have e : fdE p now next L id = ckE p now next L := if_pos h
 exact ⟨e, if_neg (by rw [e]; exact h)⟩
theorem fdE_no {p : Par} {now next : Int} {L : List Tk} {id : Int} (h : ckE p now next L = 0) (hn : ∀ k, k < L.length → (gk L k).id ≠ id) : fdE p now next L id = 9 ∧ fdT p now next L id = tk0 := by
 have hf : L.find? (fun t => t.id == id) = none := List.find?_eq_none.2 fun t ht => by
  obtain ⟨k, hk, rfl⟩ := List.getElem_of_mem ht
  have := hn k hk
  unfold gk at this
  rw [List.getElem?_eq_getElem hk, Option.getD_some] at this
  simpa using this
 have e : fdE p now next L id = 9 := by unfold fdE; rw [if_neg (fun e => e h), hf]; rfl
 exact ⟨e, if_neg (by rw [e]; decide)⟩
theorem find_first {L : List Tk} {id : Int} {k : Nat} (hk : k < L.length) (h : (gk L k).id = id) (hn : ∀ i, i < k → (gk L i).id ≠ id) : L.find? (fun t => t.id == id) = some (gk L k) := by
 induction L generalizing k with
 | nil => exact absurd hk (Nat.not_lt_zero _)
 | cons t L ih =>
  cases k with
  | zero =>
   have : t.id = id := h
   simp [this, gk]
  | succ k =>
   have h0 : t.id ≠ id := hn 0 (by omega)
   rw [List.find?_cons_of_neg (by simpa using h0)]
   exact ih (by simpa using hk) h (fun i hi => hn (i + 1) (by omega))
theorem fdE_yes {p : Par} {now next : Int} {L : List Tk} {id : Int} {k : Nat} (h : ckE p now next L = 0) (hk : k < L.length) (he : (gk L k).id = id) (hn : ∀ i, i < k → (gk L i).id ≠ id) : fdE p now next L id = 0 ∧ fdT p now next L id = gk L k := by
 have hf := find_first hk he hn
 have e : fdE p now next L id = 0 := by unfold fdE; rw [if_neg (fun e => e h), hf]; rfl
 exact ⟨e, by unfold fdT; rw [if_pos e, hf]; rfl⟩
theorem gk_fsts' (L : List TB) (k : Nat) : gk (fsts L) k = (gt L k).1 := fsts_get L k
def FdPost (t : Tk) (E : Int) (w : World) (e : Ending) (w' : World) : Prop := ∃ s : Bs, e = .returned (.tuple #[tkV (t, s), .int .i64 E]) ∧ BdX w.heap.size [] w' (t, s) ∧ Below w.heap.size w w'
theorem bdx_nil (B : Nat) (X : List (Option Nat)) (w : World) : BdX B X w (tk0, bs0) := ⟨⟨rfl, by decide, Or.inl rfl⟩, ⟨rfl, by decide, Or.inl rfl⟩, fun g e => (by cases e), fun g e => (by cases e)⟩
end Go.Proofs.Ytikjjpjekchcjaa
end
section
namespace Go.Proofs.Ytikjjpjekchcjaa
open Go.RowKit TrkMath MyHeap MyOwn
def BoolB (b : Bool) (w : World) (e : Ending) (w' : World) : Prop := e = .returned (.bool b) ∧ Below w.heap.size w w'
set_option maxRecDepth 100000 in
set_option maxHeartbeats 4000000 in
theorem happened_yes (a d : Option Addr) (n c m : Nat) (V : List Ev) (w : World) (hV : EvI w a n V) (hW : EvI w d n V) (hn : n ≤ 1000) :
    Calls Try.prog 21 #[.slice a n c, .slice d n m] w (BoolB true w) := by
 have HV := Lib.hid hV
 have HW := Lib.hid hW
 clear hV hW
 go_enter Try.func21, Try.ntmps21
 go_wp2_with fail
 go_loopw [4, 5] (fun v4 kv wr => ∃ k : Nat, k ≤ n ∧ v4 = .bool false ∧ kv = .int .i64 k ∧ Below w.heap.size w wr) (fun _ kv _ => n - (intOf kv).toNat)
 case atStart => exact ⟨0, by omega, rfl, rfl, Below.refl _ _⟩
 case round =>
  obtain ⟨k, hk, rfl, rfl, hB⟩ := hrel
  have B := Lib.hid hB
  by_cases hlt : k < n
  ·obtain ⟨b, off, rfl, x0, x1, x2⟩ := evi_at (HV.out.below hB) hlt
   obtain ⟨b2, off2, rfl, y0, y1, y2⟩ := evi_at (HW.out.below hB) hlt
   have xl := World.block_lt_of_cell? _ _ x0
   have yl := World.block_lt_of_cell? _ _ y0
   have hk0 : (0 : Int) ≤ (k : Int) := by omega
   have hk1 : (k : Int) < (n : Int) := by omega
   have hkw : IntKind.i64.wrap ((k : Int) + 1) = ((k + 1 : Nat) : Int) := by rw [IntWalk.i64_in _ (by omega)]; omega
   have HLt := Lib.hid hlt
   obtain ⟨⟨ek, ei, ep⟩, he⟩ : ∃ x, ge V k = x := ⟨_, rfl⟩
   rw [he] at x0 x1 x2 y0 y1 y2
   simp only [] at x0 x1 x2 y0 y1 y2
   clear hB hlt he
   go_wp2_with fail
   go_quiet (fail)
   go_wp2_with fail
   refine ⟨⟨k + 1, HLt.out, rfl, by go_num, B.out.trans ((below_drewN (Below.refl _ _) nq).mono B.out.size)⟩, by simp [intOf]; have := HLt.out; omega⟩
  ·obtain rfl : n = k := by omega
   clear hB
   go_wp2_with fail
   go_ret
   exact ⟨rfl, B.out⟩
end Go.Proofs.Ytikjjpjekchcjaa
end
section
namespace AsgMath
open AsgRows
def bitsT (u : Nat) : Nat → Bool := fun k => decide (u / 2 ^ k % 2 = 1)
theorem add_split {u k : Nat} (h : u / 2 ^ k % 2 = 0) : (u + 2 ^ k) / 2 ^ (k + 1) = u / 2 ^ (k + 1) ∧ (u + 2 ^ k) / 2 ^ k = u / 2 ^ k + 1 ∧ (u + 2 ^ k) % 2 ^ k = u % 2 ^ k := by
 have hp : 0 < 2 ^ k := Nat.two_pow_pos k
 refine ⟨?_, Nat.add_div_right u hp, Nat.add_mod_right u _⟩
 rw [Nat.pow_succ, ← Nat.div_div_eq_div_mul, ← Nat.div_div_eq_div_mul, Nat.add_div_right u hp]
 show (u / 2 ^ k + 1) / 2 = u / 2 ^ k / 2
 omega
theorem div_pow {u k j : Nat} (h : k ≤ j) : u / 2 ^ j = u / 2 ^ k / 2 ^ (j - k) := by
 rw [Nat.div_div_eq_div_mul, ← Nat.pow_add, Nat.add_sub_cancel' h]
theorem bitsT_set {u k : Nat} (h : u / 2 ^ k % 2 = 0) : bitsT (u + 2 ^ k) = setT (bitsT u) k := by
 obtain ⟨h1, h2, h3⟩ := add_split h
 funext j
 unfold setT
 by_cases e : j = k
 ·subst e
  rw [if_pos rfl]
  unfold bitsT
  rw [h2, decide_eq_true (by omega)]
 ·rw [if_neg e]
  unfold bitsT
  rcases Nat.lt_or_ge j k with q | q
  ·have hd : ∀ x : Nat, x / 2 ^ j % 2 = x % 2 ^ k / 2 ^ j % 2 := fun x => by
    have e1 : 2 ^ k = 2 ^ j * 2 ^ (k - j) := by rw [← Nat.pow_add, Nat.add_sub_cancel' (Nat.le_of_lt q)]
    obtain ⟨d, hd⟩ : ∃ d, k - j = d + 1 := ⟨k - j - 1, by omega⟩
    have e2 : 2 ^ (k - j) = 2 * 2 ^ d := by rw [hd, Nat.pow_succ, Nat.mul_comm]
    rw [e1, Nat.mod_mul_right_div_self, e2, Nat.mod_mul_right_mod]
   rw [hd, h3, ← hd]
  ·rw [div_pow (u := u + 2 ^ k) (k := k + 1) (j := j) (by omega), h1, ← div_pow (by omega)]
theorem bits_add_lt {u k m : Nat} (hu : u < 2 ^ m) (hk : k < m) (h : u / 2 ^ k % 2 = 0) : u + 2 ^ k < 2 ^ m := by
 have hp : 0 < 2 ^ (k + 1) := Nat.two_pow_pos _
 have h1 := (add_split h).1
 have e1 : 2 ^ m = 2 ^ (m - (k + 1)) * 2 ^ (k + 1) := by rw [← Nat.pow_add, Nat.sub_add_cancel (by omega)]
 rw [e1] at hu ⊢
 rw [← Nat.div_lt_iff_lt_mul hp] at hu ⊢
 rw [h1]
 exact hu
def Vr (L : List (List Int)) (n m i u : Nat) : Int := V (ent L) n m (n - i) (bitsT u)
end AsgMath
end
section
namespace Go.Proofs.Ytikjjpjekchcjaa.Asg
open Go.RowKit AsgRows MyHeap
theorem below_alloc (w : World) (o : Obj) : Below w.heap.size w (w.alloc o) := (Below.refl _ _).alloc (Nat.le_refl _) _
theorem below_drew (w : World) : Below w.heap.size w w.drew := ⟨rfl, rfl, rfl, Nat.le_refl _, fun _ _ => rfl⟩
theorem below_drewN {b : Nat} {w w' : World} (h : Below b w w') (d : Nat) : Below b w (w'.drewN d) := ⟨h.os, h.tape, h.output, h.size, h.block⟩
structure Ints (w : World) (a : Option Addr) (n : Nat) (l : List Int) : Prop where
 len : l.length = n
 bound : n ≤ 9223372036854775807
 cells : n = 0 ∨ ∃ b off, a = some ⟨b, off, none⟩ ∧ ∀ i, i < n → w.cell? ⟨b, off + i, none⟩ = some (.int .i64 (gi l i))
theorem Ints.below {w w' : World} {a : Option Addr} {n : Nat} {l : List Int} (h : Ints w a n l) (hb : Below w.heap.size w w') : Ints w' a n l := by
 refine ⟨h.len, h.bound, ?_⟩
 rcases h.cells with h0 | ⟨b, off, e, hc⟩
 ·exact Or.inl h0
 ·exact Or.inr ⟨b, off, e, fun i hi => keep1 hb (hc i hi)⟩
theorem ints_at {w : World} {a : Option Addr} {n : Nat} {l : List Int} (h : Ints w a n l) {k : Nat} (hk : k < n) : ∃ b off, a = some ⟨b, off, none⟩ ∧ w.cell? ⟨b, off + k, none⟩ = some (.int .i64 (gi l k)) := by
 rcases h.cells with h0 | ⟨b, off, e, hc⟩
 ·omega
 ·exact ⟨b, off, e, hc k hk⟩
structure Mtx (w : World) (a : Option Addr) (n : Nat) (L : List (List Int)) : Prop where
 len : L.length = n
 bound : n ≤ 9223372036854775807
 cells : n = 0 ∨ ∃ b off, a = some ⟨b, off, none⟩ ∧ ∀ i, i < n → ∃ ra rc, w.cell? ⟨b, off + i, none⟩ = some (.slice ra (rowL L i).length rc) ∧ Ints w ra (rowL L i).length (rowL L i)
theorem Mtx.below {w w' : World} {a : Option Addr} {n : Nat} {L : List (List Int)} (h : Mtx w a n L) (hb : Below w.heap.size w w') : Mtx w' a n L := by
 refine ⟨h.len, h.bound, ?_⟩
 rcases h.cells with h0 | ⟨b, off, e, hc⟩
 ·exact Or.inl h0
 ·exact Or.inr ⟨b, off, e, fun i hi => by
   obtain ⟨ra, rc, h1, h2⟩ := hc i hi
   exact ⟨ra, rc, keep1 hb h1, h2.below hb⟩⟩
theorem mtx_at {w : World} {a : Option Addr} {n : Nat} {L : List (List Int)} (h : Mtx w a n L) {i : Nat} (hi : i < n) : ∃ b off, a = some ⟨b, off, none⟩ ∧ ∃ ra rc, w.cell? ⟨b, off + i, none⟩ = some (.slice ra (rowL L i).length rc) ∧ Ints w ra (rowL L i).length (rowL L i) := by
 rcases h.cells with h0 | ⟨b, off, e, hc⟩
 ·omega
 ·exact ⟨b, off, e, hc i hi⟩
theorem mtx_two {w : World} {a : Option Addr} {n : Nat} {L : List (List Int)} (h : Mtx w a n L) {i : Nat} (hi : i < n) : ∃ b off r0 c0 ra rc, a = some ⟨b, off, none⟩ ∧ w.cell? ⟨b, off, none⟩ = some (.slice r0 (wid L) c0) ∧ w.cell? ⟨b, off + i, none⟩ = some (.slice ra (rowL L i).length rc) ∧ Ints w ra (rowL L i).length (rowL L i) := by
 rcases h.cells with h0 | ⟨b, off, e, hc⟩
 ·omega
 ·obtain ⟨r0, c0, h1, -⟩ := hc 0 (by omega)
  obtain ⟨ra, rc, h2, h3⟩ := hc i hi
  exact ⟨b, off, r0, c0, ra, rc, e, h1, h2, h3⟩
def BPost (r : Bool) (w : World) (e : Ending) (w' : World) : Prop := e = .returned (.bool r) ∧ Below w.heap.size w w'
theorem bPost_of {r r' : Bool} {w w' : World} (h : r = r') (hB : Below w.heap.size w w') : BPost r' w (.returned (.bool r)) w' := by subst h; exact ⟨rfl, hB⟩
def NPost (r : Int) (w : World) (e : Ending) (w' : World) : Prop := e = .returned (.int .i64 r) ∧ Below w.heap.size w w'
theorem nPost_of {r r' : Int} {w w' : World} (h : r = r') (hB : Below w.heap.size w w') : NPost r' w (.returned (.int .i64 r)) w' := by subst h; exact ⟨rfl, hB⟩
theorem rows_bound {w : World} {a : Option Addr} {n : Nat} {L : List (List Int)} (h : Mtx w a n L) {i : Nat} (hi : i < n) : (rowL L i).length ≤ 9223372036854775807 := by
 obtain ⟨b, off, e, ra, rc, h1, h2⟩ := mtx_at h hi
 exact h2.bound
set_option maxRecDepth 100000 in
set_option maxHeartbeats 4000000 in
theorem pCheck_call (a : Option Addr) (n c : Nat) (L : List (List Int)) (w : World) (h : Mtx w a n L) :
    Calls Try.prog 87 #[.slice a n c] w (NPost (chM L) w) := by
 have hl := h.len
 have hbn := h.bound
 have HM := Lib.hid h
 by_cases h16 : 16 < n
 ·have HR := Lib.hid (show longM L from Or.inl (by omega))
  clear h hl
  have hg : (16 : Int) < (n : Int) := by omega
  go_enter Try.func87, Try.ntmps87
  go_wp2_with fail
  go_ret
  exact nPost_of (chM_long HR.out).symm (Below.refl _ _)
 ·have hg : ¬ (16 : Int) < (n : Int) := by omega
  by_cases h0 : n = 0
  ·subst h0
   have HR := Lib.hid (show chM L = 0 from chM_zero (by unfold longM; omega) (fun i hi => by omega) (fun i hi => by omega))
   clear h hl
   go_enter Try.func87, Try.ntmps87
   go_wp2_with fail
   go_loopw [26] (fun kv wr => kv = .int .i64 0 ∧ w = wr) (fun kv _ => 0)
   case atStart => exact ⟨rfl, rfl⟩
   case round =>
    obtain ⟨rfl, rfl⟩ := hrel
    go_wp2_with fail
    go_loopw [40] (fun kv wr' => kv = .int .i64 0 ∧ w = wr') (fun kv _ => 0)
    case atStart => exact ⟨rfl, rfl⟩
    case round =>
     obtain ⟨rfl, rfl⟩ := hrel
     go_wp2_with fail
     go_ret
     exact nPost_of HR.out.symm (Below.refl _ _)
  ·obtain ⟨b, off, r0, c0, -, -, rfl, x0, -⟩ := mtx_two h (i := 0) (by omega)
   have q0 := World.block_lt_of_cell? w _ x0
   have hw := rows_bound h (i := 0) (by omega)
   have hw' : wid L ≤ 9223372036854775807 := hw
   have hn0 : (0 : Int) < (n : Int) := by omega
   by_cases hw16 : 16 < wid L
   ·have HR := Lib.hid (show longM L from Or.inr ⟨by omega, hw16⟩)
    have hg2 : (16 : Int) < (wid L : Int) := by omega
    generalize wid L = m at *
    clear h hl hw
    go_enter Try.func87, Try.ntmps87
    go_wp2_with fail
    go_ret
    exact nPost_of (chM_long HR.out).symm (Below.refl _ _)
   ·have hg2 : ¬ (16 : Int) < (wid L : Int) := by omega
    have HR := Lib.hid (show ¬ longM L by unfold longM; omega)
    have HL := Lib.hid hl
    obtain ⟨m, hm⟩ : ∃ m, wid L = m := ⟨_, rfl⟩
    rw [hm] at x0 hw' hg2
    have HW := Lib.hid hm
    clear h hl hw hm hw16
    go_enter Try.func87, Try.ntmps87
    go_wp2_with fail
    go_loopw [26] (fun kv wr => ∃ k : Nat, k ≤ n ∧ kv = .int .i64 k ∧ (∀ i, i < k → (rowL L i).length = wid L) ∧ w = wr) (fun kv _ => n - (intOf kv).toNat)
    case atStart => exact ⟨0, by omega, rfl, fun i hi => by omega, rfl⟩
    case round =>
     obtain ⟨k, hk, rfl, hS, rfl⟩ := hrel
     have HS := Lib.hid hS
     clear hS
     by_cases hlt : k < n
     ·obtain ⟨b', off', r0', c0', ra, rc, e, -, y0, hI⟩ := mtx_two HM.out (i := k) hlt
      cases e
      have hrb := hI.bound
      have q1 := World.block_lt_of_cell? w _ y0
      have hk0 : (0 : Int) ≤ (k : Int) := by omega
      have hk1 : (k : Int) < (n : Int) := by omega
      clear hI
      by_cases hx : (rowL L k).length = wid L
      ·have HX := Lib.hid hx
       rw [hx, HW.out] at y0
       clear hx hrb
       have ht : ((m : Int) != (m : Int)) = false := by simp
       go_wp2_with fail
       go_roundw
       case rel => exact ⟨k + 1, by omega, by go_num, fun i hi => by
        by_cases e : i = k
        ·subst e; exact HX.out
        ·exact HS.out i (by omega), trivial⟩
       case measure => simp [intOf]; omega
      ·have HX := Lib.hid hx
       obtain ⟨r, hr⟩ : ∃ r, (rowL L k).length = r := ⟨_, rfl⟩
       rw [hr] at y0 hrb
       have ht : ((r : Int) != (m : Int)) = true := by rw [bne_iff_ne]; have := HW.out; omega
       clear hx hr
       go_wp2_with fail
       go_ret
       exact nPost_of (chM_form HR.out (by rw [HL.out]; exact hlt) HX.out).symm (Below.refl _ _)
     ·obtain rfl : n = k := by omega
      go_wp2_with fail
      clear hk hlt
      go_loopw [40] (fun kv wr' => ∃ k : Nat, k ≤ n ∧ kv = .int .i64 k ∧ (∀ i, i < k → ∀ j, j < (rowL L i).length → -1 ≤ ent L i j ∧ ent L i j ≤ 1048576) ∧ w = wr') (fun kv _ => n - (intOf kv).toNat)
      case atStart => exact ⟨0, by omega, rfl, fun i hi => by omega, rfl⟩
      case round =>
       obtain ⟨k, hk, rfl, hE, rfl⟩ := hrel
       have HE := Lib.hid hE
       clear hE
       by_cases hlt : k < n
       ·obtain ⟨b', off', r0', c0', ra, rc, e, -, y0, hI⟩ := mtx_two HM.out (i := k) hlt
        cases e
        rw [HS.out k hlt, HW.out] at y0 hI
        have HI := Lib.hid hI
        have hk0 : (0 : Int) ≤ (k : Int) := by omega
        have hk1 : (k : Int) < (n : Int) := by omega
        clear hI
        go_wp2_with fail
        go_loopw [46] (fun kv wr' => ∃ j : Nat, j ≤ m ∧ kv = .int .i64 j ∧ (∀ i, i < j → -1 ≤ ent L k i ∧ ent L k i ≤ 1048576) ∧ w = wr') (fun kv _ => m - (intOf kv).toNat)
        case atStart => exact ⟨0, by omega, rfl, fun i hi => by omega, rfl⟩
        case round =>
         obtain ⟨j, hj, rfl, hJ, rfl⟩ := hrel
         have HJ := Lib.hid hJ
         clear hJ
         by_cases hjm : j < m
         ·obtain ⟨b2, o2, rfl, z0⟩ := ints_at HI.out (k := j) hjm
          obtain ⟨X, hX⟩ : ∃ X, gi (rowL L k) j = X := ⟨_, rfl⟩
          rw [hX] at z0
          have HX := Lib.hid (show ent L k j = X from hX)
          have q2 := World.block_lt_of_cell? w _ z0
          have hj0 : (0 : Int) ≤ (j : Int) := by omega
          have hj1 : (j : Int) < (m : Int) := by omega
          clear hX
          by_cases hlo : X < -1
          ·go_wp2_with fail
           go_ret
           exact nPost_of (chM_arg HR.out (fun i hi => HS.out i (by rw [← HL.out]; exact hi)) (by rw [HL.out]; exact hlt) (k := j) (by rw [HS.out k hlt, HW.out]; exact hjm) (by rw [HX.out]; omega)).symm (Below.refl _ _)
          ·by_cases hhi : 1048576 < X
           ·go_wp2_with fail
            go_ret
            exact nPost_of (chM_arg HR.out (fun i hi => HS.out i (by rw [← HL.out]; exact hi)) (by rw [HL.out]; exact hlt) (k := j) (by rw [HS.out k hlt, HW.out]; exact hjm) (by rw [HX.out]; omega)).symm (Below.refl _ _)
           ·have HY := Lib.hid (show -1 ≤ X ∧ X ≤ 1048576 by omega)
            go_wp2_with fail
            go_roundw
            case rel => exact ⟨j + 1, by omega, by go_num, fun i hi => by
             by_cases e : i = j
             ·subst e; rw [HX.out]; exact HY.out
             ·exact HJ.out i (by omega), trivial⟩
            case measure => simp [intOf]; omega
         ·obtain rfl : m = j := by omega
          clear hj hjm
          go_wp2_with fail
          go_roundw
          case rel => exact ⟨k + 1, by omega, by go_num, fun i hi => by
           by_cases e : i = k
           ·subst e; rw [HS.out i hlt, HW.out]; exact HJ.out
           ·exact HE.out i (by omega), trivial⟩
          case measure => simp [intOf]; omega
       ·obtain rfl : n = k := by omega
        go_wp2_with fail
        go_ret
        exact nPost_of (chM_zero HR.out (fun i hi => HS.out i (by rw [← HL.out]; exact hi)) (fun i hi => HE.out i (by rw [← HL.out]; exact hi))).symm (Below.refl _ _)
end Go.Proofs.Ytikjjpjekchcjaa.Asg
end
section
namespace Go.Proofs.Ytikjjpjekchcjaa.Asg
open Go.RowKit MyHeap MyOwn
structure Prs (w : World) (a : Option Addr) (n : Nat) (ps : List (Int × Int)) : Prop where
 len : ps.length = n
 bound : n ≤ 1000000
 cells : n = 0 ∨ ∃ b off, a = some ⟨b, off, none⟩ ∧ ∀ i, i < n → w.cell? ⟨b, off + i * 2, none⟩ = some (.int .i64 (ps[i]?.getD (0, 0)).1) ∧ w.cell? ⟨b, off + i * 2 + 1, none⟩ = some (.int .i64 (ps[i]?.getD (0, 0)).2)
theorem Prs.below {w w' : World} {a : Option Addr} {n : Nat} {ps : List (Int × Int)} (h : Prs w a n ps) (hb : Below w.heap.size w w') : Prs w' a n ps := by
 refine ⟨h.len, h.bound, ?_⟩
 rcases h.cells with h0 | ⟨b, off, rfl, hc⟩
 ·exact Or.inl h0
 ·exact Or.inr ⟨b, off, rfl, fun i hi => ⟨keep1 hb (hc i hi).1, keep1 hb (hc i hi).2⟩⟩
theorem grownBelow {w w' : World} {base B : Nat} {e : TypeId} {size : Nat} {v : Value} {n : Nat} {xs : List Value} (h : w.ownsRow base e size v n xs) (hg : w.grownBy w' v.ownBlock) (hB : B ≤ base) (hs : B ≤ w.heap.size) : Below B w w' :=
 ⟨hg.os, hg.tape, hg.output, hg.size, fun k hk => hg.block k (by omega) (fun e' => by have := (h.lt k e'.symm).1; omega)⟩
theorem cellsTwo {w : World} {x y : Value} {T : TypeId} {n : Nat} (hn : n = w.heap.size) : ∀ (j : Nat) (u : Value), [x, y][j]? = some u → (w.alloc (.cells #[x, y] T)).cell? ((⟨n, 0, none⟩ : Addr).add j) = some u := by
 subst hn
 intro j u hu
 have hadd : (⟨w.heap.size, 0, none⟩ : Addr).add j = ⟨w.heap.size, j, none⟩ := by unfold Addr.add; split <;> simp_all
 rw [hadd, World.cell?_alloc_at _ _ _ _ rfl]
 match j, hu with
 | 0, hu => exact hu
 | 1, hu => exact hu
end Go.Proofs.Ytikjjpjekchcjaa.Asg
end
section
namespace Go.Proofs.Ytikjjpjekchcjaa.Asg
open Go.RowKit AsgRows MyHeap MyOwn MyCopy
def flatI (xs : List Int) : List Value := xs.map fun x => .int .i64 x
theorem flatI_len (xs : List Int) : (flatI xs).length = xs.length := by simp [flatI]
set_option maxRecDepth 100000 in
theorem infoI : (Try.prog.info? 3).map (fun i => (i.zero, i.size, i.bytes)) = some (some (.int .i64 0), 1, 8) := by kernel_rfl
theorem info_parts' {o : Option TypeInfo} {z : Value} {s b : Nat} (h : o.map (fun i => (i.zero, i.size, i.bytes)) = some (some z, s, b)) : ∃ i, o = some i ∧ i.zero = some z ∧ i.size = s ∧ i.bytes = b := by
 cases o with
 | none => cases h
 | some i => simp only [Option.map_some, Option.some.injEq, Prod.mk.injEq] at h; exact ⟨i, rfl, h.1, h.2.1, h.2.2⟩
theorem ints_own {w : World} {base : Nat} {e : TypeId} {v : Value} {l : List Int} {n : Nat} (hl : l.length = n) (h : w.ownsRow base e 1 v n (flatI l)) (hm : n ≤ 9223372036854775807) : ∃ a c, v = .slice a n c ∧ Ints w a n l := by
 rcases h.2 with ⟨rfl, h0⟩ | ⟨g, cap, cur, rfl, hg, hh, hc, hcm, hcs, htake⟩
 ·exact ⟨none, 0, by rw [h0], ⟨hl, hm, Or.inl h0⟩⟩
 ·refine ⟨some ⟨g, 0, none⟩, cap, rfl, ⟨hl, hm, Or.inr ⟨g, 0, rfl, fun i hi => ?_⟩⟩⟩
  have hx : (flatI l)[i]? = some (.int .i64 (gi l i)) := by
   unfold flatI gi
   rw [List.getElem?_map, List.getElem?_eq_getElem (by omega)]
   simp
  rw [← htake, List.getElem?_take_of_lt (by omega)] at hx
  rw [Nat.zero_add]
  exact cell_of_block hh (by simpa using hx)
theorem prs_at {w : World} {a : Option Addr} {n : Nat} {ps : List (Int × Int)} (h : Prs w a n ps) {k : Nat} (hk : k < n) : ∃ b off, a = some ⟨b, off, none⟩ ∧ w.cell? ⟨b, off + k * 2, none⟩ = some (.int .i64 (ps[k]?.getD (0, 0)).1) ∧ w.cell? ⟨b, off + k * 2 + 1, none⟩ = some (.int .i64 (ps[k]?.getD (0, 0)).2) := by
 rcases h.cells with h0 | ⟨b, off, e, hc⟩
 ·omega
 ·exact ⟨b, off, e, hc k hk⟩
end Go.Proofs.Ytikjjpjekchcjaa.Asg
end
section
namespace Go.Proofs.Ytikjjpjekchcjaa.Asg
open Go.RowKit AsgRows MyHeap MyOwn MyCopy
structure OwnM (W : World) (base : Nat) (v : Value) (vs : List Value) (L : List (List Int)) : Prop where
 len : vs.length = L.length
 top : W.ownsRow base 35 1 v L.length vs
 row : ∀ i, i < L.length → ∃ u, vs[i]? = some u ∧ W.ownsRow base 3 1 u (rowL L i).length (flatI (rowL L i))
 apart : ∀ (i j : Nat) (u u' : Value) (g : Nat), i ≠ j → vs[i]? = some u → vs[j]? = some u' → u.ownBlock = some g → u'.ownBlock ≠ some g
theorem OwnM.keep {W W' : World} {base : Nat} {v : Value} {vs : List Value} {L : List (List Int)} (h : OwnM W base v vs L) (hb : Below W.heap.size W W') : OwnM W' base v vs L :=
 ⟨h.len, ownsRow_below h.top hb (Nat.le_refl _), fun i hi => by
  obtain ⟨u, h1, h2⟩ := h.row i hi
  exact ⟨u, h1, ownsRow_below h2 hb (Nat.le_refl _)⟩, h.apart⟩
theorem OwnM.mtx {W : World} {base : Nat} {v : Value} {vs : List Value} {L : List (List Int)} (h : OwnM W base v vs L) (hn : L.length ≤ 9223372036854775807) (hr : ∀ i, i < L.length → (rowL L i).length ≤ 9223372036854775807) : ∃ a c, v = .slice a L.length c ∧ Mtx W a L.length L := by
 rcases h.top.2 with ⟨rfl, h0⟩ | ⟨g, cap, cur, rfl, hg, hh, hc, hcm, hcs, htake⟩
 ·exact ⟨none, 0, by rw [h0], ⟨rfl, hn, Or.inl h0⟩⟩
 ·refine ⟨some ⟨g, 0, none⟩, cap, rfl, ⟨rfl, hn, Or.inr ⟨g, 0, rfl, fun i hi => ?_⟩⟩⟩
  obtain ⟨u, h1, h2⟩ := h.row i hi
  obtain ⟨ra, rc, rfl, hI⟩ := ints_own rfl h2 (hr i hi)
  refine ⟨ra, rc, ?_, hI⟩
  rw [← htake, List.getElem?_take_of_lt (by omega)] at h1
  rw [Nat.zero_add]
  exact cell_of_block hh (by simpa using h1)
theorem own_types {W : World} {base base' : Nat} {e e' : TypeId} {s s' : Nat} {u v : Value} {n m : Nat} {xs ys : List Value} (hu : W.ownsRow base e s u n xs) (hv : W.ownsRow base' e' s' v m ys) (hne : e ≠ e') {g : Nat} (h : u.ownBlock = some g) : v.ownBlock ≠ some g := fun h' => by
 rcases hu.2 with ⟨rfl, -⟩ | ⟨g1, c1, cur1, rfl, -, h1, -⟩
 ·exact absurd h (by intro q; cases q)
 ·rcases hv.2 with ⟨rfl, -⟩ | ⟨g2, c2, cur2, rfl, -, h2, -⟩
  ·exact absurd h' (by intro q; cases q)
  ·have e1 : g1 = g := Option.some.inj h
   have e2 : g2 = g := Option.some.inj h'
   subst e1; subst e2
   rw [h1] at h2
   injection h2 with h3
   injection h3 with _ h4
   exact hne h4
theorem own_over {W W' : World} {base : Nat} {e : TypeId} {s : Nat} {u : Value} {n : Nat} {xs : List Value} {r : Option Nat} (h : W.ownsRow base e s u n xs) (hg : W.grownBy W' r) (hne : ∀ g, u.ownBlock = some g → r ≠ some g) : W'.ownsRow base e s u n xs := by
 refine ⟨h.1, ?_⟩
 rcases h.2 with h2 | ⟨g, cap, cur, hv, hg', hh, r'⟩
 ·exact Or.inl h2
 ·exact Or.inr ⟨g, cap, cur, hv, hg', (hg.block g (Array.getElem?_eq_some_iff.1 hh).1 (fun e => hne g (by rw [hv]; rfl) e.symm)).trans hh, r'⟩
theorem rowL_take {L : List (List Int)} {k i : Nat} (hi : i < k) : rowL (L.take k) i = rowL L i := by unfold rowL; rw [List.getElem?_take_of_lt hi]
set_option maxRecDepth 100000 in
theorem OwnM.snoc {W W2 W7 : World} {base k : Nat} {v v7 u : Value} {vs : List Value} {L : List (List Int)} {o : Obj} (h : OwnM W base v vs (L.take k)) (hk : k < L.length) (hb : Below W.heap.size W W2) (hu : W2.ownsRow W.heap.size 3 1 u (rowL L k).length (flatI (rowL L k))) (hbase : base ≤ W.heap.size)
    (hg : (W2.alloc o).grownBy W7 v.ownBlock) (hO : W7.ownsRow base 35 1 v7 (k + 1) (vs ++ [u])) : OwnM W7 base v7 (vs ++ [u]) (L.take (k + 1)) := by
 have hl : (L.take k).length = k := by rw [List.length_take]; omega
 have hl1 : (L.take (k + 1)).length = k + 1 := by rw [List.length_take]; omega
 have hvs : vs.length = k := by rw [h.len, hl]
 have htop := (ownsRow_below h.top hb (Nat.le_refl _)).alloc o
 have hu3 := hu.alloc o
 have hlast : (vs ++ [u])[k]? = some u := by rw [List.getElem?_append_right (by omega), hvs, Nat.sub_self]; rfl
 have hlow : ∀ i, i < k → (vs ++ [u])[i]? = vs[i]? := fun i hi => List.getElem?_append_left (by omega)
 have hout : ∀ i, k < i → (vs ++ [u])[i]? = none := fun i hi => List.getElem?_eq_none (by rw [List.length_append]; simp; omega)
 have hlt : ∀ i x g, i < k → vs[i]? = some x → x.ownBlock = some g → g < W.heap.size := fun i x g hi hx hxg => by
  obtain ⟨y, h1, h2⟩ := h.row i (by rw [hl]; exact hi)
  rw [hx] at h1
  cases h1
  exact (h2.lt g hxg).2
 refine ⟨by rw [List.length_append, hvs, hl1]; rfl, by rw [hl1]; exact hO, fun i hi => ?_, fun i j x y g hij hx hy hxg hyg => ?_⟩
 ·rw [hl1] at hi
  rw [rowL_take hi]
  by_cases e : i = k
  ·subst e
   exact ⟨u, hlast, ownsRow_base (own_over hu3 hg (fun g hg' => own_types hu3 htop (by decide) hg')) hbase⟩
  ·obtain ⟨x, h1, h2⟩ := h.row i (by rw [hl]; omega)
   rw [rowL_take (by omega)] at h2
   have h3 := (ownsRow_below h2 hb (Nat.le_refl _)).alloc o
   exact ⟨x, by rw [hlow i (by omega)]; exact h1, own_over h3 hg (fun g hg' => own_types h3 htop (by decide) hg')⟩
 ·rcases Nat.lt_trichotomy i k with q | q | q
  ·rw [hlow i q] at hx
   have h1 := hlt i x g q hx hxg
   rcases Nat.lt_trichotomy j k with r | r | r
   ·rw [hlow j r] at hy
    exact h.apart i j x y g hij hx hy hxg hyg
   ·subst r
    rw [hlast] at hy
    cases hy
    have := (hu.lt g hyg).1
    omega
   ·rw [hout j r] at hy; cases hy
  ·subst q
   rw [hlast] at hx
   cases hx
   have h1 := (hu.lt g hxg).1
   rcases Nat.lt_trichotomy j i with r | r | r
   ·rw [hlow j r] at hy
    have := hlt j y g r hy hyg
    omega
   ·exact hij r.symm
   ·rw [hout j r] at hy; cases hy
  ·rw [hout i q] at hx; cases hx
theorem OwnM.nil {W : World} {base : Nat} : OwnM W base (.slice none 0 0) [] [] := ⟨rfl, ⟨rfl, Or.inl ⟨rfl, rfl⟩⟩, fun i hi => absurd hi (Nat.not_lt_zero _), fun i j u u' g _ hu => by cases hu⟩
end Go.Proofs.Ytikjjpjekchcjaa.Asg
end
