/-
  TrkRk, TrkSk, TrkHp, TrkOne, PtAltP, TrkHo, AsgVa
-/
import Derived.Test.YtikjjpjekchcjaaPk11
import Derived.Test.YtikjjpjekchcjaaPk2
import Derived.Test.YtikjjpjekchcjaaPk10
section
namespace Go.Proofs.Ytikjjpjekchcjaa
open Go.RowKit TrkMath MyHeap MyOwn
structure TbR where
 par : Par
 now : Int
 next : Int
 tk : List Tk
def tbR0 : TbR := ⟨par0, 0, 0, []⟩
def cyR (p : Par) (now next : Int) (L : List Tk) (P : List Pl) : TbR := if cyE p now next L P = 0 then ⟨p, now + 1, cyX p next L P, cyT p next L P⟩ else tbR0
def cyW (p : Par) (now next : Int) (L : List Tk) (P : List Pl) : List Ev := if cyE p now next L P = 0 then cyV p next L P else []
theorem cyR_ok {p : Par} {now next : Int} {L : List Tk} {P : List Pl} (h : cyE p now next L P = 0) : cyR p now next L P = ⟨p, now + 1, cyX p next L P, cyT p next L P⟩ ∧ cyW p now next L P = cyV p next L P := ⟨if_pos h, if_pos h⟩
theorem cyR_bad {p : Par} {now next : Int} {L : List Tk} {P : List Pl} (h : cyE p now next L P ≠ 0) : cyR p now next L P = tbR0 ∧ cyW p now next L P = [] := ⟨if_neg h, if_neg h⟩
def CyPost (ty : TypeId) (R : TbR) (V : List Ev) (E : Int) (w : World) (e : Ending) (w' : World) : Prop :=
 ∃ tV eV M, e = .returned (.tuple #[tbV R.par R.now R.next tV, eV, .int .i64 E]) ∧ Lf w.heap.size [eV.ownBlock] tV M w' ∧ fsts M = R.tk ∧ w'.ownsRow w.heap.size ty 3 eV V.length (flatE V) ∧ Below w.heap.size w w'
theorem cyPost_bad {ty : TypeId} {R : TbR} {V : List Ev} {E : Int} {w w' : World} (hR : R = tbR0) (hV : V = []) (hB : Below w.heap.size w w') : CyPost ty R V E w (.returned (.tuple #[tbV par0 0 0 (.slice none 0 0), .slice none 0 0, .int .i64 E])) w' := by
 subst hR; subst hV
 exact ⟨_, _, [], rfl, Lf.nil _ _ _, rfl, ⟨rfl, Or.inl ⟨rfl, rfl⟩⟩, hB⟩
def LVk (P : List Pl) (k : Nat) : List Lv := (List.range P.length).map fun i => if i < k then lvOf (gp P i) else (0, 0)
theorem LVk_len (P : List Pl) (k : Nat) : (LVk P k).length = P.length := by unfold LVk; simp
theorem LVk_get (P : List Pl) (k i : Nat) (hi : i < P.length) : (LVk P k)[i]? = some (if i < k then lvOf (gp P i) else (0, 0)) := by
 unfold LVk
 rw [List.getElem?_map, List.getElem?_range hi]
 rfl
theorem LVk_none (P : List Pl) (k : Nat) (h : lvOf (gp P k) = (0, 0)) : LVk P (k + 1) = LVk P k := by
 unfold LVk
 refine List.map_congr_left fun i _ => ?_
 by_cases h1 : i < k
 ·rw [if_pos h1, if_pos (by omega)]
 ·rw [if_neg h1]
  by_cases h2 : i = k
  ·subst h2; rw [if_pos (by omega), h]
  ·rw [if_neg (by omega)]
theorem LVk_set (P : List Pl) (k : Nat) : LVk P (k + 1) = (LVk P k).set k (lvOf (gp P k)) := by
 apply List.ext_getElem?
 intro i
 rw [List.getElem?_set, LVk_len]
 by_cases hi : i < P.length
 ·rw [LVk_get _ _ _ hi, LVk_get _ _ _ hi]
  by_cases e : k = i
  ·subst e
   rw [if_pos rfl, if_pos hi, if_pos (by omega)]
  ·rw [if_neg e]
   by_cases h1 : i < k
   ·rw [if_pos h1, if_pos (by omega)]
   ·rw [if_neg h1, if_neg (by omega)]
 ·rw [List.getElem?_eq_none (by rw [LVk_len]; omega), List.getElem?_eq_none (by rw [LVk_len]; omega)]
  by_cases e : k = i
  ·subst e; rw [if_pos rfl, if_neg hi]
  ·rw [if_neg e]
theorem LVk_all (P : List Pl) : LVk P P.length = P.map lvOf := by
 apply List.ext_getElem?
 intro i
 by_cases hi : i < P.length
 ·rw [LVk_get _ _ _ hi, if_pos hi, List.getElem?_map]
  unfold gp
  rw [List.getElem?_eq_getElem hi]
  rfl
 ·rw [List.getElem?_eq_none (by rw [LVk_len]; omega), List.getElem?_eq_none (by rw [List.length_map]; omega)]
theorem flat2_set : ∀ (l : List Lv) (k : Nat) (a b : Int), k < l.length → flat2 (l.set k (a, b)) = ((flat2 l).set (k * 2) (.int .i64 a)).set (k * 2 + 1) (.int .i64 b) := by
 intro l
 induction l with
 | nil => intro k a b h; exact absurd h (Nat.not_lt_zero _)
 | cons x l ih =>
  intro k a b h
  cases k with
  | zero => rfl
  | succ k =>
   have e : (k + 1) * 2 = k * 2 + 2 := by omega
   rw [e]
   show _ :: _ :: flat2 (l.set k (a, b)) = _
   rw [ih k a b (by simpa using h)]
   rfl
theorem LvAt.set {g : Nat} {LV : List Lv} {w : World} (h : LvAt g LV w) {k : Nat} (hk : k < LV.length) (a b : Int) : LvAt g (LV.set k (a, b)) ((w.setCell ⟨g, k * 2, none⟩ (.int .i64 a)).setCell ⟨g, k * 2 + 1, none⟩ (.int .i64 b)) := by
 obtain ⟨cs, h1, h2⟩ := h
 refine ⟨_, block_setCell (block_setCell h1), ?_⟩
 rw [flat2_set _ _ _ _ hk, ← h2, Array.toList_setIfInBounds, Array.toList_setIfInBounds]
theorem LvAt.free {g k : Nat} {LV : List Lv} {w : World} (h : LvAt g LV w) : w.frozen? ⟨g, k, none⟩ = false ∧ g < w.heap.size := by
 obtain ⟨cs, h1, -⟩ := h
 exact ⟨free_of_block h1, lt_of_block h1⟩
theorem infoLv : (Try.prog.info? 84).map (fun i => (i.zero, i.size, i.bytes)) = some (some (.agg #[.int .i64 0, .int .i64 0]), 2, 16) := by kernel_rfl
theorem hmkL (n : Nat) (hn : n ≤ 1000000) (W : World) : (Instr.makeSlice 77 (.int .i64 (n : Int)) (.int .i64 (n : Int))).run Try.prog W = .ok (.slice (some ⟨W.heap.size, 0, none⟩) n n) (W.alloc (.cells (madeCells #[.int .i64 0, .int .i64 0] (n * 2)) 84)) := by
 obtain ⟨i0, hi, hiz, his, hib⟩ := info_pts infoLv
 have h := run_make W 77 84 i0 _ Try.underlying77 hi hiz .i64 .i64 (n : Int) (n : Int) (by omega) (by omega) (by rw [hib]; omega) (by omega)
 rw [Int.toNat_natCast, his] at h
 exact h
theorem lv_made (P : List Pl) (n : Nat) (hn : P.length = n) (w : World) : LvAt w.heap.size (LVk P 0) (w.alloc (.cells (madeCells #[.int .i64 0, .int .i64 0] (n * 2)) 84)) := by
 refine ⟨_, block_new _ _ rfl, ?_⟩
 have h1 : ∀ l : List Lv, (∀ x ∈ l, x = (0, 0)) → flat2 l = List.replicate (l.length * 2) (.int .i64 0) := by
  intro l
  induction l with
  | nil => intro _; rfl
  | cons x l ih =>
   intro h
   have hx := h x List.mem_cons_self
   subst hx
   show _ :: _ :: flat2 l = _
   rw [ih (fun y hy => h y (List.mem_cons_of_mem _ hy)), show (((0 : Int), (0 : Int)) :: l).length * 2 = l.length * 2 + 1 + 1 from by simp; omega, List.replicate_succ, List.replicate_succ]
 rw [h1 _ (fun x hx => by
  unfold LVk at hx
  obtain ⟨i, -, rfl⟩ := List.mem_map.1 hx
  rw [if_neg (Nat.not_lt_zero _)]), LVk_len, hn]
 apply List.ext_getElem?
 intro i
 by_cases hi : i < n * 2
 ·rw [List.getElem?_replicate, if_pos hi]
  simp [madeCells, hi]
  rcases Nat.mod_two_eq_zero_or_one i with e | e <;> simp [e]
 ·rw [List.getElem?_eq_none (by simp [madeCells]; omega), List.getElem?_eq_none (by simp; omega)]
end Go.Proofs.Ytikjjpjekchcjaa
end
section
namespace Go.Proofs.Ytikjjpjekchcjaa
open Go.RowKit TrkMath MyHeap MyOwn
structure TbI (W : World) (a : Option Addr) (n : Nat) (M : List TB) : Prop where
 T : Trs W a n M
 B : ∀ k, k < n → BdI W (gt M k)
theorem TbI.below {W W' : World} {a : Option Addr} {n : Nat} {M : List TB} (h : TbI W a n M) (hb : Below W.heap.size W W') : TbI W' a n M := ⟨h.T.below hb, fun k hk => (h.B k hk).below hb⟩
theorem TbI.nil (W : World) (a : Option Addr) : TbI W a 0 [] := ⟨trs_nil W a, fun _ hk => absurd hk (Nat.not_lt_zero _)⟩
theorem Lf.tbI {base : Nat} {X : List (Option Nat)} {v : Value} {M : List TB} {W : World} (h : Lf base X v M W) (hm : M.length ≤ 9223372036854775807) : ∃ a c, v = .slice a M.length c ∧ TbI W a M.length M := by
 obtain ⟨a, c, e, hT⟩ := trs_own h.row hm
 exact ⟨a, c, e, hT, fun k hk => (h.bd k hk).I⟩
def ev0 : Ev := ⟨0, 0, 0⟩
def ge (V : List Ev) (k : Nat) : Ev := V[k]?.getD ev0
structure EvI (W : World) (a : Option Addr) (n : Nat) (V : List Ev) : Prop where
 len : V.length = n
 cells : n = 0 ∨ ∃ b off, a = some ⟨b, off, none⟩ ∧ ∀ i, i < n → W.cell? ⟨b, off + i * 3, none⟩ = some (.int .u8 (ge V i).kind) ∧ W.cell? ⟨b, off + i * 3 + 1, none⟩ = some (.int .i64 (ge V i).id) ∧ W.cell? ⟨b, off + i * 3 + 2, none⟩ = some (.int .i64 (ge V i).plot)
theorem EvI.below {W W' : World} {a : Option Addr} {n : Nat} {V : List Ev} (h : EvI W a n V) (hb : Below W.heap.size W W') : EvI W' a n V := by
 refine ⟨h.len, ?_⟩
 rcases h.cells with h0 | ⟨b, off, e, hc⟩
 ·exact Or.inl h0
 ·exact Or.inr ⟨b, off, e, fun i hi => ⟨keep1 hb (hc i hi).1, keep1 hb (hc i hi).2.1, keep1 hb (hc i hi).2.2⟩⟩
theorem evi_at {W : World} {a : Option Addr} {n : Nat} {V : List Ev} (h : EvI W a n V) {k : Nat} (hk : k < n) : ∃ b off, a = some ⟨b, off, none⟩ ∧ W.cell? ⟨b, off + k * 3, none⟩ = some (.int .u8 (ge V k).kind) ∧ W.cell? ⟨b, off + k * 3 + 1, none⟩ = some (.int .i64 (ge V k).id) ∧ W.cell? ⟨b, off + k * 3 + 2, none⟩ = some (.int .i64 (ge V k).plot) := by
 rcases h.cells with h0 | ⟨b, off, e, hc⟩
 ·omega
 ·exact ⟨b, off, e, hc k hk⟩
theorem flatE_get (V : List Ev) (i : Nat) (hi : i < V.length) : (flatE V)[i * 3]? = some (.int .u8 (ge V i).kind) ∧ (flatE V)[i * 3 + 1]? = some (.int .i64 (ge V i).id) ∧ (flatE V)[i * 3 + 2]? = some (.int .i64 (ge V i).plot) := by
 induction V generalizing i with
 | nil => exact absurd hi (Nat.not_lt_zero _)
 | cons x V ih =>
  have e : flatE (x :: V) = .int .u8 x.kind :: .int .i64 x.id :: .int .i64 x.plot :: flatE V := rfl
  cases i with
  | zero => rw [e]; exact ⟨rfl, rfl, rfl⟩
  | succ i =>
   have h := ih i (by simpa using hi)
   rw [e, show (i + 1) * 3 = i * 3 + 1 + 1 + 1 by omega]
   simpa [ge] using h
theorem evi_own {w : World} {base : Nat} {e : TypeId} {v : Value} {V : List Ev} (h : w.ownsRow base e 3 v V.length (flatE V)) : ∃ a c, v = .slice a V.length c ∧ EvI w a V.length V := by
 rcases h.2 with ⟨rfl, h0⟩ | ⟨g, cap, cur, rfl, hg, hh, hc, hcm, hcs, htake⟩
 ·exact ⟨none, 0, by rw [h0], rfl, Or.inl h0⟩
 ·refine ⟨some ⟨g, 0, none⟩, cap, rfl, rfl, Or.inr ⟨g, 0, rfl, fun i hi => ?_⟩⟩
  obtain ⟨h1, h2, h3⟩ := flatE_get V i hi
  rw [← htake, List.getElem?_take_of_lt (by omega)] at h1 h2 h3
  rw [Nat.zero_add]
  exact ⟨cell_of_block hh (by simpa using h1), cell_of_block hh (by simpa using h2), cell_of_block hh (by simpa using h3)⟩
def CyI (R : TbR) (V : List Ev) (E : Int) (w : World) (e : Ending) (w' : World) : Prop :=
 ∃ a c ea ec M, e = .returned (.tuple #[tbV R.par R.now R.next (.slice a M.length c), .slice ea V.length ec, .int .i64 E]) ∧ TbI w' a M.length M ∧ fsts M = R.tk ∧ EvI w' ea V.length V ∧ Below w.heap.size w w'
theorem CyPost.I {ty : TypeId} {R : TbR} {V : List Ev} {E : Int} {w w' : World} {e : Ending} (h : CyPost ty R V E w e w') (hm : R.tk.length ≤ 1000) : CyI R V E w e w' := by
 obtain ⟨tV, eV, M, rfl, hL, hM, hE, hB⟩ := h
 obtain ⟨a, c, rfl, hI⟩ := hL.tbI (by rw [← hM, fsts_len] at hm; omega)
 obtain ⟨ea, ec, rfl, hEv⟩ := evi_own hE
 exact ⟨a, c, ea, ec, M, rfl, hI, hM, hEv, hB⟩
def fdE (p : Par) (now next : Int) (L : List Tk) (id : Int) : Int := if ckE p now next L ≠ 0 then ckE p now next L else if (L.find? fun t => t.id == id).isSome then 0 else 9
def fdT (p : Par) (now next : Int) (L : List Tk) (id : Int) : Tk := if fdE p now next L id = 0 then (L.find? fun t => t.id == id).getD tk0 else tk0
theorem fdE_ck {p : Par} {now next : Int} {L : List Tk} {id : Int} (h : ckE p now next L ≠ 0) : fdE p now next L id = ckE p now next L ∧ fdT p now next L id = tk0 := by
 have e : fdE p now next L id = ckE p now next L := if_pos h
 exact ⟨e, if_neg (by rw [e]; exact h)⟩
theorem fdE_no {p : Par} {now next : Int} {L : List Tk} {id : Int} (h : ckE p now next L = 0) (hn : ∀ k, k < L.length → (gk L k).id ≠ id) : fdE p now next L id = 9 ∧ fdT p now next L id = tk0 := by
 have hf : L.find? (fun t => t.id == id) = none := List.find?_eq_none.2 fun t ht => by
  obtain ⟨k, hk, rfl⟩ := List.getElem_of_mem ht
  have := hn k hk
  unfold gk at this
  rw [List.getElem?_eq_getElem hk, Option.getD_some] at this
  simpa using this
 have e : fdE p now next L id = 9 := by unfold fdE; rw [if_neg (fun e => e h), hf]; rfl
 exact ⟨e, if_neg (by rw [e]; decide)⟩
theorem find_first {L : List Tk} {id : Int} {k : Nat} (hk : k < L.length) (h : (gk L k).id = id) (hn : ∀ i, i < k → (gk L i).id ≠ id) : L.find? (fun t => t.id == id) = some (gk L k) := by
 induction L generalizing k with
 | nil => exact absurd hk (Nat.not_lt_zero _)
 | cons t L ih =>
  cases k with
  | zero =>
   have : t.id = id := h
   simp [this, gk]
  | succ k =>
   have h0 : t.id ≠ id := hn 0 (by omega)
   rw [List.find?_cons_of_neg (by simpa using h0)]
   exact ih (by simpa using hk) h (fun i hi => hn (i + 1) (by omega))
theorem fdE_yes {p : Par} {now next : Int} {L : List Tk} {id : Int} {k : Nat} (h : ckE p now next L = 0) (hk : k < L.length) (he : (gk L k).id = id) (hn : ∀ i, i < k → (gk L i).id ≠ id) : fdE p now next L id = 0 ∧ fdT p now next L id = gk L k := by
 have hf := find_first hk he hn
 have e : fdE p now next L id = 0 := by unfold fdE; rw [if_neg (fun e => e h), hf]; rfl
 exact ⟨e, by unfold fdT; rw [if_pos e, hf]; rfl⟩
theorem gk_fsts' (L : List TB) (k : Nat) : gk (fsts L) k = (gt L k).1 := fsts_get L k
def FdPost (t : Tk) (E : Int) (w : World) (e : Ending) (w' : World) : Prop := ∃ s : Bs, e = .returned (.tuple #[tkV (t, s), .int .i64 E]) ∧ BdX w.heap.size [] w' (t, s) ∧ Below w.heap.size w w'
theorem bdx_nil (B : Nat) (X : List (Option Nat)) (w : World) : BdX B X w (tk0, bs0) := ⟨⟨rfl, by decide, Or.inl rfl⟩, ⟨rfl, by decide, Or.inl rfl⟩, fun g e => (by cases e), fun g e => (by cases e)⟩
end Go.Proofs.Ytikjjpjekchcjaa
end
section
namespace Go.Proofs.Ytikjjpjekchcjaa
open Go.RowKit TrkMath MyHeap MyOwn
def BoolB (b : Bool) (w : World) (e : Ending) (w' : World) : Prop := e = .returned (.bool b) ∧ Below w.heap.size w w'
set_option maxRecDepth 100000 in
set_option maxHeartbeats 4000000 in
theorem happened_yes (a d : Option Addr) (n c m : Nat) (V : List Ev) (w : World) (hV : EvI w a n V) (hW : EvI w d n V) (hn : n ≤ 1000) :
    Calls Try.prog 21 #[.slice a n c, .slice d n m] w (BoolB true w) := by
 have HV := Lib.hid hV
 have HW := Lib.hid hW
 clear hV hW
 go_enter Try.func21, Try.ntmps21
 go_wp2_with fail
 go_loopw [4, 5] (fun v4 kv wr => ∃ k : Nat, k ≤ n ∧ v4 = .bool false ∧ kv = .int .i64 k ∧ Below w.heap.size w wr) (fun _ kv _ => n - (intOf kv).toNat)
 case atStart => exact ⟨0, by omega, rfl, rfl, Below.refl _ _⟩
 case round =>
  obtain ⟨k, hk, rfl, rfl, hB⟩ := hrel
  have B := Lib.hid hB
  by_cases hlt : k < n
  ·obtain ⟨b, off, rfl, x0, x1, x2⟩ := evi_at (HV.out.below hB) hlt
   obtain ⟨b2, off2, rfl, y0, y1, y2⟩ := evi_at (HW.out.below hB) hlt
   have xl := World.block_lt_of_cell? _ _ x0
   have yl := World.block_lt_of_cell? _ _ y0
   have hk0 : (0 : Int) ≤ (k : Int) := by omega
   have hk1 : (k : Int) < (n : Int) := by omega
   have hkw : IntKind.i64.wrap ((k : Int) + 1) = ((k + 1 : Nat) : Int) := by rw [IntWalk.i64_in _ (by omega)]; omega
   have HLt := Lib.hid hlt
   obtain ⟨⟨ek, ei, ep⟩, he⟩ : ∃ x, ge V k = x := ⟨_, rfl⟩
   rw [he] at x0 x1 x2 y0 y1 y2
   simp only [] at x0 x1 x2 y0 y1 y2
   clear hB hlt he
   go_wp2_with fail
   go_quiet (fail)
   go_wp2_with fail
   refine ⟨⟨k + 1, HLt.out, rfl, by go_num, B.out.trans ((below_drewN (Below.refl _ _) nq).mono B.out.size)⟩, by simp [intOf]; have := HLt.out; omega⟩
  ·obtain rfl : n = k := by omega
   clear hB
   go_wp2_with fail
   go_ret
   exact ⟨rfl, B.out⟩
end Go.Proofs.Ytikjjpjekchcjaa
end
section
namespace TrkMath
open AltMath GrayMath AsgMath
theorem none_best {c : Nat → Nat → Int} {n m : Nat} (h : ∀ i k, i < n → k < m → c i k < 0) : ∀ (r : Nat) (T : Nat → Bool), r ≤ n → bestL c n m r T = []
 | 0, _, _ => rfl
 | r + 1, T, hr => by
  rw [(bestL_skip (firstK_no (fun j hj => ?_))).1, none_best h r T (by omega)]
  cases hb : takeB c n m r T j with
  | false => rfl
  | true =>
   have := (takeB_iff.1 hb).1.1
   have := h (n - (r + 1)) j (by omega) hj
   omega
theorem prsV_none {p : Par} {L : List Tk} {P : List Pl} (h : ∀ i k, i < L.length → k < P.length → costV p (gk L i) (gp P k) (lvOf (gp P k)) < 0) : prsV p L P = [] := by
 unfold prsV
 by_cases h0 : 0 < L.length
 ·refine none_best (fun i k hi hk => ?_) _ _ (Nat.le_refl _)
  rw [rowsV_len] at hi
  rw [rowsV_wid h0] at hk
  rw [rowsV_ent hi hk]
  exact h i k hi hk
 ·have : L = [] := List.length_eq_zero_iff.1 (by omega)
  subst this
  rfl
theorem prsV_one {p : Par} {t : Tk} {y : Pl} (hp : ParOk p) (h : 0 ≤ costV p t y (lvOf y)) : prsV p [t] [y] = [(0, 0)] := by
 have hx : AsgRows.ent (rowsV p [t] [y]) 0 0 = costV p t y (lvOf y) := rowsV_ent (by simp) (by simp)
 have hw : AsgRows.wid (rowsV p [t] [y]) = 1 := rowsV_wid (by simp)
 have hl : (rowsV p [t] [y]).length = 1 := rowsV_len _ _ _
 have hhi := costV_hi hp t y (lvOf y)
 unfold prsV
 rw [hw, hl]
 obtain ⟨c, hc⟩ : ∃ c, AsgRows.ent (rowsV p [t] [y]) = c := ⟨_, rfl⟩
 obtain ⟨x, hxe⟩ : ∃ x, costV p t y (lvOf y) = x := ⟨_, rfl⟩
 rw [hc] at hx ⊢
 rw [hxe] at hx h hhi
 have hf : firstK (takeB c 1 1 0 (fun _ => false)) 1 = some 0 := by
  refine firstK_of (by decide) ?_ (fun j hj => absurd hj (Nat.not_lt_zero _))
  rw [takeB_iff]
  refine ⟨⟨by rw [hx]; exact h, rfl⟩, ?_⟩
  have ho : okB c (fun _ => false) 0 0 = true := okB_iff.2 ⟨by rw [hx]; exact h, rfl⟩
  simp only [V, bestK, Nat.sub_self, Nat.zero_add, ho, if_true, hx]
  omega
 rw [bestL_take hf]
 rfl
/-! ### bands with a truth -/
theorem in_some {lo hi : List Int} (h : chB lo hi = 0) {z v : Int} (hin : inB lo hi z v) : emptyB lo hi = false := by
 unfold emptyB
 rw [(in_spread h hin).1]
 decide
theorem ch_stp (p : Par) (t : Tk) : chB (stpT p t).lo (stpT p t).hi = 0 := ch_st
theorem in_stp {p : Par} {t : Tk} (hp : ParOk p) (h : chB t.lo t.hi = 0) {z v z' v' : Int} (hin : inB t.lo t.hi z v) (hz : z' = z + v) (z1 : -1000 ≤ z') (z2 : z' ≤ 50000) (v1 : -100 ≤ v') (v2 : v' ≤ 100) (d1 : v' - v ≤ p.pull) (d2 : v - v' ≤ p.pull) : inB (stpT p t).lo (stpT p t).hi z' v' := by
 have hq := hp.2.2.2.1
 exact in_step h hin hz z1 z2 v1 v2 (by omega) (by omega)
theorem in_stpS {p : Par} {t : Tk} (hp : ParOk p) (h : chB t.lo t.hi = 0) {z : Int} (hin : inB t.lo t.hi z 0) (z1 : -1000 ≤ z) (z2 : z ≤ 50000) : inB (stpT p t).lo (stpT p t).hi z 0 :=
 in_stp hp h hin (by omega) z1 z2 (by decide) (by decide) (by have := hp.2.2.2.1; omega) (by have := hp.2.2.2.1; omega)
/-! ### small tables -/
theorem cyS_nil (p : Par) : cyS p [] = ([], []) := rfl
theorem cyS_one {p : Par} {t : Tk} (h : emptyB (stpT p t).lo (stpT p t).hi = false) : cyS p [t] = ([stpT p t], []) := by
 show stpA p [t] 1 = _
 rw [stpA_some (show emptyB (stpT p (gk [t] 0)).lo (stpT p (gk [t] 0)).hi = false from h)]
 rfl
theorem cyP_nil (p : Par) (P : List Pl) : cyP p [] P = [] := rfl
theorem cyU_nil (p : Par) (P : List Pl) : cyU p [] P = ([], []) := rfl
theorem cyN_nil0 (p : Par) (next : Int) : cyN p next [] [] = ⟨[], [], next⟩ := rfl
theorem cyN_nil_no {p : Par} {next : Int} {y : Pl} (h : ¬ 0 < (lvOf y).2) : cyN p next [] [y] = ⟨[], [], next⟩ := by
 show staA p [y] (usB []) [] next 1 = _
 rw [staA_skip (P := [y]) (k := 0) (Or.inr (Or.inl (show ¬ 0 < (lvOf y).2 from h)))]
 rfl
theorem cyN_nil_yes {p : Par} {next : Int} {y : Pl} (h : 0 < (lvOf y).2) : cyN p next [] [y] = ⟨[newT p next y (lvOf y)], [⟨5, next, 0⟩], next + 1⟩ := by
 show staA p [y] (usB []) [] next 1 = _
 rw [staA_go (fun e => by
  rcases e with e | e | e
  ·cases e
  ·exact e h
  ·exact absurd e (by simp [staA]))]
 rfl
theorem cyP_mis {p : Par} {t : Tk} (h : emptyB (stpT p t).lo (stpT p t).hi = false) : cyP p [t] [] = [] := by
 unfold cyP
 rw [cyS_one h]
 exact prsV_none fun i k _ hk => absurd hk (Nat.not_lt_zero _)
theorem cyU_mis {p : Par} {t : Tk} (h : emptyB (stpT p t).lo (stpT p t).hi = false) : cyU p [t] [] = (updT1 p [] (stpT p t) none, updE1 p (stpT p t) none) := by
 unfold cyU
 rw [cyP_mis h, cyS_one h]
 rfl
theorem cy_mis {p : Par} {next : Int} {t : Tk} (h : emptyB (stpT p t).lo (stpT p t).hi = false) : cyT p next [t] [] = updT1 p [] (stpT p t) none ∧ cyV p next [t] [] = updE1 p (stpT p t) none ∧ cyX p next [t] [] = next := by
 have hN : cyN p next [t] [] = ⟨updT1 p [] (stpT p t) none, [], next⟩ := by
  unfold cyN
  rw [cyU_mis h]
  rfl
 refine ⟨by unfold cyT; rw [hN], ?_, by unfold cyX; rw [hN]⟩
 unfold cyV
 rw [hN, cyU_mis h, cyS_one h]
 simp
theorem cyP_hit {p : Par} {t : Tk} {y : Pl} (hp : ParOk p) (h : emptyB (stpT p t).lo (stpT p t).hi = false) (hc : 0 ≤ costV p (stpT p t) y (lvOf y)) : cyP p [t] [y] = [(0, 0)] := by
 unfold cyP
 rw [cyS_one h]
 exact prsV_one hp hc
theorem cyU_hit {p : Par} {t : Tk} {y : Pl} (hp : ParOk p) (h : emptyB (stpT p t).lo (stpT p t).hi = false) (hc : 0 ≤ costV p (stpT p t) y (lvOf y)) : cyU p [t] [y] = ([updT p (stpT p t) y (lvOf y)], updE1 p (stpT p t) (some 0)) := by
 unfold cyU
 rw [cyP_hit hp h hc, cyS_one h]
 rfl
theorem cy_hit {p : Par} {next : Int} {t : Tk} {y : Pl} (hp : ParOk p) (h : emptyB (stpT p t).lo (stpT p t).hi = false) (hc : 0 ≤ costV p (stpT p t) y (lvOf y)) : cyT p next [t] [y] = [updT p (stpT p t) y (lvOf y)] ∧ cyV p next [t] [y] = updE1 p (stpT p t) (some 0) ∧ cyX p next [t] [y] = next := by
 have hN : cyN p next [t] [y] = ⟨[updT p (stpT p t) y (lvOf y)], [], next⟩ := by
  unfold cyN
  rw [cyU_hit hp h hc, cyP_hit hp h hc]
  show staA p [y] (usB [(0, 0)]) _ next 1 = _
  rw [staA_skip (Or.inl rfl)]
  rfl
 refine ⟨by unfold cyT; rw [hN], ?_, by unfold cyX; rw [hN]⟩
 unfold cyV
 rw [hN, cyU_hit hp h hc, cyS_one h]
 simp
theorem ckE_nil {p : Par} {now next : Int} (hp : ParOk p) (h1 : 0 ≤ now ∧ now ≤ 1073741824) (h2 : 0 ≤ next ∧ next ≤ 1073741824) : ckE p now next [] = 0 := by
 rw [ckE_list (headNot ⟨hp, h1, h2⟩) (by decide)]
 rfl
theorem ckE_one {p : Par} {now next : Int} {t : Tk} (hp : ParOk p) (h1 : 0 ≤ now ∧ now ≤ 1073741824) (h2 : 0 ≤ next ∧ next ≤ 1073741824) (h3 : 0 ≤ t.id ∧ t.id < next) (h : TkOk p t) : ckE p now next [t] = 0 := by
 rw [ckE_list (headNot ⟨hp, h1, h2⟩) (by simp)]
 refine ckL_of (fun k hk => ?_) (fun j k hj hk => ?_)
 ·have : k = 0 := by simpa using hk
  subst this
  have e : gk [t] 0 = t := rfl
  rw [e]
  exact ⟨by omega, h3.2, h⟩
 ·have : k = 0 := by simpa using hk
  omega
theorem cyE_of {p : Par} {now next : Int} {L : List Tk} {P : List Pl} (h : ckE p now next L = 0) (h1 : now < 1073741824) (h2 : next ≤ 1073741808) (hP : P.length ≤ 16) (hp : plsE P = 0) : cyE p now next L P = 0 := by
 rw [cyE_pls h (by omega) (by omega)]
 exact hp
theorem TkOk.new {p : Par} {id : Int} {y : Pl} (hp : ParOk p) (hy : plE y = 0) (hc : 0 ≤ y.code) : TkOk p (newT p id y (lvOf y)) := by
 have hb := (plE_zero hy).1
 have hr : 0 ≤ y.r ∧ y.r ≤ 8192 := Decidable.not_not.1 fun e => hb (Or.inl e)
 have hm := lvOf_ok hy ((lvOf_pos hy).2 hc)
 have hne : nwE y.r = 0 := if_neg (by omega)
 have hrg : nwX y.r = ⟨256 * y.r, 0, 1⟩ := if_pos hne
 have hm3 := meE_zero hm
 have hch : chB (loK (neF (lvOf y).1 (lvOf y).2) 201) (hiK (neF (lvOf y).1 (lvOf y).2) 201) = 0 := ch_nm fun i _ => by
  unfold neF
  dsimp only
  omega
 refine ⟨Decidable.not_not.1 fun e => hb (Or.inr (Or.inr e)), ?_, show (1 : Int) ≤ 1 ∧ (1 : Int) ≤ 1073741824 by decide, ?_, ?_, hch, ?_⟩
 ·show rgE (nwX y.r) = 0
  rw [hrg]
  refine rgE_ok ?_
  unfold rgBad
  dsimp only
  omega
 ·exact ⟨Int.le_refl _, by have h := hp.2.2.1; show 0 ≤ p.most - 1; omega⟩
 ·show decide (p.need = 1) = decide (p.need ≤ 1)
  congr 1
  exact propext ⟨fun e => by omega, fun e => by have := hp.2.1; omega⟩
 ·exact in_some hch (in_new (z := (lvOf y).1) (v := 0) (by decide) (Int.le_refl _) (by omega) (by omega))
theorem one_gone {p : Par} {P : List Pl} {t : Tk} (h : p.most ≤ t.misses + 1) : updT1 p P t none = [] ∧ updE1 p t none = [⟨4, t.id, -1⟩] := ⟨if_pos h, if_pos h⟩
theorem one_mis {p : Par} {P : List Pl} {t : Tk} (h : ¬ p.most ≤ t.misses + 1) : updT1 p P t none = [misT t] ∧ updE1 p t none = [⟨3, t.id, -1⟩] := ⟨if_neg h, if_neg h⟩
theorem updE1_two {p : Par} {t : Tk} {k : Nat} (h : t.firm = false) (h2 : p.need ≤ hit1 t) : updE1 p t (some k) = [⟨1, t.id, k⟩, ⟨2, t.id, k⟩] := if_pos ⟨h, h2⟩
/-! ### the chapter's examples -/
def pG : Par := ⟨8, 2, 3, 4⟩
theorem pG_ok : ParOk pG := by unfold ParOk pG; decide
def y1 : Pl := ⟨100, 4156, -1⟩
def y2 : Pl := ⟨107, -1, 9⟩
def y3 : Pl := ⟨5, -1, 3⟩
theorem lv1 : lvOf y1 = (0, 25) := by kernel_rfl
theorem lv2 : lvOf y2 = (0, 0) := by kernel_rfl
theorem lv3 : lvOf y3 = (0, 0) := by kernel_rfl
theorem pe1 : plE y1 = 0 := by kernel_rfl
theorem pe2 : plE y2 = 0 := by kernel_rfl
theorem pe3 : plE y3 = 0 := by kernel_rfl
def t1 : Tk := newT pG 0 y1 (0, 25)
def u1 : Tk := stpT pG t1
def t2 : Tk := updT pG u1 y2 (0, 0)
def u2 : Tk := stpT pG t2
def t3 : Tk := misT u2
def u3 : Tk := stpT pG t3
def t4 : Tk := misT u3
def u4 : Tk := stpT pG t4
structure Aw (t : Tk) : Prop where
 ok : TkOk pG t
 it : inB t.lo t.hi 0 0
theorem Aw.stp {t : Tk} (h : Aw t) : emptyB (stpT pG t).lo (stpT pG t).hi = false ∧ Aw (stpT pG t) := by
 have hi := in_stpS pG_ok h.ok.ch h.it (by decide) (by decide)
 have he := in_some (ch_stp pG t) hi
 exact ⟨he, h.ok.stp he, hi⟩
theorem aw1 : Aw t1 := by
 have h := TkOk.new (id := 0) pG_ok pe1 (by decide)
 rw [lv1] at h
 exact ⟨h, in_new (by decide) (by decide) (by decide) (by decide)⟩
theorem prV1 : prV ⟨25600, 0, 1⟩ 1 = 25600 := by kernel_rfl
theorem off1 : offV u1 y2 = 1792 := by
 show max (256 * 107 - prV ⟨25600, 0, 1⟩ (0 + 1)) (-(256 * 107 - prV ⟨25600, 0, 1⟩ (0 + 1))) = 1792
 rw [show (0 : Int) + 1 = 1 from rfl, prV1]
 decide
theorem cost1 : costV pG u1 y2 (lvOf y2) = 67328 := by
 have hb : ¬ bothB u1 y2 := fun e => absurd e.1 (by show ¬ (0 : Int) ≤ -1; decide)
 have hf : ¬ farB pG u1 y2 := by
  rintro (e | e)
  ·rw [off1] at e; exact absurd e (by show ¬ (256 * 8 : Int) < 1792; decide)
  ·exact hb e.1
 have hm := mea_no (lo := u1.lo) (hi := u1.hi) (l := lvOf y2) (by rw [lv2]; decide)
 rw [costV_one hf (by rw [hm.1, hm.2]; exact aw1.stp.1) hb, off1]
 decide
theorem upx1 : upX ⟨25600, 0, 1⟩ 107 1 = ⟨27392, 1792, 2⟩ := by kernel_rfl
theorem t2_eq : t2 = ⟨0, 9, ⟨27392, 1792, 2⟩, u1.lo, u1.hi, 2, 0, true⟩ := by
 have hm := mea_no (lo := u1.lo) (hi := u1.hi) (l := ((0 : Int), (0 : Int))) (by decide)
 unfold t2 updT
 rw [hm.1, hm.2]
 show Tk.mk 0 (if (-1 : Int) < 0 then 9 else -1) (upX ⟨25600, 0, 1⟩ 107 (0 + 1)) _ _ _ _ _ = _
 rw [show (0 : Int) + 1 = 1 from rfl, upx1]
 rfl
theorem aw2 : Aw t2 := by
 have h := aw1.stp.2
 rw [t2_eq]
 exact ⟨⟨by decide, by decide, by decide, by decide, by decide, h.ok.ch, h.ok.some⟩, h.it⟩
theorem t3_eq : t3 = { u2 with misses := 1 } := rfl
theorem mis2 : u2.misses = 0 ∧ u2.id = 0 := by
 have e : u2.misses = t2.misses ∧ u2.id = t2.id := ⟨rfl, rfl⟩
 rw [e.1, e.2, t2_eq]
 exact ⟨rfl, rfl⟩
theorem Aw.mis {t : Tk} (h : Aw t) (hm : t.misses + 1 ≤ 2) : Aw (misT t) :=
 ⟨⟨h.ok.addr, h.ok.rg, h.ok.hits, ⟨by have := h.ok.mis; show 0 ≤ t.misses + 1; omega, by show t.misses + 1 ≤ 3 - 1; omega⟩, h.ok.firm, h.ok.ch, h.ok.some⟩, h.it⟩
theorem aw3 : Aw t3 := aw2.stp.2.mis (by have h : (stpT pG t2).misses = 0 := mis2.1; omega)
theorem stp_mis (p : Par) (t : Tk) : (stpT p t).misses = t.misses ∧ (stpT p t).id = t.id := ⟨rfl, rfl⟩
theorem misT_mis (t : Tk) : (misT t).misses = t.misses + 1 ∧ (misT t).id = t.id := ⟨rfl, rfl⟩
theorem mis3 : u3.misses = 1 ∧ u3.id = 0 := by
 unfold u3 t3
 rw [(stp_mis _ _).1, (stp_mis _ _).2, (misT_mis _).1, (misT_mis _).2, mis2.1, mis2.2]
 exact ⟨rfl, rfl⟩
theorem aw4 : Aw t4 := aw3.stp.2.mis (by have h : (stpT pG t3).misses = 1 := mis3.1; omega)
theorem mis4 : u4.misses = 2 ∧ u4.id = 0 := by
 unfold u4 t4
 rw [(stp_mis _ _).1, (stp_mis _ _).2, (misT_mis _).1, (misT_mis _).2, mis3.1, mis3.2]
 exact ⟨rfl, rfl⟩
theorem Aw.ck {t : Tk} (h : Aw t) (hid : t.id = 0) {now : Int} (hn : 0 ≤ now ∧ now ≤ 10) : ckE pG now 1 [t] = 0 :=
 ckE_one pG_ok (by omega) (by decide) (by rw [hid]; decide) h.ok
theorem id2 : t2.id = 0 := by rw [t2_eq]
theorem ex1 : cyE pG 0 0 [] [y1] = 0 ∧ cyT pG 0 [] [y1] = [t1] ∧ cyV pG 0 [] [y1] = [⟨5, 0, 0⟩] ∧ cyX pG 0 [] [y1] = 1 := by
 have hN := cyN_nil_yes (p := pG) (next := 0) (y := y1) (by rw [lv1]; decide)
 refine ⟨cyE_of (ckE_nil pG_ok (by decide) (by decide)) (by decide) (by decide) (by decide) (by unfold plsE; rw [if_neg (fun e => e pe1)]; rfl), ?_, ?_, ?_⟩
 ·unfold cyT; rw [hN, lv1]; rfl
 ·unfold cyV; rw [hN, cyU_nil, cyS_nil]; rfl
 ·unfold cyX; rw [hN]; rfl
theorem ex2 : cyE pG 1 1 [t1] [y2] = 0 ∧ cyT pG 1 [t1] [y2] = [t2] ∧ cyV pG 1 [t1] [y2] = [⟨1, 0, 0⟩, ⟨2, 0, 0⟩] ∧ cyX pG 1 [t1] [y2] = 1 := by
 have h := cy_hit (p := pG) (next := 1) (t := t1) (y := y2) pG_ok aw1.stp.1 (by rw [show stpT pG t1 = u1 from rfl, cost1]; decide)
 refine ⟨cyE_of (aw1.ck rfl (by decide)) (by decide) (by decide) (by decide) (by unfold plsE; rw [if_neg (fun e => e pe2)]; rfl), ?_, ?_, h.2.2⟩
 ·rw [h.1, lv2]; rfl
 ·rw [h.2.1]
  show updE1 pG u1 (some 0) = _
  rw [updE1_two (by rfl) (by decide)]
  rfl
theorem ex3 : cyE pG 2 1 [t2] [] = 0 ∧ cyT pG 1 [t2] [] = [t3] ∧ cyV pG 1 [t2] [] = [⟨3, 0, -1⟩] ∧ cyX pG 1 [t2] [] = 1 := by
 have h := cy_mis (p := pG) (next := 1) (t := t2) aw2.stp.1
 have hm : ¬ pG.most ≤ u2.misses + 1 := by rw [mis2.1]; decide
 refine ⟨cyE_of (aw2.ck id2 (by decide)) (by decide) (by decide) (by decide) rfl, ?_, ?_, h.2.2⟩
 ·rw [h.1]; exact (one_mis (P := []) hm).1
 ·rw [h.2.1, ← mis2.2]
  exact (one_mis (P := []) hm).2
theorem ex4 : cyE pG 3 1 [t3] [] = 0 ∧ cyT pG 1 [t3] [] = [t4] ∧ cyV pG 1 [t3] [] = [⟨3, 0, -1⟩] ∧ cyX pG 1 [t3] [] = 1 := by
 have h := cy_mis (p := pG) (next := 1) (t := t3) aw3.stp.1
 have hm : ¬ pG.most ≤ u3.misses + 1 := by rw [mis3.1]; decide
 refine ⟨cyE_of (aw3.ck mis2.2 (by decide)) (by decide) (by decide) (by decide) rfl, ?_, ?_, h.2.2⟩
 ·rw [h.1]; exact (one_mis (P := []) hm).1
 ·rw [h.2.1, ← mis3.2]
  exact (one_mis (P := []) hm).2
theorem ex5 : cyE pG 4 1 [t4] [] = 0 ∧ cyT pG 1 [t4] [] = [] ∧ cyV pG 1 [t4] [] = [⟨4, 0, -1⟩] ∧ cyX pG 1 [t4] [] = 1 := by
 have h := cy_mis (p := pG) (next := 1) (t := t4) aw4.stp.1
 have hm : pG.most ≤ u4.misses + 1 := by rw [mis4.1]; decide
 refine ⟨cyE_of (aw4.ck mis3.2 (by decide)) (by decide) (by decide) (by decide) rfl, ?_, ?_, h.2.2⟩
 ·rw [h.1]; exact (one_gone (P := []) hm).1
 ·rw [h.2.1, ← mis4.2]
  exact (one_gone (P := []) hm).2
theorem ex6 : cyE pG 0 0 [] [y3] = 0 ∧ cyT pG 0 [] [y3] = [] ∧ cyV pG 0 [] [y3] = [] ∧ cyX pG 0 [] [y3] = 0 := by
 have hN := cyN_nil_no (p := pG) (next := 0) (y := y3) (by rw [lv3]; decide)
 refine ⟨cyE_of (ckE_nil pG_ok (by decide) (by decide)) (by decide) (by decide) (by decide) (by unfold plsE; rw [if_neg (fun e => e pe3)]; rfl), ?_, ?_, ?_⟩
 ·unfold cyT; rw [hN]
 ·unfold cyV; rw [hN, cyU_nil, cyS_nil]; rfl
 ·unfold cyX; rw [hN]
end TrkMath
end
section
namespace Go.Proofs.Ytikjjpjekchcjaa.Alt
open Go.RowKit AltMath MyHeap
def CnPost (lo hi : List Int) (z v : Int) (w : World) (e : Ending) (w' : World) : Prop := e = .returned (.tuple #[.bool (cnB lo hi z v), .int .i64 (chB lo hi)]) ∧ Below w.heap.size w w'
theorem cn_ch {lo hi : List Int} {z v : Int} (h : chB lo hi ≠ 0) : cnB lo hi z v = false := by unfold cnB; rw [show (chB lo hi == 0) = false by simpa using h]; rfl
theorem cn_out {lo hi : List Int} {z v : Int} (h : v < -100 ∨ 100 < v) : cnB lo hi z v = false := by
 unfold cnB
 rcases h with h | h
 ·rw [decide_eq_false (show ¬ -100 ≤ v by omega)]; simp
 ·rw [decide_eq_false (show ¬ v ≤ 100 by omega)]; simp
theorem cn_in {lo hi : List Int} {z : Int} {j : Nat} (h : chB lo hi = 0) (hj : j < 201) : cnB lo hi z ((j : Int) - 100) = (decide (gi lo j ≤ z) && decide (z ≤ gi hi j)) := by
 unfold cnB
 rw [h, decide_eq_true (show -100 ≤ (j : Int) - 100 by omega), decide_eq_true (show (j : Int) - 100 ≤ 100 by omega), show ((j : Int) - 100 + 100).toNat = j by omega]
 simp
set_option maxRecDepth 100000 in
set_option maxHeartbeats 4000000 in
theorem pCon_ch (aL aH : Option Addr) (nL nH cL cH : Nat) (lo hi : List Int) (z v : Int) (w : World) (hL : Ints w aL nL lo) (hH : Ints w aH nH hi) (hE : chB lo hi ≠ 0) :
    Calls Try.prog 50 #[bdV aL nL cL aH nH cH, .agg #[.int .i64 z, .int .i64 v]] w (CnPost lo hi z v w) := by
 have d1 : (chB lo hi != 0) = true := bne_iff_ne.2 hE
 have HE := Lib.hid (cn_ch (z := z) (v := v) hE)
 have H := Lib.hid (And.intro hL hH)
 have B := Lib.hid ((below_alloc w (.cells (bdC aL nL cL aH nH cH) 44)).alloc (by simp) (.cells #[.int .i64 z, .int .i64 v] 66))
 clear hL hH hE
 unfold bdV
 unfold bdC at *
 go_enter Try.func50, Try.ntmps50
 go_wp2_with fail
 refine (pCheck_call aL aH nL nH cL cH lo hi _ (H.out.1.below B.out) (H.out.2.below B.out)).mono ?_; rintro e w1 ⟨rfl, hb⟩
 replace B := Lib.hid (B.out.trans (hb.mono B.out.size))
 clear hb
 go_wp2_with fail
 go_ret2
 exact ⟨by rw [HE.out]; rfl, B.out⟩
set_option maxRecDepth 100000 in
set_option maxHeartbeats 4000000 in
theorem pCon_lo (aL aH : Option Addr) (cL cH : Nat) (lo hi : List Int) (z v : Int) (w : World) (hL : Ints w aL 201 lo) (hH : Ints w aH 201 hi) (hE : chB lo hi = 0) (hv : v < -100) :
    Calls Try.prog 50 #[bdV aL 201 cL aH 201 cH, .agg #[.int .i64 z, .int .i64 v]] w (CnPost lo hi z v w) := by
 have HE := Lib.hid (And.intro hE (cn_out (lo := lo) (hi := hi) (z := z) (v := v) (by omega)))
 have H := Lib.hid (And.intro hL hH)
 have B := Lib.hid (And.intro ((below_alloc w (.cells (bdC aL 201 cL aH 201 cH) 44)).alloc (by simp) (.cells #[.int .i64 z, .int .i64 v] 66)) (block_new (w.alloc (.cells (bdC aL 201 cL aH 201 cH) 44)) (.cells #[.int .i64 z, .int .i64 v] 66) (n := w.heap.size + 1) (by simp)))
 have dA : decide (-100 ≤ v) = false := decide_eq_false (by omega)
 clear hL hH hE hv
 unfold bdV
 unfold bdC at *
 go_enter Try.func50, Try.ntmps50
 go_wp2_with fail
 refine (pCheck_call aL aH 201 201 cL cH lo hi _ (H.out.1.below B.out.1) (H.out.2.below B.out.1)).mono ?_; rintro e w1 ⟨rfl, hb⟩
 replace B := Lib.hid (And.intro (B.out.1.trans (hb.mono B.out.1.size)) (keepO hb B.out.2))
 have p0 := cell_of_block (i := 0) B.out.2 rfl
 have p1 := cell_of_block (i := 1) B.out.2 rfl
 rw [HE.out.1]
 clear hb
 go_wp2_with fail
 go_quiet (fail)
 go_wp2_with fail
 go_ret2
 exact ⟨by rw [HE.out.1, HE.out.2]; rfl, B.out.1.trans ⟨rfl, rfl, rfl, Nat.le_refl _, fun _ _ => rfl⟩⟩
set_option maxRecDepth 100000 in
set_option maxHeartbeats 4000000 in
theorem pCon_hi (aL aH : Option Addr) (cL cH : Nat) (lo hi : List Int) (z v : Int) (w : World) (hL : Ints w aL 201 lo) (hH : Ints w aH 201 hi) (hE : chB lo hi = 0) (hv : 100 < v) :
    Calls Try.prog 50 #[bdV aL 201 cL aH 201 cH, .agg #[.int .i64 z, .int .i64 v]] w (CnPost lo hi z v w) := by
 have HE := Lib.hid (And.intro hE (cn_out (lo := lo) (hi := hi) (z := z) (v := v) (by omega)))
 have H := Lib.hid (And.intro hL hH)
 have B := Lib.hid (And.intro ((below_alloc w (.cells (bdC aL 201 cL aH 201 cH) 44)).alloc (by simp) (.cells #[.int .i64 z, .int .i64 v] 66)) (block_new (w.alloc (.cells (bdC aL 201 cL aH 201 cH) 44)) (.cells #[.int .i64 z, .int .i64 v] 66) (n := w.heap.size + 1) (by simp)))
 have dA : decide (-100 ≤ v) = true := decide_eq_true (by omega)
 have dB : decide (v ≤ 100) = false := decide_eq_false (by omega)
 clear hL hH hE hv
 unfold bdV
 unfold bdC at *
 go_enter Try.func50, Try.ntmps50
 go_wp2_with fail
 refine (pCheck_call aL aH 201 201 cL cH lo hi _ (H.out.1.below B.out.1) (H.out.2.below B.out.1)).mono ?_; rintro e w1 ⟨rfl, hb⟩
 replace B := Lib.hid (And.intro (B.out.1.trans (hb.mono B.out.1.size)) (keepO hb B.out.2))
 have p0 := cell_of_block (i := 0) B.out.2 rfl
 have p1 := cell_of_block (i := 1) B.out.2 rfl
 rw [HE.out.1]
 clear hb
 go_wp2_with fail
 go_quiet (fail)
 go_wp2_with fail
 go_ret2
 exact ⟨by rw [HE.out.1, HE.out.2]; rfl, B.out.1.trans ⟨rfl, rfl, rfl, Nat.le_refl _, fun _ _ => rfl⟩⟩
set_option maxRecDepth 100000 in
set_option maxHeartbeats 8000000 in
theorem pCon_in (b1 o1 b2 o2 cL cH : Nat) (lo hi : List Int) (z : Int) (j : Nat) (w : World) (hL : Ints w (some ⟨b1, o1, none⟩) 201 lo) (hH : Ints w (some ⟨b2, o2, none⟩) 201 hi) (hE : chB lo hi = 0) (hj : j < 201) :
    Calls Try.prog 50 #[bdV (some ⟨b1, o1, none⟩) 201 cL (some ⟨b2, o2, none⟩) 201 cH, .agg #[.int .i64 z, .int .i64 ((j : Int) - 100)]] w (CnPost lo hi z ((j : Int) - 100) w) := by
 have HE := Lib.hid (And.intro hE (cn_in (z := z) hE hj))
 have H := Lib.hid (And.intro hL hH)
 have B := Lib.hid (And.intro ((below_alloc w (.cells (bdC (some ⟨b1, o1, none⟩) 201 cL (some ⟨b2, o2, none⟩) 201 cH) 44)).alloc (by simp) (.cells #[.int .i64 z, .int .i64 ((j : Int) - 100)] 66)) (And.intro (block_new (w.alloc (.cells (bdC (some ⟨b1, o1, none⟩) 201 cL (some ⟨b2, o2, none⟩) 201 cH) 44)) (.cells #[.int .i64 z, .int .i64 ((j : Int) - 100)] 66) (n := w.heap.size + 1) (by simp)) (block_alloc (o' := .cells #[.int .i64 z, .int .i64 ((j : Int) - 100)] 66) (block_new w (.cells (bdC (some ⟨b1, o1, none⟩) 201 cL (some ⟨b2, o2, none⟩) 201 cH) 44) rfl))))
 have hj0 : (0 : Int) ≤ (j : Int) := by omega
 have hj1 : (j : Int) < 201 := by omega
 have dA : decide (-100 ≤ (j : Int) - 100) = true := decide_eq_true (by omega)
 have dB : decide ((j : Int) - 100 ≤ 100) = true := decide_eq_true (by omega)
 clear hL hH hE
 unfold bdV
 unfold bdC at *
 go_enter Try.func50, Try.ntmps50
 go_wp2_with fail
 refine (pCheck_call (some ⟨b1, o1, none⟩) (some ⟨b2, o2, none⟩) 201 201 cL cH lo hi _ (H.out.1.below B.out.1) (H.out.2.below B.out.1)).mono ?_; rintro e w1 ⟨rfl, hb⟩
 replace B := Lib.hid (And.intro (B.out.1.trans (hb.mono B.out.1.size)) (And.intro (keepO hb B.out.2.1) (keepO hb B.out.2.2)))
 have p0 := cell_of_block (i := 0) B.out.2.1 rfl
 have p1 := cell_of_block (i := 1) B.out.2.1 rfl
 have k0 := cell_of_block (i := 0) B.out.2.2 rfl
 have k1 := cell_of_block (i := 1) B.out.2.2 rfl
 obtain ⟨_, _, e1, x0⟩ := ints_at (H.out.1.below B.out.1) hj
 obtain ⟨_, _, e2, y0⟩ := ints_at (H.out.2.below B.out.1) hj
 cases e1; cases e2
 obtain ⟨X, hX⟩ : ∃ X, gi lo j = X := ⟨_, rfl⟩
 obtain ⟨Y, hY⟩ : ∃ Y, gi hi j = Y := ⟨_, rfl⟩
 rw [hX, hY] at HE
 rw [hX] at x0
 rw [hY] at y0
 rw [HE.out.1]
 clear hb hX hY
 cases dC : decide (X ≤ z)
 all_goals
  go_wp2_with fail
  go_quiet (fail)
  go_wp2_with fail
  go_ret2
  exact ⟨by rw [HE.out.1, HE.out.2, dC]; rfl, B.out.1.trans ⟨rfl, rfl, rfl, Nat.le_refl _, fun _ _ => rfl⟩⟩
set_option maxRecDepth 100000 in
theorem pCon_call (aL aH : Option Addr) (nL nH cL cH : Nat) (lo hi : List Int) (z v : Int) (w : World) (hL : Ints w aL nL lo) (hH : Ints w aH nH hi) :
    Calls Try.prog 50 #[bdV aL nL cL aH nH cH, .agg #[.int .i64 z, .int .i64 v]] w (CnPost lo hi z v w) := by
 by_cases hE : chB lo hi = 0
 ·obtain ⟨e1, e2, -⟩ := chB_ok hE
  obtain rfl : nL = 201 := by rw [← hL.len]; exact e1
  obtain rfl : nH = 201 := by rw [← hH.len]; exact e2
  by_cases h1 : v < -100
  ·exact pCon_lo aL aH cL cH lo hi z v w hL hH hE h1
  ·by_cases h2 : 100 < v
   ·exact pCon_hi aL aH cL cH lo hi z v w hL hH hE h2
   ·obtain ⟨j, rfl⟩ : ∃ j : Nat, v = (j : Int) - 100 := ⟨(v + 100).toNat, by omega⟩
    obtain ⟨b1, o1, rfl, -⟩ := ints_at hL (k := 0) (by decide)
    obtain ⟨b2, o2, rfl, -⟩ := ints_at hH (k := 0) (by decide)
    exact pCon_in b1 o1 b2 o2 cL cH lo hi z j w hL hH hE (by omega)
 ·exact pCon_ch aL aH nL nH cL cH lo hi z v w hL hH hE
end Go.Proofs.Ytikjjpjekchcjaa.Alt
end
section
namespace Go.Proofs.Ytikjjpjekchcjaa
open Go.RowKit TrkMath MyHeap MyOwn
set_option maxRecDepth 100000 in
set_option maxHeartbeats 8000000 in
theorem holds_call (p : Par) (now next : Int) (a : Option Addr) (c : Nat) (M : List TB) (t : Tk) (z v : Int) (w : World) (hT : TbI w a 1 M) (hM : fsts M = [t]) (hid : t.id = 0) (hch : AltMath.chB t.lo t.hi = 0) (hin : AltMath.inB t.lo t.hi z v) :
    Calls Try.prog 20 #[tbV p now next (.slice a 1 c), .agg #[.int .i64 z, .int .i64 v]] w (BoolB true w) := by
 obtain ⟨b, off, rfl, hq⟩ := trs_at hT.T (k := 0) (by decide)
 have hg : (gt M 0).1 = t := by
  have h := fsts_get M 0
  rw [hM] at h
  exact h.symm
 have HBd := Lib.hid (hT.B 0 (by decide))
 obtain ⟨⟨t', s⟩, hqe⟩ : ∃ q, gt M 0 = q := ⟨_, rfl⟩
 rw [hqe] at hq hg HBd
 simp only [] at hg
 subst hg
 obtain ⟨x0, x1, x2, x3, x4, x5, x6, x7, x8, x9⟩ := hq
 obtain ⟨tid, addr, rg, lo, hi, hits, misses, firm⟩ := t'
 obtain ⟨aL, nL, cL, aH, nH, cH⟩ := s
 simp only [Nat.zero_mul, Nat.add_zero] at x0 x1 x2 x3 x4 x5 x6 x7 x8 x9
 simp only [] at hid hch hin HBd
 subst hid
 have HC := Lib.hid (AltMath.in_con hch hin)
 have HCh := Lib.hid hch
 have xl := World.block_lt_of_cell? _ _ x0
 have K := Lib.hid (show Below w.heap.size w ((w.alloc (.cells #[.int .i64 p.gate, .int .i64 p.need, .int .i64 p.most, .int .i64 p.pull, .int .i64 now, .int .i64 next, .slice (some ⟨b, off, none⟩) 1 c] 26)).alloc (.cells #[.int .i64 z, .int .i64 v] 66)) ∧ ((w.alloc (.cells #[.int .i64 p.gate, .int .i64 p.need, .int .i64 p.most, .int .i64 p.pull, .int .i64 now, .int .i64 next, .slice (some ⟨b, off, none⟩) 1 c] 26)).alloc (.cells #[.int .i64 z, .int .i64 v] 66)).heap[w.heap.size]? = some (.cells #[.int .i64 p.gate, .int .i64 p.need, .int .i64 p.most, .int .i64 p.pull, .int .i64 now, .int .i64 next, .slice (some ⟨b, off, none⟩) 1 c] 26 (0, 0)) ∧ ((w.alloc (.cells #[.int .i64 p.gate, .int .i64 p.need, .int .i64 p.most, .int .i64 p.pull, .int .i64 now, .int .i64 next, .slice (some ⟨b, off, none⟩) 1 c] 26)).alloc (.cells #[.int .i64 z, .int .i64 v] 66)).heap[w.heap.size + 1]? = some (.cells #[.int .i64 z, .int .i64 v] 66 (0, 0)) from ⟨(below_alloc w _).alloc (by simp) _, block_alloc (block_new w _ rfl), block_new _ _ (by simp)⟩)
 have HX := Lib.hid (show ((w.alloc (.cells #[.int .i64 p.gate, .int .i64 p.need, .int .i64 p.most, .int .i64 p.pull, .int .i64 now, .int .i64 next, .slice (some ⟨b, off, none⟩) 1 c] 26)).alloc (.cells #[.int .i64 z, .int .i64 v] 66)).cell? ⟨b, off + 5, none⟩ = some (.slice aL nL cL) ∧ ((w.alloc (.cells #[.int .i64 p.gate, .int .i64 p.need, .int .i64 p.most, .int .i64 p.pull, .int .i64 now, .int .i64 next, .slice (some ⟨b, off, none⟩) 1 c] 26)).alloc (.cells #[.int .i64 z, .int .i64 v] 66)).cell? ⟨b, off + 6, none⟩ = some (.slice aH nH cH) from ⟨keep1 K.out.1 x5, keep1 K.out.1 x6⟩)
 have HB2 := Lib.hid (HBd.out.below K.out.1)
 clear hT hM hqe hch hin
 unfold tbV
 go_enter Try.func20, Try.ntmps20
 go_wp2_with fail
 clear x0 x1 x2 x3 x4 x5 x6 x7 x8 x9 xl
 generalize (w.alloc (.cells #[.int .i64 p.gate, .int .i64 p.need, .int .i64 p.most, .int .i64 p.pull, .int .i64 now, .int .i64 next, .slice (some ⟨b, off, none⟩) 1 c] 26)).alloc (.cells #[.int .i64 z, .int .i64 v] 66) = wa at *
 have KD := Lib.hid (show Below wa.heap.size wa wa.drew from below_drewN (Below.refl _ _) 1)
 have HS := Lib.hid (show wa.drew.heap[w.heap.size]? = some (.cells #[.int .i64 p.gate, .int .i64 p.need, .int .i64 p.most, .int .i64 p.pull, .int .i64 now, .int .i64 next, .slice (some ⟨b, off, none⟩) 1 c] 26 (0, 0)) ∧ wa.drew.heap[w.heap.size + 1]? = some (.cells #[.int .i64 z, .int .i64 v] 66 (0, 0)) ∧ wa.drew.cell? ⟨b, off + 5, none⟩ = some (.slice aL nL cL) ∧ wa.drew.cell? ⟨b, off + 6, none⟩ = some (.slice aH nH cH) from ⟨keepO KD.out K.out.2.1, keepO KD.out K.out.2.2, keep1 KD.out HX.out.1, keep1 KD.out HX.out.2⟩)
 replace HB2 := Lib.hid (HB2.out.below KD.out)
 have KB := Lib.hid (K.out.1.trans (KD.out.mono K.out.1.size))
 refine MyHeldE.start (fun W => W.heap[w.heap.size]? = some (.cells #[.int .i64 p.gate, .int .i64 p.need, .int .i64 p.most, .int .i64 p.pull, .int .i64 now, .int .i64 next, .slice (some ⟨b, off, none⟩) 1 c] 26 (0, 0)) ∧ W.heap[w.heap.size + 1]? = some (.cells #[.int .i64 z, .int .i64 v] 66 (0, 0)) ∧ W.cell? ⟨b, off + 5, none⟩ = some (.slice aL nL cL) ∧ W.cell? ⟨b, off + 6, none⟩ = some (.slice aH nH cH)) [] (by kernel_rfl) ?_
 have hHeld := HS.out
 generalize wa.drew = wd at *
 refine MyHeldE.take 0 (v := ?_) .z (by kernel_rfl) (by kernel_rfl) (by kernel_rfl) (by kernel_rfl) (by kernel_rfl) (fun _ _ _ h => h) (by rfl) (by assumption) ?_ ?_
 rotate_left
 ·intro w hSw; go_simp; (try with_reducible rfl)
 try simp only [Act.put, List.setIfInBounds_toArray, List.set_cons_zero, List.set_cons_succ]
 refine MyHeldE.take 1 (v := ?_) (.s .z) (by kernel_rfl) (by kernel_rfl) (by kernel_rfl) (by kernel_rfl) (by kernel_rfl) (fun _ _ _ h => h) (by rfl) (by assumption) ?_ ?_
 rotate_left
 ·intro w hSw; obtain ⟨q0, q1, q2, q3, q4, q5, q6⟩ := seven_new hSw.1; have s3 := hSw.2.2.1; have s4 := hSw.2.2.2; have e0 := cell_of_block (i := 0) hSw.2.1 rfl; have e1 := cell_of_block (i := 1) hSw.2.1 rfl; go_simp; (try with_reducible rfl)
 try simp only [Act.put, List.setIfInBounds_toArray, List.set_cons_zero, List.set_cons_succ]
 refine MyHeldE.take 2 (v := ?_) (.s (.s .z)) (by kernel_rfl) (by kernel_rfl) (by kernel_rfl) (by kernel_rfl) (by kernel_rfl) (fun _ _ _ h => h) (by rfl) (by assumption) ?_ ?_
 rotate_left
 ·intro w hSw; go_simp; (try with_reducible rfl)
 try simp only [Act.put, List.setIfInBounds_toArray, List.set_cons_zero, List.set_cons_succ]
 refine MyHeldE.take 3 (v := ?_) (.s (.s (.s .z))) (by kernel_rfl) (by kernel_rfl) (by kernel_rfl) (by kernel_rfl) (by kernel_rfl) (fun _ _ _ h => h) (by rfl) (by assumption) ?_ ?_
 rotate_left
 ·intro w hSw; go_simp; (try with_reducible rfl)
 try simp only [Act.put, List.setIfInBounds_toArray, List.set_cons_zero, List.set_cons_succ]
 refine MyHeldE.take 4 (v := ?_) (.s (.s (.s (.s .z)))) (by kernel_rfl) (by kernel_rfl) (by kernel_rfl) (by kernel_rfl) (by kernel_rfl) (fun _ _ _ h => h) (by rfl) (by assumption) ?_ ?_
 rotate_left
 ·intro w hSw; obtain ⟨q0, q1, q2, q3, q4, q5, q6⟩ := seven_new hSw.1; have s3 := hSw.2.2.1; have s4 := hSw.2.2.2; have e0 := cell_of_block (i := 0) hSw.2.1 rfl; have e1 := cell_of_block (i := 1) hSw.2.1 rfl; go_simp; (try with_reducible rfl)
 try simp only [Act.put, List.setIfInBounds_toArray, List.set_cons_zero, List.set_cons_succ]
 refine MyHeldE.take 5 (v := ?_) (.s (.s (.s (.s (.s .z))))) (by kernel_rfl) (by kernel_rfl) (by kernel_rfl) (by kernel_rfl) (by kernel_rfl) (fun _ _ _ h => h) (by rfl) (by assumption) ?_ ?_
 rotate_left
 ·intro w hSw; obtain ⟨q0, q1, q2, q3, q4, q5, q6⟩ := seven_new hSw.1; have s3 := hSw.2.2.1; have s4 := hSw.2.2.2; have e0 := cell_of_block (i := 0) hSw.2.1 rfl; have e1 := cell_of_block (i := 1) hSw.2.1 rfl; go_simp; (try with_reducible rfl)
 try simp only [Act.put, List.setIfInBounds_toArray, List.set_cons_zero, List.set_cons_succ]
 refine MyHeldE.ready (rs := [6]) (by kernel_rfl) (by simp) ?_
 refine (MyHeldE.next 6 (.s (.s (.s (.s (.s (.s .z)))))) (fun Kq hKq => ?_) MyHeldE.All.nil)
 go_simp
 go_at_call 50
 refine (Alt.pCon_call aL aH nL nH cL cH lo hi z v _ HB2.out.L HB2.out.H).mono ?_; rintro e w2 ⟨rfl, hb⟩
 rw [HC.out, HCh.out]
 replace KB := Lib.hid (KB.out.trans (hb.mono KB.out.size))
 replace HS := Lib.hid (And.intro (keepO hb HS.out.1) (And.intro (keepO hb HS.out.2.1) (And.intro (keep1 hb HS.out.2.2.1) (keep1 hb HS.out.2.2.2))))
 clear hb
 have hHeld2 := (HS.out)
 refine hKq.out _ _ (fun _ => hHeld2) ?_
 clear hKq Kq hHeld
 have hHeld := hHeld2
 clear hHeld2
 try simp only [Act.put, List.setIfInBounds_toArray, List.set_cons_zero, List.set_cons_succ]
 refine MyHeldE.take 7 (v := ?_) (.s (.s (.s (.s (.s (.s (.s .z))))))) (by kernel_rfl) (by kernel_rfl) (by kernel_rfl) (by kernel_rfl) (by kernel_rfl) (fun _ _ _ h => h) (by rfl) (by assumption) ?_ ?_
 rotate_left
 ·intro w hSw; go_simp; (try with_reducible rfl)
 try simp only [Act.put, List.setIfInBounds_toArray, List.set_cons_zero, List.set_cons_succ]
 refine MyHeldE.take 8 (v := ?_) (.s (.s (.s (.s (.s (.s (.s (.s .z)))))))) (by kernel_rfl) (by kernel_rfl) (by kernel_rfl) (by kernel_rfl) (by kernel_rfl) (fun _ _ _ h => h) (by rfl) (by assumption) ?_ ?_
 rotate_left
 ·intro w hSw; go_simp; (try with_reducible rfl)
 try simp only [Act.put, List.setIfInBounds_toArray, List.set_cons_zero, List.set_cons_succ]
 refine MyHeldE.take 9 (v := ?_) (.s (.s (.s (.s (.s (.s (.s (.s (.s .z))))))))) (by kernel_rfl) (by kernel_rfl) (by kernel_rfl) (by kernel_rfl) (by kernel_rfl) (fun _ _ _ h => h) (by rfl) (by assumption) ?_ ?_
 rotate_left
 ·intro w hSw; go_simp; (try with_reducible rfl)
 try simp only [Act.put, List.setIfInBounds_toArray, List.set_cons_zero, List.set_cons_succ]
 refine MyHeldE.take 10 (v := ?_) (.s (.s (.s (.s (.s (.s (.s (.s (.s (.s .z)))))))))) (by kernel_rfl) (by kernel_rfl) (by kernel_rfl) (by kernel_rfl) (by kernel_rfl) (fun _ _ _ h => h) (by rfl) (by assumption) ?_ ?_
 rotate_left
 ·intro w hSw; go_simp; (try with_reducible rfl)
 try simp only [Act.put, List.setIfInBounds_toArray, List.set_cons_zero, List.set_cons_succ]
 refine MyHeldE.take 11 (v := ?_) (.s (.s (.s (.s (.s (.s (.s (.s (.s (.s (.s .z))))))))))) (by kernel_rfl) (by kernel_rfl) (by kernel_rfl) (by kernel_rfl) (by kernel_rfl) (fun _ _ _ h => h) (by rfl) (by assumption) ?_ ?_
 rotate_left
 ·intro w hSw; go_simp; (try with_reducible rfl)
 try simp only [Act.put, List.setIfInBounds_toArray, List.set_cons_zero, List.set_cons_succ]
 refine MyHeldE.done (by kernel_rfl) ?_ _
 go_wp2_with fail
 go_ret
 exact ⟨rfl, KB.out⟩
end Go.Proofs.Ytikjjpjekchcjaa
end
section
namespace AsgMath
open AsgRows
def bitsT (u : Nat) : Nat → Bool := fun k => decide (u / 2 ^ k % 2 = 1)
theorem bitsT_zero : bitsT 0 = fun _ => false := by
 funext k
 unfold bitsT
 rw [Nat.zero_div]
 rfl
theorem add_split {u k : Nat} (h : u / 2 ^ k % 2 = 0) : (u + 2 ^ k) / 2 ^ (k + 1) = u / 2 ^ (k + 1) ∧ (u + 2 ^ k) / 2 ^ k = u / 2 ^ k + 1 ∧ (u + 2 ^ k) % 2 ^ k = u % 2 ^ k := by
 have hp : 0 < 2 ^ k := Nat.two_pow_pos k
 refine ⟨?_, Nat.add_div_right u hp, Nat.add_mod_right u _⟩
 rw [Nat.pow_succ, ← Nat.div_div_eq_div_mul, ← Nat.div_div_eq_div_mul, Nat.add_div_right u hp]
 show (u / 2 ^ k + 1) / 2 = u / 2 ^ k / 2
 omega
theorem div_pow {u k j : Nat} (h : k ≤ j) : u / 2 ^ j = u / 2 ^ k / 2 ^ (j - k) := by
 rw [Nat.div_div_eq_div_mul, ← Nat.pow_add, Nat.add_sub_cancel' h]
theorem bitsT_set {u k : Nat} (h : u / 2 ^ k % 2 = 0) : bitsT (u + 2 ^ k) = setT (bitsT u) k := by
 obtain ⟨h1, h2, h3⟩ := add_split h
 funext j
 unfold setT
 by_cases e : j = k
 ·subst e
  rw [if_pos rfl]
  unfold bitsT
  rw [h2, decide_eq_true (by omega)]
 ·rw [if_neg e]
  unfold bitsT
  rcases Nat.lt_or_ge j k with q | q
  ·have hd : ∀ x : Nat, x / 2 ^ j % 2 = x % 2 ^ k / 2 ^ j % 2 := fun x => by
    have e1 : 2 ^ k = 2 ^ j * 2 ^ (k - j) := by rw [← Nat.pow_add, Nat.add_sub_cancel' (Nat.le_of_lt q)]
    obtain ⟨d, hd⟩ : ∃ d, k - j = d + 1 := ⟨k - j - 1, by omega⟩
    have e2 : 2 ^ (k - j) = 2 * 2 ^ d := by rw [hd, Nat.pow_succ, Nat.mul_comm]
    rw [e1, Nat.mod_mul_right_div_self, e2, Nat.mod_mul_right_mod]
   rw [hd, h3, ← hd]
  ·rw [div_pow (u := u + 2 ^ k) (k := k + 1) (j := j) (by omega), h1, ← div_pow (by omega)]
theorem bits_add_lt {u k m : Nat} (hu : u < 2 ^ m) (hk : k < m) (h : u / 2 ^ k % 2 = 0) : u + 2 ^ k < 2 ^ m := by
 have hp : 0 < 2 ^ (k + 1) := Nat.two_pow_pos _
 have h1 := (add_split h).1
 have e1 : 2 ^ m = 2 ^ (m - (k + 1)) * 2 ^ (k + 1) := by rw [← Nat.pow_add, Nat.sub_add_cancel (by omega)]
 rw [e1] at hu ⊢
 rw [← Nat.div_lt_iff_lt_mul hp] at hu ⊢
 rw [h1]
 exact hu
theorem pow_le9 {m : Nat} (h : m ≤ 9) : 2 ^ m ≤ 512 := Nat.pow_le_pow_right (n := 2) (by decide) h
def Vr (L : List (List Int)) (n m i u : Nat) : Int := V (ent L) n m (n - i) (bitsT u)
theorem Vr_last {L : List (List Int)} {n m u : Nat} : Vr L n m n u = 0 := by unfold Vr; rw [Nat.sub_self]; rfl
theorem Vr_bound {L : List (List Int)} {n m i u : Nat} (hn : n ≤ 16) (hc : ∀ i k, i < n → k < m → ent L i k ≤ 1048576) : 0 ≤ Vr L n m i u ∧ Vr L n m i u ≤ 17179869184 := by
 refine ⟨V_nonneg _ _, ?_⟩
 obtain ⟨P, C, h1, h2, h3, h4, h5⟩ := V_parts (c := ent L) (n := n) (m := m) hn hc (n - i) (bitsT u) (by omega)
 unfold Vr
 omega
def Vk (L : List (List Int)) (n m i u k : Nat) : Int := bestK (fun k => 1073741824 - ent L i k + V (ent L) n m (n - (i + 1)) (setT (bitsT u) k)) (okB (ent L) (bitsT u) i) (V (ent L) n m (n - (i + 1)) (bitsT u)) k
theorem Vk_zero {L : List (List Int)} {n m i u : Nat} : Vk L n m i u 0 = Vr L n m (i + 1) u := rfl
theorem Vk_all {L : List (List Int)} {n m i u : Nat} (hi : i < n) : Vk L n m i u m = Vr L n m i u := by
 unfold Vr Vk
 have e : n - i = (n - (i + 1)) + 1 := by omega
 have e2 : n - ((n - (i + 1)) + 1) = i := by omega
 rw [e]
 simp only [V, e2]
theorem Vk_skip {L : List (List Int)} {n m i u k : Nat} (h : ¬ (0 ≤ ent L i k ∧ u / 2 ^ k % 2 = 0)) : Vk L n m i u (k + 1) = Vk L n m i u k := by
 unfold Vk
 simp only [bestK]
 rw [if_neg]
 intro hh
 obtain ⟨h1, h2⟩ := okB_iff.1 hh
 unfold bitsT at h2
 have := of_decide_eq_false h2
 exact h ⟨h1, by omega⟩
theorem Vk_take {L : List (List Int)} {n m i u k : Nat} (h0 : 0 ≤ ent L i k) (h : u / 2 ^ k % 2 = 0) : Vk L n m i u (k + 1) = max (Vk L n m i u k) (1073741824 - ent L i k + Vr L n m (i + 1) (u + 2 ^ k)) := by
 unfold Vk Vr
 simp only [bestK]
 rw [if_pos (okB_iff.2 ⟨h0, by unfold bitsT; exact decide_eq_false (by omega)⟩), bitsT_set h]
theorem Vk_bound {L : List (List Int)} {n m i u k : Nat} (hn : n ≤ 16) (hc : ∀ i k, i < n → k < m → ent L i k ≤ 1048576) : 0 ≤ Vk L n m i u k ∧ Vk L n m i u k ≤ 19000000000 := by
 refine ⟨Int.le_trans (V_nonneg _ _) (bestK_ge0 : V (ent L) n m (n - (i + 1)) (bitsT u) ≤ _), ?_⟩
 unfold Vk
 have hb : ∀ T, V (ent L) n m (n - (i + 1)) T ≤ 17179869184 := fun T => by
  obtain ⟨P, C, h1, h2, h3, h4, h5⟩ := V_parts (c := ent L) (n := n) (m := m) hn hc (n - (i + 1)) T (by omega)
  omega
 refine bestK_le (by have := hb (bitsT u); omega) (fun j hj hp => ?_)
 have := (okB_iff.1 hp).1
 have := hb (setT (bitsT u) j)
 show 1073741824 - ent L i j + V (ent L) n m (n - (i + 1)) (setT (bitsT u) j) ≤ _
 omega
theorem take_iff {L : List (List Int)} {n m i u k : Nat} (hi : i < n) (h0 : 0 ≤ ent L i k) (h : u / 2 ^ k % 2 = 0) : takeB (ent L) n m (n - (i + 1)) (bitsT u) k = true ↔ 1073741824 - ent L i k + Vr L n m (i + 1) (u + 2 ^ k) = Vr L n m i u := by
 have e : n - (i + 1) + 1 = n - i := by omega
 have e2 : n - (n - i) = i := by omega
 rw [takeB_iff, e, e2]
 unfold Vr
 rw [bitsT_set h]
 constructor
 ·exact fun q => q.2
 ·exact fun q => ⟨⟨h0, by unfold bitsT; exact decide_eq_false (by omega)⟩, q⟩
theorem take_no {L : List (List Int)} {n m i u k : Nat} (hi : i < n) (h : ¬ (0 ≤ ent L i k ∧ u / 2 ^ k % 2 = 0)) : takeB (ent L) n m (n - (i + 1)) (bitsT u) k = false := by
 have e : n - (i + 1) + 1 = n - i := by omega
 have e2 : n - (n - i) = i := by omega
 cases hb : takeB (ent L) n m (n - (i + 1)) (bitsT u) k with
 | false => rfl
 | true =>
  obtain ⟨⟨h1, h2⟩, -⟩ := takeB_iff.1 hb
  rw [e, e2] at h1
  unfold bitsT at h2
  have := of_decide_eq_false h2
  exact absurd ⟨h1, by omega⟩ h
end AsgMath
end
