/-
  AppAt, StoreLib, PtAltC, PtAltD, PtAltE, PtAltF, PtAltG
-/
import Derived.Maps.AppendAt
import Derived.Laws.OwnMore
import Derived.Laws.Tables
import Derived.Test.YtikjjpjekchcjaaPb1
import Derived.Test.YtikjjpjekchcjaaPb3
import Derived.Test.YtikjjpjekchcjaaPb2
section
namespace Go.MyCopy
theorem step_append_at {P : Program} {w : World} {ops : Array Oper} {o : Oper} {a : Act} {K : Act → World → Prop} {Q : Exit → Act → World → Prop} {E : Prop} (hgd : o.guard = none) (s x : Operand) (t : TypeId)
    (ho : o.op = .call { callee := .builtin .append, args := #[s, x], argTypes := #[t, t] })
    (base : Nat) (e : TypeId) (i : TypeInfo) (z : Value) (size bytes : Nat) (ht : P.underlying t = some (.slice e)) (hi : P.info? e = some i) (hz : i.zero = some z)
    (hsize : i.size = size) (hby : i.bytes = bytes) (hzs : z.cells.size = size) (hsz : 0 < size)
    (v : Value) (n : Nat) (xs : List Value) (hs : a.eval s = v) (hown : w.ownsRow base e size v n xs)
    (ad : Addr) (m c : Nat) (news : List Value) (hx : a.eval x = .slice (some ad) m c) (hl : news.length = m * size)
    (hnews : ∀ j u, news[j]? = some u → w.cell? (ad.add j) = some u) (h1 : ∀ u ∈ news, u.oneCell' = true)
    (h63 : n + m ≤ maxLen) (hbytes : (n + m) * bytes ≤ 140737488355328) (hbase : base ≤ w.heap.size)
    (h : ∀ v' w', w'.ownsRow base e size v' (n + m) (xs ++ news) → w.grownBy w' v.ownBlock → (v'.ownBlock = v.ownBlock ∨ v'.ownBlock = some w.heap.size) → K (a.put o.dst v') w') :
    if Region.wanted o (yielded ops a.tmps) = true then Oper.wp P o a w K Q else E := by
 have hw : Region.wanted o (yielded ops a.tmps) = true := by simp [Region.wanted, hgd]
 rw [if_pos hw]
 obtain ⟨v', w', hr, h2, h3, _, h5⟩ := run_append_own_at (P := P) w base t o.type e i z size bytes ht hi hz hsize hby hzs hsz v n xs hown ad m c news hl hnews h1 h63 hbytes hbase
 unfold Oper.wp execOp
 simp only [ho, resolve, invoke, builtin, Sem.run_bind, Sem.run_pure, Result.andThen_ok, List.map_toArray, List.map_cons, List.map_nil, hs, hx, hr]
 exact h v' w' h2 h3 h5
end Go.MyCopy
end
section
namespace Go.Proofs.Ytikjjpjekchcjaa.Alt
open Go.RowKit AltMath MyHeap MyCopy MyOwn
def flatI (xs : List Int) : List Value := xs.map fun x => .int .i64 x
theorem flatI_len (xs : List Int) : (flatI xs).length = xs.length := by simp [flatI]
set_option maxRecDepth 100000 in
theorem infoI : (Try.prog.info? 3).map (fun i => (i.zero, i.size, i.bytes)) = some (some (.int .i64 0), 1, 8) := by kernel_rfl
theorem info_parts' {o : Option TypeInfo} {z : Value} {s b : Nat} (h : o.map (fun i => (i.zero, i.size, i.bytes)) = some (some z, s, b)) : ∃ i, o = some i ∧ i.zero = some z ∧ i.size = s ∧ i.bytes = b := by
 cases o with
 | none => cases h
 | some i => simp only [Option.map_some, Option.some.injEq, Prod.mk.injEq] at h; exact ⟨i, rfl, h.1, h.2.1, h.2.2⟩
structure TwoOwn (base : Nat) (vL vH : Value) (lo hi : List Int) (W : World) : Prop where
 L : W.ownsRow base 3 1 vL lo.length (flatI lo)
 H : W.ownsRow base 3 1 vH hi.length (flatI hi)
 A : ∀ g, vL.ownBlock = some g → vH.ownBlock ≠ some g
theorem own_keep {W W' : World} {b : Nat} {e : TypeId} {s : Nat} {v : Value} {n : Nat} {xs : List Value} {row : Option Nat} (h : W.ownsRow b e s v n xs) (hg : W.grownBy W' row) (ha : row = none ∨ v.ownBlock ≠ row) : W'.ownsRow b e s v n xs := by
 refine h.kept hg ?_
 rcases ha with rfl | ha
 ·cases hv : v.ownBlock with
  | none => exact Or.inl rfl
  | some g => exact Or.inr (fun e => by cases e)
 ·exact Or.inr ha
theorem TwoOwn.below {base : Nat} {vL vH : Value} {lo hi : List Int} {W W' : World} (h : TwoOwn base vL vH lo hi W) (hb : Below W.heap.size W W') : TwoOwn base vL vH lo hi W' := ⟨ownsRow_below h.L hb (Nat.le_refl _), ownsRow_below h.H hb (Nat.le_refl _), h.A⟩
theorem TwoOwn.alloc {base : Nat} {vL vH : Value} {lo hi : List Int} {W : World} (h : TwoOwn base vL vH lo hi W) (o : Obj) : TwoOwn base vL vH lo hi (W.alloc o) := h.below (below_alloc _ _)
def PtPost (base : Nat) (lo hi : List Int) (w : World) (e : Ending) (w' : World) : Prop := ∃ vL vH, e = .returned (.agg #[vL, vH]) ∧ TwoOwn base vL vH lo hi w' ∧ Below base w w'
theorem own_slice {w : World} {base : Nat} {e : TypeId} {size : Nat} {v : Value} {n : Nat} {xs : List Value} (h : w.ownsRow base e size v n xs) : ∃ a c, v = .slice a n c := by
 rcases h.2 with ⟨rfl, rfl⟩ | ⟨g, cap, cur, rfl, _⟩
 ·exact ⟨none, 0, rfl⟩
 ·exact ⟨_, _, rfl⟩
def PtS (B : Nat) (vL vH : Value) (W : World) : Prop := W.cell? ⟨B, 0, none⟩ = some vL ∧ W.cell? ⟨B, 1, none⟩ = some vH
structure PtK (base : Nat) (w : World) (vL vH : Value) (v1 v2 : Value) (lo hi : List Int) (W : World) : Prop where
 T : TwoOwn base v1 v2 lo hi W
 K : Below base w W
 P1 : W.heap[w.heap.size]? = some (.cells #[vL, vH] 44 (0, 0))
 P2 : W.heap[w.heap.size + 1]? = some (.cells #[.slice none 0 0, .slice none 0 0] 44 (0, 0))
 hb : base ≤ w.heap.size
 O1 : v1.ownBlock ≠ some (w.heap.size + 1)
 O2 : v2.ownBlock ≠ some (w.heap.size + 1)
theorem PtK.le {base : Nat} {w W : World} {vL vH v1 v2 : Value} {lo hi : List Int} (h : PtK base w vL vH v1 v2 lo hi W) : base ≤ W.heap.size := Nat.le_trans h.hb h.K.size
set_option maxRecDepth 100000 in
theorem PtK.new {base : Nat} {w : World} {vL vH : Value} {lo hi : List Int} (h : TwoOwn base vL vH lo hi w) (hb : base ≤ w.heap.size) : PtK base w vL vH vL vH lo hi ((w.alloc (.cells #[vL, vH] 44)).alloc (.cells #[.slice none 0 0, .slice none 0 0] 44)).drew :=
 have hB : Below w.heap.size w ((w.alloc (.cells #[vL, vH] 44)).alloc (.cells #[.slice none 0 0, .slice none 0 0] 44)).drew := ((below_alloc w _).alloc (by simp) _).drew
 ⟨h.below hB, hB.mono hb, block_alloc (block_new _ _ rfl), block_new _ _ (by simp), hb, fun e => by have := (h.L.lt _ e).2; omega, fun e => by have := (h.H.lt _ e).2; omega⟩
theorem PtK.alloc {base : Nat} {w W : World} {vL vH v1 v2 : Value} {lo hi : List Int} (h : PtK base w vL vH v1 v2 lo hi W) (o : Obj) : PtK base w vL vH v1 v2 lo hi (W.alloc o) :=
 ⟨h.T.alloc o, h.K.alloc h.le o, block_alloc h.P1, block_alloc h.P2, h.hb, h.O1, h.O2⟩
theorem PtK.S {base : Nat} {w W : World} {vL vH v1 v2 : Value} {lo hi : List Int} (h : PtK base w vL vH v1 v2 lo hi W) : PtS w.heap.size vL vH W := ⟨cell_of_block h.P1 rfl, cell_of_block h.P1 rfl⟩
end Go.Proofs.Ytikjjpjekchcjaa.Alt
end
section
namespace Go.Proofs.Ytikjjpjekchcjaa.Alt
open Go.RowKit AltMath MyHeap MyCopy MyOwn
def BOPost (E : Int) (lo hi : List Int) (w : World) (e : Ending) (w' : World) : Prop := ∃ vL vH, e = .returned (.tuple #[.agg #[vL, vH], .int .i64 E]) ∧ (E = 0 → TwoOwn w.heap.size vL vH lo hi w') ∧ (E ≠ 0 → vL = .slice none 0 0 ∧ vH = .slice none 0 0) ∧ Below w.heap.size w w'
theorem TwoOwn.base {b b' : Nat} {vL vH : Value} {lo hi : List Int} {W : World} (h : TwoOwn b vL vH lo hi W) (hb : b' ≤ b) : TwoOwn b' vL vH lo hi W := ⟨ownsRow_base h.L hb, ownsRow_base h.H hb, h.A⟩
theorem TwoOwn.nil (b : Nat) (W : World) : TwoOwn b (.slice none 0 0) (.slice none 0 0) [] [] W := ⟨⟨rfl, Or.inl ⟨rfl, rfl⟩⟩, ⟨rfl, Or.inl ⟨rfl, rfl⟩⟩, fun _ e => by cases e⟩
theorem own_slice3 {w : World} {base : Nat} {e : TypeId} {size : Nat} {v : Value} {n : Nat} {xs : List Value} (h : w.ownsRow base e size v n xs) : ∃ a m c, v = .slice a m c := by
 obtain ⟨a, c, e⟩ := own_slice h
 exact ⟨a, n, c, e⟩
def RfK (w0 : World) (R O : Nat) (f : Nat → Int × Int) (k : Nat) (W : World) : Prop := ∃ aL nL cL aH nH cH, W.heap[R]? = some (.cells #[.slice none 0 0, .slice none 0 0] 44 (0, 0)) ∧ W.heap[O]? = some (.cells #[.slice aL nL cL, .slice aH nH cH] 44 (0, 0)) ∧ TwoOwn (O + 1) (.slice aL nL cL) (.slice aH nH cH) (loK f k) (hiK f k) W ∧ Below w0.heap.size w0 W ∧ w0.heap.size ≤ R ∧ R < O
theorem two_facts {W : World} {b : Nat} {x y : Value} {T : TypeId} (h : W.heap[b]? = some (.cells #[x, y] T (0, 0))) : W.cell? ⟨b, 0, none⟩ = some x ∧ W.cell? ⟨b, 1, none⟩ = some y ∧ W.frozen? ⟨b, 0, none⟩ = false ∧ W.frozen? ⟨b, 1, none⟩ = false := ⟨cell_of_block h rfl, cell_of_block h rfl, free_of_block h, free_of_block h⟩
set_option maxRecDepth 100000 in
theorem RfK.next {w0 W W' : World} {R O : Nat} {f : Nat → Int × Int} {k : Nat} {aL aH : Option Addr} {nL cL nH cH : Nat} {v1 v2 : Value} (hR : w0.heap.size ≤ R) (hRO : R < O) (h1 : W.heap[R]? = some (.cells #[.slice none 0 0, .slice none 0 0] 44 (0, 0))) (h2 : W.heap[O]? = some (.cells #[v1, v2] 44 (0, 0)))
    (hK : Below w0.heap.size w0 W) (hT : TwoOwn (O + 1) (.slice aL nL cL) (.slice aH nH cH) (loK f k ++ [(nm (f k)).1]) (hiK f k ++ [(nm (f k)).2]) W') (hB : Below (O + 1) W W') :
    RfK w0 R O f (k + 1) ((W'.setCell ⟨O, 0, none⟩ (.slice aL nL cL)).setCell ⟨O, 1, none⟩ (.slice aH nH cH)) := by
 have hO : Only O W' ((W'.setCell ⟨O, 0, none⟩ (.slice aL nL cL)).setCell ⟨O, 1, none⟩ (.slice aH nH cH)) := ((Only.refl _ _).setCell 0 _).setCell 1 _
 have k1 : W'.heap[R]? = some (.cells #[.slice none 0 0, .slice none 0 0] 44 (0, 0)) := (hB.block R (by omega)).trans h1
 have k2 : W'.heap[O]? = some (.cells #[v1, v2] 44 (0, 0)) := (hB.block O (by omega)).trans h2
 have hsz : w0.heap.size ≤ W'.heap.size := Nat.le_trans hK.size hB.size
 refine ⟨aL, nL, cL, aH, nH, cH, hO.keeps k1 (by omega), by simpa using block_setCell (i := 1) (v := .slice aH nH cH) (block_setCell (i := 0) (v := .slice aL nL cL) k2), ?_, (hK.trans (hB.mono (by omega))).trans (hO.below (by omega) hsz), hR, hRO⟩
 rw [loK_succ, hiK_succ]
 exact ⟨own_keep hT.L hO (Or.inr fun e => by have := (hT.L.lt _ e).1; omega), own_keep hT.H hO (Or.inr fun e => by have := (hT.H.lt _ e).1; omega), hT.A⟩
theorem meE_ok {alt size : Int} (h : meE alt size = 0) : -1000 ≤ alt ∧ alt ≤ 50000 ∧ (size = 25 ∨ size = 100) := by
 unfold meE at h
 by_cases hh : alt < -1000 ∨ 50000 < alt ∨ (size ≠ 25 ∧ size ≠ 100)
 ·rw [if_pos hh] at h; cases h
 ·omega
theorem meE_or (alt size : Int) : meE alt size = 0 ∨ meE alt size = 1 := by unfold meE; split <;> simp
set_option maxRecDepth 100000 in
theorem RfK.done {w0 W : World} {R b : Nat} {f : Nat → Int × Int} {k : Nat} {aL aH : Option Addr} {nL cL nH cH : Nat} (hR : w0.heap.size ≤ R) (hb : R < b) (h1 : W.heap[R]? = some (.cells #[.slice none 0 0, .slice none 0 0] 44 (0, 0))) (hK : Below w0.heap.size w0 W) (hT : TwoOwn b (.slice aL nL cL) (.slice aH nH cH) (loK f k) (hiK f k) W) :
    TwoOwn w0.heap.size (.slice aL nL cL) (.slice aH nH cH) (loK f k) (hiK f k) ((W.setCell ⟨R, 0, none⟩ (.slice aL nL cL)).setCell ⟨R, 1, none⟩ (.slice aH nH cH)) ∧ Below w0.heap.size w0 ((W.setCell ⟨R, 0, none⟩ (.slice aL nL cL)).setCell ⟨R, 1, none⟩ (.slice aH nH cH)) ∧
     ((W.setCell ⟨R, 0, none⟩ (.slice aL nL cL)).setCell ⟨R, 1, none⟩ (.slice aH nH cH)).cell? ⟨R, 0, none⟩ = some (.slice aL nL cL) ∧ ((W.setCell ⟨R, 0, none⟩ (.slice aL nL cL)).setCell ⟨R, 1, none⟩ (.slice aH nH cH)).cell? ⟨R, 1, none⟩ = some (.slice aH nH cH) := by
 have hx := block_setCell (i := 1) (v := .slice aH nH cH) (block_setCell (i := 0) (v := .slice aL nL cL) h1)
 have hO : Only R W ((W.setCell ⟨R, 0, none⟩ (.slice aL nL cL)).setCell ⟨R, 1, none⟩ (.slice aH nH cH)) := ((Only.refl _ _).setCell 0 _).setCell 1 _
 exact ⟨TwoOwn.base ⟨own_keep hT.L hO (Or.inr fun e => by have := (hT.L.lt _ e).1; omega), own_keep hT.H hO (Or.inr fun e => by have := (hT.H.lt _ e).1; omega), hT.A⟩ (by omega), hK.trans (hO.below hR hK.size), cell_of_block (i := 0) (v := .slice aL nL cL) hx rfl, cell_of_block (i := 1) (v := .slice aH nH cH) hx rfl⟩
end Go.Proofs.Ytikjjpjekchcjaa.Alt
end
section
namespace Go.Proofs.Ytikjjpjekchcjaa.Alt
open Go.RowKit AltMath MyHeap MyCopy MyOwn
theorem bo_err {E E' : Int} {lo hi : List Int} {w w' : World} (hE : E' = E) (h0 : E ≠ 0) (hB : Below w.heap.size w w') : BOPost E' lo hi w (.returned (.tuple #[.agg #[.slice none 0 0, .slice none 0 0], .int .i64 E])) w' := by
 subst hE
 exact ⟨_, _, rfl, fun e => absurd e h0, fun _ => ⟨rfl, rfl⟩, hB⟩
theorem maE_ch {lo hi : List Int} {alt size : Int} (h : chB lo hi ≠ 0) : maE lo hi alt size = chB lo hi := if_pos h
theorem maE_me {lo hi : List Int} {alt size : Int} (h : chB lo hi = 0) : maE lo hi alt size = meE alt size := if_neg (fun e => e h)
def RmK (w0 : World) (O : Nat) (aL : Option Addr) (cL : Nat) (aH : Option Addr) (cH : Nat) (f : Nat → Int × Int) (k : Nat) (W : World) : Prop := RfK w0 (w0.heap.size + 1) O f k W ∧ W.heap[w0.heap.size]? = some (.cells #[.slice aL 201 cL, .slice aH 201 cH] 44 (0, 0))
end Go.Proofs.Ytikjjpjekchcjaa.Alt
end
section
namespace Go.Proofs.Ytikjjpjekchcjaa.Alt
open Go.RowKit AltMath MyHeap MyCopy MyOwn
theorem stE_ch {lo hi : List Int} {p : Int} (h : chB lo hi ≠ 0) : stE lo hi p = chB lo hi := if_pos h
theorem stE_no {lo hi : List Int} {p : Int} (h : chB lo hi = 0) (hp : p < 0 ∨ 32 < p) : stE lo hi p = 1 := by unfold stE; rw [if_neg (fun e => e h), if_pos hp]
theorem stE_ok {lo hi : List Int} {p : Int} (h : chB lo hi = 0) (hp : ¬ (p < 0 ∨ 32 < p)) : stE lo hi p = 0 := by unfold stE; rw [if_neg (fun e => e h), if_neg hp]
theorem stA_le (P k : Nat) (hk : k < 201) : stA P k + stN P k = min 200 (k + P) + 1 ∧ stA P k ≤ min 200 (k + P) := by unfold stN stA; omega
theorem RmK.keep {w0 W W' : World} {O : Nat} {aL aH : Option Addr} {cL cH : Nat} {f : Nat → Int × Int} {k : Nat} (h : RmK w0 O aL cL aH cH f k W) (hb : Below W.heap.size W W') : RmK w0 O aL cL aH cH f k W' := by
 obtain ⟨⟨a, n, c, a', n', c', h1, h2, h3, h4, h5, h6⟩, h7⟩ := h
 exact ⟨⟨a, n, c, a', n', c', keepO hb h1, keepO hb h2, h3.below hb, h4.trans (hb.mono h4.size), h5, h6⟩, keepO hb h7⟩
end Go.Proofs.Ytikjjpjekchcjaa.Alt
end
section
namespace Go.Proofs.Ytikjjpjekchcjaa.Alt
open Go.RowKit AltMath MyHeap MyCopy MyOwn
theorem madeI (n : Nat) : (madeCells #[.int .i64 0] n).toList = flatI (List.replicate n 0) := by
 rw [toList_madeCells_one]; simp [flatI]
set_option maxRecDepth 100000 in
theorem hmkI (n : Nat) (hn : n ≤ 1000000) (W : World) : (Instr.makeSlice 35 (.int .i64 (n : Int)) (.int .i64 (n : Int))).run Try.prog W = .ok (.slice (some ⟨W.heap.size, 0, none⟩) n n) (W.alloc (.cells (madeCells #[.int .i64 0] n) 3)) := by
 obtain ⟨i0, hi, hiz, his, hib⟩ := info_parts' infoI
 have h := run_make W 35 3 i0 _ Try.underlying35 hi hiz .i64 .i64 (n : Int) (n : Int) (by omega) (by omega) (by rw [hib]; omega) (by omega)
 rw [Int.toNat_natCast, his, Nat.mul_one] at h
 exact h
def PairPost (a b : Int) (w : World) (e : Ending) (w' : World) : Prop := e = .returned (.tuple #[.int .i64 a, .int .i64 b]) ∧ Below w.heap.size w w'
theorem pairPost_of {a b a' b' : Int} {w w' : World} (h1 : a = a') (h2 : b = b') (hB : Below w.heap.size w w') : PairPost a' b' w (.returned (.tuple #[.int .i64 a, .int .i64 b])) w' := by subst h1; subst h2; exact ⟨rfl, hB⟩
theorem below_drew (w : World) : Below w.heap.size w w.drew := ⟨rfl, rfl, rfl, Nat.le_refl _, fun _ _ => rfl⟩
set_option maxRecDepth 100000 in
theorem new1_call (alt size : Int) (p q : Nat) (i : Int) (W : World) (h1 : W.cell? ⟨p, 0, none⟩ = some (.int .i64 alt)) (h2 : W.cell? ⟨q, 0, none⟩ = some (.int .i64 size)) (a1 : -1000 ≤ alt) (a2 : alt ≤ 50000) (s1 : 25 ≤ size) (s2 : size ≤ 100) :
    Calls Try.prog 44 #[.int .i64 i, .pointer (some ⟨p, 0, none⟩), .pointer (some ⟨q, 0, none⟩)] W (PairPost alt (min (alt + size - 1) 50000) W) := by
 go_enter Try.func44, Try.ntmps44
 go_wp2_with fail
 go_region
 all_goals
  go_wp2_with fail
  all_goals
   go_ret2
   exact pairPost_of rfl (by omega) (below_drew _)
set_option maxRecDepth 100000 in
theorem own_row {w : World} {b base n : Nat} {cs : Array Value} {ys : List Int} (h : w.heap[b]? = some (.cells cs 3 (0, 0))) (hb : base ≤ b) (hcs : cs.toList = flatI ys) (hn : ys.length = n) (hm : n ≤ 1000) : w.ownsRow base 3 1 (.slice (some ⟨b, 0, none⟩) n n) n (flatI ys) := by
 have hl : (flatI ys).length = n := by rw [flatI_len, hn]
 refine ⟨by rw [hl, Nat.mul_one], Or.inr ⟨b, n, cs, rfl, hb, h, Nat.le_refl _, by unfold maxLen; omega, ?_, ?_⟩⟩
 ·rw [Nat.mul_one, ← Array.length_toList, hcs, hl]
 ·rw [hcs, Nat.mul_one]
  exact List.take_of_length_le (by rw [hl]; exact Nat.le_refl _)
def mdL (f : Nat → Int × Int) (k : Nat) : List Int := loK f k ++ List.replicate (201 - k) 0
def mdH (f : Nat → Int × Int) (k : Nat) : List Int := hiK f k ++ List.replicate (201 - k) 0
theorem set_next {xs : List Int} {k : Nat} {x : Int} (hx : xs.length = k) (hk : k < 201) : (xs ++ List.replicate (201 - k) 0).set k x = (xs ++ [x]) ++ List.replicate (201 - (k + 1)) 0 := by
 obtain ⟨m, hm⟩ : ∃ m, 201 - k = m + 1 := ⟨200 - k, by omega⟩
 rw [hm, show 201 - (k + 1) = m by omega, List.replicate_succ, List.set_append, if_neg (by omega), hx, Nat.sub_self, List.set_cons_zero, List.append_assoc]
 rfl
theorem flatI_set (xs : List Int) (k : Nat) (x : Int) : (flatI xs).set k (.int .i64 x) = flatI (xs.set k x) := by unfold flatI; rw [List.map_set]
theorem mdL_next (f : Nat → Int × Int) {k : Nat} (hk : k < 201) : (flatI (mdL f k)).set k (.int .i64 (nm (f k)).1) = flatI (mdL f (k + 1)) := by
 rw [flatI_set]; unfold mdL; rw [set_next (loK_len f k) hk, loK_succ]
theorem mdH_next (f : Nat → Int × Int) {k : Nat} (hk : k < 201) : (flatI (mdH f k)).set k (.int .i64 (nm (f k)).2) = flatI (mdH f (k + 1)) := by
 rw [flatI_set]; unfold mdH; rw [set_next (hiK_len f k) hk, hiK_succ]
structure MdK (w0 : World) (bL bH bB : Nat) (f : Nat → Int × Int) (k : Nat) (W : World) : Prop where
 B : Below w0.heap.size w0 W
 R : W.heap[w0.heap.size]? = some (.cells #[.slice none 0 0, .slice none 0 0] 44 (0, 0))
 X : W.heap[bB]? = some (.cells #[.slice (some ⟨bL, 0, none⟩) 201 201, .slice (some ⟨bH, 0, none⟩) 201 201] 44 (0, 0))
 L : ∃ cs : Array Value, W.heap[bL]? = some (.cells cs 3 (0, 0)) ∧ cs.toList = flatI (mdL f k)
 H : ∃ cs : Array Value, W.heap[bH]? = some (.cells cs 3 (0, 0)) ∧ cs.toList = flatI (mdH f k)
 n1 : w0.heap.size < bL
 n2 : w0.heap.size < bH
 n3 : w0.heap.size < bB
 d1 : bL ≠ bH
 d2 : bB ≠ bL
 d3 : bB ≠ bH
theorem MdK.keep {w0 W W' : World} {bL bH bB : Nat} {f : Nat → Int × Int} {k : Nat} (h : MdK w0 bL bH bB f k W) (hb : Below W.heap.size W W') : MdK w0 bL bH bB f k W' :=
 ⟨h.B.trans (hb.mono h.B.size), keepO hb h.R, keepO hb h.X, by obtain ⟨cs, h1, h2⟩ := h.L; exact ⟨cs, keepO hb h1, h2⟩, by obtain ⟨cs, h1, h2⟩ := h.H; exact ⟨cs, keepO hb h1, h2⟩, h.n1, h.n2, h.n3, h.d1, h.d2, h.d3⟩
theorem row_at {xs : List Int} {k : Nat} {cs : Array Value} (hx : xs.length = k) (hk : k < 201) (h : cs.toList = flatI (xs ++ List.replicate (201 - k) 0)) : cs[k]? = some (.int .i64 0) := by
 rw [← Array.getElem?_toList, h]
 unfold flatI
 rw [List.getElem?_map, List.getElem?_append_right (by omega), hx, Nat.sub_self, List.getElem?_replicate, if_pos (by omega)]
 rfl
theorem MdK.facts {w0 W : World} {bL bH bB : Nat} {f : Nat → Int × Int} {k : Nat} (h : MdK w0 bL bH bB f k W) (hk : k < 201) :
    W.cell? ⟨bL, k, none⟩ = some (.int .i64 0) ∧ W.cell? ⟨bH, k, none⟩ = some (.int .i64 0) ∧ W.frozen? ⟨bL, k, none⟩ = false ∧ W.frozen? ⟨bH, k, none⟩ = false := by
 obtain ⟨cs, h1, h2⟩ := h.L
 obtain ⟨ds, h3, h4⟩ := h.H
 exact ⟨cell_of_block h1 (row_at (loK_len f k) hk h2), cell_of_block h3 (row_at (hiK_len f k) hk h4), free_of_block h1, free_of_block h3⟩
theorem set_list {cs : Array Value} {k : Nat} {v : Value} : (cs.setIfInBounds k v).toList = cs.toList.set k v := by simp
theorem MdK.storeL {w0 W : World} {bL bH bB : Nat} {f : Nat → Int × Int} {k : Nat} (h : MdK w0 bL bH bB f k W) (hk : k < 201) {x y : Int} (hx : (nm (f k)).1 = x) (hy : (nm (f k)).2 = y) : MdK w0 bL bH bB f (k + 1) ((W.setCell ⟨bL, k, none⟩ (.int .i64 x)).setCell ⟨bH, k, none⟩ (.int .i64 y)) := by
 subst hx; subst hy
 obtain ⟨cs, h1, h2⟩ := h.L
 obtain ⟨ds, h3, h4⟩ := h.H
 have o1 : Only bL W (W.setCell ⟨bL, k, none⟩ (.int .i64 (nm (f k)).1)) := (Only.refl _ _).setCell k _
 have o2 : Only bH (W.setCell ⟨bL, k, none⟩ (.int .i64 (nm (f k)).1)) ((W.setCell ⟨bL, k, none⟩ (.int .i64 (nm (f k)).1)).setCell ⟨bH, k, none⟩ (.int .i64 (nm (f k)).2)) := (Only.refl _ _).setCell k _
 have b1 := h.B.trans (o1.below (Nat.le_of_lt h.n1) h.B.size)
 exact ⟨b1.trans (o2.below (Nat.le_of_lt h.n2) b1.size), o2.keeps (o1.keeps h.R (Nat.ne_of_lt h.n1)) (Nat.ne_of_lt h.n2), o2.keeps (o1.keeps h.X h.d2) h.d3,
  ⟨_, o2.keeps (block_setCell h1) h.d1, by rw [set_list, h2, mdL_next f hk]⟩, ⟨_, block_setCell (o1.keeps h3 h.d1.symm), by rw [set_list, h4, mdH_next f hk]⟩, h.n1, h.n2, h.n3, h.d1, h.d2, h.d3⟩
theorem MdK.storeH {w0 W : World} {bL bH bB : Nat} {f : Nat → Int × Int} {k : Nat} (h : MdK w0 bL bH bB f k W) (hk : k < 201) {x y : Int} (hx : (nm (f k)).1 = x) (hy : (nm (f k)).2 = y) : MdK w0 bL bH bB f (k + 1) ((W.setCell ⟨bH, k, none⟩ (.int .i64 y)).setCell ⟨bL, k, none⟩ (.int .i64 x)) := by
 subst hx; subst hy
 obtain ⟨cs, h1, h2⟩ := h.L
 obtain ⟨ds, h3, h4⟩ := h.H
 have o1 : Only bH W (W.setCell ⟨bH, k, none⟩ (.int .i64 (nm (f k)).2)) := (Only.refl _ _).setCell k _
 have o2 : Only bL (W.setCell ⟨bH, k, none⟩ (.int .i64 (nm (f k)).2)) ((W.setCell ⟨bH, k, none⟩ (.int .i64 (nm (f k)).2)).setCell ⟨bL, k, none⟩ (.int .i64 (nm (f k)).1)) := (Only.refl _ _).setCell k _
 have b1 := h.B.trans (o1.below (Nat.le_of_lt h.n2) h.B.size)
 exact ⟨b1.trans (o2.below (Nat.le_of_lt h.n1) b1.size), o2.keeps (o1.keeps h.R (Nat.ne_of_lt h.n2)) (Nat.ne_of_lt h.n1), o2.keeps (o1.keeps h.X h.d3) h.d2,
  ⟨_, block_setCell (o1.keeps h1 h.d1), by rw [set_list, h2, mdL_next f hk]⟩, ⟨_, o2.keeps (block_setCell h3) h.d1.symm, by rw [set_list, h4, mdH_next f hk]⟩, h.n1, h.n2, h.n3, h.d1, h.d2, h.d3⟩
theorem MdK.two {w0 W : World} {bL bH bB : Nat} {f : Nat → Int × Int} (h : MdK w0 bL bH bB f 201 W) : TwoOwn (w0.heap.size + 1) (.slice (some ⟨bL, 0, none⟩) 201 201) (.slice (some ⟨bH, 0, none⟩) 201 201) (loK f 201) (hiK f 201) W := by
 obtain ⟨cs, h1, h2⟩ := h.L
 obtain ⟨ds, h3, h4⟩ := h.H
 have e1 : mdL f 201 = loK f 201 := by unfold mdL; simp
 have e2 : mdH f 201 = hiK f 201 := by unfold mdH; simp
 rw [e1] at h2
 rw [e2] at h4
 refine ⟨by rw [loK_len]; exact own_row h1 h.n1 h2 (loK_len f 201) (by decide), by rw [hiK_len]; exact own_row h3 h.n2 h4 (hiK_len f 201) (by decide), fun g e1 e2 => ?_⟩
 cases e1
 cases e2
 exact h.d1 rfl
theorem md0 (f : Nat → Int × Int) : (madeCells #[.int .i64 0] 201).toList = flatI (mdL f 0) ∧ (madeCells #[.int .i64 0] 201).toList = flatI (mdH f 0) := ⟨madeI 201, madeI 201⟩
set_option maxRecDepth 100000 in
set_option maxHeartbeats 8000000 in
theorem made_call (f : Nat → Int × Int) (g : Nat) (caps : Array Value) (w : World) (hen : ∀ (args : Array Value) (W : World), (callFunc g args).run Try.prog W = .ok (.enter g args) W) (hat : ∀ W, Below w.heap.size w W → ∀ i : Nat, i < 201 → Calls Try.prog g (#[.int .i64 (i : Int)] ++ caps) W (PairPost (f i).1 (f i).2 W)) :
    Calls Try.prog 43 #[.func (.func g) #[] caps] w (PtPost w.heap.size (loK f 201) (hiK f 201) w) := by
 have mk : ∀ W : World, (Instr.makeSlice 35 (.int .i64 201) (.int .i64 201)).run Try.prog W = .ok (.slice (some ⟨W.heap.size, 0, none⟩) 201 201) (W.alloc (.cells (madeCells #[.int .i64 0] 201) 3)) := hmkI 201 (by decide)
 have HAT := Lib.hid hat
 have HMD := Lib.hid (md0 f)
 clear hat
 go_enter Try.func43, Try.ntmps43
 go_wp2_with fail
 go_region
 all_goals go_wp2_with fail
 have K := Lib.hid (show MdK w (w.heap.size + 1) (w.heap.size + 1 + 1) (w.heap.size + 1 + 1 + 1) f 0 (((((w.alloc (.cells #[.slice none 0 0, .slice none 0 0] 44)).alloc (.cells (madeCells #[.int .i64 0] 201) 3)).alloc (.cells (madeCells #[.int .i64 0] 201) 3)).alloc (.cells #[.slice (some ⟨w.heap.size + 1, 0, none⟩) 201 201, .slice (some ⟨w.heap.size + 1 + 1, 0, none⟩) 201 201] 44)).drew) from ⟨((((below_alloc w _).alloc (by simp) _).alloc (by simp; omega) _).alloc (by simp; omega) _).drew, block_alloc (block_alloc (block_alloc (block_new _ _ rfl))), (block_new _ _ (by simp)), ⟨_, (block_alloc (block_alloc (block_new _ _ (by simp)))), HMD.out.1⟩, ⟨_, (block_alloc (block_new _ _ (by simp))), HMD.out.2⟩, by omega, by omega, by omega, by omega, by omega, by omega⟩)
 generalize ((((w.alloc (.cells #[.slice none 0 0, .slice none 0 0] 44)).alloc (.cells (madeCells #[.int .i64 0] 201) 3)).alloc (.cells (madeCells #[.int .i64 0] 201) 3)).alloc (.cells #[.slice (some ⟨w.heap.size + 1, 0, none⟩) 201 201, .slice (some ⟨w.heap.size + 1 + 1, 0, none⟩) 201 201] 44)).drew = W0 at K ⊢
 generalize w.heap.size + 1 + 1 + 1 = bB at K ⊢
 generalize w.heap.size + 1 + 1 = bH at K ⊢
 generalize w.heap.size + 1 = bL at K ⊢
 rotate_left
 have K := Lib.hid (show MdK w (w.heap.size + 1) (w.heap.size + 1 + 1 + 1) (w.heap.size + 1 + 1) f 0 (((((w.alloc (.cells #[.slice none 0 0, .slice none 0 0] 44)).alloc (.cells (madeCells #[.int .i64 0] 201) 3)).alloc (.cells #[.slice (some ⟨w.heap.size + 1, 0, none⟩) 201 201, .slice (some ⟨w.heap.size + 1 + 1 + 1, 0, none⟩) 201 201] 44)).alloc (.cells (madeCells #[.int .i64 0] 201) 3)).drew) from ⟨((((below_alloc w _).alloc (by simp) _).alloc (by simp; omega) _).alloc (by simp; omega) _).drew, block_alloc (block_alloc (block_alloc (block_new _ _ rfl))), (block_alloc (block_new _ _ (by simp))), ⟨_, (block_alloc (block_alloc (block_new _ _ (by simp)))), HMD.out.1⟩, ⟨_, (block_new _ _ (by simp)), HMD.out.2⟩, by omega, by omega, by omega, by omega, by omega, by omega⟩)
 generalize ((((w.alloc (.cells #[.slice none 0 0, .slice none 0 0] 44)).alloc (.cells (madeCells #[.int .i64 0] 201) 3)).alloc (.cells #[.slice (some ⟨w.heap.size + 1, 0, none⟩) 201 201, .slice (some ⟨w.heap.size + 1 + 1 + 1, 0, none⟩) 201 201] 44)).alloc (.cells (madeCells #[.int .i64 0] 201) 3)).drew = W0 at K ⊢
 generalize w.heap.size + 1 + 1 + 1 = bH at K ⊢
 generalize w.heap.size + 1 + 1 = bB at K ⊢
 generalize w.heap.size + 1 = bL at K ⊢
 rotate_left
 have K := Lib.hid (show MdK w (w.heap.size + 1 + 1) (w.heap.size + 1) (w.heap.size + 1 + 1 + 1) f 0 (((((w.alloc (.cells #[.slice none 0 0, .slice none 0 0] 44)).alloc (.cells (madeCells #[.int .i64 0] 201) 3)).alloc (.cells (madeCells #[.int .i64 0] 201) 3)).alloc (.cells #[.slice (some ⟨w.heap.size + 1 + 1, 0, none⟩) 201 201, .slice (some ⟨w.heap.size + 1, 0, none⟩) 201 201] 44)).drew) from ⟨((((below_alloc w _).alloc (by simp) _).alloc (by simp; omega) _).alloc (by simp; omega) _).drew, block_alloc (block_alloc (block_alloc (block_new _ _ rfl))), (block_new _ _ (by simp)), ⟨_, (block_alloc (block_new _ _ (by simp))), HMD.out.1⟩, ⟨_, (block_alloc (block_alloc (block_new _ _ (by simp)))), HMD.out.2⟩, by omega, by omega, by omega, by omega, by omega, by omega⟩)
 generalize ((((w.alloc (.cells #[.slice none 0 0, .slice none 0 0] 44)).alloc (.cells (madeCells #[.int .i64 0] 201) 3)).alloc (.cells (madeCells #[.int .i64 0] 201) 3)).alloc (.cells #[.slice (some ⟨w.heap.size + 1 + 1, 0, none⟩) 201 201, .slice (some ⟨w.heap.size + 1, 0, none⟩) 201 201] 44)).drew = W0 at K ⊢
 generalize w.heap.size + 1 + 1 + 1 = bB at K ⊢
 generalize w.heap.size + 1 + 1 = bL at K ⊢
 generalize w.heap.size + 1 = bH at K ⊢
 rotate_left
 have K := Lib.hid (show MdK w (w.heap.size + 1 + 1 + 1) (w.heap.size + 1) (w.heap.size + 1 + 1) f 0 (((((w.alloc (.cells #[.slice none 0 0, .slice none 0 0] 44)).alloc (.cells (madeCells #[.int .i64 0] 201) 3)).alloc (.cells #[.slice (some ⟨w.heap.size + 1 + 1 + 1, 0, none⟩) 201 201, .slice (some ⟨w.heap.size + 1, 0, none⟩) 201 201] 44)).alloc (.cells (madeCells #[.int .i64 0] 201) 3)).drew) from ⟨((((below_alloc w _).alloc (by simp) _).alloc (by simp; omega) _).alloc (by simp; omega) _).drew, block_alloc (block_alloc (block_alloc (block_new _ _ rfl))), (block_alloc (block_new _ _ (by simp))), ⟨_, (block_new _ _ (by simp)), HMD.out.1⟩, ⟨_, (block_alloc (block_alloc (block_new _ _ (by simp)))), HMD.out.2⟩, by omega, by omega, by omega, by omega, by omega, by omega⟩)
 generalize ((((w.alloc (.cells #[.slice none 0 0, .slice none 0 0] 44)).alloc (.cells (madeCells #[.int .i64 0] 201) 3)).alloc (.cells #[.slice (some ⟨w.heap.size + 1 + 1 + 1, 0, none⟩) 201 201, .slice (some ⟨w.heap.size + 1, 0, none⟩) 201 201] 44)).alloc (.cells (madeCells #[.int .i64 0] 201) 3)).drew = W0 at K ⊢
 generalize w.heap.size + 1 + 1 + 1 = bL at K ⊢
 generalize w.heap.size + 1 + 1 = bB at K ⊢
 generalize w.heap.size + 1 = bH at K ⊢
 rotate_left
 have K := Lib.hid (show MdK w (w.heap.size + 1 + 1) (w.heap.size + 1 + 1 + 1) (w.heap.size + 1) f 0 (((((w.alloc (.cells #[.slice none 0 0, .slice none 0 0] 44)).alloc (.cells #[.slice (some ⟨w.heap.size + 1 + 1, 0, none⟩) 201 201, .slice (some ⟨w.heap.size + 1 + 1 + 1, 0, none⟩) 201 201] 44)).alloc (.cells (madeCells #[.int .i64 0] 201) 3)).alloc (.cells (madeCells #[.int .i64 0] 201) 3)).drew) from ⟨((((below_alloc w _).alloc (by simp) _).alloc (by simp; omega) _).alloc (by simp; omega) _).drew, block_alloc (block_alloc (block_alloc (block_new _ _ rfl))), (block_alloc (block_alloc (block_new _ _ (by simp)))), ⟨_, (block_alloc (block_new _ _ (by simp))), HMD.out.1⟩, ⟨_, (block_new _ _ (by simp)), HMD.out.2⟩, by omega, by omega, by omega, by omega, by omega, by omega⟩)
 generalize ((((w.alloc (.cells #[.slice none 0 0, .slice none 0 0] 44)).alloc (.cells #[.slice (some ⟨w.heap.size + 1 + 1, 0, none⟩) 201 201, .slice (some ⟨w.heap.size + 1 + 1 + 1, 0, none⟩) 201 201] 44)).alloc (.cells (madeCells #[.int .i64 0] 201) 3)).alloc (.cells (madeCells #[.int .i64 0] 201) 3)).drew = W0 at K ⊢
 generalize w.heap.size + 1 + 1 + 1 = bH at K ⊢
 generalize w.heap.size + 1 + 1 = bL at K ⊢
 generalize w.heap.size + 1 = bB at K ⊢
 rotate_left
 have K := Lib.hid (show MdK w (w.heap.size + 1 + 1 + 1) (w.heap.size + 1 + 1) (w.heap.size + 1) f 0 (((((w.alloc (.cells #[.slice none 0 0, .slice none 0 0] 44)).alloc (.cells #[.slice (some ⟨w.heap.size + 1 + 1 + 1, 0, none⟩) 201 201, .slice (some ⟨w.heap.size + 1 + 1, 0, none⟩) 201 201] 44)).alloc (.cells (madeCells #[.int .i64 0] 201) 3)).alloc (.cells (madeCells #[.int .i64 0] 201) 3)).drew) from ⟨((((below_alloc w _).alloc (by simp) _).alloc (by simp; omega) _).alloc (by simp; omega) _).drew, block_alloc (block_alloc (block_alloc (block_new _ _ rfl))), (block_alloc (block_alloc (block_new _ _ (by simp)))), ⟨_, (block_new _ _ (by simp)), HMD.out.1⟩, ⟨_, (block_alloc (block_new _ _ (by simp))), HMD.out.2⟩, by omega, by omega, by omega, by omega, by omega, by omega⟩)
 generalize ((((w.alloc (.cells #[.slice none 0 0, .slice none 0 0] 44)).alloc (.cells #[.slice (some ⟨w.heap.size + 1 + 1 + 1, 0, none⟩) 201 201, .slice (some ⟨w.heap.size + 1 + 1, 0, none⟩) 201 201] 44)).alloc (.cells (madeCells #[.int .i64 0] 201) 3)).alloc (.cells (madeCells #[.int .i64 0] 201) 3)).drew = W0 at K ⊢
 generalize w.heap.size + 1 + 1 + 1 = bL at K ⊢
 generalize w.heap.size + 1 + 1 = bH at K ⊢
 generalize w.heap.size + 1 = bB at K ⊢
 rotate_left
 all_goals
  go_loopw [10] (fun kv wr => ∃ k : Nat, k ≤ 201 ∧ kv = .int .i64 k ∧ MdK w bL bH bB f k wr) (fun kv _ => 201 - (intOf kv).toNat)
  case atStart => exact ⟨0, Nat.zero_le _, rfl, K.out⟩
  case round =>
   clear K
   obtain ⟨k, hk, rfl, hK⟩ := hrel
   have K := Lib.hid hK
   clear hK
   by_cases hlt : k < 201
   ·have hk0 : (0 : Int) ≤ (k : Int) := by omega
    have hk1 : (k : Int) < 201 := by omega
    go_wp2_with fail
    refine (HAT.out _ K.out.B k hlt).mono ?_; rintro e w3 ⟨rfl, hb⟩
    replace K := Lib.hid (K.out.keep hb)
    obtain ⟨c0, c1, -, -⟩ := two_facts K.out.X
    obtain ⟨x0, y0, f0, f1⟩ := K.out.facts hlt
    have e1 := K.out.d1
    have e2 := K.out.d2
    have e3 := K.out.d3
    clear hb
    by_cases hN : (f k).2 < (f k).1
    ·have HN := Lib.hid hN
     go_wp2_with fail
     go_region
     all_goals
      go_wp2_with fail
      go_roundw
      case rel => exact ⟨k + 1, by omega, by go_num, by first | exact (K.out.keep (below_drew _)).storeL hlt (by rw [nm_no HN.out]) (by rw [nm_no HN.out]) | exact (K.out.keep (below_drew _)).storeH hlt (by rw [nm_no HN.out]) (by rw [nm_no HN.out])⟩
      case measure => simp [intOf]; omega
    ·have HN := Lib.hid (show (f k).1 ≤ (f k).2 by omega)
     go_wp2_with fail
     go_region
     all_goals
      go_wp2_with fail
      go_roundw
      case rel => exact ⟨k + 1, by omega, by go_num, by first | exact (K.out.keep (below_drew _)).storeL hlt (by rw [nm_yes HN.out]) (by rw [nm_yes HN.out]) | exact (K.out.keep (below_drew _)).storeH hlt (by rw [nm_yes HN.out]) (by rw [nm_yes HN.out])⟩
      case measure => simp [intOf]; omega
   ·obtain rfl : k = 201 := by omega
    obtain ⟨c0, c1, -, -⟩ := two_facts K.out.X
    obtain ⟨d0, d1, g0, g1⟩ := two_facts K.out.R
    clear hk hlt
    go_wp2_with fail
    have hx := block_setCell (i := 1) (v := .slice (some ⟨bH, 0, none⟩) 201 201) (block_setCell (i := 0) (v := .slice (some ⟨bL, 0, none⟩) 201 201) K.out.R)
    have hO : Only w.heap.size wr ((wr.setCell ⟨w.heap.size, 0, none⟩ (.slice (some ⟨bL, 0, none⟩) 201 201)).setCell ⟨w.heap.size, 1, none⟩ (.slice (some ⟨bH, 0, none⟩) 201 201)) := ((Only.refl _ _).setCell 0 _).setCell 1 _
    have r0 := cell_of_block (i := 0) (v := .slice (some ⟨bL, 0, none⟩) 201 201) hx rfl
    have r1 := cell_of_block (i := 1) (v := .slice (some ⟨bH, 0, none⟩) 201 201) hx rfl
    have hT := K.out.two
    refine bodyPost_ret (v := .agg #[.slice (some ⟨bL, 0, none⟩) 201 201, .slice (some ⟨bH, 0, none⟩) 201 201]) ?_ rfl ⟨_, _, rfl, TwoOwn.base ⟨own_keep hT.L hO (Or.inr fun e => by have := (hT.L.lt _ e).1; omega), own_keep hT.H hO (Or.inr fun e => by have := (hT.H.lt _ e).1; omega), hT.A⟩ (by omega), K.out.B.trans (hO.below (Nat.le_refl _) K.out.B.size)⟩
    simp [results, Try.f43, go_sem, r0, r1]
end Go.Proofs.Ytikjjpjekchcjaa.Alt
end
