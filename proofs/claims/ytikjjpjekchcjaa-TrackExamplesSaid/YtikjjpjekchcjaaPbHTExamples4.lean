/-
  TrkXe, TrkXf
-/
import Derived.Test.YtikjjpjekchcjaaPbHTExamples1
import Derived.Test.YtikjjpjekchcjaaPbHTExamples3
section
namespace Go.Proofs.Ytikjjpjekchcjaa
open Go.RowKit TrkMath MyHeap MyOwn MyCopy
structure Rd (w : World) (l : List (Nat × Obj)) (x t : Nat) (g : Option Nat) (cx ct : Array Value) (q1 q2 : TB) (W : World) : Prop where
 K : HK w W l
 X : W.heap[x]? = some (.cells cx 46 (0, 0))
 Tb : W.heap[t]? = some (.cells ct 26 (0, 0))
 lt : ∀ y ∈ l, y.1 < x
 ne : x < t
 hb : w.heap.size ≤ x
 b1 : BdX w.heap.size [some x, some t, g] W q1
 b2 : BdX w.heap.size [some x, some t, g] W q2
 hg : ∀ k, g = some k → t < k ∧ k < W.heap.size
theorem Rd.step {w W W' : World} {l : List (Nat × Obj)} {x t : Nat} {g : Option Nat} {cx ct cx' ct' : Array Value} {q1 q2 : TB} (h : Rd w l x t g cx ct q1 q2 W) (hO : Outs [some x, some t, g] W W') (hX : W'.heap[x]? = some (.cells cx' 46 (0, 0))) (hT : W'.heap[t]? = some (.cells ct' 26 (0, 0))) :
    Rd w l x t g cx' ct' q1 q2 W' := by
 have h1 := h.ne
 have h2 := h.hb
 have key : ∀ k, some k ∈ [some x, some t, g] → x ≤ k := fun k hk => by
  rcases List.mem_cons.1 hk with e | hk
  ·cases e; exact Nat.le_refl _
  ·rcases List.mem_cons.1 hk with e | hk
   ·cases e; omega
   ·have := (h.hg k (List.mem_singleton.1 hk).symm).1; omega
 refine ⟨⟨h.K.B.trans (hO.below h.K.B.size fun k hk => by have := key k hk; omega), fun y hy => hO.keeps (h.K.H y hy) fun e => by have := key _ e; have := h.lt y hy; omega⟩, hX, hT, h.lt, h.ne, h.hb, h.b1.outs hO, h.b2.outs hO, fun k hk => ⟨(h.hg k hk).1, Nat.lt_of_lt_of_le (h.hg k hk).2 hO.size⟩⟩
theorem Rd.below {w W W' : World} {l : List (Nat × Obj)} {x t : Nat} {g : Option Nat} {cx ct : Array Value} {q1 q2 : TB} (h : Rd w l x t g cx ct q1 q2 W) (hb : Below W.heap.size W W') : Rd w l x t g cx ct q1 q2 W' := h.step (Outs.of_below hb) (keepO hb h.X) (keepO hb h.Tb)
theorem Rd.setX {w W : World} {l : List (Nat × Obj)} {x t : Nat} {g : Option Nat} {cx ct : Array Value} {q1 q2 : TB} (h : Rd w l x t g cx ct q1 q2 W) (i : Nat) (v : Value) : Rd w l x t g (cx.setIfInBounds i v) ct q1 q2 (W.setCell ⟨x, i, none⟩ v) := by
 have hO := (Only.refl x W).setCell i v
 exact h.step (Outs.of_only hO List.mem_cons_self) (block_setCell h.X) (hO.keeps h.Tb (by have := h.ne; omega))
theorem Rd.setT {w W : World} {l : List (Nat × Obj)} {x t : Nat} {g : Option Nat} {cx ct : Array Value} {q1 q2 : TB} (h : Rd w l x t g cx ct q1 q2 W) (i : Nat) (v : Value) : Rd w l x t g cx (ct.setIfInBounds i v) q1 q2 (W.setCell ⟨t, i, none⟩ v) := by
 have hO := (Only.refl t W).setCell i v
 exact h.step (Outs.of_only hO (List.mem_cons_of_mem _ List.mem_cons_self)) (hO.keeps h.X (by have := h.ne; omega)) (block_setCell h.Tb)
theorem Rd.new {w W : World} {l : List (Nat × Obj)} {q1 q2 : TB} (hK : HK w W l) (h1 : BdX w.heap.size [] W q1) (h2 : BdX w.heap.size [] W q2) (cx ct : Array Value) :
    Rd w l W.heap.size (W.heap.size + 1) none cx ct q1 q2 ((W.alloc (.cells cx 46)).alloc (.cells ct 26)) := by
 have hb : Below W.heap.size W ((W.alloc (.cells cx 46)).alloc (.cells ct 26)) := (below_alloc W _).alloc (by simp) _
 have hY : ∀ g, some g ∈ [some W.heap.size, some (W.heap.size + 1), none] → some g ∈ ([] : List (Option Nat)) ∨ W.heap.size ≤ g := fun g hg => by
  refine Or.inr ?_
  rcases List.mem_cons.1 hg with e | hg
  ·cases e; exact Nat.le_refl _
  ·rcases List.mem_cons.1 hg with e | hg
   ·cases e; exact Nat.le_succ _
   ·cases List.mem_singleton.1 hg
 exact ⟨hK.below hb, block_alloc (block_new W (.cells cx 46 (0, 0)) rfl), block_new _ _ (by simp), fun y hy => lt_of_block (hK.H y hy), Nat.lt_succ_self _, hK.B.size,
  h1.next (Outs.of_below hb) hY, h2.next (Outs.of_below hb) hY, fun k e => by cases e⟩
theorem Rd.row {w W : World} {l : List (Nat × Obj)} {x t : Nat} {cx ct : Array Value} {q1 q2 : TB} (h : Rd w l x t none cx ct q1 q2 W) (o : Obj) : Rd w l x t (some W.heap.size) cx ct q1 q2 (W.alloc o) := by
 have hb := below_alloc W o
 have hY : ∀ g, some g ∈ [some x, some t, some W.heap.size] → some g ∈ [some x, some t, none] ∨ W.heap.size ≤ g := fun g hg => by
  rcases List.mem_cons.1 hg with e | hg
  ·cases e; exact Or.inl List.mem_cons_self
  ·rcases List.mem_cons.1 hg with e | hg
   ·cases e; exact Or.inl (List.mem_cons_of_mem _ List.mem_cons_self)
   ·cases List.mem_singleton.1 hg
    exact Or.inr (Nat.le_refl _)
 have h' := h.below hb
 exact ⟨h'.K, h'.X, h'.Tb, h.lt, h.ne, h.hb, h.b1.next (Outs.of_below hb) hY, h.b2.next (Outs.of_below hb) hY, fun k e => by
  cases e
  exact ⟨lt_of_block h.Tb, by simp⟩⟩
theorem lf_zero {base x t : Nat} {W : World} (hb : base ≤ W.heap.size) (hx : x < W.heap.size) (ht : t < W.heap.size) : Lf base [some x, some t] (.slice (some ⟨W.heap.size, 0, none⟩) 16 16) (List.replicate 16 tb0) (W.alloc (.cells (madeCells (tkC tb0) 160) 46)) := by
 have hr := tks_zero (base := base) (block_new W (.cells (madeCells (tkC tb0) 160) 46 (0, 0)) rfl) hb
 refine ⟨hr, fun k hk => ?_, fun g e hg => ?_⟩
 ·have hz : gt (List.replicate 16 tb0) k = tb0 := by
   have hk : k < 16 := by simpa using hk
   unfold gt
   rw [List.getElem?_replicate, if_pos hk]
   rfl
  rw [hz]
  exact ⟨⟨rfl, by decide, Or.inl rfl⟩, ⟨rfl, by decide, Or.inl rfl⟩, fun g e => (by cases e), fun g e => (by cases e)⟩
 ·have e : g = W.heap.size := by
   have : some W.heap.size = some g := e
   exact (Option.some.inj this).symm
  subst e
  rcases List.mem_cons.1 hg with e | hg
  ·have := Option.some.inj e; omega
  ·have := Option.some.inj (List.mem_singleton.1 hg); omega
theorem Rd.grown {w W W' : World} {l : List (Nat × Obj)} {x t : Nat} {g : Option Nat} {cx ct : Array Value} {q1 q2 : TB} (h : Rd w l x t g cx ct q1 q2 W) (hg : W.grownBy W' g) : Rd w l x t g cx ct q1 q2 W' := by
 have hO : Outs [some x, some t, g] W W' := Outs.of_grown hg (fun k e => by rw [← e]; simp)
 have h1 := h.ne
 have off : ∀ y, y ≤ t → some y ≠ g := fun y hy e => by have := (h.hg y e.symm).1; omega
 refine h.step hO ?_ ?_
 ·exact (hg.block x (lt_of_block h.X) (off x (by omega))).trans h.X
 ·exact (hg.block t (lt_of_block h.Tb) (off t (Nat.le_refl _))).trans h.Tb
theorem Rd.lts {w W : World} {l : List (Nat × Obj)} {x t : Nat} {g : Option Nat} {cx ct : Array Value} {q1 q2 : TB} (h : Rd w l x t g cx ct q1 q2 W) : ∀ k, some k ∈ [some x, some t] → k < W.heap.size := fun k hk => by
 rcases List.mem_cons.1 hk with e | hk
 ·cases e; exact lt_of_block h.X
 ·cases List.mem_singleton.1 hk; exact lt_of_block h.Tb
theorem Rd.bands {w W : World} {l : List (Nat × Obj)} {x t : Nat} {g : Option Nat} {cx ct : Array Value} {q1 q2 : TB} (h : Rd w l x t g cx ct q1 q2 W) : BdX w.heap.size (g :: [some x, some t]) W q1 ∧ BdX w.heap.size (g :: [some x, some t]) W q2 := by
 have hY : ∀ k, some k ∈ g :: [some x, some t] → some k ∈ [some x, some t, g] ∨ W.heap.size ≤ k := fun k hk => by
  rcases List.mem_cons.1 hk with e | hk
  ·rw [e]; exact Or.inl (by simp)
  ·rcases List.mem_cons.1 hk with e | hk
   ·rw [e]; exact Or.inl (by simp)
   ·rw [List.mem_singleton.1 hk]; exact Or.inl (by simp)
 exact ⟨h.b1.turn hY, h.b2.turn hY⟩
theorem Rd.done {w W : World} {l : List (Nat × Obj)} {x t : Nat} {g : Option Nat} {cx ct : Array Value} {q1 q2 : TB} (h : Rd w l x t g cx ct q1 q2 W) : HK w W l ∧ BdX w.heap.size [] W q1 ∧ BdX w.heap.size [] W q2 := ⟨h.K, h.b1.turn (fun k e => by cases e), h.b2.turn (fun k e => by cases e)⟩
theorem HK.less {w W : World} {l l' : List (Nat × Obj)} (h : HK w W l) (hs : ∀ x ∈ l', x ∈ l) : HK w W l' := ⟨h.B, fun x hx => h.H x (hs x hx)⟩
theorem keepG {w W : World} {l : List (Nat × Obj)} {b : Nat} {o : Obj} (h : HK w W l) (hm : (b, o) ∈ l) : W.heap[b]? = some o := h.H _ hm
theorem bdx_as {B : Nat} {X : List (Option Nat)} {W : World} {q q' : TB} (h : BdX B X W q) (hs : q'.2 = q.2) (hl : (q'.1.lo, q'.1.hi) = (q.1.lo, q.1.hi)) : BdX B X W q' := by
 obtain ⟨h1, h2⟩ := Prod.mk.inj hl
 obtain ⟨t', s'⟩ := q'
 obtain ⟨t, s⟩ := q
 dsimp only at hs h1 h2
 subst hs
 exact ⟨by show Alt.Ints W s'.aL s'.nL t'.lo; rw [h1]; exact h.L, by show Alt.Ints W s'.aH s'.nH t'.hi; rw [h2]; exact h.H, h.gL, h.gH⟩
theorem bd_none (B : Nat) (X : List (Option Nat)) (W : World) (t : Tk) (h1 : t.lo = []) (h2 : t.hi = []) : BdX B X W (t, ⟨none, 0, 0, none, 0, 0⟩) :=
 ⟨by show Alt.Ints W none 0 t.lo; rw [h1]; exact ⟨rfl, by decide, Or.inl rfl⟩, by show Alt.Ints W none 0 t.hi; rw [h2]; exact ⟨rfl, by decide, Or.inl rfl⟩, fun g e => (by cases e), fun g e => (by cases e)⟩
theorem tbi_len {base n c : Nat} {X : List (Option Nat)} {a : Option Addr} {M : List TB} {W : World} (h : Lf base X (.slice a n c) M W) (hl : M.length = n) (hn : n ≤ 1000) : TbI W a n M := by
 obtain ⟨a', c', e, hI⟩ := h.tbI (by omega)
 rw [hl] at hI
 cases e
 exact hI
theorem ten_c {W : World} {b : Nat} {T : TypeId} {c0 c1 c2 c3 c4 c5 c6 c7 c8 c9 : Value} {fr : Nat × Nat} (h : W.heap[b]? = some (.cells #[c0, c1, c2, c3, c4, c5, c6, c7, c8, c9] T fr)) : W.cell? ⟨b, 0, none⟩ = some c0 ∧ W.cell? ⟨b, 1, none⟩ = some c1 ∧ W.cell? ⟨b, 2, none⟩ = some c2 ∧ W.cell? ⟨b, 3, none⟩ = some c3 ∧ W.cell? ⟨b, 4, none⟩ = some c4 ∧ W.cell? ⟨b, 5, none⟩ = some c5 ∧ W.cell? ⟨b, 6, none⟩ = some c6 ∧ W.cell? ⟨b, 7, none⟩ = some c7 ∧ W.cell? ⟨b, 8, none⟩ = some c8 ∧ W.cell? ⟨b, 9, none⟩ = some c9 :=
 ⟨cell_of_block h rfl, cell_of_block h rfl, cell_of_block h rfl, cell_of_block h rfl, cell_of_block h rfl, cell_of_block h rfl, cell_of_block h rfl, cell_of_block h rfl, cell_of_block h rfl, cell_of_block h rfl⟩
theorem ten_f {W : World} {b : Nat} {T : TypeId} {cs : Array Value} (h : W.heap[b]? = some (.cells cs T (0, 0))) : W.frozen? ⟨b, 0, none⟩ = false ∧ W.frozen? ⟨b, 1, none⟩ = false ∧ W.frozen? ⟨b, 2, none⟩ = false ∧ W.frozen? ⟨b, 3, none⟩ = false ∧ W.frozen? ⟨b, 4, none⟩ = false ∧ W.frozen? ⟨b, 5, none⟩ = false ∧ W.frozen? ⟨b, 6, none⟩ = false ∧ W.frozen? ⟨b, 7, none⟩ = false ∧ W.frozen? ⟨b, 8, none⟩ = false ∧ W.frozen? ⟨b, 9, none⟩ = false :=
 ⟨free_of_block h, free_of_block h, free_of_block h, free_of_block h, free_of_block h, free_of_block h, free_of_block h, free_of_block h, free_of_block h, free_of_block h⟩
def PT36 : Array Value := #[.int .i64 0, .int .i64 0, .int .i64 0, .int .i64 0, .int .i64 0, .int .i64 2, .int .i64 3, .int .i64 0, .int .i64 257, .int .i64 2, .int .i64 3, .int .i64 0, .int .i64 8, .int .i64 0, .int .i64 3, .int .i64 0, .int .i64 8, .int .i64 9, .int .i64 3, .int .i64 0, .int .i64 8, .int .i64 2, .int .i64 0, .int .i64 0, .int .i64 8, .int .i64 2, .int .i64 16, .int .i64 0, .int .i64 8, .int .i64 2, .int .i64 3, .int .i64 (-1), .int .i64 8, .int .i64 2, .int .i64 3, .int .i64 33]
theorem par_at {W : World} {b : Nat} {T : TypeId} {fr : Nat × Nat} (h : W.heap[b]? = some (.cells PT36 T fr)) {k : Nat} (hk : k < 9) :
    W.cell? ⟨b, k * 4, none⟩ = some (.int .i64 (gpar k).gate) ∧ W.cell? ⟨b, k * 4 + 1, none⟩ = some (.int .i64 (gpar k).need) ∧ W.cell? ⟨b, k * 4 + 2, none⟩ = some (.int .i64 (gpar k).most) ∧ W.cell? ⟨b, k * 4 + 3, none⟩ = some (.int .i64 (gpar k).pull) := by
 rcases (show k = 0 ∨ k = 1 ∨ k = 2 ∨ k = 3 ∨ k = 4 ∨ k = 5 ∨ k = 6 ∨ k = 7 ∨ k = 8 by omega) with rfl | rfl | rfl | rfl | rfl | rfl | rfl | rfl | rfl <;> exact ⟨cell_of_block h rfl, cell_of_block h rfl, cell_of_block h rfl, cell_of_block h rfl⟩
end Go.Proofs.Ytikjjpjekchcjaa
end
section
namespace Go.Proofs.Ytikjjpjekchcjaa
open Go.RowKit TrkMath MyHeap MyOwn MyCopy
noncomputable def lp1C : Code := ((Try.f5.body.bind (loopOf 5)).getD .skip)
set_option maxRecDepth 100000 in
set_option maxHeartbeats 32000000 in
theorem lp1 {u0 u1 u2 u3 u4 u5 u6 u7 u8 u9 u10 u11 u12 u13 u14 u15 u16 u17 u18 u19 u20 u21 u22 u23 u24 u25 u26 u27 u28 u29 u30 u31 u32 u33 u34 u35 u36 u37 u38 u39 u40 u41 u42 u43 u44 u45 u46 u47 u48 u49 u50 u51 u52 u53 u54 u55 u56 u57 u58 u59 u60 u61 u62 u63 u64 u65 u66 u67 u68 u69 u70 u71 u72 u73 u74 u78 u79 u80 u81 u82 u83 u84 u85 u86 u87 u88 u89 u90 u91 u92 u93 u94 u95 u96 u97 u98 u99 u100 u101 u102 u103 u104 u105 u106 u107 u108 u109 u110 u111 u112 u113 u114 u115 u116 u117 u118 u119 u120 u121 u122 u123 u124 u125 u126 u127 u128 u129 u130 u131 u132 u133 u134 u135 u136 u137 u138 u139 u140 u141 u142 u143 u144 u145 u146 u147 u148 u149 u150 u151 u152 u153 u154 u155 u156 u157 u158 u159 u160 u161 u162 u163 u164 u165 u166 u167 u168 u169 u170 u171 u172 u173 u174 u175 u176 u177 u178 u179 u180 u181 u182 u183 u184 u185 u186 u187 u188 u189 u190 u191 u192 u193 u194 u195 u196 u197 u198 u199 u200 u201 u202 u203 u204 u205 u206 u207 u208 u209 u210 u211 u212 u213 u214 u215 u216 u217 u218 u219 u220 u221 u222 u223 u224 u225 u226 u227 u228 u229 u230 u231 u232 u233 u234 u235 u236 u237 u238 u239 u240 u241 u242 u243 u244 u245 u246 u247 u248 u249 u250 u251 u252 u253 u254 u255 u256 u257 u258 u259 u260 u261 u262 u263 u264 u265 u266 u267 u268 u269 u270 u271 u272 u273 u274 u275 u276 u277 u278 u279 u280 u281 u282 u283 u284 u285 u286 u287 u288 u289 u290 u291 u292 u293 u294 u295 u296 u297 u298 u299 u300 u301 u302 u303 u304 u305 u306 u307 u308 u309 u310 u311 u312 u313 u314 u315 u316 u317 u318 u319 u320 u321 u322 u323 u324 u325 u326 u327 u328 u329 u330 u331 u332 u333 u334 u335 u336 u337 u338 u339 u340 u341 u342 u343 u344 u345 u346 u347 u348 u349 u350 u351 u352 u353 u354 u355 u356 u357 u358 u359 u360 u361 u362 u363 u364 u365 u366 u367 u368 u369 u370 : Value} (w : World) (l : List (Nat × Obj)) (bT : Nat) (wc : World) (Q0 : Exit → Act → World → Prop) (hK : HK w wc ((bT, (.cells PT36 23 (0, 0))) :: l)) (hpan : ∀ (c : List PanicEntry) (a : Act) d v (w : World), Q0 (.panic c) (a.put d v) w → Q0 (.panic c) a w)
    (hexit : ∀ a' W', (∃ u0 u3 u4 u5 u6 u7 u8 u78 u79 u80 u81 u82 u83 u84 u85 u86 u87 u88 u89 u90 u91 u92 u93 u94 u95 u96 u97 u98 u99 u100 : Value, a' = ⟨#[u0, u1, u2, u3, u4, u5, u6, u7, u8, u9, u10, u11, u12, u13, u14, u15, u16, u17, u18, u19, u20, u21, u22, u23, u24, u25, u26, u27, u28, u29, u30, u31, u32, u33, u34, u35, u36, u37, u38, u39, u40, u41, u42, u43, u44, u45, u46, u47, u48, u49, u50, u51, u52, u53, u54, u55, u56, u57, u58, u59, u60, u61, u62, u63, u64, u65, u66, u67, u68, u69, u70, u71, u72, u73, u74, .slice (some ⟨bT, 0, none⟩) 9 9, .int .i64 9, .int .i64 9, u78, u79, u80, u81, u82, u83, u84, u85, u86, u87, u88, u89, u90, u91, u92, u93, u94, u95, u96, u97, u98, u99, u100, u101, u102, u103, u104, u105, u106, u107, u108, u109, u110, u111, u112, u113, u114, u115, u116, u117, u118, u119, u120, u121, u122, u123, u124, u125, u126, u127, u128, u129, u130, u131, u132, u133, u134, u135, u136, u137, u138, u139, u140, u141, u142, u143, u144, u145, u146, u147, u148, u149, u150, u151, u152, u153, u154, u155, u156, u157, u158, u159, u160, u161, u162, u163, u164, u165, u166, u167, u168, u169, u170, u171, u172, u173, u174, u175, u176, u177, u178, u179, u180, u181, u182, u183, u184, u185, u186, u187, u188, u189, u190, u191, u192, u193, u194, u195, u196, u197, u198, u199, u200, u201, u202, u203, u204, u205, u206, u207, u208, u209, u210, u211, u212, u213, u214, u215, u216, u217, u218, u219, u220, u221, u222, u223, u224, u225, u226, u227, u228, u229, u230, u231, u232, u233, u234, u235, u236, u237, u238, u239, u240, u241, u242, u243, u244, u245, u246, u247, u248, u249, u250, u251, u252, u253, u254, u255, u256, u257, u258, u259, u260, u261, u262, u263, u264, u265, u266, u267, u268, u269, u270, u271, u272, u273, u274, u275, u276, u277, u278, u279, u280, u281, u282, u283, u284, u285, u286, u287, u288, u289, u290, u291, u292, u293, u294, u295, u296, u297, u298, u299, u300, u301, u302, u303, u304, u305, u306, u307, u308, u309, u310, u311, u312, u313, u314, u315, u316, u317, u318, u319, u320, u321, u322, u323, u324, u325, u326, u327, u328, u329, u330, u331, u332, u333, u334, u335, u336, u337, u338, u339, u340, u341, u342, u343, u344, u345, u346, u347, u348, u349, u350, u351, u352, u353, u354, u355, u356, u357, u358, u359, u360, u361, u362, u363, u364, u365, u366, u367, u368, u369, u370], []⟩ ∧ HK w W' ((bT, (.cells PT36 23 (0, 0))) :: l)) → Q0 (.exit 0) a' W') :
    Code.wp Try.prog lp1C Q0 ⟨#[u0, u1, u2, u3, u4, u5, u6, u7, u8, u9, u10, u11, u12, u13, u14, u15, u16, u17, u18, u19, u20, u21, u22, u23, u24, u25, u26, u27, u28, u29, u30, u31, u32, u33, u34, u35, u36, u37, u38, u39, u40, u41, u42, u43, u44, u45, u46, u47, u48, u49, u50, u51, u52, u53, u54, u55, u56, u57, u58, u59, u60, u61, u62, u63, u64, u65, u66, u67, u68, u69, u70, u71, u72, u73, u74, .slice (some ⟨bT, 0, none⟩) 9 9, .int .i64 9, .int .i64 0, u78, u79, u80, u81, u82, u83, u84, u85, u86, u87, u88, u89, u90, u91, u92, u93, u94, u95, u96, u97, u98, u99, u100, u101, u102, u103, u104, u105, u106, u107, u108, u109, u110, u111, u112, u113, u114, u115, u116, u117, u118, u119, u120, u121, u122, u123, u124, u125, u126, u127, u128, u129, u130, u131, u132, u133, u134, u135, u136, u137, u138, u139, u140, u141, u142, u143, u144, u145, u146, u147, u148, u149, u150, u151, u152, u153, u154, u155, u156, u157, u158, u159, u160, u161, u162, u163, u164, u165, u166, u167, u168, u169, u170, u171, u172, u173, u174, u175, u176, u177, u178, u179, u180, u181, u182, u183, u184, u185, u186, u187, u188, u189, u190, u191, u192, u193, u194, u195, u196, u197, u198, u199, u200, u201, u202, u203, u204, u205, u206, u207, u208, u209, u210, u211, u212, u213, u214, u215, u216, u217, u218, u219, u220, u221, u222, u223, u224, u225, u226, u227, u228, u229, u230, u231, u232, u233, u234, u235, u236, u237, u238, u239, u240, u241, u242, u243, u244, u245, u246, u247, u248, u249, u250, u251, u252, u253, u254, u255, u256, u257, u258, u259, u260, u261, u262, u263, u264, u265, u266, u267, u268, u269, u270, u271, u272, u273, u274, u275, u276, u277, u278, u279, u280, u281, u282, u283, u284, u285, u286, u287, u288, u289, u290, u291, u292, u293, u294, u295, u296, u297, u298, u299, u300, u301, u302, u303, u304, u305, u306, u307, u308, u309, u310, u311, u312, u313, u314, u315, u316, u317, u318, u319, u320, u321, u322, u323, u324, u325, u326, u327, u328, u329, u330, u331, u332, u333, u334, u335, u336, u337, u338, u339, u340, u341, u342, u343, u344, u345, u346, u347, u348, u349, u350, u351, u352, u353, u354, u355, u356, u357, u358, u359, u360, u361, u362, u363, u364, u365, u366, u367, u368, u369, u370], []⟩ wc := by
 conv => arg 2; whnf
 try dsimp only
 have K := Lib.hid hK
 have HQ := Lib.hid hexit
 have HPan := Lib.hid hpan
 clear hK hexit hpan
 go_loopw [77] (fun v77 wr => ∃ k : Nat, k ≤ 9 ∧ v77 = .int .i64 k ∧ HK w wr ((bT, (.cells PT36 23 (0, 0))) :: l)) (fun v77 _ => 9 - (intOf v77).toNat)
 case atStart => exact ⟨0, by omega, rfl, K.out⟩
 case round =>
  clear K
  obtain ⟨k, hk, rfl, hK⟩ := hrel
  have K := Lib.hid hK
  clear hK
  by_cases hlt : k < 9
  ·obtain ⟨x0, x1, x2, x3⟩ := par_at (K.out.H _ List.mem_cons_self) hlt
   have xl := lt_of_block (K.out.H _ List.mem_cons_self)
   have hbad := bP_bad hlt
   have HLt := Lib.hid hlt
   have hk0 : (0 : Int) ≤ (k : Int) := by omega
   have hk1 : (k : Int) < 9 := by omega
   have hkw : IntKind.i64.wrap ((k : Int) + 1) = ((k + 1 : Nat) : Int) := by rw [IntWalk.i64_in _ (by omega)]; omega
   obtain ⟨⟨g, nn, m, pp⟩, hq⟩ : ∃ q, gpar k = q := ⟨_, rfl⟩
   rw [hq] at x0 x1 x2 x3 hbad
   simp only [] at x0 x1 x2 x3
   have HBad := Lib.hid hbad
   clear hq hlt hbad
   replace K := Lib.hid (K.out.alloc #[.int .i64 g, .int .i64 nn, .int .i64 m, .int .i64 pp] 23)
   go_wp2_with fail
   clear x0 x1 x2 x3 xl
   obtain ⟨B3, hB3⟩ : ∃ b, b = wr.heap.size := ⟨_, rfl⟩
   rw [← hB3] at K ⊢
   clear hB3
   generalize wr.alloc (.cells #[.int .i64 g, .int .i64 nn, .int .i64 m, .int .i64 pp] 23) = w1 at *
   refine (new_err HBad.out _).mono ?_; rintro e w2 ⟨rfl, hb⟩
   replace K := Lib.hid ((K.out.below hb).alloc #[.int .i64 0, .int .i64 0, .int .i64 0, .int .i64 0, .int .i64 0, .int .i64 0, .slice none 0 0] 26)
   clear hb
   go_upto_region 8 with fail
   obtain ⟨B4, hB4⟩ : ∃ b, b = w2.heap.size := ⟨_, rfl⟩
   rw [← hB4] at K ⊢
   clear hB4
   generalize w2.alloc (.cells #[.int .i64 0, .int .i64 0, .int .i64 0, .int .i64 0, .int .i64 0, .int .i64 0, .slice none 0 0] 26) = w3 at *
   have hB3 : w3.heap[B3]? = some (.cells #[.int .i64 g, .int .i64 nn, .int .i64 m, .int .i64 pp] 23 (0, 0)) := K.out.H _ (List.mem_cons_of_mem _ List.mem_cons_self)
   have hcall : ∀ (W : World) (gb : Nat), Below w3.heap.size w3 W → W.heap[gb]? = some (.cells (madeCells #[.int .i64 0, .int .i64 0, .int .i64 0] 51) 40 (0, 0)) → Calls Try.prog 9 #[.agg #[.int .i64 g, .int .i64 nn, .int .i64 m, .int .i64 pp, .int .i64 0, .int .i64 0, .slice none 0 0], .slice (some ⟨gb, 0, none⟩) 17 17] W (CyErr 1 W) := fun W gb hb hg => cy_err ⟨g, nn, m, pp⟩ (cyE_par HBad.out 0 0 [] _) (by decide) none 0 0 _ 17 17 [] W (TbI.nil _ _) rfl (pls_zero hg)
   refine rg8 B3 1 w3 _ hB3 hcall (fun _ _ _ _ _ h => HPan.out _ _ _ _ _ h) ?_
   rintro a' w4 ⟨u6, u7, u86, u87, u88, u89, u90, u91, u92, u93, rfl, hb⟩
   try dsimp only
   replace K := Lib.hid (K.out.below hb)
   clear hb hB3 hcall
   --@@
   go_wp2_with fail
   refine ⟨⟨k + 1, HLt.out, by go_num, K.out.less (fun x hx => List.mem_cons_of_mem _ (List.mem_cons_of_mem _ hx))⟩, by simp [intOf]; have := HLt.out; omega⟩
  ·have hk9 : (k : Int) = 9 := by omega
   rw [hk9]
   go_wp2_with fail
   exact HQ.out _ _ ⟨_, _, _, _, _, _, _, _, _, _, _, _, _, _, _, _, _, _, _, _, _, _, _, _, _, _, _, _, _, _, rfl, K.out⟩
end Go.Proofs.Ytikjjpjekchcjaa
end
