/-
  TrkXi, TrkXh
-/
import Derived.Test.YtikjjpjekchcjaaPbHTExamples1
section
namespace Go.Proofs.Ytikjjpjekchcjaa
open Go.RowKit TrkMath MyHeap MyOwn MyCopy
theorem tb_cells {W : World} {b : Nat} {c0 c1 c2 c3 c4 c5 c6 : Value} (h : W.heap[b]? = some (.cells #[c0, c1, c2, c3, c4, c5, c6] 26 (0, 0))) (x0 x1 x2 x3 x4 x5 x6 : Value) :
    (((((((W.setCell ⟨b, 0, none⟩ x0).setCell ⟨b, 1, none⟩ x1).setCell ⟨b, 2, none⟩ x2).setCell ⟨b, 3, none⟩ x3).setCell ⟨b, 4, none⟩ x4).setCell ⟨b, 5, none⟩ x5).setCell ⟨b, 6, none⟩ x6).heap[b]? = some (.cells #[x0, x1, x2, x3, x4, x5, x6] 26 (0, 0)) := by
 have := block_setCell (i := 6) (v := x6) (block_setCell (i := 5) (v := x5) (block_setCell (i := 4) (v := x4) (block_setCell (i := 3) (v := x3) (block_setCell (i := 2) (v := x2) (block_setCell (i := 1) (v := x1) (block_setCell (i := 0) (v := x0) h))))))
 simpa using this
theorem BdX.below {B : Nat} {X : List (Option Nat)} {w w' : World} {q : TB} (h : BdX B X w q) (hb : Below w.heap.size w w') : BdX B X w' q := h.outs (Outs.of_below hb)
theorem tbi_one {W : World} {g : Nat} {q : TB} (h : W.heap[g]? = some (.cells (tkC q) 46 (0, 0))) (hq : BdI W q) : TbI W (some ⟨g, 0, none⟩) 1 [q] := by
 refine ⟨⟨rfl, by decide, Or.inr ⟨g, 0, rfl, fun i hi => ?_⟩⟩, fun k hk => ?_⟩
 ·have : i = 0 := by omega
  subst this
  exact ⟨cell_of_block h rfl, cell_of_block h rfl, cell_of_block h rfl, cell_of_block h rfl, cell_of_block h rfl, cell_of_block h rfl, cell_of_block h rfl, cell_of_block h rfl, cell_of_block h rfl, cell_of_block h rfl⟩
 ·have : k = 0 := by omega
  subst this
  exact hq
def flatP (L : List Pl) : List Value := L.flatMap fun y => [.int .i64 y.r, .int .i64 y.code, .int .i64 y.addr]
theorem flatP_snoc (L : List Pl) (y : Pl) : flatP (L ++ [y]) = flatP L ++ [.int .i64 y.r, .int .i64 y.code, .int .i64 y.addr] := by simp [flatP]
theorem flatP_get (L : List Pl) (i : Nat) (hi : i < L.length) : (flatP L)[i * 3]? = some (.int .i64 (gp L i).r) ∧ (flatP L)[i * 3 + 1]? = some (.int .i64 (gp L i).code) ∧ (flatP L)[i * 3 + 2]? = some (.int .i64 (gp L i).addr) := by
 induction L generalizing i with
 | nil => exact absurd hi (Nat.not_lt_zero _)
 | cons y L ih =>
  have e : flatP (y :: L) = .int .i64 y.r :: .int .i64 y.code :: .int .i64 y.addr :: flatP L := rfl
  cases i with
  | zero => rw [e]; exact ⟨rfl, rfl, rfl⟩
  | succ i =>
   have := ih i (by simpa using hi)
   rw [e, show (i + 1) * 3 = i * 3 + 1 + 1 + 1 by omega]
   simpa [gp] using this
def PG (k : Nat) : List Pl := (List.range k).map yG
theorem PG_succ (k : Nat) : PG (k + 1) = PG k ++ [yG k] := by unfold PG; rw [List.range_succ, List.map_append]; rfl
theorem PG_len (k : Nat) : (PG k).length = k := by unfold PG; simp
theorem row_plot {W : World} {base : Nat} {v' : Value} {k : Nat} (h : W.ownsRow base 40 3 v' (k + 1) (flatP (PG k) ++ [.int .i64 (100 * ((k : Int) + 1)), .int .i64 4156, .int .i64 (k : Int)])) : W.ownsRow base 40 3 v' (k + 1) (flatP (PG (k + 1))) := by
 rw [PG_succ, flatP_snoc]
 exact h
def PlM (g k : Nat) (W : World) : Prop := ∃ cs : Array Value, W.heap[g]? = some (.cells cs 40 (0, 0)) ∧ ∀ i, i < 16 → cs[i * 3]? = some (.int .i64 (if i < k then 8000 else 100 * ((i : Int) + 1))) ∧ cs[i * 3 + 1]? = some (.int .i64 4156) ∧ cs[i * 3 + 2]? = some (.int .i64 (i : Int))
theorem PlM.own {W : World} {base : Nat} {v : Value} (h : W.ownsRow base 40 3 v 16 (flatP (PG 16))) : ∃ g c, v = .slice (some ⟨g, 0, none⟩) 16 c ∧ base ≤ g ∧ PlM g 0 W := by
 rcases h.2 with ⟨-, h0⟩ | ⟨g, cap, cur, rfl, hg, hh, hc, hcm, hcs, ht⟩
 ·cases h0
 ·refine ⟨g, cap, rfl, hg, cur, hh, fun i hi => ?_⟩
  have hp : gp (PG 16) i = yG i := gp_map hi
  obtain ⟨h1, h2, h3⟩ := flatP_get (PG 16) i (by rw [PG_len]; exact hi)
  rw [hp] at h1 h2 h3
  rw [← ht, List.getElem?_take_of_lt (by omega)] at h1 h2 h3
  rw [Array.getElem?_toList] at h1 h2 h3
  exact ⟨h1, h2, h3⟩
theorem PlM.at {g k i : Nat} {W : World} (h : PlM g k W) (hi : i < 16) : W.cell? ⟨g, i * 3, none⟩ = some (.int .i64 (if i < k then 8000 else 100 * ((i : Int) + 1))) ∧ W.frozen? ⟨g, i * 3, none⟩ = false ∧ g < W.heap.size := by
 obtain ⟨cs, h1, h2⟩ := h
 exact ⟨cell_of_block h1 (h2 i hi).1, free_of_block h1, lt_of_block h1⟩
theorem PlM.pls {g k : Nat} {W : World} (h : PlM g k W) (L : List Pl) (hl : L.length = 16) (hL : ∀ i, i < 16 → gp L i = ⟨if i < k then 8000 else 100 * ((i : Int) + 1), 4156, i⟩) : Pls W (some ⟨g, 0, none⟩) 16 L := by
 obtain ⟨cs, h1, h2⟩ := h
 refine ⟨hl, by decide, Or.inr ⟨g, 0, rfl, fun i hi => ?_⟩⟩
 rw [hL i hi, Nat.zero_add]
 exact ⟨cell_of_block h1 (h2 i hi).1, cell_of_block h1 (h2 i hi).2.1, cell_of_block h1 (h2 i hi).2.2⟩
theorem PlM.first {g : Nat} {W : World} (h : PlM g 0 W) : Pls W (some ⟨g, 0, none⟩) 16 PF := h.pls PF PF_len fun _ hi => gp_map hi
theorem PlM.last {g : Nat} {W : World} (h : PlM g 16 W) : Pls W (some ⟨g, 0, none⟩) 16 PH := h.pls PH PH_len fun i hi => by
 rw [if_pos hi]
 exact gp_map hi
theorem PlM.below {g k : Nat} {W W' : World} (h : PlM g k W) (hb : Below W.heap.size W W') : PlM g k W' := by
 obtain ⟨cs, h1, h2⟩ := h
 exact ⟨cs, keepO hb h1, h2⟩
theorem PlM.set {g k : Nat} {W : World} (h : PlM g k W) (hk : k < 16) : PlM g (k + 1) (W.setCell ⟨g, k * 3, none⟩ (.int .i64 8000)) := by
 obtain ⟨cs, h1, h2⟩ := h
 refine ⟨_, block_setCell h1, fun i hi => ?_⟩
 have h3 := h2 i hi
 have hs : k * 3 < cs.size := by
  have := (h2 k hk).1
  rw [Array.getElem?_eq_some_iff] at this
  exact this.1
 refine ⟨?_, ?_, ?_⟩
 ·by_cases c : i = k
  ·subst c
   rw [Array.getElem?_setIfInBounds_self_of_lt hs, if_pos (by omega)]
  ·rw [Array.getElem?_setIfInBounds_ne (fun q => c (by omega)), h3.1]
   by_cases d : i < k
   ·rw [if_pos d, if_pos (by omega)]
   ·rw [if_neg d, if_neg (by omega)]
 ·rw [Array.getElem?_setIfInBounds_ne (by omega), h3.2.1]
 ·rw [Array.getElem?_setIfInBounds_ne (by omega), h3.2.2]
theorem fsts_oneX (s : Bs) : fsts [(oneT, s)] = [oneT] := rfl
theorem maE_X : AltMath.maE xL xH 5000 25 = 0 := by
 unfold AltMath.maE
 rw [if_neg (by rw [chX]; exact fun e => e rfl)]
 decide
theorem xL_len : xL.length = 201 ∧ xH.length = 201 := ⟨AltMath.loK_len _ _, AltMath.hiK_len _ _⟩
theorem gL_len : gL.length = 201 ∧ gH.length = 201 := ⟨AltMath.loK_len _ _, AltMath.hiK_len _ _⟩
theorem new_X (W : World) : Calls Try.prog 17 #[.int .i64 1000, .int .i64 25] W (fun e w' => ∃ a c a' c', e = .returned (.tuple #[.agg #[.slice a 201 c, .slice a' 201 c'], .int .i64 0]) ∧ Alt.TwoOwn W.heap.size (.slice a 201 c) (.slice a' 201 c') xL xH w' ∧ Below W.heap.size W w') := by
 have h := Alt.pNew_call 1000 25 W
 rw [show AltMath.meE 1000 25 = 0 from by decide] at h
 refine h.mono ?_
 rintro e w' ⟨vL, vH, rfl, h2, -, hb⟩
 have h2 := h2 rfl
 obtain ⟨a, c, rfl⟩ := row_slice (xL_len.1 ▸ h2.L)
 obtain ⟨a', c', rfl⟩ := row_slice (xL_len.2 ▸ h2.H)
 exact ⟨a, c, a', c', rfl, h2, hb⟩
theorem mea_X (a a' : Option Addr) (c c' : Nat) (W : World) (hL : Alt.Ints W a 201 xL) (hH : Alt.Ints W a' 201 xH) : Calls Try.prog 18 #[.agg #[.slice a 201 c, .slice a' 201 c'], .int .i64 5000, .int .i64 25] W (fun e w' => ∃ a c a' c', e = .returned (.tuple #[.agg #[.slice a 201 c, .slice a' 201 c'], .int .i64 0]) ∧ Alt.TwoOwn W.heap.size (.slice a 201 c) (.slice a' 201 c') gL gH w' ∧ Below W.heap.size W w') := by
 have h := Alt.pMea_call a a' 201 201 c c' xL xH 5000 25 W hL hH
 rw [maE_X] at h
 refine h.mono ?_
 rintro e w' ⟨vL, vH, rfl, h2, -, hb⟩
 have h2 := h2 rfl
 obtain ⟨a, c, rfl⟩ := row_slice (gL_len.1 ▸ h2.L)
 obtain ⟨a', c', rfl⟩ := row_slice (gL_len.2 ▸ h2.H)
 exact ⟨a, c, a', c', rfl, h2, hb⟩
theorem new_G (W : World) : Calls Try.prog 13 #[.agg #[.int .i64 8, .int .i64 2, .int .i64 3, .int .i64 4]] W (fun e w' => e = .returned (.tuple #[.agg #[.int .i64 8, .int .i64 2, .int .i64 3, .int .i64 4, .int .i64 0, .int .i64 0, .slice none 0 0], .int .i64 0]) ∧ Below W.heap.size W w') := new_ok (p := pG) (parE_ok pG_ok) W
theorem HK.add {w W : World} {l : List (Nat × Obj)} {b : Nat} {o : Obj} (h : HK w W l) (hx : W.heap[b]? = some o) : HK w W ((b, o) :: l) := ⟨h.B, fun x hx' => by
 rcases List.mem_cons.1 hx' with e | hx'
 ·subst e; exact hx
 ·exact h.H x hx'⟩
theorem HK.grown {w W W' : World} {l : List (Nat × Obj)} {row : Option Nat} (h : HK w W l) (hg : W.grownBy W' row) (hr : ∀ k, row = some k → w.heap.size ≤ k ∧ ∀ x ∈ l, x.1 < k) : HK w W' l :=
 ⟨h.B.trans ((Outs.of_grown (X := [row]) hg (fun k e => by rw [← e]; simp)).below h.B.size (fun k hk => (hr k (List.mem_singleton.1 hk).symm).1)), fun x hx => (hg.block x.1 (lt_of_block (h.H x hx)) (fun e => Nat.lt_irrefl _ ((hr _ e.symm).2 x hx))).trans (h.H x hx)⟩
theorem HK.lts {w W : World} {l : List (Nat × Obj)} (h : HK w W l) : ∀ x ∈ l, x.1 < W.heap.size := fun x hx => lt_of_block (h.H x hx)
theorem cy_F (a : Option Addr) (c pc : Nat) (g : Nat) (W : World) (hP : PlM g 0 W) : Calls Try.prog 9 #[.agg #[.int .i64 8, .int .i64 2, .int .i64 3, .int .i64 4, .int .i64 0, .int .i64 0, .slice a 0 c], .slice (some ⟨g, 0, none⟩) 16 pc] W (fun e w' => ∃ a' c' ea ec M', e = .returned (.tuple #[.agg #[.int .i64 8, .int .i64 2, .int .i64 3, .int .i64 4, .int .i64 1, .int .i64 16, .slice a' 16 c'], .slice ea 16 ec, .int .i64 0]) ∧ TbJ W.heap.size w' a' 16 M' ∧ fsts M' = TF 16 ∧ Below W.heap.size W w') := by
 have h := cy_call pG exF.1 exF.2.1 exF.2.2.2 (by rw [TF_len]; decide) rfl a 0 c (some ⟨g, 0, none⟩) 16 pc [] W (TbI.nil _ _) rfl hP.first
 rw [TF_len] at h
 refine h.mono ?_
 rintro e w' ⟨a', c', ea, em, ec, M', rfl, hJ, hM, hE, hb⟩
 have hl := hE.len
 rw [exF.2.2.1] at hl
 have : em = 16 := by rw [← hl]; simp
 subst this
 exact ⟨a', c', ea, ec, M', rfl, hJ, hM, hb⟩
theorem cy_H (a : Option Addr) (c pc : Nat) (g : Nat) (M : List TB) (W : World) (hT : TbI W a 16 M) (hM : fsts M = TF 16) (hP : PlM g 16 W) : Calls Try.prog 9 #[.agg #[.int .i64 8, .int .i64 2, .int .i64 3, .int .i64 4, .int .i64 1, .int .i64 16, .slice a 16 c], .slice (some ⟨g, 0, none⟩) 16 pc] W (fun e w' => ∃ a' c' b o ec, e = .returned (.tuple #[.agg #[.int .i64 8, .int .i64 2, .int .i64 3, .int .i64 4, .int .i64 2, .int .i64 16, .slice a' 16 c'], .slice (some ⟨b, o, none⟩) 16 ec, .int .i64 0]) ∧ (w'.cell? ⟨b, o + 45, none⟩ = some (.int .u8 3) ∧ w'.cell? ⟨b, o + 45 + 1, none⟩ = some (.int .i64 15) ∧ w'.cell? ⟨b, o + 45 + 2, none⟩ = some (.int .i64 (-1))) ∧ Below W.heap.size W w') := by
 have hl : ((List.range 16).map mF).length = 16 := by simp
 have h := cy_call pG exH.1 exH.2.1 exH.2.2.2 (by rw [hl]; decide) rfl a 16 c (some ⟨g, 0, none⟩) 16 pc M W hT hM hP.last
 rw [hl] at h
 refine h.mono ?_
 rintro e w' ⟨a', c', ea, em, ec, M', rfl, hJ, hM', hE, hb⟩
 rw [exH.2.2.1] at hE
 have hl := hE.len
 have : em = 16 := by rw [← hl]; simp
 subst this
 obtain ⟨b, o, rfl, h1, h2, h3⟩ := evi_at hE (k := 15) (by decide)
 have hg : ge ((List.range 16).map fun (j : Nat) => (⟨3, (j : Int), -1⟩ : Ev)) 15 = ⟨3, 15, -1⟩ := rfl
 rw [hg] at h1 h2 h3
 exact ⟨a', c', b, o, ec, rfl, ⟨h1, h2, h3⟩, hb⟩
end Go.Proofs.Ytikjjpjekchcjaa
end
section
namespace Go.Proofs.Ytikjjpjekchcjaa
open Go.RowKit TrkMath MyHeap MyOwn MyCopy
noncomputable def rg53C : Code := ((Try.f5.body.bind (regOf 53)).getD .skip)
set_option maxRecDepth 100000 in
set_option maxHeartbeats 32000000 in
theorem rg53 {u0 u1 u2 u3 u4 u5 u6 u7 u8 u9 u10 u11 u12 u13 u14 u15 u16 u17 u18 u19 u20 u21 u22 u24 u25 u26 u27 u28 u29 u30 u31 u32 u33 u34 u35 u36 u37 u38 u39 u40 u41 u42 u43 u44 u45 u46 u47 u48 u49 u50 u51 u52 u53 u54 u55 u56 u57 u58 u59 u60 u61 u62 u63 u64 u65 u66 u67 u68 u69 u70 u71 u72 u73 u74 u75 u76 u77 u78 u79 u80 u81 u82 u83 u84 u85 u86 u87 u88 u89 u90 u91 u92 u93 u94 u95 u96 u97 u98 u99 u100 u101 u102 u103 u104 u105 u106 u107 u108 u109 u110 u111 u112 u113 u114 u115 u116 u117 u118 u119 u120 u121 u122 u123 u124 u125 u126 u127 u128 u129 u130 u131 u132 u133 u134 u135 u136 u137 u138 u139 u140 u141 u142 u143 u144 u145 u146 u147 u148 u149 u150 u151 u152 u153 u154 u155 u156 u157 u158 u159 u160 u161 u162 u163 u164 u165 u166 u167 u168 u169 u170 u171 u172 u173 u174 u175 u176 u177 u178 u179 u180 u181 u182 u183 u184 u185 u186 u187 u188 u189 u190 u191 u192 u193 u194 u195 u196 u197 u198 u199 u200 u201 u202 u203 u204 u205 u206 u207 u208 u209 u210 u211 u212 u213 u214 u215 u216 u217 u218 u219 u220 u221 u222 u223 u224 u225 u226 u227 u228 u229 u230 u231 u232 u233 u234 u235 u236 u237 u238 u239 u240 u241 u242 u243 u244 u245 u246 u247 u248 u249 u250 u251 u252 u253 u254 u255 u256 u257 u258 u259 u260 u261 u262 u263 u264 u265 u266 u267 u268 u269 u270 u271 u272 u273 u274 u275 u276 u277 u278 u279 u280 u281 u282 u283 u284 u285 u286 u287 u288 u289 u290 u291 u292 u293 u294 u295 u296 u297 u298 u299 u300 u301 u302 u303 u304 u305 u306 u307 u308 u309 u310 u311 u312 u313 u314 u315 u316 u317 u318 u319 u320 u321 u322 u323 u324 u325 u326 u327 u328 u329 u330 u331 u332 u333 u334 u335 u336 u337 u338 u339 u340 u341 u342 u343 u344 u345 u346 u347 u348 u349 u350 u351 u352 u353 u354 u355 u356 u357 u358 u359 u360 u361 u362 u363 u364 u365 u366 u367 u368 u369 u370 : Value} (b gS : Nat) (wc : World) (Q0 : Exit → Act → World → Prop) (hb : wc.heap[b]? = some (.cells #[.int .i64 8, .int .i64 2, .int .i64 3, .int .i64 4, .int .i64 0, .int .i64 4, .slice (some ⟨gS, 0, none⟩) 1 1] 26 (0, 0))) (hpan : ∀ (c : List PanicEntry) (a : Act) d v (w : World), Q0 (.panic c) (a.put d v) w → Q0 (.panic c) a w)
    (hexit : ∀ a' W', (∃ (b1 b2 : Nat) (u201 u202 : Value), a' = ⟨#[u0, u1, u2, u3, u4, u5, u6, u7, u8, u9, u10, u11, u12, u13, u14, u15, u16, u17, u18, u19, u20, u21, u22, .pointer (some ⟨b, 0, none⟩), .pointer (some ⟨b1, 0, none⟩), .pointer (some ⟨b2, 0, none⟩), u26, u27, u28, u29, u30, u31, u32, u33, u34, u35, u36, u37, u38, u39, u40, u41, u42, u43, u44, u45, u46, u47, u48, u49, u50, u51, u52, u53, u54, u55, u56, u57, u58, u59, u60, u61, u62, u63, u64, u65, u66, u67, u68, u69, u70, u71, u72, u73, u74, u75, u76, u77, u78, u79, u80, u81, u82, u83, u84, u85, u86, u87, u88, u89, u90, u91, u92, u93, u94, u95, u96, u97, u98, u99, u100, u101, u102, u103, u104, u105, u106, u107, u108, u109, u110, u111, u112, u113, u114, u115, u116, u117, u118, u119, u120, u121, u122, u123, u124, u125, u126, u127, u128, u129, u130, u131, u132, u133, u134, u135, u136, u137, u138, u139, u140, u141, u142, u143, u144, u145, u146, u147, u148, u149, u150, u151, u152, u153, u154, u155, u156, u157, u158, u159, u160, u161, u162, u163, u164, u165, u166, u167, u168, u169, u170, u171, u172, u173, u174, u175, u176, u177, u178, u179, u180, u181, u182, u183, u184, u185, u186, u187, u188, u189, u190, u191, u192, u193, u194, u195, u196, u197, u198, u199, u200, u201, u202, u203, u204, u205, u206, u207, u208, u209, u210, u211, u212, u213, u214, u215, u216, u217, u218, u219, u220, u221, u222, u223, u224, u225, u226, u227, u228, u229, u230, u231, u232, u233, u234, u235, u236, u237, u238, u239, u240, u241, u242, u243, u244, u245, u246, u247, u248, u249, u250, u251, u252, u253, u254, u255, u256, u257, u258, u259, u260, u261, u262, u263, u264, u265, u266, u267, u268, u269, u270, u271, u272, u273, u274, u275, u276, u277, u278, u279, u280, u281, u282, u283, u284, u285, u286, u287, u288, u289, u290, u291, u292, u293, u294, u295, u296, u297, u298, u299, u300, u301, u302, u303, u304, u305, u306, u307, u308, u309, u310, u311, u312, u313, u314, u315, u316, u317, u318, u319, u320, u321, u322, u323, u324, u325, u326, u327, u328, u329, u330, u331, u332, u333, u334, u335, u336, u337, u338, u339, u340, u341, u342, u343, u344, u345, u346, u347, u348, u349, u350, u351, u352, u353, u354, u355, u356, u357, u358, u359, u360, u361, u362, u363, u364, u365, u366, u367, u368, u369, u370], []⟩ ∧ Below wc.heap.size wc W' ∧ W'.heap[b1]? = some (.cells #[.int .i64 8, .int .i64 2, .int .i64 3, .int .i64 4, .int .i64 0, .int .i64 4, .slice (some ⟨gS, 0, none⟩) 1 1] 26 (0, 0)) ∧ W'.heap[b2]? = some (.cells #[.int .i64 8, .int .i64 2, .int .i64 3, .int .i64 4, .int .i64 0, .int .i64 4, .slice (some ⟨gS, 0, none⟩) 1 1] 26 (0, 0)) ∧ wc.heap.size ≤ b1 ∧ wc.heap.size ≤ b2 ∧ b1 ≠ b2) → Q0 .normal a' W') :
    Code.wp Try.prog rg53C Q0 ⟨#[u0, u1, u2, u3, u4, u5, u6, u7, u8, u9, u10, u11, u12, u13, u14, u15, u16, u17, u18, u19, u20, u21, u22, .pointer (some ⟨b, 0, none⟩), u24, u25, u26, u27, u28, u29, u30, u31, u32, u33, u34, u35, u36, u37, u38, u39, u40, u41, u42, u43, u44, u45, u46, u47, u48, u49, u50, u51, u52, u53, u54, u55, u56, u57, u58, u59, u60, u61, u62, u63, u64, u65, u66, u67, u68, u69, u70, u71, u72, u73, u74, u75, u76, u77, u78, u79, u80, u81, u82, u83, u84, u85, u86, u87, u88, u89, u90, u91, u92, u93, u94, u95, u96, u97, u98, u99, u100, u101, u102, u103, u104, u105, u106, u107, u108, u109, u110, u111, u112, u113, u114, u115, u116, u117, u118, u119, u120, u121, u122, u123, u124, u125, u126, u127, u128, u129, u130, u131, u132, u133, u134, u135, u136, u137, u138, u139, u140, u141, u142, u143, u144, u145, u146, u147, u148, u149, u150, u151, u152, u153, u154, u155, u156, u157, u158, u159, u160, u161, u162, u163, u164, u165, u166, u167, u168, u169, u170, u171, u172, u173, u174, u175, u176, u177, u178, u179, u180, u181, u182, u183, u184, u185, u186, u187, u188, u189, u190, u191, u192, u193, u194, u195, u196, u197, u198, u199, u200, u201, u202, u203, u204, u205, u206, u207, u208, u209, u210, u211, u212, u213, u214, u215, u216, u217, u218, u219, u220, u221, u222, u223, u224, u225, u226, u227, u228, u229, u230, u231, u232, u233, u234, u235, u236, u237, u238, u239, u240, u241, u242, u243, u244, u245, u246, u247, u248, u249, u250, u251, u252, u253, u254, u255, u256, u257, u258, u259, u260, u261, u262, u263, u264, u265, u266, u267, u268, u269, u270, u271, u272, u273, u274, u275, u276, u277, u278, u279, u280, u281, u282, u283, u284, u285, u286, u287, u288, u289, u290, u291, u292, u293, u294, u295, u296, u297, u298, u299, u300, u301, u302, u303, u304, u305, u306, u307, u308, u309, u310, u311, u312, u313, u314, u315, u316, u317, u318, u319, u320, u321, u322, u323, u324, u325, u326, u327, u328, u329, u330, u331, u332, u333, u334, u335, u336, u337, u338, u339, u340, u341, u342, u343, u344, u345, u346, u347, u348, u349, u350, u351, u352, u353, u354, u355, u356, u357, u358, u359, u360, u361, u362, u363, u364, u365, u366, u367, u368, u369, u370], []⟩ wc := by
 conv => arg 2; whnf
 try dsimp only
 have HQ := Lib.hid hexit
 have HPan := Lib.hid hpan
 have KD := Lib.hid (show Below wc.heap.size wc wc.drew from below_drewN (Below.refl _ _) 1)
 have HbN := Lib.hid (lt_of_block hb)
 have HS := Lib.hid (keepO KD.out hb)
 have HB := Lib.hid KD.out
 clear hexit hpan hb KD
 refine MyHeldE.start (fun W => W.heap[b]? = some (.cells #[.int .i64 8, .int .i64 2, .int .i64 3, .int .i64 4, .int .i64 0, .int .i64 4, .slice (some ⟨gS, 0, none⟩) 1 1] 26 (0, 0))) [] (by kernel_rfl) ?_
 have hHeld := HS.out
 generalize wc.drew = wd at *
 refine MyHeldE.t1 0 (v := ?_) .z (fun _ _ _ h => HPan.out _ _ _ _ _ h) (by assumption) ?_ ?_
 rotate_left
 ·intro w hSw; obtain ⟨q0, q1, q2, q3, q4, q5, q6⟩ := seven_new hSw; go_simp; (try with_reducible rfl)
 try simp only [Act.put, List.setIfInBounds_toArray, List.set_cons_zero, List.set_cons_succ]
 refine MyHeldE.t1 1 (v := ?_) (.s .z) (fun _ _ _ h => HPan.out _ _ _ _ _ h) (by assumption) ?_ ?_
 rotate_left
 ·intro w hSw; obtain ⟨q0, q1, q2, q3, q4, q5, q6⟩ := seven_new hSw; go_simp; (try with_reducible rfl)
 try simp only [Act.put, List.setIfInBounds_toArray, List.set_cons_zero, List.set_cons_succ]
 refine MyHeldE.ready (rs := [2, 3]) (by kernel_rfl) (by simp) ?_
 refine (MyHeldE.next 2 (.s (.s .z)) (fun Kq hKq => ?_) (MyHeldE.next 3 (.s (.s (.s .z))) (fun Kq hKq => ?_) MyHeldE.All.nil))
 ·go_simp
  have hbz := below_alloc wd (.cells #[.int .i64 0, .int .i64 0, .int .i64 0, .int .i64 0, .int .i64 0, .int .i64 0, .slice none 0 0] 26)
  have HA1 := Lib.hid (show (wd.alloc (.cells #[.int .i64 0, .int .i64 0, .int .i64 0, .int .i64 0, .int .i64 0, .int .i64 0, .slice none 0 0] 26)).heap[wd.heap.size]? = some (.cells #[.int .i64 0, .int .i64 0, .int .i64 0, .int .i64 0, .int .i64 0, .int .i64 0, .slice none 0 0] 26 (0, 0)) from block_new _ _ rfl)
  have HA1l := Lib.hid (show wc.heap.size ≤ wd.heap.size from HB.out.size)
  replace HB := Lib.hid (HB.out.trans (hbz.mono HB.out.size))
  replace HS := Lib.hid (keepO hbz HS.out)
  clear hbz
  have hHeld2 := HS.out
  refine hKq.out _ _ (fun _ => hHeld2) ?_
  clear hKq Kq hHeld
  have hHeld := hHeld2
  clear hHeld2
  obtain ⟨A1, hA1⟩ : ∃ b, b = wd.heap.size := ⟨_, rfl⟩
  rw [← hA1] at HA1 HA1l ⊢
  clear hA1
  generalize wd.alloc (.cells #[.int .i64 0, .int .i64 0, .int .i64 0, .int .i64 0, .int .i64 0, .int .i64 0, .slice none 0 0] 26) = w1 at *
  try simp only [Act.put, List.setIfInBounds_toArray, List.set_cons_zero, List.set_cons_succ]
  refine MyHeldE.ready (rs := [3]) (by kernel_rfl) (by simp) ?_
  refine (MyHeldE.next 3 (.s (.s (.s .z))) (fun Kq hKq => ?_) MyHeldE.All.nil)
  go_simp
  have hbz := below_alloc w1 (.cells #[.int .i64 0, .int .i64 0, .int .i64 0, .int .i64 0, .int .i64 0, .int .i64 0, .slice none 0 0] 26)
  have HA2 := Lib.hid (show (w1.alloc (.cells #[.int .i64 0, .int .i64 0, .int .i64 0, .int .i64 0, .int .i64 0, .int .i64 0, .slice none 0 0] 26)).heap[w1.heap.size]? = some (.cells #[.int .i64 0, .int .i64 0, .int .i64 0, .int .i64 0, .int .i64 0, .int .i64 0, .slice none 0 0] 26 (0, 0)) from block_new _ _ rfl)
  have HA2l := Lib.hid (show wc.heap.size ≤ w1.heap.size from HB.out.size)
  have HNe := Lib.hid (lt_of_block HA1.out)
  replace HA1 := Lib.hid (keepO hbz HA1.out)
  replace HB := Lib.hid (HB.out.trans (hbz.mono HB.out.size))
  replace HS := Lib.hid (keepO hbz HS.out)
  clear hbz
  have hHeld2 := HS.out
  refine hKq.out _ _ (fun _ => hHeld2) ?_
  clear hKq Kq hHeld
  have hHeld := hHeld2
  clear hHeld2
  obtain ⟨A2, hA2⟩ : ∃ b, b = w1.heap.size := ⟨_, rfl⟩
  rw [← hA2] at HA2 HA2l HNe ⊢
  clear hA2
  generalize w1.alloc (.cells #[.int .i64 0, .int .i64 0, .int .i64 0, .int .i64 0, .int .i64 0, .int .i64 0, .slice none 0 0] 26) = w2 at *
  try simp only [Act.put, List.setIfInBounds_toArray, List.set_cons_zero, List.set_cons_succ]
  obtain ⟨z0, z1, z2, z3, z4, z5, z6⟩ := seven_new HA1.out
  obtain ⟨f0, f1, f2, f3, f4, f5, f6⟩ := seven_free HA1.out
  have zl := lt_of_block HA1.out
  refine MyHeldE.ready (rs := [4]) (by kernel_rfl) (by simp) ?_
  refine (MyHeldE.next 4 (.s (.s (.s (.s .z)))) (fun Kq hKq => ?_) MyHeldE.All.nil)
  go_simp
  have KO := Lib.hid (tb_only w2 A1 (.int .i64 8) (.int .i64 2) (.int .i64 3) (.int .i64 4) (.int .i64 0) (.int .i64 4) (.slice (some ⟨gS, 0, none⟩) 1 1))
  replace HS := Lib.hid (KO.out.keeps HS.out (by have := HbN.out; have := HA1l.out; omega))
  have hHeld2 := HS.out
  refine hKq.out _ _ (fun _ => hHeld2) ?_
  clear hKq Kq hHeld
  have hHeld := hHeld2
  clear hHeld2
  try simp only [Act.put, List.setIfInBounds_toArray, List.set_cons_zero, List.set_cons_succ]
  clear z0 z1 z2 z3 z4 z5 z6 f0 f1 f2 f3 f4 f5 f6 zl
  have KA := Lib.hid (tb_cells HA1.out (.int .i64 8) (.int .i64 2) (.int .i64 3) (.int .i64 4) (.int .i64 0) (.int .i64 4) (.slice (some ⟨gS, 0, none⟩) 1 1))
  replace HA2 := Lib.hid (KO.out.keeps HA2.out (by have := HNe.out; omega))
  replace HB := Lib.hid (HB.out.trans (KO.out.below HA1l.out HB.out.size))
  clear KO HA1
  generalize (((((((w2.setCell ⟨A1, 0, none⟩ (.int .i64 8)).setCell ⟨A1, 1, none⟩ (.int .i64 2)).setCell ⟨A1, 2, none⟩ (.int .i64 3)).setCell ⟨A1, 3, none⟩ (.int .i64 4)).setCell ⟨A1, 4, none⟩ (.int .i64 0)).setCell ⟨A1, 5, none⟩ (.int .i64 4)).setCell ⟨A1, 6, none⟩ (.slice (some ⟨gS, 0, none⟩) 1 1)) = wz at *
  obtain ⟨z0, z1, z2, z3, z4, z5, z6⟩ := seven_new HA2.out
  obtain ⟨f0, f1, f2, f3, f4, f5, f6⟩ := seven_free HA2.out
  have zl := lt_of_block HA2.out
  refine MyHeldE.ready (rs := [5]) (by kernel_rfl) (by simp) ?_
  refine (MyHeldE.next 5 (.s (.s (.s (.s (.s .z))))) (fun Kq hKq => ?_) MyHeldE.All.nil)
  go_simp
  have KO := Lib.hid (tb_only wz A2 (.int .i64 8) (.int .i64 2) (.int .i64 3) (.int .i64 4) (.int .i64 0) (.int .i64 4) (.slice (some ⟨gS, 0, none⟩) 1 1))
  replace HS := Lib.hid (KO.out.keeps HS.out (by have := HbN.out; have := HA2l.out; omega))
  have hHeld2 := HS.out
  refine hKq.out _ _ (fun _ => hHeld2) ?_
  clear hKq Kq hHeld
  have hHeld := hHeld2
  clear hHeld2
  try simp only [Act.put, List.setIfInBounds_toArray, List.set_cons_zero, List.set_cons_succ]
  refine MyHeldE.done (by kernel_rfl) ?_ _
  refine HQ.out _ _ ⟨A1, A2, _, _, rfl, HB.out.trans (KO.out.below HA2l.out HB.out.size), KO.out.keeps KA.out (by have := HNe.out; omega), tb_cells HA2.out (.int .i64 8) (.int .i64 2) (.int .i64 3) (.int .i64 4) (.int .i64 0) (.int .i64 4) (.slice (some ⟨gS, 0, none⟩) 1 1), HA1l.out, HA2l.out, by have := HNe.out; omega⟩
 ·go_simp
  have hbz := below_alloc wd (.cells #[.int .i64 0, .int .i64 0, .int .i64 0, .int .i64 0, .int .i64 0, .int .i64 0, .slice none 0 0] 26)
  have HA2 := Lib.hid (show (wd.alloc (.cells #[.int .i64 0, .int .i64 0, .int .i64 0, .int .i64 0, .int .i64 0, .int .i64 0, .slice none 0 0] 26)).heap[wd.heap.size]? = some (.cells #[.int .i64 0, .int .i64 0, .int .i64 0, .int .i64 0, .int .i64 0, .int .i64 0, .slice none 0 0] 26 (0, 0)) from block_new _ _ rfl)
  have HA2l := Lib.hid (show wc.heap.size ≤ wd.heap.size from HB.out.size)
  replace HB := Lib.hid (HB.out.trans (hbz.mono HB.out.size))
  replace HS := Lib.hid (keepO hbz HS.out)
  clear hbz
  have hHeld2 := HS.out
  refine hKq.out _ _ (fun _ => hHeld2) ?_
  clear hKq Kq hHeld
  have hHeld := hHeld2
  clear hHeld2
  obtain ⟨A2, hA2⟩ : ∃ b, b = wd.heap.size := ⟨_, rfl⟩
  rw [← hA2] at HA2 HA2l ⊢
  clear hA2
  generalize wd.alloc (.cells #[.int .i64 0, .int .i64 0, .int .i64 0, .int .i64 0, .int .i64 0, .int .i64 0, .slice none 0 0] 26) = w1 at *
  try simp only [Act.put, List.setIfInBounds_toArray, List.set_cons_zero, List.set_cons_succ]
  refine MyHeldE.ready (rs := [2]) (by kernel_rfl) (by simp) ?_
  refine (MyHeldE.next 2 (.s (.s .z)) (fun Kq hKq => ?_) MyHeldE.All.nil)
  go_simp
  have hbz := below_alloc w1 (.cells #[.int .i64 0, .int .i64 0, .int .i64 0, .int .i64 0, .int .i64 0, .int .i64 0, .slice none 0 0] 26)
  have HA1 := Lib.hid (show (w1.alloc (.cells #[.int .i64 0, .int .i64 0, .int .i64 0, .int .i64 0, .int .i64 0, .int .i64 0, .slice none 0 0] 26)).heap[w1.heap.size]? = some (.cells #[.int .i64 0, .int .i64 0, .int .i64 0, .int .i64 0, .int .i64 0, .int .i64 0, .slice none 0 0] 26 (0, 0)) from block_new _ _ rfl)
  have HA1l := Lib.hid (show wc.heap.size ≤ w1.heap.size from HB.out.size)
  have HNe := Lib.hid (lt_of_block HA2.out)
  replace HA2 := Lib.hid (keepO hbz HA2.out)
  replace HB := Lib.hid (HB.out.trans (hbz.mono HB.out.size))
  replace HS := Lib.hid (keepO hbz HS.out)
  clear hbz
  have hHeld2 := HS.out
  refine hKq.out _ _ (fun _ => hHeld2) ?_
  clear hKq Kq hHeld
  have hHeld := hHeld2
  clear hHeld2
  obtain ⟨A1, hA1⟩ : ∃ b, b = w1.heap.size := ⟨_, rfl⟩
  rw [← hA1] at HA1 HA1l HNe ⊢
  clear hA1
  generalize w1.alloc (.cells #[.int .i64 0, .int .i64 0, .int .i64 0, .int .i64 0, .int .i64 0, .int .i64 0, .slice none 0 0] 26) = w2 at *
  try simp only [Act.put, List.setIfInBounds_toArray, List.set_cons_zero, List.set_cons_succ]
  obtain ⟨z0, z1, z2, z3, z4, z5, z6⟩ := seven_new HA1.out
  obtain ⟨f0, f1, f2, f3, f4, f5, f6⟩ := seven_free HA1.out
  have zl := lt_of_block HA1.out
  refine MyHeldE.ready (rs := [4]) (by kernel_rfl) (by simp) ?_
  refine (MyHeldE.next 4 (.s (.s (.s (.s .z)))) (fun Kq hKq => ?_) MyHeldE.All.nil)
  go_simp
  have KO := Lib.hid (tb_only w2 A1 (.int .i64 8) (.int .i64 2) (.int .i64 3) (.int .i64 4) (.int .i64 0) (.int .i64 4) (.slice (some ⟨gS, 0, none⟩) 1 1))
  replace HS := Lib.hid (KO.out.keeps HS.out (by have := HbN.out; have := HA1l.out; omega))
  have hHeld2 := HS.out
  refine hKq.out _ _ (fun _ => hHeld2) ?_
  clear hKq Kq hHeld
  have hHeld := hHeld2
  clear hHeld2
  try simp only [Act.put, List.setIfInBounds_toArray, List.set_cons_zero, List.set_cons_succ]
  clear z0 z1 z2 z3 z4 z5 z6 f0 f1 f2 f3 f4 f5 f6 zl
  have KA := Lib.hid (tb_cells HA1.out (.int .i64 8) (.int .i64 2) (.int .i64 3) (.int .i64 4) (.int .i64 0) (.int .i64 4) (.slice (some ⟨gS, 0, none⟩) 1 1))
  replace HA2 := Lib.hid (KO.out.keeps HA2.out (by have := HNe.out; omega))
  replace HB := Lib.hid (HB.out.trans (KO.out.below HA1l.out HB.out.size))
  clear KO HA1
  generalize (((((((w2.setCell ⟨A1, 0, none⟩ (.int .i64 8)).setCell ⟨A1, 1, none⟩ (.int .i64 2)).setCell ⟨A1, 2, none⟩ (.int .i64 3)).setCell ⟨A1, 3, none⟩ (.int .i64 4)).setCell ⟨A1, 4, none⟩ (.int .i64 0)).setCell ⟨A1, 5, none⟩ (.int .i64 4)).setCell ⟨A1, 6, none⟩ (.slice (some ⟨gS, 0, none⟩) 1 1)) = wz at *
  obtain ⟨z0, z1, z2, z3, z4, z5, z6⟩ := seven_new HA2.out
  obtain ⟨f0, f1, f2, f3, f4, f5, f6⟩ := seven_free HA2.out
  have zl := lt_of_block HA2.out
  refine MyHeldE.ready (rs := [5]) (by kernel_rfl) (by simp) ?_
  refine (MyHeldE.next 5 (.s (.s (.s (.s (.s .z))))) (fun Kq hKq => ?_) MyHeldE.All.nil)
  go_simp
  have KO := Lib.hid (tb_only wz A2 (.int .i64 8) (.int .i64 2) (.int .i64 3) (.int .i64 4) (.int .i64 0) (.int .i64 4) (.slice (some ⟨gS, 0, none⟩) 1 1))
  replace HS := Lib.hid (KO.out.keeps HS.out (by have := HbN.out; have := HA2l.out; omega))
  have hHeld2 := HS.out
  refine hKq.out _ _ (fun _ => hHeld2) ?_
  clear hKq Kq hHeld
  have hHeld := hHeld2
  clear hHeld2
  try simp only [Act.put, List.setIfInBounds_toArray, List.set_cons_zero, List.set_cons_succ]
  refine MyHeldE.done (by kernel_rfl) ?_ _
  refine HQ.out _ _ ⟨A1, A2, _, _, rfl, HB.out.trans (KO.out.below HA2l.out HB.out.size), KO.out.keeps KA.out (by have := HNe.out; omega), tb_cells HA2.out (.int .i64 8) (.int .i64 2) (.int .i64 3) (.int .i64 4) (.int .i64 0) (.int .i64 4) (.slice (some ⟨gS, 0, none⟩) 1 1), HA1l.out, HA2l.out, by have := HNe.out; omega⟩
end Go.Proofs.Ytikjjpjekchcjaa
end
