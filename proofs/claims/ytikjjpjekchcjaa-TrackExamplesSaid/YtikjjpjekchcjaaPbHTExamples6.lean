/-
  TrkXg
-/
import Derived.Test.YtikjjpjekchcjaaPbHTExamples5
import Derived.Test.YtikjjpjekchcjaaPbHTExamples4
namespace Go.Proofs.Ytikjjpjekchcjaa
open Go.RowKit TrkMath MyHeap MyOwn MyCopy
noncomputable def lp2C : Code := ((Try.f5.body.bind (loopOf 18)).getD .skip)
set_option maxRecDepth 100000 in
set_option maxHeartbeats 32000000 in
theorem lp2 {u0 u2 u3 u4 u5 u6 u7 u8 u9 u10 u12 u15 u16 u17 u18 u19 u20 u21 u22 u23 u24 u25 u26 u27 u28 u29 u30 u31 u32 u33 u34 u35 u36 u37 u38 u39 u40 u41 u42 u43 u44 u45 u46 u47 u48 u49 u50 u51 u52 u53 u54 u55 u56 u57 u58 u59 u60 u61 u62 u63 u64 u65 u66 u67 u68 u69 u70 u71 u72 u73 u74 u75 u76 u77 u78 u79 u80 u81 u82 u83 u84 u85 u86 u87 u88 u89 u90 u91 u92 u93 u94 u95 u96 u97 u98 u99 u100 u101 u102 u103 u104 u105 u106 u107 u108 u109 u110 u111 u112 u113 u114 u115 u116 u117 u118 u119 u120 u121 u122 u123 u124 u125 u126 u127 u128 u129 u130 u131 u132 u133 u134 u135 u136 u137 u138 u139 u140 u141 u142 u143 u144 u145 u146 u147 u148 u149 u150 u151 u152 u153 u154 u155 u156 u157 u158 u159 u160 u161 u162 u163 u164 u165 u166 u167 u168 u169 u170 u171 u172 u173 u174 u175 u176 u177 u178 u179 u180 u181 u182 u183 u184 u185 u186 u187 u188 u189 u190 u191 u192 u193 u194 u195 u196 u197 u198 u199 u200 u201 u202 u203 u204 u205 u206 u207 u208 u209 u210 u211 u212 u213 u214 u215 u216 u217 u218 u219 u220 u221 u222 u223 u224 u225 u226 u227 u228 u229 u230 u231 u232 u233 u234 u235 u236 u237 u238 u239 u240 u241 u242 u243 u244 u245 u246 u247 u248 u249 u250 u251 u252 u253 u254 u255 u256 u257 u258 u259 u260 u261 u262 u263 u264 u265 u266 u267 u268 u269 u270 u271 u272 u273 u274 u275 u276 u277 u278 u279 u280 u281 u282 u283 u284 u285 u286 u287 u288 u289 u290 u291 u292 u293 u294 u295 u296 u297 u298 u299 u300 u301 u302 u303 u304 u305 u306 u307 u308 u309 u310 u311 u312 u313 u314 u315 u316 u317 u318 u319 u320 u321 u322 u323 u324 u325 u326 u327 u328 u329 u330 u331 u332 u333 u334 u335 u336 u337 u338 u339 u340 u341 u342 u343 u344 u345 u346 u347 u348 u349 u350 u351 u352 u353 u354 u355 u356 u357 u358 u359 u360 u361 u362 u363 u364 u365 u366 u367 u368 u369 u370 : Value} (w : World) (L : List (Nat × Obj)) (q1 q2 : TB) (G B11 B13 : Nat) (a1 a2 a3 a4 : Option Addr) (c1 c2 c3 c4 : Nat) (wc : World) (Q0 : Exit → Act → World → Prop) (hL : (B13, Obj.cells #[.int .i64 3, .int .i64 (-1), .int .i64 256, .int .i64 0, .int .i64 1, .slice a1 201 c1, .slice a2 201 c2, .int .i64 1, .int .i64 0, .bool false] 46 (0, 0)) ∈ L ∧ (B11, Obj.cells #[.slice a3 201 c3, .slice a4 201 c4] 44 (0, 0)) ∈ L ∧ (G, Obj.cells #[.int .i64 8, .int .i64 2, .int .i64 3, .int .i64 4] 23 (0, 0)) ∈ L) (hq1 : q1.2 = ⟨a1, 201, c1, a2, 201, c2⟩ ∧ (q1.1.lo, q1.1.hi) = (xL, xH)) (hq2 : q2.2 = ⟨a3, 201, c3, a4, 201, c4⟩ ∧ (q2.1.lo, q2.1.hi) = (gL, gH)) (hrel0 : HK w wc L ∧ BdX w.heap.size [] wc q1 ∧ BdX w.heap.size [] wc q2) (hpan : ∀ (c : List PanicEntry) (a : Act) d v (w : World), Q0 (.panic c) (a.put d v) w → Q0 (.panic c) a w)
    (hexit : ∀ (u0 u15 u16 u17 u18 u19 u20 u21 u22 u119 u120 u121 u122 u123 u124 u125 u126 u127 u128 u129 u130 u131 u132 u133 u134 u135 u136 u137 u138 u139 u140 u141 u142 u143 u144 u145 u146 u147 u148 u149 u150 u151 u152 u153 u154 u155 u156 u157 u158 u159 u160 u161 u162 u163 u164 u165 u166 u167 u168 u169 u170 u171 u172 u173 u174 u175 u176 u177 u178 u179 u180 u181 u182 u183 u184 u185 u186 u187 u188 u189 u190 u191 u192 u193 u194 u195 u196 : Value) (W' : World) (_ : HK w W' L ∧ BdX w.heap.size [] W' q1 ∧ BdX w.heap.size [] W' q2), Q0 (.exit 2) ⟨#[u0, .pointer (some ⟨G, 0, none⟩), u2, u3, u4, u5, u6, u7, u8, u9, u10, .pointer (some ⟨B11, 0, none⟩), u12, .pointer (some ⟨B13, 0, none⟩), .int .i64 12, u15, u16, u17, u18, u19, u20, u21, u22, u23, u24, u25, u26, u27, u28, u29, u30, u31, u32, u33, u34, u35, u36, u37, u38, u39, u40, u41, u42, u43, u44, u45, u46, u47, u48, u49, u50, u51, u52, u53, u54, u55, u56, u57, u58, u59, u60, u61, u62, u63, u64, u65, u66, u67, u68, u69, u70, u71, u72, u73, u74, u75, u76, u77, u78, u79, u80, u81, u82, u83, u84, u85, u86, u87, u88, u89, u90, u91, u92, u93, u94, u95, u96, u97, u98, u99, u100, u101, u102, u103, u104, u105, u106, u107, u108, u109, u110, u111, u112, u113, u114, u115, u116, u117, u118, u119, u120, u121, u122, u123, u124, u125, u126, u127, u128, u129, u130, u131, u132, u133, u134, u135, u136, u137, u138, u139, u140, u141, u142, u143, u144, u145, u146, u147, u148, u149, u150, u151, u152, u153, u154, u155, u156, u157, u158, u159, u160, u161, u162, u163, u164, u165, u166, u167, u168, u169, u170, u171, u172, u173, u174, u175, u176, u177, u178, u179, u180, u181, u182, u183, u184, u185, u186, u187, u188, u189, u190, u191, u192, u193, u194, u195, u196, u197, u198, u199, u200, u201, u202, u203, u204, u205, u206, u207, u208, u209, u210, u211, u212, u213, u214, u215, u216, u217, u218, u219, u220, u221, u222, u223, u224, u225, u226, u227, u228, u229, u230, u231, u232, u233, u234, u235, u236, u237, u238, u239, u240, u241, u242, u243, u244, u245, u246, u247, u248, u249, u250, u251, u252, u253, u254, u255, u256, u257, u258, u259, u260, u261, u262, u263, u264, u265, u266, u267, u268, u269, u270, u271, u272, u273, u274, u275, u276, u277, u278, u279, u280, u281, u282, u283, u284, u285, u286, u287, u288, u289, u290, u291, u292, u293, u294, u295, u296, u297, u298, u299, u300, u301, u302, u303, u304, u305, u306, u307, u308, u309, u310, u311, u312, u313, u314, u315, u316, u317, u318, u319, u320, u321, u322, u323, u324, u325, u326, u327, u328, u329, u330, u331, u332, u333, u334, u335, u336, u337, u338, u339, u340, u341, u342, u343, u344, u345, u346, u347, u348, u349, u350, u351, u352, u353, u354, u355, u356, u357, u358, u359, u360, u361, u362, u363, u364, u365, u366, u367, u368, u369, u370], []⟩ W') :
    Code.wp Try.prog lp2C Q0 ⟨#[u0, .pointer (some ⟨G, 0, none⟩), u2, u3, u4, u5, u6, u7, u8, u9, u10, .pointer (some ⟨B11, 0, none⟩), u12, .pointer (some ⟨B13, 0, none⟩), .int .i64 0, u15, u16, u17, u18, u19, u20, u21, u22, u23, u24, u25, u26, u27, u28, u29, u30, u31, u32, u33, u34, u35, u36, u37, u38, u39, u40, u41, u42, u43, u44, u45, u46, u47, u48, u49, u50, u51, u52, u53, u54, u55, u56, u57, u58, u59, u60, u61, u62, u63, u64, u65, u66, u67, u68, u69, u70, u71, u72, u73, u74, u75, u76, u77, u78, u79, u80, u81, u82, u83, u84, u85, u86, u87, u88, u89, u90, u91, u92, u93, u94, u95, u96, u97, u98, u99, u100, u101, u102, u103, u104, u105, u106, u107, u108, u109, u110, u111, u112, u113, u114, u115, u116, u117, u118, u119, u120, u121, u122, u123, u124, u125, u126, u127, u128, u129, u130, u131, u132, u133, u134, u135, u136, u137, u138, u139, u140, u141, u142, u143, u144, u145, u146, u147, u148, u149, u150, u151, u152, u153, u154, u155, u156, u157, u158, u159, u160, u161, u162, u163, u164, u165, u166, u167, u168, u169, u170, u171, u172, u173, u174, u175, u176, u177, u178, u179, u180, u181, u182, u183, u184, u185, u186, u187, u188, u189, u190, u191, u192, u193, u194, u195, u196, u197, u198, u199, u200, u201, u202, u203, u204, u205, u206, u207, u208, u209, u210, u211, u212, u213, u214, u215, u216, u217, u218, u219, u220, u221, u222, u223, u224, u225, u226, u227, u228, u229, u230, u231, u232, u233, u234, u235, u236, u237, u238, u239, u240, u241, u242, u243, u244, u245, u246, u247, u248, u249, u250, u251, u252, u253, u254, u255, u256, u257, u258, u259, u260, u261, u262, u263, u264, u265, u266, u267, u268, u269, u270, u271, u272, u273, u274, u275, u276, u277, u278, u279, u280, u281, u282, u283, u284, u285, u286, u287, u288, u289, u290, u291, u292, u293, u294, u295, u296, u297, u298, u299, u300, u301, u302, u303, u304, u305, u306, u307, u308, u309, u310, u311, u312, u313, u314, u315, u316, u317, u318, u319, u320, u321, u322, u323, u324, u325, u326, u327, u328, u329, u330, u331, u332, u333, u334, u335, u336, u337, u338, u339, u340, u341, u342, u343, u344, u345, u346, u347, u348, u349, u350, u351, u352, u353, u354, u355, u356, u357, u358, u359, u360, u361, u362, u363, u364, u365, u366, u367, u368, u369, u370], []⟩ wc := by
 conv => arg 2; whnf
 try dsimp only
 obtain ⟨i0, hi0, hz0, hs0, hb0⟩ := info_pts infoTk
 have HF := Lib.hid (And.intro hi0 (And.intro hz0 (And.intro hs0 hb0)))
 have HR := Lib.hid hrel0
 have HL1 := Lib.hid hL.1
 have HL2 := Lib.hid hL.2.1
 have HL3 := Lib.hid hL.2.2
 have HQ1 := Lib.hid hq1
 have HQ2 := Lib.hid hq2
 have HQ := Lib.hid hexit
 have HPan := Lib.hid hpan
 clear hL hq1 hq2 hrel0 hexit hpan hi0 hz0 hs0 hb0
 go_loopw [14] (fun v14 wr => ∃ k : Nat, k ≤ 12 ∧ v14 = .int .i64 k ∧ HK w wr L ∧ BdX w.heap.size [] wr q1 ∧ BdX w.heap.size [] wr q2) (fun v14 _ => 12 - (intOf v14).toNat)
 case atStart => exact ⟨0, by omega, rfl, HR.out⟩
 case round =>
  clear HR
  obtain ⟨k, hk, rfl, hK, hb1, hb2⟩ := hrel
  have K := Lib.hid hK
  have b1 := Lib.hid hb1
  have b2 := Lib.hid hb2
  clear hK hb1 hb2
  by_cases hlt : k < 12
  ·have HLt := Lib.hid hlt
   have hk0 : (0 : Int) ≤ (k : Int) := by omega
   have hk1 : (k : Int) < 12 := by omega
   have hkw : IntKind.i64.wrap ((k : Int) + 1) = ((k + 1 : Nat) : Int) := by rw [IntWalk.i64_in _ (by omega)]; omega
   obtain ⟨g0, g1, g2, g3⟩ := four_c (K.out.H _ HL3.out)
   have gl := lt_of_block (K.out.H _ HL3.out)
   have h13 := K.out.H _ HL1.out
   have y0 : wr.cell? ⟨B13, 0, none⟩ = some (.int .i64 3) := cell_of_block h13 rfl
   have y1 : wr.cell? ⟨B13, 1, none⟩ = some (.int .i64 (-1)) := cell_of_block h13 rfl
   have y2 : wr.cell? ⟨B13, 2, none⟩ = some (.int .i64 256) := cell_of_block h13 rfl
   have y3 : wr.cell? ⟨B13, 3, none⟩ = some (.int .i64 0) := cell_of_block h13 rfl
   have y4 : wr.cell? ⟨B13, 4, none⟩ = some (.int .i64 1) := cell_of_block h13 rfl
   have y5 : wr.cell? ⟨B13, 5, none⟩ = some (.slice a1 201 c1) := cell_of_block h13 rfl
   have y6 : wr.cell? ⟨B13, 6, none⟩ = some (.slice a2 201 c2) := cell_of_block h13 rfl
   have y7 : wr.cell? ⟨B13, 7, none⟩ = some (.int .i64 1) := cell_of_block h13 rfl
   have y8 : wr.cell? ⟨B13, 8, none⟩ = some (.int .i64 0) := cell_of_block h13 rfl
   have y9 : wr.cell? ⟨B13, 9, none⟩ = some (.bool false) := cell_of_block h13 rfl
   have yl := lt_of_block h13
   clear h13
   rcases (show k = 0 ∨ k = 1 ∨ k = 2 ∨ k = 3 ∨ k = 4 ∨ k = 5 ∨ k = 6 ∨ k = 7 ∨ k = 8 ∨ k = 9 ∨ k = 10 ∨ k = 11 by omega) with hkn | hkn | hkn | hkn | hkn | hkn | hkn | hkn | hkn | hkn | hkn | hkn
   ·clear hlt
    have e0 : ((k : Int) == 0) = true := by rw [beq_iff_eq]; omega
    have HKN := Lib.hid hkn
    clear hkn
    go_upto_region 22 with fail
    clear y0 y1 y2 y3 y4 y5 y6 y7 y8 y9 yl g0 g1 g2 g3 gl
    have RD := Lib.hid (Rd.new K.out b1.out b2.out #[.int .i64 3, .int .i64 (-1), .int .i64 256, .int .i64 0, .int .i64 1, .slice a1 201 c1, .slice a2 201 c2, .int .i64 1, .int .i64 0, .bool false] #[.int .i64 8, .int .i64 2, .int .i64 3, .int .i64 4, .int .i64 0, .int .i64 4, .slice none 0 0])
    obtain ⟨x, hx⟩ : ∃ b, b = wr.heap.size := ⟨_, rfl⟩
    obtain ⟨t, ht⟩ : ∃ b, b = wr.heap.size + 1 := ⟨_, rfl⟩
    rw [← ht, ← hx] at RD
    rw [← ht, ← hx]
    generalize (wr.alloc (.cells #[.int .i64 3, .int .i64 (-1), .int .i64 256, .int .i64 0, .int .i64 1, .slice a1 201 c1, .slice a2 201 c2, .int .i64 1, .int .i64 0, .bool false] 46)).alloc (.cells #[.int .i64 8, .int .i64 2, .int .i64 3, .int .i64 4, .int .i64 0, .int .i64 4, .slice none 0 0] 26) = w1 at *
    clear hx ht
    obtain ⟨z0, z1, z2, z3, z4, z5, z6, z7, z8, z9⟩ := ten_c RD.out.X
    have zl := lt_of_block RD.out.X
    obtain ⟨f0, f1, f2, f3, f4, f5, f6, f7, f8, f9⟩ := ten_f RD.out.X
    obtain ⟨t0, t1, t2, t3, t4, t5, t6⟩ := seven_new RD.out.Tb
    have tl := lt_of_block RD.out.Tb
    obtain ⟨h0, h1, h2, h3, h4, h5, h6⟩ := seven_free RD.out.Tb
    go_upto_region 47 with fail
    clear e0 f0 f1 f2 f3 f4 f5 f6 f7 f8 f9 h0 h1 h2 h3 h4 h5 h6
    clear z0 z1 z2 z3 z4 z5 z6 z7 z8 z9 zl
    clear t0 t1 t2 t3 t4 t5 t6 tl
    have LF := Lib.hid (Lf.nil w.heap.size [some x, some t] w1)
    replace RD := Lib.hid (RD.out.setX 0 (.int .i64 (-1)))
    replace LF := Lib.hid (LF.out.outs (Outs.of_only ((Only.refl x w1).setCell 0 (.int .i64 (-1))) List.mem_cons_self))
    have RD2 : Rd w L x t none #[.int .i64 (-1), .int .i64 (-1), .int .i64 256, .int .i64 0, .int .i64 1, .slice a1 201 c1, .slice a2 201 c2, .int .i64 1, .int .i64 0, .bool false] #[.int .i64 8, .int .i64 2, .int .i64 3, .int .i64 4, .int .i64 0, .int .i64 4, .slice none 0 0] q1 q2 (w1.setCell ⟨x, 0, none⟩ (.int .i64 (-1))) := RD.out
    clear RD
    have RD := Lib.hid RD2
    clear RD2
    generalize (w1.setCell ⟨x, 0, none⟩ (.int .i64 (-1))) = w2 at *
    obtain ⟨z0, z1, z2, z3, z4, z5, z6, z7, z8, z9⟩ := ten_c RD.out.X
    have zl := lt_of_block RD.out.X
    obtain ⟨t0, t1, t2, t3, t4, t5, t6⟩ := seven_new RD.out.Tb
    have tl := lt_of_block RD.out.Tb
    have RB := Lib.hid (RD.out.below (below_alloc w2 (.cells #[.int .i64 (-1), .int .i64 (-1), .int .i64 256, .int .i64 0, .int .i64 1, .slice a1 201 c1, .slice a2 201 c2, .int .i64 1, .int .i64 0, .bool false] 46)))
    have LB := Lib.hid (LF.out.below (below_alloc w2 (.cells #[.int .i64 (-1), .int .i64 (-1), .int .i64 256, .int .i64 0, .int .i64 1, .slice a1 201 c1, .slice a2 201 c2, .int .i64 1, .int .i64 0, .bool false] 46)))
    go_upto_region 48 with (at_builtin; refine wpList_append_own_at _ rfl _ _ 24 rfl w.heap.size 46 i0 _ 10 112 Try.underlying24 HF.out.1 HF.out.2.1 HF.out.2.2.1 HF.out.2.2.2 rfl (by decide) _ 0 _ rfl LB.out.row ⟨w2.heap.size, 0, none⟩ 1 1 [.int .i64 (-1), .int .i64 (-1), .int .i64 256, .int .i64 0, .int .i64 1, .slice a1 201 c1, .slice a2 201 c2, .int .i64 1, .int .i64 0, .bool false] rfl rfl (cells_new rfl) (by intro u hu; simp at hu; rcases hu with rfl | rfl | rfl | rfl | rfl | rfl | rfl | rfl | rfl | rfl <;> rfl) (by unfold maxLen; decide) (by decide) (by have := RB.out.K.B.size; exact this) ?_; intro v9 w9 hown9 hg9 _ hat9; obtain ⟨a9, c9, rfl⟩ := row_slice hown9; have R9 := Lib.hid (RB.out.grown hg9); have L9 := Lib.hid (Lf.snoc (q := (cT 0, (⟨a1, 201, c1, a2, 201, c2⟩ : Bs))) LB.out (bdx_as RB.out.bands.1 HQ1.out.1.symm HQ1.out.2.symm) RB.out.lts hown9 hg9 hat9); have t6' : w9.cell? ⟨t, 6, none⟩ = some (.slice none 0 0) := cell_of_block R9.out.Tb rfl; have f6' : w9.frozen? ⟨t, 6, none⟩ = false := free_of_block R9.out.Tb; have l6' := lt_of_block R9.out.Tb; clear hown9 hg9 hat9)
    clear z0 z1 z2 z3 z4 z5 z6 z7 z8 z9 zl
    clear t0 t1 t2 t3 t4 t5 t6 tl
    clear t6' f6' l6' RB LB RD LF
    have RD := Lib.hid (R9.out.setT 6 (.slice a9 1 c9))
    have LF := Lib.hid (L9.out.outs (Outs.of_only ((Only.refl t w9).setCell 6 (.slice a9 1 c9)) (List.mem_cons_of_mem _ List.mem_cons_self)))
    clear R9 L9
    have RD2 : Rd w L x t none #[.int .i64 (-1), .int .i64 (-1), .int .i64 256, .int .i64 0, .int .i64 1, .slice a1 201 c1, .slice a2 201 c2, .int .i64 1, .int .i64 0, .bool false] #[.int .i64 8, .int .i64 2, .int .i64 3, .int .i64 4, .int .i64 0, .int .i64 4, .slice a9 1 c9] q1 q2 (w9.setCell ⟨t, 6, none⟩ (.slice a9 1 c9)) := RD.out
    clear RD
    have RD := Lib.hid RD2
    clear RD2
    generalize w9.setCell ⟨t, 6, none⟩ (.slice a9 1 c9) = w3 at *
    obtain ⟨M2, hM2⟩ : ∃ x, x = ([] : List TB) ++ [(cT 0, (⟨a1, 201, c1, a2, 201, c2⟩ : Bs))] := ⟨_, rfl⟩
    have hMf : fsts M2 = cL 0 := by rw [hM2]; rfl
    have hl2 : M2.length = 1 := by rw [hM2]; rfl
    rw [← hM2] at LF
    have HI := Lib.hid (tbi_len LF.out hl2 (by decide))
    have HM := Lib.hid hMf
    clear hM2 hMf hl2 LF
    have hT : w3.heap[t]? = some (.cells #[.int .i64 8, .int .i64 2, .int .i64 3, .int .i64 4, .int .i64 0, .int .i64 4, .slice a9 1 c9] 26 (0, 0)) := RD.out.Tb
    have hck : ckE pG 0 4 (cL 0) = 8 := cE (n := 0) (by decide)
    have HCk := Lib.hid hck
    have hcall : ∀ (W : World) (gb : Nat), Below w3.heap.size w3 W → W.heap[gb]? = some (.cells (madeCells #[.int .i64 0, .int .i64 0, .int .i64 0] 51) 40 (0, 0)) → Calls Try.prog 9 #[.agg #[.int .i64 8, .int .i64 2, .int .i64 3, .int .i64 4, .int .i64 0, .int .i64 4, .slice a9 1 c9], .slice (some ⟨gb, 0, none⟩) 17 17] W (CyErr 8 W) := fun W gb hb hg => cy_err pG (now := 0) (next := 4) (by rw [cyE_ck (by rw [hck]; decide), hck]) (by decide) a9 1 c9 _ 17 17 M2 W (HI.out.below hb) HM.out (pls_zero hg)
    refine rg48 t 8 w3 _ hT hcall (fun _ _ _ _ _ h => HPan.out _ _ _ _ _ h) ?_
    rintro a' w4 ⟨u18, u19, u171, u172, u173, u174, u175, u176, u177, rfl, hb⟩
    try dsimp only
    replace RD := Lib.hid (RD.out.below hb)
    replace HI := Lib.hid (HI.out.below hb)
    clear hb hT hcall hck
    obtain ⟨t0, t1, t2, t3, t4, t5, t6⟩ := seven_new RD.out.Tb
    have tl := lt_of_block RD.out.Tb
    go_wp2_with fail
    clear t0 t1 t2 t3 t4 t5 t6 tl
    refine (fd_err pG (now := 0) (next := 4) (id := 3) HCk.out (by decide) a9 1 c9 M2 _ HI.out HM.out).mono ?_; rintro e w5 ⟨sL, nL, kL, sH, nH, kH, rfl, hb⟩
    replace RD := Lib.hid (RD.out.below hb)
    replace HI := Lib.hid (HI.out.below hb)
    clear hb
    replace RD := Lib.hid (RD.out.below (below_alloc w5 (.cells #[.int .i64 0, .int .i64 0, .int .i64 0, .int .i64 0, .int .i64 0, .slice sL nL kL, .slice sH nH kH, .int .i64 0, .int .i64 0, .bool false] 46)))
    replace HI := Lib.hid (HI.out.below (below_alloc w5 (.cells #[.int .i64 0, .int .i64 0, .int .i64 0, .int .i64 0, .int .i64 0, .slice sL nL kL, .slice sH nH kH, .int .i64 0, .int .i64 0, .bool false] 46)))
    go_upto_region 50 with fail
    generalize w5.alloc (.cells #[.int .i64 0, .int .i64 0, .int .i64 0, .int .i64 0, .int .i64 0, .slice sL nL kL, .slice sH nH kH, .int .i64 0, .int .i64 0, .bool false] 46) = w6 at *
    obtain ⟨t0, t1, t2, t3, t4, t5, t6⟩ := seven_new RD.out.Tb
    have tl := lt_of_block RD.out.Tb
    have hc := pCheckT_call pG 0 4 a9 1 c9 M2 w6 HI.out.T HI.out.B
    rw [HM.out, HCk.out] at hc
    unfold tbV at hc
    go_wp2_with fail
    clear t0 t1 t2 t3 t4 t5 t6 tl
    refine hc.mono ?_; rintro e w7 ⟨rfl, hb⟩
    replace RD := Lib.hid (RD.out.below hb)
    clear hb hc
    go_wp2_with fail
    obtain ⟨r1, r2, r3⟩ := RD.out.done
    refine ⟨⟨k + 1, HLt.out, by go_num, r1, r2, r3⟩, by simp [intOf]; have := HLt.out; omega⟩
   ·clear hlt
    have e0 : ((k : Int) == 0) = false := by rw [beq_eq_false_iff_ne]; omega
    have e1 : ((k : Int) == 1) = true := by rw [beq_iff_eq]; omega
    have HKN := Lib.hid hkn
    clear hkn
    go_upto_region 22 with fail
    clear y0 y1 y2 y3 y4 y5 y6 y7 y8 y9 yl g0 g1 g2 g3 gl
    have RD := Lib.hid (Rd.new K.out b1.out b2.out #[.int .i64 3, .int .i64 (-1), .int .i64 256, .int .i64 0, .int .i64 1, .slice a1 201 c1, .slice a2 201 c2, .int .i64 1, .int .i64 0, .bool false] #[.int .i64 8, .int .i64 2, .int .i64 3, .int .i64 4, .int .i64 0, .int .i64 4, .slice none 0 0])
    obtain ⟨x, hx⟩ : ∃ b, b = wr.heap.size := ⟨_, rfl⟩
    obtain ⟨t, ht⟩ : ∃ b, b = wr.heap.size + 1 := ⟨_, rfl⟩
    rw [← ht, ← hx] at RD
    rw [← ht, ← hx]
    generalize (wr.alloc (.cells #[.int .i64 3, .int .i64 (-1), .int .i64 256, .int .i64 0, .int .i64 1, .slice a1 201 c1, .slice a2 201 c2, .int .i64 1, .int .i64 0, .bool false] 46)).alloc (.cells #[.int .i64 8, .int .i64 2, .int .i64 3, .int .i64 4, .int .i64 0, .int .i64 4, .slice none 0 0] 26) = w1 at *
    clear hx ht
    obtain ⟨z0, z1, z2, z3, z4, z5, z6, z7, z8, z9⟩ := ten_c RD.out.X
    have zl := lt_of_block RD.out.X
    obtain ⟨f0, f1, f2, f3, f4, f5, f6, f7, f8, f9⟩ := ten_f RD.out.X
    obtain ⟨t0, t1, t2, t3, t4, t5, t6⟩ := seven_new RD.out.Tb
    have tl := lt_of_block RD.out.Tb
    obtain ⟨h0, h1, h2, h3, h4, h5, h6⟩ := seven_free RD.out.Tb
    go_upto_region 47 with fail
    clear e0 e1 f0 f1 f2 f3 f4 f5 f6 f7 f8 f9 h0 h1 h2 h3 h4 h5 h6
    clear z0 z1 z2 z3 z4 z5 z6 z7 z8 z9 zl
    clear t0 t1 t2 t3 t4 t5 t6 tl
    have LF := Lib.hid (Lf.nil w.heap.size [some x, some t] w1)
    replace RD := Lib.hid (RD.out.setX 0 (.int .i64 4))
    replace LF := Lib.hid (LF.out.outs (Outs.of_only ((Only.refl x w1).setCell 0 (.int .i64 4)) List.mem_cons_self))
    have RD2 : Rd w L x t none #[.int .i64 4, .int .i64 (-1), .int .i64 256, .int .i64 0, .int .i64 1, .slice a1 201 c1, .slice a2 201 c2, .int .i64 1, .int .i64 0, .bool false] #[.int .i64 8, .int .i64 2, .int .i64 3, .int .i64 4, .int .i64 0, .int .i64 4, .slice none 0 0] q1 q2 (w1.setCell ⟨x, 0, none⟩ (.int .i64 4)) := RD.out
    clear RD
    have RD := Lib.hid RD2
    clear RD2
    generalize (w1.setCell ⟨x, 0, none⟩ (.int .i64 4)) = w2 at *
    obtain ⟨z0, z1, z2, z3, z4, z5, z6, z7, z8, z9⟩ := ten_c RD.out.X
    have zl := lt_of_block RD.out.X
    obtain ⟨t0, t1, t2, t3, t4, t5, t6⟩ := seven_new RD.out.Tb
    have tl := lt_of_block RD.out.Tb
    have RB := Lib.hid (RD.out.below (below_alloc w2 (.cells #[.int .i64 4, .int .i64 (-1), .int .i64 256, .int .i64 0, .int .i64 1, .slice a1 201 c1, .slice a2 201 c2, .int .i64 1, .int .i64 0, .bool false] 46)))
    have LB := Lib.hid (LF.out.below (below_alloc w2 (.cells #[.int .i64 4, .int .i64 (-1), .int .i64 256, .int .i64 0, .int .i64 1, .slice a1 201 c1, .slice a2 201 c2, .int .i64 1, .int .i64 0, .bool false] 46)))
    go_upto_region 48 with (at_builtin; refine wpList_append_own_at _ rfl _ _ 24 rfl w.heap.size 46 i0 _ 10 112 Try.underlying24 HF.out.1 HF.out.2.1 HF.out.2.2.1 HF.out.2.2.2 rfl (by decide) _ 0 _ rfl LB.out.row ⟨w2.heap.size, 0, none⟩ 1 1 [.int .i64 4, .int .i64 (-1), .int .i64 256, .int .i64 0, .int .i64 1, .slice a1 201 c1, .slice a2 201 c2, .int .i64 1, .int .i64 0, .bool false] rfl rfl (cells_new rfl) (by intro u hu; simp at hu; rcases hu with rfl | rfl | rfl | rfl | rfl | rfl | rfl | rfl | rfl | rfl <;> rfl) (by unfold maxLen; decide) (by decide) (by have := RB.out.K.B.size; exact this) ?_; intro v9 w9 hown9 hg9 _ hat9; obtain ⟨a9, c9, rfl⟩ := row_slice hown9; have R9 := Lib.hid (RB.out.grown hg9); have L9 := Lib.hid (Lf.snoc (q := (cT 1, (⟨a1, 201, c1, a2, 201, c2⟩ : Bs))) LB.out (bdx_as RB.out.bands.1 HQ1.out.1.symm HQ1.out.2.symm) RB.out.lts hown9 hg9 hat9); have t6' : w9.cell? ⟨t, 6, none⟩ = some (.slice none 0 0) := cell_of_block R9.out.Tb rfl; have f6' : w9.frozen? ⟨t, 6, none⟩ = false := free_of_block R9.out.Tb; have l6' := lt_of_block R9.out.Tb; clear hown9 hg9 hat9)
    clear z0 z1 z2 z3 z4 z5 z6 z7 z8 z9 zl
    clear t0 t1 t2 t3 t4 t5 t6 tl
    clear t6' f6' l6' RB LB RD LF
    have RD := Lib.hid (R9.out.setT 6 (.slice a9 1 c9))
    have LF := Lib.hid (L9.out.outs (Outs.of_only ((Only.refl t w9).setCell 6 (.slice a9 1 c9)) (List.mem_cons_of_mem _ List.mem_cons_self)))
    clear R9 L9
    have RD2 : Rd w L x t none #[.int .i64 4, .int .i64 (-1), .int .i64 256, .int .i64 0, .int .i64 1, .slice a1 201 c1, .slice a2 201 c2, .int .i64 1, .int .i64 0, .bool false] #[.int .i64 8, .int .i64 2, .int .i64 3, .int .i64 4, .int .i64 0, .int .i64 4, .slice a9 1 c9] q1 q2 (w9.setCell ⟨t, 6, none⟩ (.slice a9 1 c9)) := RD.out
    clear RD
    have RD := Lib.hid RD2
    clear RD2
    generalize w9.setCell ⟨t, 6, none⟩ (.slice a9 1 c9) = w3 at *
    obtain ⟨M2, hM2⟩ : ∃ x, x = ([] : List TB) ++ [(cT 1, (⟨a1, 201, c1, a2, 201, c2⟩ : Bs))] := ⟨_, rfl⟩
    have hMf : fsts M2 = cL 1 := by rw [hM2]; rfl
    have hl2 : M2.length = 1 := by rw [hM2]; rfl
    rw [← hM2] at LF
    have HI := Lib.hid (tbi_len LF.out hl2 (by decide))
    have HM := Lib.hid hMf
    clear hM2 hMf hl2 LF
    have hT : w3.heap[t]? = some (.cells #[.int .i64 8, .int .i64 2, .int .i64 3, .int .i64 4, .int .i64 0, .int .i64 4, .slice a9 1 c9] 26 (0, 0)) := RD.out.Tb
    have hck : ckE pG 0 4 (cL 1) = 8 := cE (n := 1) (by decide)
    have HCk := Lib.hid hck
    have hcall : ∀ (W : World) (gb : Nat), Below w3.heap.size w3 W → W.heap[gb]? = some (.cells (madeCells #[.int .i64 0, .int .i64 0, .int .i64 0] 51) 40 (0, 0)) → Calls Try.prog 9 #[.agg #[.int .i64 8, .int .i64 2, .int .i64 3, .int .i64 4, .int .i64 0, .int .i64 4, .slice a9 1 c9], .slice (some ⟨gb, 0, none⟩) 17 17] W (CyErr 8 W) := fun W gb hb hg => cy_err pG (now := 0) (next := 4) (by rw [cyE_ck (by rw [hck]; decide), hck]) (by decide) a9 1 c9 _ 17 17 M2 W (HI.out.below hb) HM.out (pls_zero hg)
    refine rg48 t 8 w3 _ hT hcall (fun _ _ _ _ _ h => HPan.out _ _ _ _ _ h) ?_
    rintro a' w4 ⟨u18, u19, u171, u172, u173, u174, u175, u176, u177, rfl, hb⟩
    try dsimp only
    replace RD := Lib.hid (RD.out.below hb)
    replace HI := Lib.hid (HI.out.below hb)
    clear hb hT hcall hck
    obtain ⟨t0, t1, t2, t3, t4, t5, t6⟩ := seven_new RD.out.Tb
    have tl := lt_of_block RD.out.Tb
    go_wp2_with fail
    clear t0 t1 t2 t3 t4 t5 t6 tl
    refine (fd_err pG (now := 0) (next := 4) (id := 3) HCk.out (by decide) a9 1 c9 M2 _ HI.out HM.out).mono ?_; rintro e w5 ⟨sL, nL, kL, sH, nH, kH, rfl, hb⟩
    replace RD := Lib.hid (RD.out.below hb)
    replace HI := Lib.hid (HI.out.below hb)
    clear hb
    replace RD := Lib.hid (RD.out.below (below_alloc w5 (.cells #[.int .i64 0, .int .i64 0, .int .i64 0, .int .i64 0, .int .i64 0, .slice sL nL kL, .slice sH nH kH, .int .i64 0, .int .i64 0, .bool false] 46)))
    replace HI := Lib.hid (HI.out.below (below_alloc w5 (.cells #[.int .i64 0, .int .i64 0, .int .i64 0, .int .i64 0, .int .i64 0, .slice sL nL kL, .slice sH nH kH, .int .i64 0, .int .i64 0, .bool false] 46)))
    go_upto_region 50 with fail
    generalize w5.alloc (.cells #[.int .i64 0, .int .i64 0, .int .i64 0, .int .i64 0, .int .i64 0, .slice sL nL kL, .slice sH nH kH, .int .i64 0, .int .i64 0, .bool false] 46) = w6 at *
    obtain ⟨t0, t1, t2, t3, t4, t5, t6⟩ := seven_new RD.out.Tb
    have tl := lt_of_block RD.out.Tb
    have hc := pCheckT_call pG 0 4 a9 1 c9 M2 w6 HI.out.T HI.out.B
    rw [HM.out, HCk.out] at hc
    unfold tbV at hc
    go_wp2_with fail
    clear t0 t1 t2 t3 t4 t5 t6 tl
    refine hc.mono ?_; rintro e w7 ⟨rfl, hb⟩
    replace RD := Lib.hid (RD.out.below hb)
    clear hb hc
    go_wp2_with fail
    obtain ⟨r1, r2, r3⟩ := RD.out.done
    refine ⟨⟨k + 1, HLt.out, by go_num, r1, r2, r3⟩, by simp [intOf]; have := HLt.out; omega⟩
   ·clear hlt
    have e0 : ((k : Int) == 0) = false := by rw [beq_eq_false_iff_ne]; omega
    have e1 : ((k : Int) == 1) = false := by rw [beq_eq_false_iff_ne]; omega
    have e2 : ((k : Int) == 2) = true := by rw [beq_iff_eq]; omega
    have HKN := Lib.hid hkn
    clear hkn
    go_upto_region 22 with fail
    clear y0 y1 y2 y3 y4 y5 y6 y7 y8 y9 yl g0 g1 g2 g3 gl
    have RD := Lib.hid (Rd.new K.out b1.out b2.out #[.int .i64 3, .int .i64 (-1), .int .i64 256, .int .i64 0, .int .i64 1, .slice a1 201 c1, .slice a2 201 c2, .int .i64 1, .int .i64 0, .bool false] #[.int .i64 8, .int .i64 2, .int .i64 3, .int .i64 4, .int .i64 0, .int .i64 4, .slice none 0 0])
    obtain ⟨x, hx⟩ : ∃ b, b = wr.heap.size := ⟨_, rfl⟩
    obtain ⟨t, ht⟩ : ∃ b, b = wr.heap.size + 1 := ⟨_, rfl⟩
    rw [← ht, ← hx] at RD
    rw [← ht, ← hx]
    generalize (wr.alloc (.cells #[.int .i64 3, .int .i64 (-1), .int .i64 256, .int .i64 0, .int .i64 1, .slice a1 201 c1, .slice a2 201 c2, .int .i64 1, .int .i64 0, .bool false] 46)).alloc (.cells #[.int .i64 8, .int .i64 2, .int .i64 3, .int .i64 4, .int .i64 0, .int .i64 4, .slice none 0 0] 26) = w1 at *
    clear hx ht
    obtain ⟨z0, z1, z2, z3, z4, z5, z6, z7, z8, z9⟩ := ten_c RD.out.X
    have zl := lt_of_block RD.out.X
    obtain ⟨f0, f1, f2, f3, f4, f5, f6, f7, f8, f9⟩ := ten_f RD.out.X
    obtain ⟨t0, t1, t2, t3, t4, t5, t6⟩ := seven_new RD.out.Tb
    have tl := lt_of_block RD.out.Tb
    obtain ⟨h0, h1, h2, h3, h4, h5, h6⟩ := seven_free RD.out.Tb
    go_upto_region 47 with fail
    clear e0 e1 e2 f0 f1 f2 f3 f4 f5 f6 f7 f8 f9 h0 h1 h2 h3 h4 h5 h6
    clear z0 z1 z2 z3 z4 z5 z6 z7 z8 z9 zl
    clear t0 t1 t2 t3 t4 t5 t6 tl
    have LF := Lib.hid (Lf.nil w.heap.size [some x, some t] w1)
    replace RD := Lib.hid (RD.out.setX 1 (.int .i64 16777216))
    replace LF := Lib.hid (LF.out.outs (Outs.of_only ((Only.refl x w1).setCell 1 (.int .i64 16777216)) List.mem_cons_self))
    have RD2 : Rd w L x t none #[.int .i64 3, .int .i64 16777216, .int .i64 256, .int .i64 0, .int .i64 1, .slice a1 201 c1, .slice a2 201 c2, .int .i64 1, .int .i64 0, .bool false] #[.int .i64 8, .int .i64 2, .int .i64 3, .int .i64 4, .int .i64 0, .int .i64 4, .slice none 0 0] q1 q2 (w1.setCell ⟨x, 1, none⟩ (.int .i64 16777216)) := RD.out
    clear RD
    have RD := Lib.hid RD2
    clear RD2
    generalize (w1.setCell ⟨x, 1, none⟩ (.int .i64 16777216)) = w2 at *
    obtain ⟨z0, z1, z2, z3, z4, z5, z6, z7, z8, z9⟩ := ten_c RD.out.X
    have zl := lt_of_block RD.out.X
    obtain ⟨t0, t1, t2, t3, t4, t5, t6⟩ := seven_new RD.out.Tb
    have tl := lt_of_block RD.out.Tb
    have RB := Lib.hid (RD.out.below (below_alloc w2 (.cells #[.int .i64 3, .int .i64 16777216, .int .i64 256, .int .i64 0, .int .i64 1, .slice a1 201 c1, .slice a2 201 c2, .int .i64 1, .int .i64 0, .bool false] 46)))
    have LB := Lib.hid (LF.out.below (below_alloc w2 (.cells #[.int .i64 3, .int .i64 16777216, .int .i64 256, .int .i64 0, .int .i64 1, .slice a1 201 c1, .slice a2 201 c2, .int .i64 1, .int .i64 0, .bool false] 46)))
    go_upto_region 48 with (at_builtin; refine wpList_append_own_at _ rfl _ _ 24 rfl w.heap.size 46 i0 _ 10 112 Try.underlying24 HF.out.1 HF.out.2.1 HF.out.2.2.1 HF.out.2.2.2 rfl (by decide) _ 0 _ rfl LB.out.row ⟨w2.heap.size, 0, none⟩ 1 1 [.int .i64 3, .int .i64 16777216, .int .i64 256, .int .i64 0, .int .i64 1, .slice a1 201 c1, .slice a2 201 c2, .int .i64 1, .int .i64 0, .bool false] rfl rfl (cells_new rfl) (by intro u hu; simp at hu; rcases hu with rfl | rfl | rfl | rfl | rfl | rfl | rfl | rfl | rfl | rfl <;> rfl) (by unfold maxLen; decide) (by decide) (by have := RB.out.K.B.size; exact this) ?_; intro v9 w9 hown9 hg9 _ hat9; obtain ⟨a9, c9, rfl⟩ := row_slice hown9; have R9 := Lib.hid (RB.out.grown hg9); have L9 := Lib.hid (Lf.snoc (q := (cT 2, (⟨a1, 201, c1, a2, 201, c2⟩ : Bs))) LB.out (bdx_as RB.out.bands.1 HQ1.out.1.symm HQ1.out.2.symm) RB.out.lts hown9 hg9 hat9); have t6' : w9.cell? ⟨t, 6, none⟩ = some (.slice none 0 0) := cell_of_block R9.out.Tb rfl; have f6' : w9.frozen? ⟨t, 6, none⟩ = false := free_of_block R9.out.Tb; have l6' := lt_of_block R9.out.Tb; clear hown9 hg9 hat9)
    clear z0 z1 z2 z3 z4 z5 z6 z7 z8 z9 zl
    clear t0 t1 t2 t3 t4 t5 t6 tl
    clear t6' f6' l6' RB LB RD LF
    have RD := Lib.hid (R9.out.setT 6 (.slice a9 1 c9))
    have LF := Lib.hid (L9.out.outs (Outs.of_only ((Only.refl t w9).setCell 6 (.slice a9 1 c9)) (List.mem_cons_of_mem _ List.mem_cons_self)))
    clear R9 L9
    have RD2 : Rd w L x t none #[.int .i64 3, .int .i64 16777216, .int .i64 256, .int .i64 0, .int .i64 1, .slice a1 201 c1, .slice a2 201 c2, .int .i64 1, .int .i64 0, .bool false] #[.int .i64 8, .int .i64 2, .int .i64 3, .int .i64 4, .int .i64 0, .int .i64 4, .slice a9 1 c9] q1 q2 (w9.setCell ⟨t, 6, none⟩ (.slice a9 1 c9)) := RD.out
    clear RD
    have RD := Lib.hid RD2
    clear RD2
    generalize w9.setCell ⟨t, 6, none⟩ (.slice a9 1 c9) = w3 at *
    obtain ⟨M2, hM2⟩ : ∃ x, x = ([] : List TB) ++ [(cT 2, (⟨a1, 201, c1, a2, 201, c2⟩ : Bs))] := ⟨_, rfl⟩
    have hMf : fsts M2 = cL 2 := by rw [hM2]; rfl
    have hl2 : M2.length = 1 := by rw [hM2]; rfl
    rw [← hM2] at LF
    have HI := Lib.hid (tbi_len LF.out hl2 (by decide))
    have HM := Lib.hid hMf
    clear hM2 hMf hl2 LF
    have hT : w3.heap[t]? = some (.cells #[.int .i64 8, .int .i64 2, .int .i64 3, .int .i64 4, .int .i64 0, .int .i64 4, .slice a9 1 c9] 26 (0, 0)) := RD.out.Tb
    have hck : ckE pG 0 4 (cL 2) = 1 := cE (n := 2) (by decide)
    have HCk := Lib.hid hck
    have hcall : ∀ (W : World) (gb : Nat), Below w3.heap.size w3 W → W.heap[gb]? = some (.cells (madeCells #[.int .i64 0, .int .i64 0, .int .i64 0] 51) 40 (0, 0)) → Calls Try.prog 9 #[.agg #[.int .i64 8, .int .i64 2, .int .i64 3, .int .i64 4, .int .i64 0, .int .i64 4, .slice a9 1 c9], .slice (some ⟨gb, 0, none⟩) 17 17] W (CyErr 1 W) := fun W gb hb hg => cy_err pG (now := 0) (next := 4) (by rw [cyE_ck (by rw [hck]; decide), hck]) (by decide) a9 1 c9 _ 17 17 M2 W (HI.out.below hb) HM.out (pls_zero hg)
    refine rg48 t 1 w3 _ hT hcall (fun _ _ _ _ _ h => HPan.out _ _ _ _ _ h) ?_
    rintro a' w4 ⟨u18, u19, u171, u172, u173, u174, u175, u176, u177, rfl, hb⟩
    try dsimp only
    replace RD := Lib.hid (RD.out.below hb)
    replace HI := Lib.hid (HI.out.below hb)
    clear hb hT hcall hck
    obtain ⟨t0, t1, t2, t3, t4, t5, t6⟩ := seven_new RD.out.Tb
    have tl := lt_of_block RD.out.Tb
    go_wp2_with fail
    clear t0 t1 t2 t3 t4 t5 t6 tl
    refine (fd_err pG (now := 0) (next := 4) (id := 3) HCk.out (by decide) a9 1 c9 M2 _ HI.out HM.out).mono ?_; rintro e w5 ⟨sL, nL, kL, sH, nH, kH, rfl, hb⟩
    replace RD := Lib.hid (RD.out.below hb)
    replace HI := Lib.hid (HI.out.below hb)
    clear hb
    replace RD := Lib.hid (RD.out.below (below_alloc w5 (.cells #[.int .i64 0, .int .i64 0, .int .i64 0, .int .i64 0, .int .i64 0, .slice sL nL kL, .slice sH nH kH, .int .i64 0, .int .i64 0, .bool false] 46)))
    replace HI := Lib.hid (HI.out.below (below_alloc w5 (.cells #[.int .i64 0, .int .i64 0, .int .i64 0, .int .i64 0, .int .i64 0, .slice sL nL kL, .slice sH nH kH, .int .i64 0, .int .i64 0, .bool false] 46)))
    go_upto_region 50 with fail
    generalize w5.alloc (.cells #[.int .i64 0, .int .i64 0, .int .i64 0, .int .i64 0, .int .i64 0, .slice sL nL kL, .slice sH nH kH, .int .i64 0, .int .i64 0, .bool false] 46) = w6 at *
    obtain ⟨t0, t1, t2, t3, t4, t5, t6⟩ := seven_new RD.out.Tb
    have tl := lt_of_block RD.out.Tb
    have hc := pCheckT_call pG 0 4 a9 1 c9 M2 w6 HI.out.T HI.out.B
    rw [HM.out, HCk.out] at hc
    unfold tbV at hc
    go_wp2_with fail
    clear t0 t1 t2 t3 t4 t5 t6 tl
    refine hc.mono ?_; rintro e w7 ⟨rfl, hb⟩
    replace RD := Lib.hid (RD.out.below hb)
    clear hb hc
    go_wp2_with fail
    obtain ⟨r1, r2, r3⟩ := RD.out.done
    refine ⟨⟨k + 1, HLt.out, by go_num, r1, r2, r3⟩, by simp [intOf]; have := HLt.out; omega⟩
   ·clear hlt
    have e0 : ((k : Int) == 0) = false := by rw [beq_eq_false_iff_ne]; omega
    have e1 : ((k : Int) == 1) = false := by rw [beq_eq_false_iff_ne]; omega
    have e2 : ((k : Int) == 2) = false := by rw [beq_eq_false_iff_ne]; omega
    have e3 : ((k : Int) == 3) = true := by rw [beq_iff_eq]; omega
    have HKN := Lib.hid hkn
    clear hkn
    go_upto_region 22 with fail
    clear y0 y1 y2 y3 y4 y5 y6 y7 y8 y9 yl g0 g1 g2 g3 gl
    have RD := Lib.hid (Rd.new K.out b1.out b2.out #[.int .i64 3, .int .i64 (-1), .int .i64 256, .int .i64 0, .int .i64 1, .slice a1 201 c1, .slice a2 201 c2, .int .i64 1, .int .i64 0, .bool false] #[.int .i64 8, .int .i64 2, .int .i64 3, .int .i64 4, .int .i64 0, .int .i64 4, .slice none 0 0])
    obtain ⟨x, hx⟩ : ∃ b, b = wr.heap.size := ⟨_, rfl⟩
    obtain ⟨t, ht⟩ : ∃ b, b = wr.heap.size + 1 := ⟨_, rfl⟩
    rw [← ht, ← hx] at RD
    rw [← ht, ← hx]
    generalize (wr.alloc (.cells #[.int .i64 3, .int .i64 (-1), .int .i64 256, .int .i64 0, .int .i64 1, .slice a1 201 c1, .slice a2 201 c2, .int .i64 1, .int .i64 0, .bool false] 46)).alloc (.cells #[.int .i64 8, .int .i64 2, .int .i64 3, .int .i64 4, .int .i64 0, .int .i64 4, .slice none 0 0] 26) = w1 at *
    clear hx ht
    obtain ⟨z0, z1, z2, z3, z4, z5, z6, z7, z8, z9⟩ := ten_c RD.out.X
    have zl := lt_of_block RD.out.X
    obtain ⟨f0, f1, f2, f3, f4, f5, f6, f7, f8, f9⟩ := ten_f RD.out.X
    obtain ⟨t0, t1, t2, t3, t4, t5, t6⟩ := seven_new RD.out.Tb
    have tl := lt_of_block RD.out.Tb
    obtain ⟨h0, h1, h2, h3, h4, h5, h6⟩ := seven_free RD.out.Tb
    go_upto_region 47 with fail
    clear e0 e1 e2 e3 f0 f1 f2 f3 f4 f5 f6 f7 f8 f9 h0 h1 h2 h3 h4 h5 h6
    clear z0 z1 z2 z3 z4 z5 z6 z7 z8 z9 zl
    clear t0 t1 t2 t3 t4 t5 t6 tl
    have LF := Lib.hid (Lf.nil w.heap.size [some x, some t] w1)
    replace RD := Lib.hid (RD.out.setX 4 (.int .i64 0))
    replace LF := Lib.hid (LF.out.outs (Outs.of_only ((Only.refl x w1).setCell 4 (.int .i64 0)) List.mem_cons_self))
    have RD2 : Rd w L x t none #[.int .i64 3, .int .i64 (-1), .int .i64 256, .int .i64 0, .int .i64 0, .slice a1 201 c1, .slice a2 201 c2, .int .i64 1, .int .i64 0, .bool false] #[.int .i64 8, .int .i64 2, .int .i64 3, .int .i64 4, .int .i64 0, .int .i64 4, .slice none 0 0] q1 q2 (w1.setCell ⟨x, 4, none⟩ (.int .i64 0)) := RD.out
    clear RD
    have RD := Lib.hid RD2
    clear RD2
    generalize (w1.setCell ⟨x, 4, none⟩ (.int .i64 0)) = w2 at *
    obtain ⟨z0, z1, z2, z3, z4, z5, z6, z7, z8, z9⟩ := ten_c RD.out.X
    have zl := lt_of_block RD.out.X
    obtain ⟨t0, t1, t2, t3, t4, t5, t6⟩ := seven_new RD.out.Tb
    have tl := lt_of_block RD.out.Tb
    have RB := Lib.hid (RD.out.below (below_alloc w2 (.cells #[.int .i64 3, .int .i64 (-1), .int .i64 256, .int .i64 0, .int .i64 0, .slice a1 201 c1, .slice a2 201 c2, .int .i64 1, .int .i64 0, .bool false] 46)))
    have LB := Lib.hid (LF.out.below (below_alloc w2 (.cells #[.int .i64 3, .int .i64 (-1), .int .i64 256, .int .i64 0, .int .i64 0, .slice a1 201 c1, .slice a2 201 c2, .int .i64 1, .int .i64 0, .bool false] 46)))
    go_upto_region 48 with (at_builtin; refine wpList_append_own_at _ rfl _ _ 24 rfl w.heap.size 46 i0 _ 10 112 Try.underlying24 HF.out.1 HF.out.2.1 HF.out.2.2.1 HF.out.2.2.2 rfl (by decide) _ 0 _ rfl LB.out.row ⟨w2.heap.size, 0, none⟩ 1 1 [.int .i64 3, .int .i64 (-1), .int .i64 256, .int .i64 0, .int .i64 0, .slice a1 201 c1, .slice a2 201 c2, .int .i64 1, .int .i64 0, .bool false] rfl rfl (cells_new rfl) (by intro u hu; simp at hu; rcases hu with rfl | rfl | rfl | rfl | rfl | rfl | rfl | rfl | rfl | rfl <;> rfl) (by unfold maxLen; decide) (by decide) (by have := RB.out.K.B.size; exact this) ?_; intro v9 w9 hown9 hg9 _ hat9; obtain ⟨a9, c9, rfl⟩ := row_slice hown9; have R9 := Lib.hid (RB.out.grown hg9); have L9 := Lib.hid (Lf.snoc (q := (cT 3, (⟨a1, 201, c1, a2, 201, c2⟩ : Bs))) LB.out (bdx_as RB.out.bands.1 HQ1.out.1.symm HQ1.out.2.symm) RB.out.lts hown9 hg9 hat9); have t6' : w9.cell? ⟨t, 6, none⟩ = some (.slice none 0 0) := cell_of_block R9.out.Tb rfl; have f6' : w9.frozen? ⟨t, 6, none⟩ = false := free_of_block R9.out.Tb; have l6' := lt_of_block R9.out.Tb; clear hown9 hg9 hat9)
    clear z0 z1 z2 z3 z4 z5 z6 z7 z8 z9 zl
    clear t0 t1 t2 t3 t4 t5 t6 tl
    clear t6' f6' l6' RB LB RD LF
    have RD := Lib.hid (R9.out.setT 6 (.slice a9 1 c9))
    have LF := Lib.hid (L9.out.outs (Outs.of_only ((Only.refl t w9).setCell 6 (.slice a9 1 c9)) (List.mem_cons_of_mem _ List.mem_cons_self)))
    clear R9 L9
    have RD2 : Rd w L x t none #[.int .i64 3, .int .i64 (-1), .int .i64 256, .int .i64 0, .int .i64 0, .slice a1 201 c1, .slice a2 201 c2, .int .i64 1, .int .i64 0, .bool false] #[.int .i64 8, .int .i64 2, .int .i64 3, .int .i64 4, .int .i64 0, .int .i64 4, .slice a9 1 c9] q1 q2 (w9.setCell ⟨t, 6, none⟩ (.slice a9 1 c9)) := RD.out
    clear RD
    have RD := Lib.hid RD2
    clear RD2
    generalize w9.setCell ⟨t, 6, none⟩ (.slice a9 1 c9) = w3 at *
    obtain ⟨M2, hM2⟩ : ∃ x, x = ([] : List TB) ++ [(cT 3, (⟨a1, 201, c1, a2, 201, c2⟩ : Bs))] := ⟨_, rfl⟩
    have hMf : fsts M2 = cL 3 := by rw [hM2]; rfl
    have hl2 : M2.length = 1 := by rw [hM2]; rfl
    rw [← hM2] at LF
    have HI := Lib.hid (tbi_len LF.out hl2 (by decide))
    have HM := Lib.hid hMf
    clear hM2 hMf hl2 LF
    have hT : w3.heap[t]? = some (.cells #[.int .i64 8, .int .i64 2, .int .i64 3, .int .i64 4, .int .i64 0, .int .i64 4, .slice a9 1 c9] 26 (0, 0)) := RD.out.Tb
    have hck : ckE pG 0 4 (cL 3) = 1 := cE (n := 3) (by decide)
    have HCk := Lib.hid hck
    have hcall : ∀ (W : World) (gb : Nat), Below w3.heap.size w3 W → W.heap[gb]? = some (.cells (madeCells #[.int .i64 0, .int .i64 0, .int .i64 0] 51) 40 (0, 0)) → Calls Try.prog 9 #[.agg #[.int .i64 8, .int .i64 2, .int .i64 3, .int .i64 4, .int .i64 0, .int .i64 4, .slice a9 1 c9], .slice (some ⟨gb, 0, none⟩) 17 17] W (CyErr 1 W) := fun W gb hb hg => cy_err pG (now := 0) (next := 4) (by rw [cyE_ck (by rw [hck]; decide), hck]) (by decide) a9 1 c9 _ 17 17 M2 W (HI.out.below hb) HM.out (pls_zero hg)
    refine rg48 t 1 w3 _ hT hcall (fun _ _ _ _ _ h => HPan.out _ _ _ _ _ h) ?_
    rintro a' w4 ⟨u18, u19, u171, u172, u173, u174, u175, u176, u177, rfl, hb⟩
    try dsimp only
    replace RD := Lib.hid (RD.out.below hb)
    replace HI := Lib.hid (HI.out.below hb)
    clear hb hT hcall hck
    obtain ⟨t0, t1, t2, t3, t4, t5, t6⟩ := seven_new RD.out.Tb
    have tl := lt_of_block RD.out.Tb
    go_wp2_with fail
    clear t0 t1 t2 t3 t4 t5 t6 tl
    refine (fd_err pG (now := 0) (next := 4) (id := 3) HCk.out (by decide) a9 1 c9 M2 _ HI.out HM.out).mono ?_; rintro e w5 ⟨sL, nL, kL, sH, nH, kH, rfl, hb⟩
    replace RD := Lib.hid (RD.out.below hb)
    replace HI := Lib.hid (HI.out.below hb)
    clear hb
    replace RD := Lib.hid (RD.out.below (below_alloc w5 (.cells #[.int .i64 0, .int .i64 0, .int .i64 0, .int .i64 0, .int .i64 0, .slice sL nL kL, .slice sH nH kH, .int .i64 0, .int .i64 0, .bool false] 46)))
    replace HI := Lib.hid (HI.out.below (below_alloc w5 (.cells #[.int .i64 0, .int .i64 0, .int .i64 0, .int .i64 0, .int .i64 0, .slice sL nL kL, .slice sH nH kH, .int .i64 0, .int .i64 0, .bool false] 46)))
    go_upto_region 50 with fail
    generalize w5.alloc (.cells #[.int .i64 0, .int .i64 0, .int .i64 0, .int .i64 0, .int .i64 0, .slice sL nL kL, .slice sH nH kH, .int .i64 0, .int .i64 0, .bool false] 46) = w6 at *
    obtain ⟨t0, t1, t2, t3, t4, t5, t6⟩ := seven_new RD.out.Tb
    have tl := lt_of_block RD.out.Tb
    have hc := pCheckT_call pG 0 4 a9 1 c9 M2 w6 HI.out.T HI.out.B
    rw [HM.out, HCk.out] at hc
    unfold tbV at hc
    go_wp2_with fail
    clear t0 t1 t2 t3 t4 t5 t6 tl
    refine hc.mono ?_; rintro e w7 ⟨rfl, hb⟩
    replace RD := Lib.hid (RD.out.below hb)
    clear hb hc
    go_wp2_with fail
    obtain ⟨r1, r2, r3⟩ := RD.out.done
    refine ⟨⟨k + 1, HLt.out, by go_num, r1, r2, r3⟩, by simp [intOf]; have := HLt.out; omega⟩
   ·clear hlt
    have e0 : ((k : Int) == 0) = false := by rw [beq_eq_false_iff_ne]; omega
    have e1 : ((k : Int) == 1) = false := by rw [beq_eq_false_iff_ne]; omega
    have e2 : ((k : Int) == 2) = false := by rw [beq_eq_false_iff_ne]; omega
    have e3 : ((k : Int) == 3) = false := by rw [beq_eq_false_iff_ne]; omega
    have e4 : ((k : Int) == 4) = true := by rw [beq_iff_eq]; omega
    have HKN := Lib.hid hkn
    clear hkn
    go_upto_region 22 with fail
    clear y0 y1 y2 y3 y4 y5 y6 y7 y8 y9 yl g0 g1 g2 g3 gl
    have RD := Lib.hid (Rd.new K.out b1.out b2.out #[.int .i64 3, .int .i64 (-1), .int .i64 256, .int .i64 0, .int .i64 1, .slice a1 201 c1, .slice a2 201 c2, .int .i64 1, .int .i64 0, .bool false] #[.int .i64 8, .int .i64 2, .int .i64 3, .int .i64 4, .int .i64 0, .int .i64 4, .slice none 0 0])
    obtain ⟨x, hx⟩ : ∃ b, b = wr.heap.size := ⟨_, rfl⟩
    obtain ⟨t, ht⟩ : ∃ b, b = wr.heap.size + 1 := ⟨_, rfl⟩
    rw [← ht, ← hx] at RD
    rw [← ht, ← hx]
    generalize (wr.alloc (.cells #[.int .i64 3, .int .i64 (-1), .int .i64 256, .int .i64 0, .int .i64 1, .slice a1 201 c1, .slice a2 201 c2, .int .i64 1, .int .i64 0, .bool false] 46)).alloc (.cells #[.int .i64 8, .int .i64 2, .int .i64 3, .int .i64 4, .int .i64 0, .int .i64 4, .slice none 0 0] 26) = w1 at *
    clear hx ht
    obtain ⟨z0, z1, z2, z3, z4, z5, z6, z7, z8, z9⟩ := ten_c RD.out.X
    have zl := lt_of_block RD.out.X
    obtain ⟨f0, f1, f2, f3, f4, f5, f6, f7, f8, f9⟩ := ten_f RD.out.X
    obtain ⟨t0, t1, t2, t3, t4, t5, t6⟩ := seven_new RD.out.Tb
    have tl := lt_of_block RD.out.Tb
    obtain ⟨h0, h1, h2, h3, h4, h5, h6⟩ := seven_free RD.out.Tb
    go_upto_region 47 with fail
    clear e0 e1 e2 e3 e4 f0 f1 f2 f3 f4 f5 f6 f7 f8 f9 h0 h1 h2 h3 h4 h5 h6
    clear z0 z1 z2 z3 z4 z5 z6 z7 z8 z9 zl
    clear t0 t1 t2 t3 t4 t5 t6 tl
    have LF := Lib.hid (Lf.nil w.heap.size [some x, some t] w1)
    replace RD := Lib.hid (RD.out.setX 7 (.int .i64 0))
    replace LF := Lib.hid (LF.out.outs (Outs.of_only ((Only.refl x w1).setCell 7 (.int .i64 0)) List.mem_cons_self))
    have RD2 : Rd w L x t none #[.int .i64 3, .int .i64 (-1), .int .i64 256, .int .i64 0, .int .i64 1, .slice a1 201 c1, .slice a2 201 c2, .int .i64 0, .int .i64 0, .bool false] #[.int .i64 8, .int .i64 2, .int .i64 3, .int .i64 4, .int .i64 0, .int .i64 4, .slice none 0 0] q1 q2 (w1.setCell ⟨x, 7, none⟩ (.int .i64 0)) := RD.out
    clear RD
    have RD := Lib.hid RD2
    clear RD2
    generalize (w1.setCell ⟨x, 7, none⟩ (.int .i64 0)) = w2 at *
    obtain ⟨z0, z1, z2, z3, z4, z5, z6, z7, z8, z9⟩ := ten_c RD.out.X
    have zl := lt_of_block RD.out.X
    obtain ⟨t0, t1, t2, t3, t4, t5, t6⟩ := seven_new RD.out.Tb
    have tl := lt_of_block RD.out.Tb
    have RB := Lib.hid (RD.out.below (below_alloc w2 (.cells #[.int .i64 3, .int .i64 (-1), .int .i64 256, .int .i64 0, .int .i64 1, .slice a1 201 c1, .slice a2 201 c2, .int .i64 0, .int .i64 0, .bool false] 46)))
    have LB := Lib.hid (LF.out.below (below_alloc w2 (.cells #[.int .i64 3, .int .i64 (-1), .int .i64 256, .int .i64 0, .int .i64 1, .slice a1 201 c1, .slice a2 201 c2, .int .i64 0, .int .i64 0, .bool false] 46)))
    go_upto_region 48 with (at_builtin; refine wpList_append_own_at _ rfl _ _ 24 rfl w.heap.size 46 i0 _ 10 112 Try.underlying24 HF.out.1 HF.out.2.1 HF.out.2.2.1 HF.out.2.2.2 rfl (by decide) _ 0 _ rfl LB.out.row ⟨w2.heap.size, 0, none⟩ 1 1 [.int .i64 3, .int .i64 (-1), .int .i64 256, .int .i64 0, .int .i64 1, .slice a1 201 c1, .slice a2 201 c2, .int .i64 0, .int .i64 0, .bool false] rfl rfl (cells_new rfl) (by intro u hu; simp at hu; rcases hu with rfl | rfl | rfl | rfl | rfl | rfl | rfl | rfl | rfl | rfl <;> rfl) (by unfold maxLen; decide) (by decide) (by have := RB.out.K.B.size; exact this) ?_; intro v9 w9 hown9 hg9 _ hat9; obtain ⟨a9, c9, rfl⟩ := row_slice hown9; have R9 := Lib.hid (RB.out.grown hg9); have L9 := Lib.hid (Lf.snoc (q := (cT 4, (⟨a1, 201, c1, a2, 201, c2⟩ : Bs))) LB.out (bdx_as RB.out.bands.1 HQ1.out.1.symm HQ1.out.2.symm) RB.out.lts hown9 hg9 hat9); have t6' : w9.cell? ⟨t, 6, none⟩ = some (.slice none 0 0) := cell_of_block R9.out.Tb rfl; have f6' : w9.frozen? ⟨t, 6, none⟩ = false := free_of_block R9.out.Tb; have l6' := lt_of_block R9.out.Tb; clear hown9 hg9 hat9)
    clear z0 z1 z2 z3 z4 z5 z6 z7 z8 z9 zl
    clear t0 t1 t2 t3 t4 t5 t6 tl
    clear t6' f6' l6' RB LB RD LF
    have RD := Lib.hid (R9.out.setT 6 (.slice a9 1 c9))
    have LF := Lib.hid (L9.out.outs (Outs.of_only ((Only.refl t w9).setCell 6 (.slice a9 1 c9)) (List.mem_cons_of_mem _ List.mem_cons_self)))
    clear R9 L9
    have RD2 : Rd w L x t none #[.int .i64 3, .int .i64 (-1), .int .i64 256, .int .i64 0, .int .i64 1, .slice a1 201 c1, .slice a2 201 c2, .int .i64 0, .int .i64 0, .bool false] #[.int .i64 8, .int .i64 2, .int .i64 3, .int .i64 4, .int .i64 0, .int .i64 4, .slice a9 1 c9] q1 q2 (w9.setCell ⟨t, 6, none⟩ (.slice a9 1 c9)) := RD.out
    clear RD
    have RD := Lib.hid RD2
    clear RD2
    generalize w9.setCell ⟨t, 6, none⟩ (.slice a9 1 c9) = w3 at *
    obtain ⟨M2, hM2⟩ : ∃ x, x = ([] : List TB) ++ [(cT 4, (⟨a1, 201, c1, a2, 201, c2⟩ : Bs))] := ⟨_, rfl⟩
    have hMf : fsts M2 = cL 4 := by rw [hM2]; rfl
    have hl2 : M2.length = 1 := by rw [hM2]; rfl
    rw [← hM2] at LF
    have HI := Lib.hid (tbi_len LF.out hl2 (by decide))
    have HM := Lib.hid hMf
    clear hM2 hMf hl2 LF
    have hT : w3.heap[t]? = some (.cells #[.int .i64 8, .int .i64 2, .int .i64 3, .int .i64 4, .int .i64 0, .int .i64 4, .slice a9 1 c9] 26 (0, 0)) := RD.out.Tb
    have hck : ckE pG 0 4 (cL 4) = 1 := cE (n := 4) (by decide)
    have HCk := Lib.hid hck
    have hcall : ∀ (W : World) (gb : Nat), Below w3.heap.size w3 W → W.heap[gb]? = some (.cells (madeCells #[.int .i64 0, .int .i64 0, .int .i64 0] 51) 40 (0, 0)) → Calls Try.prog 9 #[.agg #[.int .i64 8, .int .i64 2, .int .i64 3, .int .i64 4, .int .i64 0, .int .i64 4, .slice a9 1 c9], .slice (some ⟨gb, 0, none⟩) 17 17] W (CyErr 1 W) := fun W gb hb hg => cy_err pG (now := 0) (next := 4) (by rw [cyE_ck (by rw [hck]; decide), hck]) (by decide) a9 1 c9 _ 17 17 M2 W (HI.out.below hb) HM.out (pls_zero hg)
    refine rg48 t 1 w3 _ hT hcall (fun _ _ _ _ _ h => HPan.out _ _ _ _ _ h) ?_
    rintro a' w4 ⟨u18, u19, u171, u172, u173, u174, u175, u176, u177, rfl, hb⟩
    try dsimp only
    replace RD := Lib.hid (RD.out.below hb)
    replace HI := Lib.hid (HI.out.below hb)
    clear hb hT hcall hck
    obtain ⟨t0, t1, t2, t3, t4, t5, t6⟩ := seven_new RD.out.Tb
    have tl := lt_of_block RD.out.Tb
    go_wp2_with fail
    clear t0 t1 t2 t3 t4 t5 t6 tl
    refine (fd_err pG (now := 0) (next := 4) (id := 3) HCk.out (by decide) a9 1 c9 M2 _ HI.out HM.out).mono ?_; rintro e w5 ⟨sL, nL, kL, sH, nH, kH, rfl, hb⟩
    replace RD := Lib.hid (RD.out.below hb)
    replace HI := Lib.hid (HI.out.below hb)
    clear hb
    replace RD := Lib.hid (RD.out.below (below_alloc w5 (.cells #[.int .i64 0, .int .i64 0, .int .i64 0, .int .i64 0, .int .i64 0, .slice sL nL kL, .slice sH nH kH, .int .i64 0, .int .i64 0, .bool false] 46)))
    replace HI := Lib.hid (HI.out.below (below_alloc w5 (.cells #[.int .i64 0, .int .i64 0, .int .i64 0, .int .i64 0, .int .i64 0, .slice sL nL kL, .slice sH nH kH, .int .i64 0, .int .i64 0, .bool false] 46)))
    go_upto_region 50 with fail
    generalize w5.alloc (.cells #[.int .i64 0, .int .i64 0, .int .i64 0, .int .i64 0, .int .i64 0, .slice sL nL kL, .slice sH nH kH, .int .i64 0, .int .i64 0, .bool false] 46) = w6 at *
    obtain ⟨t0, t1, t2, t3, t4, t5, t6⟩ := seven_new RD.out.Tb
    have tl := lt_of_block RD.out.Tb
    have hc := pCheckT_call pG 0 4 a9 1 c9 M2 w6 HI.out.T HI.out.B
    rw [HM.out, HCk.out] at hc
    unfold tbV at hc
    go_wp2_with fail
    clear t0 t1 t2 t3 t4 t5 t6 tl
    refine hc.mono ?_; rintro e w7 ⟨rfl, hb⟩
    replace RD := Lib.hid (RD.out.below hb)
    clear hb hc
    go_wp2_with fail
    obtain ⟨r1, r2, r3⟩ := RD.out.done
    refine ⟨⟨k + 1, HLt.out, by go_num, r1, r2, r3⟩, by simp [intOf]; have := HLt.out; omega⟩
   ·clear hlt
    have e0 : ((k : Int) == 0) = false := by rw [beq_eq_false_iff_ne]; omega
    have e1 : ((k : Int) == 1) = false := by rw [beq_eq_false_iff_ne]; omega
    have e2 : ((k : Int) == 2) = false := by rw [beq_eq_false_iff_ne]; omega
    have e3 : ((k : Int) == 3) = false := by rw [beq_eq_false_iff_ne]; omega
    have e4 : ((k : Int) == 4) = false := by rw [beq_eq_false_iff_ne]; omega
    have e5 : ((k : Int) == 5) = true := by rw [beq_iff_eq]; omega
    have HKN := Lib.hid hkn
    clear hkn
    go_upto_region 22 with fail
    clear y0 y1 y2 y3 y4 y5 y6 y7 y8 y9 yl g0 g1 g2 g3 gl
    have RD := Lib.hid (Rd.new K.out b1.out b2.out #[.int .i64 3, .int .i64 (-1), .int .i64 256, .int .i64 0, .int .i64 1, .slice a1 201 c1, .slice a2 201 c2, .int .i64 1, .int .i64 0, .bool false] #[.int .i64 8, .int .i64 2, .int .i64 3, .int .i64 4, .int .i64 0, .int .i64 4, .slice none 0 0])
    obtain ⟨x, hx⟩ : ∃ b, b = wr.heap.size := ⟨_, rfl⟩
    obtain ⟨t, ht⟩ : ∃ b, b = wr.heap.size + 1 := ⟨_, rfl⟩
    rw [← ht, ← hx] at RD
    rw [← ht, ← hx]
    generalize (wr.alloc (.cells #[.int .i64 3, .int .i64 (-1), .int .i64 256, .int .i64 0, .int .i64 1, .slice a1 201 c1, .slice a2 201 c2, .int .i64 1, .int .i64 0, .bool false] 46)).alloc (.cells #[.int .i64 8, .int .i64 2, .int .i64 3, .int .i64 4, .int .i64 0, .int .i64 4, .slice none 0 0] 26) = w1 at *
    clear hx ht
    obtain ⟨z0, z1, z2, z3, z4, z5, z6, z7, z8, z9⟩ := ten_c RD.out.X
    have zl := lt_of_block RD.out.X
    obtain ⟨f0, f1, f2, f3, f4, f5, f6, f7, f8, f9⟩ := ten_f RD.out.X
    obtain ⟨t0, t1, t2, t3, t4, t5, t6⟩ := seven_new RD.out.Tb
    have tl := lt_of_block RD.out.Tb
    obtain ⟨h0, h1, h2, h3, h4, h5, h6⟩ := seven_free RD.out.Tb
    go_upto_region 47 with fail
    clear e0 e1 e2 e3 e4 e5 f0 f1 f2 f3 f4 f5 f6 f7 f8 f9 h0 h1 h2 h3 h4 h5 h6
    clear z0 z1 z2 z3 z4 z5 z6 z7 z8 z9 zl
    clear t0 t1 t2 t3 t4 t5 t6 tl
    have LF := Lib.hid (Lf.nil w.heap.size [some x, some t] w1)
    replace RD := Lib.hid (RD.out.setX 8 (.int .i64 3))
    replace LF := Lib.hid (LF.out.outs (Outs.of_only ((Only.refl x w1).setCell 8 (.int .i64 3)) List.mem_cons_self))
    have RD2 : Rd w L x t none #[.int .i64 3, .int .i64 (-1), .int .i64 256, .int .i64 0, .int .i64 1, .slice a1 201 c1, .slice a2 201 c2, .int .i64 1, .int .i64 3, .bool false] #[.int .i64 8, .int .i64 2, .int .i64 3, .int .i64 4, .int .i64 0, .int .i64 4, .slice none 0 0] q1 q2 (w1.setCell ⟨x, 8, none⟩ (.int .i64 3)) := RD.out
    clear RD
    have RD := Lib.hid RD2
    clear RD2
    generalize (w1.setCell ⟨x, 8, none⟩ (.int .i64 3)) = w2 at *
    obtain ⟨z0, z1, z2, z3, z4, z5, z6, z7, z8, z9⟩ := ten_c RD.out.X
    have zl := lt_of_block RD.out.X
    obtain ⟨t0, t1, t2, t3, t4, t5, t6⟩ := seven_new RD.out.Tb
    have tl := lt_of_block RD.out.Tb
    have RB := Lib.hid (RD.out.below (below_alloc w2 (.cells #[.int .i64 3, .int .i64 (-1), .int .i64 256, .int .i64 0, .int .i64 1, .slice a1 201 c1, .slice a2 201 c2, .int .i64 1, .int .i64 3, .bool false] 46)))
    have LB := Lib.hid (LF.out.below (below_alloc w2 (.cells #[.int .i64 3, .int .i64 (-1), .int .i64 256, .int .i64 0, .int .i64 1, .slice a1 201 c1, .slice a2 201 c2, .int .i64 1, .int .i64 3, .bool false] 46)))
    go_upto_region 48 with (at_builtin; refine wpList_append_own_at _ rfl _ _ 24 rfl w.heap.size 46 i0 _ 10 112 Try.underlying24 HF.out.1 HF.out.2.1 HF.out.2.2.1 HF.out.2.2.2 rfl (by decide) _ 0 _ rfl LB.out.row ⟨w2.heap.size, 0, none⟩ 1 1 [.int .i64 3, .int .i64 (-1), .int .i64 256, .int .i64 0, .int .i64 1, .slice a1 201 c1, .slice a2 201 c2, .int .i64 1, .int .i64 3, .bool false] rfl rfl (cells_new rfl) (by intro u hu; simp at hu; rcases hu with rfl | rfl | rfl | rfl | rfl | rfl | rfl | rfl | rfl | rfl <;> rfl) (by unfold maxLen; decide) (by decide) (by have := RB.out.K.B.size; exact this) ?_; intro v9 w9 hown9 hg9 _ hat9; obtain ⟨a9, c9, rfl⟩ := row_slice hown9; have R9 := Lib.hid (RB.out.grown hg9); have L9 := Lib.hid (Lf.snoc (q := (cT 5, (⟨a1, 201, c1, a2, 201, c2⟩ : Bs))) LB.out (bdx_as RB.out.bands.1 HQ1.out.1.symm HQ1.out.2.symm) RB.out.lts hown9 hg9 hat9); have t6' : w9.cell? ⟨t, 6, none⟩ = some (.slice none 0 0) := cell_of_block R9.out.Tb rfl; have f6' : w9.frozen? ⟨t, 6, none⟩ = false := free_of_block R9.out.Tb; have l6' := lt_of_block R9.out.Tb; clear hown9 hg9 hat9)
    clear z0 z1 z2 z3 z4 z5 z6 z7 z8 z9 zl
    clear t0 t1 t2 t3 t4 t5 t6 tl
    clear t6' f6' l6' RB LB RD LF
    have RD := Lib.hid (R9.out.setT 6 (.slice a9 1 c9))
    have LF := Lib.hid (L9.out.outs (Outs.of_only ((Only.refl t w9).setCell 6 (.slice a9 1 c9)) (List.mem_cons_of_mem _ List.mem_cons_self)))
    clear R9 L9
    have RD2 : Rd w L x t none #[.int .i64 3, .int .i64 (-1), .int .i64 256, .int .i64 0, .int .i64 1, .slice a1 201 c1, .slice a2 201 c2, .int .i64 1, .int .i64 3, .bool false] #[.int .i64 8, .int .i64 2, .int .i64 3, .int .i64 4, .int .i64 0, .int .i64 4, .slice a9 1 c9] q1 q2 (w9.setCell ⟨t, 6, none⟩ (.slice a9 1 c9)) := RD.out
    clear RD
    have RD := Lib.hid RD2
    clear RD2
    generalize w9.setCell ⟨t, 6, none⟩ (.slice a9 1 c9) = w3 at *
    obtain ⟨M2, hM2⟩ : ∃ x, x = ([] : List TB) ++ [(cT 5, (⟨a1, 201, c1, a2, 201, c2⟩ : Bs))] := ⟨_, rfl⟩
    have hMf : fsts M2 = cL 5 := by rw [hM2]; rfl
    have hl2 : M2.length = 1 := by rw [hM2]; rfl
    rw [← hM2] at LF
    have HI := Lib.hid (tbi_len LF.out hl2 (by decide))
    have HM := Lib.hid hMf
    clear hM2 hMf hl2 LF
    have hT : w3.heap[t]? = some (.cells #[.int .i64 8, .int .i64 2, .int .i64 3, .int .i64 4, .int .i64 0, .int .i64 4, .slice a9 1 c9] 26 (0, 0)) := RD.out.Tb
    have hck : ckE pG 0 4 (cL 5) = 1 := cE (n := 5) (by decide)
    have HCk := Lib.hid hck
    have hcall : ∀ (W : World) (gb : Nat), Below w3.heap.size w3 W → W.heap[gb]? = some (.cells (madeCells #[.int .i64 0, .int .i64 0, .int .i64 0] 51) 40 (0, 0)) → Calls Try.prog 9 #[.agg #[.int .i64 8, .int .i64 2, .int .i64 3, .int .i64 4, .int .i64 0, .int .i64 4, .slice a9 1 c9], .slice (some ⟨gb, 0, none⟩) 17 17] W (CyErr 1 W) := fun W gb hb hg => cy_err pG (now := 0) (next := 4) (by rw [cyE_ck (by rw [hck]; decide), hck]) (by decide) a9 1 c9 _ 17 17 M2 W (HI.out.below hb) HM.out (pls_zero hg)
    refine rg48 t 1 w3 _ hT hcall (fun _ _ _ _ _ h => HPan.out _ _ _ _ _ h) ?_
    rintro a' w4 ⟨u18, u19, u171, u172, u173, u174, u175, u176, u177, rfl, hb⟩
    try dsimp only
    replace RD := Lib.hid (RD.out.below hb)
    replace HI := Lib.hid (HI.out.below hb)
    clear hb hT hcall hck
    obtain ⟨t0, t1, t2, t3, t4, t5, t6⟩ := seven_new RD.out.Tb
    have tl := lt_of_block RD.out.Tb
    go_wp2_with fail
    clear t0 t1 t2 t3 t4 t5 t6 tl
    refine (fd_err pG (now := 0) (next := 4) (id := 3) HCk.out (by decide) a9 1 c9 M2 _ HI.out HM.out).mono ?_; rintro e w5 ⟨sL, nL, kL, sH, nH, kH, rfl, hb⟩
    replace RD := Lib.hid (RD.out.below hb)
    replace HI := Lib.hid (HI.out.below hb)
    clear hb
    replace RD := Lib.hid (RD.out.below (below_alloc w5 (.cells #[.int .i64 0, .int .i64 0, .int .i64 0, .int .i64 0, .int .i64 0, .slice sL nL kL, .slice sH nH kH, .int .i64 0, .int .i64 0, .bool false] 46)))
    replace HI := Lib.hid (HI.out.below (below_alloc w5 (.cells #[.int .i64 0, .int .i64 0, .int .i64 0, .int .i64 0, .int .i64 0, .slice sL nL kL, .slice sH nH kH, .int .i64 0, .int .i64 0, .bool false] 46)))
    go_upto_region 50 with fail
    generalize w5.alloc (.cells #[.int .i64 0, .int .i64 0, .int .i64 0, .int .i64 0, .int .i64 0, .slice sL nL kL, .slice sH nH kH, .int .i64 0, .int .i64 0, .bool false] 46) = w6 at *
    obtain ⟨t0, t1, t2, t3, t4, t5, t6⟩ := seven_new RD.out.Tb
    have tl := lt_of_block RD.out.Tb
    have hc := pCheckT_call pG 0 4 a9 1 c9 M2 w6 HI.out.T HI.out.B
    rw [HM.out, HCk.out] at hc
    unfold tbV at hc
    go_wp2_with fail
    clear t0 t1 t2 t3 t4 t5 t6 tl
    refine hc.mono ?_; rintro e w7 ⟨rfl, hb⟩
    replace RD := Lib.hid (RD.out.below hb)
    clear hb hc
    go_wp2_with fail
    obtain ⟨r1, r2, r3⟩ := RD.out.done
    refine ⟨⟨k + 1, HLt.out, by go_num, r1, r2, r3⟩, by simp [intOf]; have := HLt.out; omega⟩
   ·clear hlt
    have e0 : ((k : Int) == 0) = false := by rw [beq_eq_false_iff_ne]; omega
    have e1 : ((k : Int) == 1) = false := by rw [beq_eq_false_iff_ne]; omega
    have e2 : ((k : Int) == 2) = false := by rw [beq_eq_false_iff_ne]; omega
    have e3 : ((k : Int) == 3) = false := by rw [beq_eq_false_iff_ne]; omega
    have e4 : ((k : Int) == 4) = false := by rw [beq_eq_false_iff_ne]; omega
    have e5 : ((k : Int) == 5) = false := by rw [beq_eq_false_iff_ne]; omega
    have e6 : ((k : Int) == 6) = true := by rw [beq_iff_eq]; omega
    have HKN := Lib.hid hkn
    clear hkn
    go_upto_region 22 with fail
    clear y0 y1 y2 y3 y4 y5 y6 y7 y8 y9 yl g0 g1 g2 g3 gl
    have RD := Lib.hid (Rd.new K.out b1.out b2.out #[.int .i64 3, .int .i64 (-1), .int .i64 256, .int .i64 0, .int .i64 1, .slice a1 201 c1, .slice a2 201 c2, .int .i64 1, .int .i64 0, .bool false] #[.int .i64 8, .int .i64 2, .int .i64 3, .int .i64 4, .int .i64 0, .int .i64 4, .slice none 0 0])
    obtain ⟨x, hx⟩ : ∃ b, b = wr.heap.size := ⟨_, rfl⟩
    obtain ⟨t, ht⟩ : ∃ b, b = wr.heap.size + 1 := ⟨_, rfl⟩
    rw [← ht, ← hx] at RD
    rw [← ht, ← hx]
    generalize (wr.alloc (.cells #[.int .i64 3, .int .i64 (-1), .int .i64 256, .int .i64 0, .int .i64 1, .slice a1 201 c1, .slice a2 201 c2, .int .i64 1, .int .i64 0, .bool false] 46)).alloc (.cells #[.int .i64 8, .int .i64 2, .int .i64 3, .int .i64 4, .int .i64 0, .int .i64 4, .slice none 0 0] 26) = w1 at *
    clear hx ht
    obtain ⟨z0, z1, z2, z3, z4, z5, z6, z7, z8, z9⟩ := ten_c RD.out.X
    have zl := lt_of_block RD.out.X
    obtain ⟨f0, f1, f2, f3, f4, f5, f6, f7, f8, f9⟩ := ten_f RD.out.X
    obtain ⟨t0, t1, t2, t3, t4, t5, t6⟩ := seven_new RD.out.Tb
    have tl := lt_of_block RD.out.Tb
    obtain ⟨h0, h1, h2, h3, h4, h5, h6⟩ := seven_free RD.out.Tb
    go_upto_region 47 with fail
    clear e0 e1 e2 e3 e4 e5 e6 f0 f1 f2 f3 f4 f5 f6 f7 f8 f9 h0 h1 h2 h3 h4 h5 h6
    clear z0 z1 z2 z3 z4 z5 z6 z7 z8 z9 zl
    clear t0 t1 t2 t3 t4 t5 t6 tl
    have LF := Lib.hid (Lf.nil w.heap.size [some x, some t] w1)
    replace RD := Lib.hid (RD.out.setX 9 (.bool true))
    replace LF := Lib.hid (LF.out.outs (Outs.of_only ((Only.refl x w1).setCell 9 (.bool true)) List.mem_cons_self))
    have RD2 : Rd w L x t none #[.int .i64 3, .int .i64 (-1), .int .i64 256, .int .i64 0, .int .i64 1, .slice a1 201 c1, .slice a2 201 c2, .int .i64 1, .int .i64 0, .bool true] #[.int .i64 8, .int .i64 2, .int .i64 3, .int .i64 4, .int .i64 0, .int .i64 4, .slice none 0 0] q1 q2 (w1.setCell ⟨x, 9, none⟩ (.bool true)) := RD.out
    clear RD
    have RD := Lib.hid RD2
    clear RD2
    generalize (w1.setCell ⟨x, 9, none⟩ (.bool true)) = w2 at *
    obtain ⟨z0, z1, z2, z3, z4, z5, z6, z7, z8, z9⟩ := ten_c RD.out.X
    have zl := lt_of_block RD.out.X
    obtain ⟨t0, t1, t2, t3, t4, t5, t6⟩ := seven_new RD.out.Tb
    have tl := lt_of_block RD.out.Tb
    have RB := Lib.hid (RD.out.below (below_alloc w2 (.cells #[.int .i64 3, .int .i64 (-1), .int .i64 256, .int .i64 0, .int .i64 1, .slice a1 201 c1, .slice a2 201 c2, .int .i64 1, .int .i64 0, .bool true] 46)))
    have LB := Lib.hid (LF.out.below (below_alloc w2 (.cells #[.int .i64 3, .int .i64 (-1), .int .i64 256, .int .i64 0, .int .i64 1, .slice a1 201 c1, .slice a2 201 c2, .int .i64 1, .int .i64 0, .bool true] 46)))
    go_upto_region 48 with (at_builtin; refine wpList_append_own_at _ rfl _ _ 24 rfl w.heap.size 46 i0 _ 10 112 Try.underlying24 HF.out.1 HF.out.2.1 HF.out.2.2.1 HF.out.2.2.2 rfl (by decide) _ 0 _ rfl LB.out.row ⟨w2.heap.size, 0, none⟩ 1 1 [.int .i64 3, .int .i64 (-1), .int .i64 256, .int .i64 0, .int .i64 1, .slice a1 201 c1, .slice a2 201 c2, .int .i64 1, .int .i64 0, .bool true] rfl rfl (cells_new rfl) (by intro u hu; simp at hu; rcases hu with rfl | rfl | rfl | rfl | rfl | rfl | rfl | rfl | rfl | rfl <;> rfl) (by unfold maxLen; decide) (by decide) (by have := RB.out.K.B.size; exact this) ?_; intro v9 w9 hown9 hg9 _ hat9; obtain ⟨a9, c9, rfl⟩ := row_slice hown9; have R9 := Lib.hid (RB.out.grown hg9); have L9 := Lib.hid (Lf.snoc (q := (cT 6, (⟨a1, 201, c1, a2, 201, c2⟩ : Bs))) LB.out (bdx_as RB.out.bands.1 HQ1.out.1.symm HQ1.out.2.symm) RB.out.lts hown9 hg9 hat9); have t6' : w9.cell? ⟨t, 6, none⟩ = some (.slice none 0 0) := cell_of_block R9.out.Tb rfl; have f6' : w9.frozen? ⟨t, 6, none⟩ = false := free_of_block R9.out.Tb; have l6' := lt_of_block R9.out.Tb; clear hown9 hg9 hat9)
    clear z0 z1 z2 z3 z4 z5 z6 z7 z8 z9 zl
    clear t0 t1 t2 t3 t4 t5 t6 tl
    clear t6' f6' l6' RB LB RD LF
    have RD := Lib.hid (R9.out.setT 6 (.slice a9 1 c9))
    have LF := Lib.hid (L9.out.outs (Outs.of_only ((Only.refl t w9).setCell 6 (.slice a9 1 c9)) (List.mem_cons_of_mem _ List.mem_cons_self)))
    clear R9 L9
    have RD2 : Rd w L x t none #[.int .i64 3, .int .i64 (-1), .int .i64 256, .int .i64 0, .int .i64 1, .slice a1 201 c1, .slice a2 201 c2, .int .i64 1, .int .i64 0, .bool true] #[.int .i64 8, .int .i64 2, .int .i64 3, .int .i64 4, .int .i64 0, .int .i64 4, .slice a9 1 c9] q1 q2 (w9.setCell ⟨t, 6, none⟩ (.slice a9 1 c9)) := RD.out
    clear RD
    have RD := Lib.hid RD2
    clear RD2
    generalize w9.setCell ⟨t, 6, none⟩ (.slice a9 1 c9) = w3 at *
    obtain ⟨M2, hM2⟩ : ∃ x, x = ([] : List TB) ++ [(cT 6, (⟨a1, 201, c1, a2, 201, c2⟩ : Bs))] := ⟨_, rfl⟩
    have hMf : fsts M2 = cL 6 := by rw [hM2]; rfl
    have hl2 : M2.length = 1 := by rw [hM2]; rfl
    rw [← hM2] at LF
    have HI := Lib.hid (tbi_len LF.out hl2 (by decide))
    have HM := Lib.hid hMf
    clear hM2 hMf hl2 LF
    have hT : w3.heap[t]? = some (.cells #[.int .i64 8, .int .i64 2, .int .i64 3, .int .i64 4, .int .i64 0, .int .i64 4, .slice a9 1 c9] 26 (0, 0)) := RD.out.Tb
    have hck : ckE pG 0 4 (cL 6) = 1 := cE (n := 6) (by decide)
    have HCk := Lib.hid hck
    have hcall : ∀ (W : World) (gb : Nat), Below w3.heap.size w3 W → W.heap[gb]? = some (.cells (madeCells #[.int .i64 0, .int .i64 0, .int .i64 0] 51) 40 (0, 0)) → Calls Try.prog 9 #[.agg #[.int .i64 8, .int .i64 2, .int .i64 3, .int .i64 4, .int .i64 0, .int .i64 4, .slice a9 1 c9], .slice (some ⟨gb, 0, none⟩) 17 17] W (CyErr 1 W) := fun W gb hb hg => cy_err pG (now := 0) (next := 4) (by rw [cyE_ck (by rw [hck]; decide), hck]) (by decide) a9 1 c9 _ 17 17 M2 W (HI.out.below hb) HM.out (pls_zero hg)
    refine rg48 t 1 w3 _ hT hcall (fun _ _ _ _ _ h => HPan.out _ _ _ _ _ h) ?_
    rintro a' w4 ⟨u18, u19, u171, u172, u173, u174, u175, u176, u177, rfl, hb⟩
    try dsimp only
    replace RD := Lib.hid (RD.out.below hb)
    replace HI := Lib.hid (HI.out.below hb)
    clear hb hT hcall hck
    obtain ⟨t0, t1, t2, t3, t4, t5, t6⟩ := seven_new RD.out.Tb
    have tl := lt_of_block RD.out.Tb
    go_wp2_with fail
    clear t0 t1 t2 t3 t4 t5 t6 tl
    refine (fd_err pG (now := 0) (next := 4) (id := 3) HCk.out (by decide) a9 1 c9 M2 _ HI.out HM.out).mono ?_; rintro e w5 ⟨sL, nL, kL, sH, nH, kH, rfl, hb⟩
    replace RD := Lib.hid (RD.out.below hb)
    replace HI := Lib.hid (HI.out.below hb)
    clear hb
    replace RD := Lib.hid (RD.out.below (below_alloc w5 (.cells #[.int .i64 0, .int .i64 0, .int .i64 0, .int .i64 0, .int .i64 0, .slice sL nL kL, .slice sH nH kH, .int .i64 0, .int .i64 0, .bool false] 46)))
    replace HI := Lib.hid (HI.out.below (below_alloc w5 (.cells #[.int .i64 0, .int .i64 0, .int .i64 0, .int .i64 0, .int .i64 0, .slice sL nL kL, .slice sH nH kH, .int .i64 0, .int .i64 0, .bool false] 46)))
    go_upto_region 50 with fail
    generalize w5.alloc (.cells #[.int .i64 0, .int .i64 0, .int .i64 0, .int .i64 0, .int .i64 0, .slice sL nL kL, .slice sH nH kH, .int .i64 0, .int .i64 0, .bool false] 46) = w6 at *
    obtain ⟨t0, t1, t2, t3, t4, t5, t6⟩ := seven_new RD.out.Tb
    have tl := lt_of_block RD.out.Tb
    have hc := pCheckT_call pG 0 4 a9 1 c9 M2 w6 HI.out.T HI.out.B
    rw [HM.out, HCk.out] at hc
    unfold tbV at hc
    go_wp2_with fail
    clear t0 t1 t2 t3 t4 t5 t6 tl
    refine hc.mono ?_; rintro e w7 ⟨rfl, hb⟩
    replace RD := Lib.hid (RD.out.below hb)
    clear hb hc
    go_wp2_with fail
    obtain ⟨r1, r2, r3⟩ := RD.out.done
    refine ⟨⟨k + 1, HLt.out, by go_num, r1, r2, r3⟩, by simp [intOf]; have := HLt.out; omega⟩
   ·clear hlt
    have e0 : ((k : Int) == 0) = false := by rw [beq_eq_false_iff_ne]; omega
    have e1 : ((k : Int) == 1) = false := by rw [beq_eq_false_iff_ne]; omega
    have e2 : ((k : Int) == 2) = false := by rw [beq_eq_false_iff_ne]; omega
    have e3 : ((k : Int) == 3) = false := by rw [beq_eq_false_iff_ne]; omega
    have e4 : ((k : Int) == 4) = false := by rw [beq_eq_false_iff_ne]; omega
    have e5 : ((k : Int) == 5) = false := by rw [beq_eq_false_iff_ne]; omega
    have e6 : ((k : Int) == 6) = false := by rw [beq_eq_false_iff_ne]; omega
    have e7 : ((k : Int) == 7) = true := by rw [beq_iff_eq]; omega
    have HKN := Lib.hid hkn
    clear hkn
    go_upto_region 22 with fail
    clear y0 y1 y2 y3 y4 y5 y6 y7 y8 y9 yl g0 g1 g2 g3 gl
    have RD := Lib.hid (Rd.new K.out b1.out b2.out #[.int .i64 3, .int .i64 (-1), .int .i64 256, .int .i64 0, .int .i64 1, .slice a1 201 c1, .slice a2 201 c2, .int .i64 1, .int .i64 0, .bool false] #[.int .i64 8, .int .i64 2, .int .i64 3, .int .i64 4, .int .i64 0, .int .i64 4, .slice none 0 0])
    obtain ⟨x, hx⟩ : ∃ b, b = wr.heap.size := ⟨_, rfl⟩
    obtain ⟨t, ht⟩ : ∃ b, b = wr.heap.size + 1 := ⟨_, rfl⟩
    rw [← ht, ← hx] at RD
    rw [← ht, ← hx]
    generalize (wr.alloc (.cells #[.int .i64 3, .int .i64 (-1), .int .i64 256, .int .i64 0, .int .i64 1, .slice a1 201 c1, .slice a2 201 c2, .int .i64 1, .int .i64 0, .bool false] 46)).alloc (.cells #[.int .i64 8, .int .i64 2, .int .i64 3, .int .i64 4, .int .i64 0, .int .i64 4, .slice none 0 0] 26) = w1 at *
    clear hx ht
    obtain ⟨z0, z1, z2, z3, z4, z5, z6, z7, z8, z9⟩ := ten_c RD.out.X
    have zl := lt_of_block RD.out.X
    obtain ⟨f0, f1, f2, f3, f4, f5, f6, f7, f8, f9⟩ := ten_f RD.out.X
    obtain ⟨t0, t1, t2, t3, t4, t5, t6⟩ := seven_new RD.out.Tb
    have tl := lt_of_block RD.out.Tb
    obtain ⟨h0, h1, h2, h3, h4, h5, h6⟩ := seven_free RD.out.Tb
    go_upto_region 47 with fail
    clear e0 e1 e2 e3 e4 e5 e6 e7 f0 f1 f2 f3 f4 f5 f6 f7 f8 f9 h0 h1 h2 h3 h4 h5 h6
    clear z0 z1 z2 z3 z4 z5 z6 z7 z8 z9 zl
    clear t0 t1 t2 t3 t4 t5 t6 tl
    have LF := Lib.hid (Lf.nil w.heap.size [some x, some t] w1)
    replace RD := Lib.hid (RD.out.setX 5 (.slice none 0 0))
    replace LF := Lib.hid (LF.out.outs (Outs.of_only ((Only.refl x w1).setCell 5 (.slice none 0 0)) List.mem_cons_self))
    replace RD := Lib.hid (RD.out.setX 6 (.slice none 0 0))
    replace LF := Lib.hid (LF.out.outs (Outs.of_only ((Only.refl x (w1.setCell ⟨x, 5, none⟩ (.slice none 0 0))).setCell 6 (.slice none 0 0)) List.mem_cons_self))
    have RD2 : Rd w L x t none #[.int .i64 3, .int .i64 (-1), .int .i64 256, .int .i64 0, .int .i64 1, .slice none 0 0, .slice none 0 0, .int .i64 1, .int .i64 0, .bool false] #[.int .i64 8, .int .i64 2, .int .i64 3, .int .i64 4, .int .i64 0, .int .i64 4, .slice none 0 0] q1 q2 ((w1.setCell ⟨x, 5, none⟩ (.slice none 0 0)).setCell ⟨x, 6, none⟩ (.slice none 0 0)) := RD.out
    clear RD
    have RD := Lib.hid RD2
    clear RD2
    generalize ((w1.setCell ⟨x, 5, none⟩ (.slice none 0 0)).setCell ⟨x, 6, none⟩ (.slice none 0 0)) = w2 at *
    obtain ⟨z0, z1, z2, z3, z4, z5, z6, z7, z8, z9⟩ := ten_c RD.out.X
    have zl := lt_of_block RD.out.X
    obtain ⟨t0, t1, t2, t3, t4, t5, t6⟩ := seven_new RD.out.Tb
    have tl := lt_of_block RD.out.Tb
    have RB := Lib.hid (RD.out.below (below_alloc w2 (.cells #[.int .i64 3, .int .i64 (-1), .int .i64 256, .int .i64 0, .int .i64 1, .slice none 0 0, .slice none 0 0, .int .i64 1, .int .i64 0, .bool false] 46)))
    have LB := Lib.hid (LF.out.below (below_alloc w2 (.cells #[.int .i64 3, .int .i64 (-1), .int .i64 256, .int .i64 0, .int .i64 1, .slice none 0 0, .slice none 0 0, .int .i64 1, .int .i64 0, .bool false] 46)))
    go_upto_region 48 with (at_builtin; refine wpList_append_own_at _ rfl _ _ 24 rfl w.heap.size 46 i0 _ 10 112 Try.underlying24 HF.out.1 HF.out.2.1 HF.out.2.2.1 HF.out.2.2.2 rfl (by decide) _ 0 _ rfl LB.out.row ⟨w2.heap.size, 0, none⟩ 1 1 [.int .i64 3, .int .i64 (-1), .int .i64 256, .int .i64 0, .int .i64 1, .slice none 0 0, .slice none 0 0, .int .i64 1, .int .i64 0, .bool false] rfl rfl (cells_new rfl) (by intro u hu; simp at hu; rcases hu with rfl | rfl | rfl | rfl | rfl | rfl | rfl | rfl | rfl | rfl <;> rfl) (by unfold maxLen; decide) (by decide) (by have := RB.out.K.B.size; exact this) ?_; intro v9 w9 hown9 hg9 _ hat9; obtain ⟨a9, c9, rfl⟩ := row_slice hown9; have R9 := Lib.hid (RB.out.grown hg9); have L9 := Lib.hid (Lf.snoc (q := (cT 7, (⟨none, 0, 0, none, 0, 0⟩ : Bs))) LB.out (bd_none _ _ _ (cT 7) rfl rfl) RB.out.lts hown9 hg9 hat9); have t6' : w9.cell? ⟨t, 6, none⟩ = some (.slice none 0 0) := cell_of_block R9.out.Tb rfl; have f6' : w9.frozen? ⟨t, 6, none⟩ = false := free_of_block R9.out.Tb; have l6' := lt_of_block R9.out.Tb; clear hown9 hg9 hat9)
    clear z0 z1 z2 z3 z4 z5 z6 z7 z8 z9 zl
    clear t0 t1 t2 t3 t4 t5 t6 tl
    clear t6' f6' l6' RB LB RD LF
    have RD := Lib.hid (R9.out.setT 6 (.slice a9 1 c9))
    have LF := Lib.hid (L9.out.outs (Outs.of_only ((Only.refl t w9).setCell 6 (.slice a9 1 c9)) (List.mem_cons_of_mem _ List.mem_cons_self)))
    clear R9 L9
    have RD2 : Rd w L x t none #[.int .i64 3, .int .i64 (-1), .int .i64 256, .int .i64 0, .int .i64 1, .slice none 0 0, .slice none 0 0, .int .i64 1, .int .i64 0, .bool false] #[.int .i64 8, .int .i64 2, .int .i64 3, .int .i64 4, .int .i64 0, .int .i64 4, .slice a9 1 c9] q1 q2 (w9.setCell ⟨t, 6, none⟩ (.slice a9 1 c9)) := RD.out
    clear RD
    have RD := Lib.hid RD2
    clear RD2
    generalize w9.setCell ⟨t, 6, none⟩ (.slice a9 1 c9) = w3 at *
    obtain ⟨M2, hM2⟩ : ∃ x, x = ([] : List TB) ++ [(cT 7, (⟨none, 0, 0, none, 0, 0⟩ : Bs))] := ⟨_, rfl⟩
    have hMf : fsts M2 = cL 7 := by rw [hM2]; rfl
    have hl2 : M2.length = 1 := by rw [hM2]; rfl
    rw [← hM2] at LF
    have HI := Lib.hid (tbi_len LF.out hl2 (by decide))
    have HM := Lib.hid hMf
    clear hM2 hMf hl2 LF
    have hT : w3.heap[t]? = some (.cells #[.int .i64 8, .int .i64 2, .int .i64 3, .int .i64 4, .int .i64 0, .int .i64 4, .slice a9 1 c9] 26 (0, 0)) := RD.out.Tb
    have hck : ckE pG 0 4 (cL 7) = 2 := cE (n := 7) (by decide)
    have HCk := Lib.hid hck
    have hcall : ∀ (W : World) (gb : Nat), Below w3.heap.size w3 W → W.heap[gb]? = some (.cells (madeCells #[.int .i64 0, .int .i64 0, .int .i64 0] 51) 40 (0, 0)) → Calls Try.prog 9 #[.agg #[.int .i64 8, .int .i64 2, .int .i64 3, .int .i64 4, .int .i64 0, .int .i64 4, .slice a9 1 c9], .slice (some ⟨gb, 0, none⟩) 17 17] W (CyErr 2 W) := fun W gb hb hg => cy_err pG (now := 0) (next := 4) (by rw [cyE_ck (by rw [hck]; decide), hck]) (by decide) a9 1 c9 _ 17 17 M2 W (HI.out.below hb) HM.out (pls_zero hg)
    refine rg48 t 2 w3 _ hT hcall (fun _ _ _ _ _ h => HPan.out _ _ _ _ _ h) ?_
    rintro a' w4 ⟨u18, u19, u171, u172, u173, u174, u175, u176, u177, rfl, hb⟩
    try dsimp only
    replace RD := Lib.hid (RD.out.below hb)
    replace HI := Lib.hid (HI.out.below hb)
    clear hb hT hcall hck
    obtain ⟨t0, t1, t2, t3, t4, t5, t6⟩ := seven_new RD.out.Tb
    have tl := lt_of_block RD.out.Tb
    go_wp2_with fail
    clear t0 t1 t2 t3 t4 t5 t6 tl
    refine (fd_err pG (now := 0) (next := 4) (id := 3) HCk.out (by decide) a9 1 c9 M2 _ HI.out HM.out).mono ?_; rintro e w5 ⟨sL, nL, kL, sH, nH, kH, rfl, hb⟩
    replace RD := Lib.hid (RD.out.below hb)
    replace HI := Lib.hid (HI.out.below hb)
    clear hb
    replace RD := Lib.hid (RD.out.below (below_alloc w5 (.cells #[.int .i64 0, .int .i64 0, .int .i64 0, .int .i64 0, .int .i64 0, .slice sL nL kL, .slice sH nH kH, .int .i64 0, .int .i64 0, .bool false] 46)))
    replace HI := Lib.hid (HI.out.below (below_alloc w5 (.cells #[.int .i64 0, .int .i64 0, .int .i64 0, .int .i64 0, .int .i64 0, .slice sL nL kL, .slice sH nH kH, .int .i64 0, .int .i64 0, .bool false] 46)))
    go_upto_region 50 with fail
    generalize w5.alloc (.cells #[.int .i64 0, .int .i64 0, .int .i64 0, .int .i64 0, .int .i64 0, .slice sL nL kL, .slice sH nH kH, .int .i64 0, .int .i64 0, .bool false] 46) = w6 at *
    obtain ⟨t0, t1, t2, t3, t4, t5, t6⟩ := seven_new RD.out.Tb
    have tl := lt_of_block RD.out.Tb
    have hc := pCheckT_call pG 0 4 a9 1 c9 M2 w6 HI.out.T HI.out.B
    rw [HM.out, HCk.out] at hc
    unfold tbV at hc
    go_wp2_with fail
    clear t0 t1 t2 t3 t4 t5 t6 tl
    refine hc.mono ?_; rintro e w7 ⟨rfl, hb⟩
    replace RD := Lib.hid (RD.out.below hb)
    clear hb hc
    go_wp2_with fail
    obtain ⟨r1, r2, r3⟩ := RD.out.done
    refine ⟨⟨k + 1, HLt.out, by go_num, r1, r2, r3⟩, by simp [intOf]; have := HLt.out; omega⟩
   ·clear hlt
    have e0 : ((k : Int) == 0) = false := by rw [beq_eq_false_iff_ne]; omega
    have e1 : ((k : Int) == 1) = false := by rw [beq_eq_false_iff_ne]; omega
    have e2 : ((k : Int) == 2) = false := by rw [beq_eq_false_iff_ne]; omega
    have e3 : ((k : Int) == 3) = false := by rw [beq_eq_false_iff_ne]; omega
    have e4 : ((k : Int) == 4) = false := by rw [beq_eq_false_iff_ne]; omega
    have e5 : ((k : Int) == 5) = false := by rw [beq_eq_false_iff_ne]; omega
    have e6 : ((k : Int) == 6) = false := by rw [beq_eq_false_iff_ne]; omega
    have e7 : ((k : Int) == 7) = false := by rw [beq_eq_false_iff_ne]; omega
    have e8 : ((k : Int) == 8) = true := by rw [beq_iff_eq]; omega
    have HKN := Lib.hid hkn
    clear hkn
    go_upto_region 22 with fail
    clear y0 y1 y2 y3 y4 y5 y6 y7 y8 y9 yl g0 g1 g2 g3 gl
    have RD := Lib.hid (Rd.new K.out b1.out b2.out #[.int .i64 3, .int .i64 (-1), .int .i64 256, .int .i64 0, .int .i64 1, .slice a1 201 c1, .slice a2 201 c2, .int .i64 1, .int .i64 0, .bool false] #[.int .i64 8, .int .i64 2, .int .i64 3, .int .i64 4, .int .i64 0, .int .i64 4, .slice none 0 0])
    obtain ⟨x, hx⟩ : ∃ b, b = wr.heap.size := ⟨_, rfl⟩
    obtain ⟨t, ht⟩ : ∃ b, b = wr.heap.size + 1 := ⟨_, rfl⟩
    rw [← ht, ← hx] at RD
    rw [← ht, ← hx]
    generalize (wr.alloc (.cells #[.int .i64 3, .int .i64 (-1), .int .i64 256, .int .i64 0, .int .i64 1, .slice a1 201 c1, .slice a2 201 c2, .int .i64 1, .int .i64 0, .bool false] 46)).alloc (.cells #[.int .i64 8, .int .i64 2, .int .i64 3, .int .i64 4, .int .i64 0, .int .i64 4, .slice none 0 0] 26) = w1 at *
    clear hx ht
    obtain ⟨z0, z1, z2, z3, z4, z5, z6, z7, z8, z9⟩ := ten_c RD.out.X
    have zl := lt_of_block RD.out.X
    obtain ⟨f0, f1, f2, f3, f4, f5, f6, f7, f8, f9⟩ := ten_f RD.out.X
    obtain ⟨t0, t1, t2, t3, t4, t5, t6⟩ := seven_new RD.out.Tb
    have tl := lt_of_block RD.out.Tb
    obtain ⟨h0, h1, h2, h3, h4, h5, h6⟩ := seven_free RD.out.Tb
    have HBn := keepG RD.out.K HL2.out
    have v0 : w1.cell? ⟨B11, 0, none⟩ = some (.slice a3 201 c3) := cell_of_block HBn rfl
    have v1 : w1.cell? ⟨B11, 1, none⟩ = some (.slice a4 201 c4) := cell_of_block HBn rfl
    have vl := lt_of_block HBn
    clear HBn
    go_upto_region 47 with fail
    clear e0 e1 e2 e3 e4 e5 e6 e7 e8 f0 f1 f2 f3 f4 f5 f6 f7 f8 f9 h0 h1 h2 h3 h4 h5 h6
    clear z0 z1 z2 z3 z4 z5 z6 z7 z8 z9 zl
    clear t0 t1 t2 t3 t4 t5 t6 tl
    clear v0 v1 vl
    have LF := Lib.hid (Lf.nil w.heap.size [some x, some t] w1)
    replace RD := Lib.hid (RD.out.setX 5 (.slice a3 201 c3))
    replace LF := Lib.hid (LF.out.outs (Outs.of_only ((Only.refl x w1).setCell 5 (.slice a3 201 c3)) List.mem_cons_self))
    replace RD := Lib.hid (RD.out.setX 6 (.slice a4 201 c4))
    replace LF := Lib.hid (LF.out.outs (Outs.of_only ((Only.refl x (w1.setCell ⟨x, 5, none⟩ (.slice a3 201 c3))).setCell 6 (.slice a4 201 c4)) List.mem_cons_self))
    have RD2 : Rd w L x t none #[.int .i64 3, .int .i64 (-1), .int .i64 256, .int .i64 0, .int .i64 1, .slice a3 201 c3, .slice a4 201 c4, .int .i64 1, .int .i64 0, .bool false] #[.int .i64 8, .int .i64 2, .int .i64 3, .int .i64 4, .int .i64 0, .int .i64 4, .slice none 0 0] q1 q2 ((w1.setCell ⟨x, 5, none⟩ (.slice a3 201 c3)).setCell ⟨x, 6, none⟩ (.slice a4 201 c4)) := RD.out
    clear RD
    have RD := Lib.hid RD2
    clear RD2
    generalize ((w1.setCell ⟨x, 5, none⟩ (.slice a3 201 c3)).setCell ⟨x, 6, none⟩ (.slice a4 201 c4)) = w2 at *
    obtain ⟨z0, z1, z2, z3, z4, z5, z6, z7, z8, z9⟩ := ten_c RD.out.X
    have zl := lt_of_block RD.out.X
    obtain ⟨t0, t1, t2, t3, t4, t5, t6⟩ := seven_new RD.out.Tb
    have tl := lt_of_block RD.out.Tb
    have RB := Lib.hid (RD.out.below (below_alloc w2 (.cells #[.int .i64 3, .int .i64 (-1), .int .i64 256, .int .i64 0, .int .i64 1, .slice a3 201 c3, .slice a4 201 c4, .int .i64 1, .int .i64 0, .bool false] 46)))
    have LB := Lib.hid (LF.out.below (below_alloc w2 (.cells #[.int .i64 3, .int .i64 (-1), .int .i64 256, .int .i64 0, .int .i64 1, .slice a3 201 c3, .slice a4 201 c4, .int .i64 1, .int .i64 0, .bool false] 46)))
    go_upto_region 48 with (at_builtin; refine wpList_append_own_at _ rfl _ _ 24 rfl w.heap.size 46 i0 _ 10 112 Try.underlying24 HF.out.1 HF.out.2.1 HF.out.2.2.1 HF.out.2.2.2 rfl (by decide) _ 0 _ rfl LB.out.row ⟨w2.heap.size, 0, none⟩ 1 1 [.int .i64 3, .int .i64 (-1), .int .i64 256, .int .i64 0, .int .i64 1, .slice a3 201 c3, .slice a4 201 c4, .int .i64 1, .int .i64 0, .bool false] rfl rfl (cells_new rfl) (by intro u hu; simp at hu; rcases hu with rfl | rfl | rfl | rfl | rfl | rfl | rfl | rfl | rfl | rfl <;> rfl) (by unfold maxLen; decide) (by decide) (by have := RB.out.K.B.size; exact this) ?_; intro v9 w9 hown9 hg9 _ hat9; obtain ⟨a9, c9, rfl⟩ := row_slice hown9; have R9 := Lib.hid (RB.out.grown hg9); have L9 := Lib.hid (Lf.snoc (q := (cT 8, (⟨a3, 201, c3, a4, 201, c4⟩ : Bs))) LB.out (bdx_as RB.out.bands.2 HQ2.out.1.symm HQ2.out.2.symm) RB.out.lts hown9 hg9 hat9); have t6' : w9.cell? ⟨t, 6, none⟩ = some (.slice none 0 0) := cell_of_block R9.out.Tb rfl; have f6' : w9.frozen? ⟨t, 6, none⟩ = false := free_of_block R9.out.Tb; have l6' := lt_of_block R9.out.Tb; clear hown9 hg9 hat9)
    clear z0 z1 z2 z3 z4 z5 z6 z7 z8 z9 zl
    clear t0 t1 t2 t3 t4 t5 t6 tl
    clear t6' f6' l6' RB LB RD LF
    have RD := Lib.hid (R9.out.setT 6 (.slice a9 1 c9))
    have LF := Lib.hid (L9.out.outs (Outs.of_only ((Only.refl t w9).setCell 6 (.slice a9 1 c9)) (List.mem_cons_of_mem _ List.mem_cons_self)))
    clear R9 L9
    have RD2 : Rd w L x t none #[.int .i64 3, .int .i64 (-1), .int .i64 256, .int .i64 0, .int .i64 1, .slice a3 201 c3, .slice a4 201 c4, .int .i64 1, .int .i64 0, .bool false] #[.int .i64 8, .int .i64 2, .int .i64 3, .int .i64 4, .int .i64 0, .int .i64 4, .slice a9 1 c9] q1 q2 (w9.setCell ⟨t, 6, none⟩ (.slice a9 1 c9)) := RD.out
    clear RD
    have RD := Lib.hid RD2
    clear RD2
    generalize w9.setCell ⟨t, 6, none⟩ (.slice a9 1 c9) = w3 at *
    obtain ⟨M2, hM2⟩ : ∃ x, x = ([] : List TB) ++ [(cT 8, (⟨a3, 201, c3, a4, 201, c4⟩ : Bs))] := ⟨_, rfl⟩
    have hMf : fsts M2 = cL 8 := by rw [hM2]; rfl
    have hl2 : M2.length = 1 := by rw [hM2]; rfl
    rw [← hM2] at LF
    have HI := Lib.hid (tbi_len LF.out hl2 (by decide))
    have HM := Lib.hid hMf
    clear hM2 hMf hl2 LF
    have hT : w3.heap[t]? = some (.cells #[.int .i64 8, .int .i64 2, .int .i64 3, .int .i64 4, .int .i64 0, .int .i64 4, .slice a9 1 c9] 26 (0, 0)) := RD.out.Tb
    have hck : ckE pG 0 4 (cL 8) = 9 := cE (n := 8) (by decide)
    have HCk := Lib.hid hck
    have hcall : ∀ (W : World) (gb : Nat), Below w3.heap.size w3 W → W.heap[gb]? = some (.cells (madeCells #[.int .i64 0, .int .i64 0, .int .i64 0] 51) 40 (0, 0)) → Calls Try.prog 9 #[.agg #[.int .i64 8, .int .i64 2, .int .i64 3, .int .i64 4, .int .i64 0, .int .i64 4, .slice a9 1 c9], .slice (some ⟨gb, 0, none⟩) 17 17] W (CyErr 9 W) := fun W gb hb hg => cy_err pG (now := 0) (next := 4) (by rw [cyE_ck (by rw [hck]; decide), hck]) (by decide) a9 1 c9 _ 17 17 M2 W (HI.out.below hb) HM.out (pls_zero hg)
    refine rg48 t 9 w3 _ hT hcall (fun _ _ _ _ _ h => HPan.out _ _ _ _ _ h) ?_
    rintro a' w4 ⟨u18, u19, u171, u172, u173, u174, u175, u176, u177, rfl, hb⟩
    try dsimp only
    replace RD := Lib.hid (RD.out.below hb)
    replace HI := Lib.hid (HI.out.below hb)
    clear hb hT hcall hck
    obtain ⟨t0, t1, t2, t3, t4, t5, t6⟩ := seven_new RD.out.Tb
    have tl := lt_of_block RD.out.Tb
    go_wp2_with fail
    clear t0 t1 t2 t3 t4 t5 t6 tl
    refine (fd_err pG (now := 0) (next := 4) (id := 3) HCk.out (by decide) a9 1 c9 M2 _ HI.out HM.out).mono ?_; rintro e w5 ⟨sL, nL, kL, sH, nH, kH, rfl, hb⟩
    replace RD := Lib.hid (RD.out.below hb)
    replace HI := Lib.hid (HI.out.below hb)
    clear hb
    replace RD := Lib.hid (RD.out.below (below_alloc w5 (.cells #[.int .i64 0, .int .i64 0, .int .i64 0, .int .i64 0, .int .i64 0, .slice sL nL kL, .slice sH nH kH, .int .i64 0, .int .i64 0, .bool false] 46)))
    replace HI := Lib.hid (HI.out.below (below_alloc w5 (.cells #[.int .i64 0, .int .i64 0, .int .i64 0, .int .i64 0, .int .i64 0, .slice sL nL kL, .slice sH nH kH, .int .i64 0, .int .i64 0, .bool false] 46)))
    go_upto_region 50 with fail
    generalize w5.alloc (.cells #[.int .i64 0, .int .i64 0, .int .i64 0, .int .i64 0, .int .i64 0, .slice sL nL kL, .slice sH nH kH, .int .i64 0, .int .i64 0, .bool false] 46) = w6 at *
    obtain ⟨t0, t1, t2, t3, t4, t5, t6⟩ := seven_new RD.out.Tb
    have tl := lt_of_block RD.out.Tb
    have hc := pCheckT_call pG 0 4 a9 1 c9 M2 w6 HI.out.T HI.out.B
    rw [HM.out, HCk.out] at hc
    unfold tbV at hc
    go_wp2_with fail
    clear t0 t1 t2 t3 t4 t5 t6 tl
    refine hc.mono ?_; rintro e w7 ⟨rfl, hb⟩
    replace RD := Lib.hid (RD.out.below hb)
    clear hb hc
    go_wp2_with fail
    obtain ⟨r1, r2, r3⟩ := RD.out.done
    refine ⟨⟨k + 1, HLt.out, by go_num, r1, r2, r3⟩, by simp [intOf]; have := HLt.out; omega⟩
   ·clear hlt
    have e0 : ((k : Int) == 0) = false := by rw [beq_eq_false_iff_ne]; omega
    have e1 : ((k : Int) == 1) = false := by rw [beq_eq_false_iff_ne]; omega
    have e2 : ((k : Int) == 2) = false := by rw [beq_eq_false_iff_ne]; omega
    have e3 : ((k : Int) == 3) = false := by rw [beq_eq_false_iff_ne]; omega
    have e4 : ((k : Int) == 4) = false := by rw [beq_eq_false_iff_ne]; omega
    have e5 : ((k : Int) == 5) = false := by rw [beq_eq_false_iff_ne]; omega
    have e6 : ((k : Int) == 6) = false := by rw [beq_eq_false_iff_ne]; omega
    have e7 : ((k : Int) == 7) = false := by rw [beq_eq_false_iff_ne]; omega
    have e8 : ((k : Int) == 8) = false := by rw [beq_eq_false_iff_ne]; omega
    have e9 : ((k : Int) == 9) = true := by rw [beq_iff_eq]; omega
    have HKN := Lib.hid hkn
    clear hkn
    go_upto_region 22 with fail
    clear y0 y1 y2 y3 y4 y5 y6 y7 y8 y9 yl g0 g1 g2 g3 gl
    have RD := Lib.hid (Rd.new K.out b1.out b2.out #[.int .i64 3, .int .i64 (-1), .int .i64 256, .int .i64 0, .int .i64 1, .slice a1 201 c1, .slice a2 201 c2, .int .i64 1, .int .i64 0, .bool false] #[.int .i64 8, .int .i64 2, .int .i64 3, .int .i64 4, .int .i64 0, .int .i64 4, .slice none 0 0])
    obtain ⟨x, hx⟩ : ∃ b, b = wr.heap.size := ⟨_, rfl⟩
    obtain ⟨t, ht⟩ : ∃ b, b = wr.heap.size + 1 := ⟨_, rfl⟩
    rw [← ht, ← hx] at RD
    rw [← ht, ← hx]
    generalize (wr.alloc (.cells #[.int .i64 3, .int .i64 (-1), .int .i64 256, .int .i64 0, .int .i64 1, .slice a1 201 c1, .slice a2 201 c2, .int .i64 1, .int .i64 0, .bool false] 46)).alloc (.cells #[.int .i64 8, .int .i64 2, .int .i64 3, .int .i64 4, .int .i64 0, .int .i64 4, .slice none 0 0] 26) = w1 at *
    clear hx ht
    obtain ⟨z0, z1, z2, z3, z4, z5, z6, z7, z8, z9⟩ := ten_c RD.out.X
    have zl := lt_of_block RD.out.X
    obtain ⟨f0, f1, f2, f3, f4, f5, f6, f7, f8, f9⟩ := ten_f RD.out.X
    obtain ⟨t0, t1, t2, t3, t4, t5, t6⟩ := seven_new RD.out.Tb
    have tl := lt_of_block RD.out.Tb
    obtain ⟨h0, h1, h2, h3, h4, h5, h6⟩ := seven_free RD.out.Tb
    go_upto_region 47 with fail
    clear e0 e1 e2 e3 e4 e5 e6 e7 e8 e9 f0 f1 f2 f3 f4 f5 f6 f7 f8 f9 h0 h1 h2 h3 h4 h5 h6
    clear z0 z1 z2 z3 z4 z5 z6 z7 z8 z9 zl
    clear t0 t1 t2 t3 t4 t5 t6 tl
    have LF := Lib.hid (Lf.nil w.heap.size [some x, some t] w1)
    replace RD := Lib.hid (RD.out.setT 4 (.int .i64 1073741825))
    replace LF := Lib.hid (LF.out.outs (Outs.of_only ((Only.refl t w1).setCell 4 (.int .i64 1073741825)) (List.mem_cons_of_mem _ List.mem_cons_self)))
    have RD2 : Rd w L x t none #[.int .i64 3, .int .i64 (-1), .int .i64 256, .int .i64 0, .int .i64 1, .slice a1 201 c1, .slice a2 201 c2, .int .i64 1, .int .i64 0, .bool false] #[.int .i64 8, .int .i64 2, .int .i64 3, .int .i64 4, .int .i64 1073741825, .int .i64 4, .slice none 0 0] q1 q2 (w1.setCell ⟨t, 4, none⟩ (.int .i64 1073741825)) := RD.out
    clear RD
    have RD := Lib.hid RD2
    clear RD2
    generalize (w1.setCell ⟨t, 4, none⟩ (.int .i64 1073741825)) = w2 at *
    obtain ⟨z0, z1, z2, z3, z4, z5, z6, z7, z8, z9⟩ := ten_c RD.out.X
    have zl := lt_of_block RD.out.X
    obtain ⟨t0, t1, t2, t3, t4, t5, t6⟩ := seven_new RD.out.Tb
    have tl := lt_of_block RD.out.Tb
    have RB := Lib.hid (RD.out.below (below_alloc w2 (.cells #[.int .i64 3, .int .i64 (-1), .int .i64 256, .int .i64 0, .int .i64 1, .slice a1 201 c1, .slice a2 201 c2, .int .i64 1, .int .i64 0, .bool false] 46)))
    have LB := Lib.hid (LF.out.below (below_alloc w2 (.cells #[.int .i64 3, .int .i64 (-1), .int .i64 256, .int .i64 0, .int .i64 1, .slice a1 201 c1, .slice a2 201 c2, .int .i64 1, .int .i64 0, .bool false] 46)))
    go_upto_region 48 with (at_builtin; refine wpList_append_own_at _ rfl _ _ 24 rfl w.heap.size 46 i0 _ 10 112 Try.underlying24 HF.out.1 HF.out.2.1 HF.out.2.2.1 HF.out.2.2.2 rfl (by decide) _ 0 _ rfl LB.out.row ⟨w2.heap.size, 0, none⟩ 1 1 [.int .i64 3, .int .i64 (-1), .int .i64 256, .int .i64 0, .int .i64 1, .slice a1 201 c1, .slice a2 201 c2, .int .i64 1, .int .i64 0, .bool false] rfl rfl (cells_new rfl) (by intro u hu; simp at hu; rcases hu with rfl | rfl | rfl | rfl | rfl | rfl | rfl | rfl | rfl | rfl <;> rfl) (by unfold maxLen; decide) (by decide) (by have := RB.out.K.B.size; exact this) ?_; intro v9 w9 hown9 hg9 _ hat9; obtain ⟨a9, c9, rfl⟩ := row_slice hown9; have R9 := Lib.hid (RB.out.grown hg9); have L9 := Lib.hid (Lf.snoc (q := (cT 9, (⟨a1, 201, c1, a2, 201, c2⟩ : Bs))) LB.out (bdx_as RB.out.bands.1 HQ1.out.1.symm HQ1.out.2.symm) RB.out.lts hown9 hg9 hat9); have t6' : w9.cell? ⟨t, 6, none⟩ = some (.slice none 0 0) := cell_of_block R9.out.Tb rfl; have f6' : w9.frozen? ⟨t, 6, none⟩ = false := free_of_block R9.out.Tb; have l6' := lt_of_block R9.out.Tb; clear hown9 hg9 hat9)
    clear z0 z1 z2 z3 z4 z5 z6 z7 z8 z9 zl
    clear t0 t1 t2 t3 t4 t5 t6 tl
    clear t6' f6' l6' RB LB RD LF
    have RD := Lib.hid (R9.out.setT 6 (.slice a9 1 c9))
    have LF := Lib.hid (L9.out.outs (Outs.of_only ((Only.refl t w9).setCell 6 (.slice a9 1 c9)) (List.mem_cons_of_mem _ List.mem_cons_self)))
    clear R9 L9
    have RD2 : Rd w L x t none #[.int .i64 3, .int .i64 (-1), .int .i64 256, .int .i64 0, .int .i64 1, .slice a1 201 c1, .slice a2 201 c2, .int .i64 1, .int .i64 0, .bool false] #[.int .i64 8, .int .i64 2, .int .i64 3, .int .i64 4, .int .i64 1073741825, .int .i64 4, .slice a9 1 c9] q1 q2 (w9.setCell ⟨t, 6, none⟩ (.slice a9 1 c9)) := RD.out
    clear RD
    have RD := Lib.hid RD2
    clear RD2
    generalize w9.setCell ⟨t, 6, none⟩ (.slice a9 1 c9) = w3 at *
    obtain ⟨M2, hM2⟩ : ∃ x, x = ([] : List TB) ++ [(cT 9, (⟨a1, 201, c1, a2, 201, c2⟩ : Bs))] := ⟨_, rfl⟩
    have hMf : fsts M2 = cL 9 := by rw [hM2]; rfl
    have hl2 : M2.length = 1 := by rw [hM2]; rfl
    rw [← hM2] at LF
    have HI := Lib.hid (tbi_len LF.out hl2 (by decide))
    have HM := Lib.hid hMf
    clear hM2 hMf hl2 LF
    have hT : w3.heap[t]? = some (.cells #[.int .i64 8, .int .i64 2, .int .i64 3, .int .i64 4, .int .i64 1073741825, .int .i64 4, .slice a9 1 c9] 26 (0, 0)) := RD.out.Tb
    have hck : ckE pG 1073741825 4 (cL 9) = 1 := cE (n := 9) (by decide)
    have HCk := Lib.hid hck
    have hcall : ∀ (W : World) (gb : Nat), Below w3.heap.size w3 W → W.heap[gb]? = some (.cells (madeCells #[.int .i64 0, .int .i64 0, .int .i64 0] 51) 40 (0, 0)) → Calls Try.prog 9 #[.agg #[.int .i64 8, .int .i64 2, .int .i64 3, .int .i64 4, .int .i64 1073741825, .int .i64 4, .slice a9 1 c9], .slice (some ⟨gb, 0, none⟩) 17 17] W (CyErr 1 W) := fun W gb hb hg => cy_err pG (now := 1073741825) (next := 4) (by rw [cyE_ck (by rw [hck]; decide), hck]) (by decide) a9 1 c9 _ 17 17 M2 W (HI.out.below hb) HM.out (pls_zero hg)
    refine rg48 t 1 w3 _ hT hcall (fun _ _ _ _ _ h => HPan.out _ _ _ _ _ h) ?_
    rintro a' w4 ⟨u18, u19, u171, u172, u173, u174, u175, u176, u177, rfl, hb⟩
    try dsimp only
    replace RD := Lib.hid (RD.out.below hb)
    replace HI := Lib.hid (HI.out.below hb)
    clear hb hT hcall hck
    obtain ⟨t0, t1, t2, t3, t4, t5, t6⟩ := seven_new RD.out.Tb
    have tl := lt_of_block RD.out.Tb
    go_wp2_with fail
    clear t0 t1 t2 t3 t4 t5 t6 tl
    refine (fd_err pG (now := 1073741825) (next := 4) (id := 3) HCk.out (by decide) a9 1 c9 M2 _ HI.out HM.out).mono ?_; rintro e w5 ⟨sL, nL, kL, sH, nH, kH, rfl, hb⟩
    replace RD := Lib.hid (RD.out.below hb)
    replace HI := Lib.hid (HI.out.below hb)
    clear hb
    replace RD := Lib.hid (RD.out.below (below_alloc w5 (.cells #[.int .i64 0, .int .i64 0, .int .i64 0, .int .i64 0, .int .i64 0, .slice sL nL kL, .slice sH nH kH, .int .i64 0, .int .i64 0, .bool false] 46)))
    replace HI := Lib.hid (HI.out.below (below_alloc w5 (.cells #[.int .i64 0, .int .i64 0, .int .i64 0, .int .i64 0, .int .i64 0, .slice sL nL kL, .slice sH nH kH, .int .i64 0, .int .i64 0, .bool false] 46)))
    go_upto_region 50 with fail
    generalize w5.alloc (.cells #[.int .i64 0, .int .i64 0, .int .i64 0, .int .i64 0, .int .i64 0, .slice sL nL kL, .slice sH nH kH, .int .i64 0, .int .i64 0, .bool false] 46) = w6 at *
    obtain ⟨t0, t1, t2, t3, t4, t5, t6⟩ := seven_new RD.out.Tb
    have tl := lt_of_block RD.out.Tb
    have hc := pCheckT_call pG 1073741825 4 a9 1 c9 M2 w6 HI.out.T HI.out.B
    rw [HM.out, HCk.out] at hc
    unfold tbV at hc
    go_wp2_with fail
    clear t0 t1 t2 t3 t4 t5 t6 tl
    refine hc.mono ?_; rintro e w7 ⟨rfl, hb⟩
    replace RD := Lib.hid (RD.out.below hb)
    clear hb hc
    go_wp2_with fail
    obtain ⟨r1, r2, r3⟩ := RD.out.done
    refine ⟨⟨k + 1, HLt.out, by go_num, r1, r2, r3⟩, by simp [intOf]; have := HLt.out; omega⟩
   ·clear hlt
    have e0 : ((k : Int) == 0) = false := by rw [beq_eq_false_iff_ne]; omega
    have e1 : ((k : Int) == 1) = false := by rw [beq_eq_false_iff_ne]; omega
    have e2 : ((k : Int) == 2) = false := by rw [beq_eq_false_iff_ne]; omega
    have e3 : ((k : Int) == 3) = false := by rw [beq_eq_false_iff_ne]; omega
    have e4 : ((k : Int) == 4) = false := by rw [beq_eq_false_iff_ne]; omega
    have e5 : ((k : Int) == 5) = false := by rw [beq_eq_false_iff_ne]; omega
    have e6 : ((k : Int) == 6) = false := by rw [beq_eq_false_iff_ne]; omega
    have e7 : ((k : Int) == 7) = false := by rw [beq_eq_false_iff_ne]; omega
    have e8 : ((k : Int) == 8) = false := by rw [beq_eq_false_iff_ne]; omega
    have e9 : ((k : Int) == 9) = false := by rw [beq_eq_false_iff_ne]; omega
    have e10 : ((k : Int) == 10) = true := by rw [beq_iff_eq]; omega
    have HKN := Lib.hid hkn
    clear hkn
    go_upto_region 22 with fail
    clear y0 y1 y2 y3 y4 y5 y6 y7 y8 y9 yl g0 g1 g2 g3 gl
    have RD := Lib.hid (Rd.new K.out b1.out b2.out #[.int .i64 3, .int .i64 (-1), .int .i64 256, .int .i64 0, .int .i64 1, .slice a1 201 c1, .slice a2 201 c2, .int .i64 1, .int .i64 0, .bool false] #[.int .i64 8, .int .i64 2, .int .i64 3, .int .i64 4, .int .i64 0, .int .i64 4, .slice none 0 0])
    obtain ⟨x, hx⟩ : ∃ b, b = wr.heap.size := ⟨_, rfl⟩
    obtain ⟨t, ht⟩ : ∃ b, b = wr.heap.size + 1 := ⟨_, rfl⟩
    rw [← ht, ← hx] at RD
    rw [← ht, ← hx]
    generalize (wr.alloc (.cells #[.int .i64 3, .int .i64 (-1), .int .i64 256, .int .i64 0, .int .i64 1, .slice a1 201 c1, .slice a2 201 c2, .int .i64 1, .int .i64 0, .bool false] 46)).alloc (.cells #[.int .i64 8, .int .i64 2, .int .i64 3, .int .i64 4, .int .i64 0, .int .i64 4, .slice none 0 0] 26) = w1 at *
    clear hx ht
    obtain ⟨z0, z1, z2, z3, z4, z5, z6, z7, z8, z9⟩ := ten_c RD.out.X
    have zl := lt_of_block RD.out.X
    obtain ⟨f0, f1, f2, f3, f4, f5, f6, f7, f8, f9⟩ := ten_f RD.out.X
    obtain ⟨t0, t1, t2, t3, t4, t5, t6⟩ := seven_new RD.out.Tb
    have tl := lt_of_block RD.out.Tb
    obtain ⟨h0, h1, h2, h3, h4, h5, h6⟩ := seven_free RD.out.Tb
    go_upto_region 47 with fail
    clear e0 e1 e2 e3 e4 e5 e6 e7 e8 e9 e10 f0 f1 f2 f3 f4 f5 f6 f7 f8 f9 h0 h1 h2 h3 h4 h5 h6
    clear z0 z1 z2 z3 z4 z5 z6 z7 z8 z9 zl
    clear t0 t1 t2 t3 t4 t5 t6 tl
    have LF := Lib.hid (Lf.nil w.heap.size [some x, some t] w1)
    replace RD := Lib.hid (RD.out.setT 5 (.int .i64 (-1)))
    replace LF := Lib.hid (LF.out.outs (Outs.of_only ((Only.refl t w1).setCell 5 (.int .i64 (-1))) (List.mem_cons_of_mem _ List.mem_cons_self)))
    have RD2 : Rd w L x t none #[.int .i64 3, .int .i64 (-1), .int .i64 256, .int .i64 0, .int .i64 1, .slice a1 201 c1, .slice a2 201 c2, .int .i64 1, .int .i64 0, .bool false] #[.int .i64 8, .int .i64 2, .int .i64 3, .int .i64 4, .int .i64 0, .int .i64 (-1), .slice none 0 0] q1 q2 (w1.setCell ⟨t, 5, none⟩ (.int .i64 (-1))) := RD.out
    clear RD
    have RD := Lib.hid RD2
    clear RD2
    generalize (w1.setCell ⟨t, 5, none⟩ (.int .i64 (-1))) = w2 at *
    obtain ⟨z0, z1, z2, z3, z4, z5, z6, z7, z8, z9⟩ := ten_c RD.out.X
    have zl := lt_of_block RD.out.X
    obtain ⟨t0, t1, t2, t3, t4, t5, t6⟩ := seven_new RD.out.Tb
    have tl := lt_of_block RD.out.Tb
    have RB := Lib.hid (RD.out.below (below_alloc w2 (.cells #[.int .i64 3, .int .i64 (-1), .int .i64 256, .int .i64 0, .int .i64 1, .slice a1 201 c1, .slice a2 201 c2, .int .i64 1, .int .i64 0, .bool false] 46)))
    have LB := Lib.hid (LF.out.below (below_alloc w2 (.cells #[.int .i64 3, .int .i64 (-1), .int .i64 256, .int .i64 0, .int .i64 1, .slice a1 201 c1, .slice a2 201 c2, .int .i64 1, .int .i64 0, .bool false] 46)))
    go_upto_region 48 with (at_builtin; refine wpList_append_own_at _ rfl _ _ 24 rfl w.heap.size 46 i0 _ 10 112 Try.underlying24 HF.out.1 HF.out.2.1 HF.out.2.2.1 HF.out.2.2.2 rfl (by decide) _ 0 _ rfl LB.out.row ⟨w2.heap.size, 0, none⟩ 1 1 [.int .i64 3, .int .i64 (-1), .int .i64 256, .int .i64 0, .int .i64 1, .slice a1 201 c1, .slice a2 201 c2, .int .i64 1, .int .i64 0, .bool false] rfl rfl (cells_new rfl) (by intro u hu; simp at hu; rcases hu with rfl | rfl | rfl | rfl | rfl | rfl | rfl | rfl | rfl | rfl <;> rfl) (by unfold maxLen; decide) (by decide) (by have := RB.out.K.B.size; exact this) ?_; intro v9 w9 hown9 hg9 _ hat9; obtain ⟨a9, c9, rfl⟩ := row_slice hown9; have R9 := Lib.hid (RB.out.grown hg9); have L9 := Lib.hid (Lf.snoc (q := (cT 10, (⟨a1, 201, c1, a2, 201, c2⟩ : Bs))) LB.out (bdx_as RB.out.bands.1 HQ1.out.1.symm HQ1.out.2.symm) RB.out.lts hown9 hg9 hat9); have t6' : w9.cell? ⟨t, 6, none⟩ = some (.slice none 0 0) := cell_of_block R9.out.Tb rfl; have f6' : w9.frozen? ⟨t, 6, none⟩ = false := free_of_block R9.out.Tb; have l6' := lt_of_block R9.out.Tb; clear hown9 hg9 hat9)
    clear z0 z1 z2 z3 z4 z5 z6 z7 z8 z9 zl
    clear t0 t1 t2 t3 t4 t5 t6 tl
    clear t6' f6' l6' RB LB RD LF
    have RD := Lib.hid (R9.out.setT 6 (.slice a9 1 c9))
    have LF := Lib.hid (L9.out.outs (Outs.of_only ((Only.refl t w9).setCell 6 (.slice a9 1 c9)) (List.mem_cons_of_mem _ List.mem_cons_self)))
    clear R9 L9
    have RD2 : Rd w L x t none #[.int .i64 3, .int .i64 (-1), .int .i64 256, .int .i64 0, .int .i64 1, .slice a1 201 c1, .slice a2 201 c2, .int .i64 1, .int .i64 0, .bool false] #[.int .i64 8, .int .i64 2, .int .i64 3, .int .i64 4, .int .i64 0, .int .i64 (-1), .slice a9 1 c9] q1 q2 (w9.setCell ⟨t, 6, none⟩ (.slice a9 1 c9)) := RD.out
    clear RD
    have RD := Lib.hid RD2
    clear RD2
    generalize w9.setCell ⟨t, 6, none⟩ (.slice a9 1 c9) = w3 at *
    obtain ⟨M2, hM2⟩ : ∃ x, x = ([] : List TB) ++ [(cT 10, (⟨a1, 201, c1, a2, 201, c2⟩ : Bs))] := ⟨_, rfl⟩
    have hMf : fsts M2 = cL 10 := by rw [hM2]; rfl
    have hl2 : M2.length = 1 := by rw [hM2]; rfl
    rw [← hM2] at LF
    have HI := Lib.hid (tbi_len LF.out hl2 (by decide))
    have HM := Lib.hid hMf
    clear hM2 hMf hl2 LF
    have hT : w3.heap[t]? = some (.cells #[.int .i64 8, .int .i64 2, .int .i64 3, .int .i64 4, .int .i64 0, .int .i64 (-1), .slice a9 1 c9] 26 (0, 0)) := RD.out.Tb
    have hck : ckE pG 0 (-1) (cL 10) = 1 := cE (n := 10) (by decide)
    have HCk := Lib.hid hck
    have hcall : ∀ (W : World) (gb : Nat), Below w3.heap.size w3 W → W.heap[gb]? = some (.cells (madeCells #[.int .i64 0, .int .i64 0, .int .i64 0] 51) 40 (0, 0)) → Calls Try.prog 9 #[.agg #[.int .i64 8, .int .i64 2, .int .i64 3, .int .i64 4, .int .i64 0, .int .i64 (-1), .slice a9 1 c9], .slice (some ⟨gb, 0, none⟩) 17 17] W (CyErr 1 W) := fun W gb hb hg => cy_err pG (now := 0) (next := (-1)) (by rw [cyE_ck (by rw [hck]; decide), hck]) (by decide) a9 1 c9 _ 17 17 M2 W (HI.out.below hb) HM.out (pls_zero hg)
    refine rg48 t 1 w3 _ hT hcall (fun _ _ _ _ _ h => HPan.out _ _ _ _ _ h) ?_
    rintro a' w4 ⟨u18, u19, u171, u172, u173, u174, u175, u176, u177, rfl, hb⟩
    try dsimp only
    replace RD := Lib.hid (RD.out.below hb)
    replace HI := Lib.hid (HI.out.below hb)
    clear hb hT hcall hck
    obtain ⟨t0, t1, t2, t3, t4, t5, t6⟩ := seven_new RD.out.Tb
    have tl := lt_of_block RD.out.Tb
    go_wp2_with fail
    clear t0 t1 t2 t3 t4 t5 t6 tl
    refine (fd_err pG (now := 0) (next := (-1)) (id := 3) HCk.out (by decide) a9 1 c9 M2 _ HI.out HM.out).mono ?_; rintro e w5 ⟨sL, nL, kL, sH, nH, kH, rfl, hb⟩
    replace RD := Lib.hid (RD.out.below hb)
    replace HI := Lib.hid (HI.out.below hb)
    clear hb
    replace RD := Lib.hid (RD.out.below (below_alloc w5 (.cells #[.int .i64 0, .int .i64 0, .int .i64 0, .int .i64 0, .int .i64 0, .slice sL nL kL, .slice sH nH kH, .int .i64 0, .int .i64 0, .bool false] 46)))
    replace HI := Lib.hid (HI.out.below (below_alloc w5 (.cells #[.int .i64 0, .int .i64 0, .int .i64 0, .int .i64 0, .int .i64 0, .slice sL nL kL, .slice sH nH kH, .int .i64 0, .int .i64 0, .bool false] 46)))
    go_upto_region 50 with fail
    generalize w5.alloc (.cells #[.int .i64 0, .int .i64 0, .int .i64 0, .int .i64 0, .int .i64 0, .slice sL nL kL, .slice sH nH kH, .int .i64 0, .int .i64 0, .bool false] 46) = w6 at *
    obtain ⟨t0, t1, t2, t3, t4, t5, t6⟩ := seven_new RD.out.Tb
    have tl := lt_of_block RD.out.Tb
    have hc := pCheckT_call pG 0 (-1) a9 1 c9 M2 w6 HI.out.T HI.out.B
    rw [HM.out, HCk.out] at hc
    unfold tbV at hc
    go_wp2_with fail
    clear t0 t1 t2 t3 t4 t5 t6 tl
    refine hc.mono ?_; rintro e w7 ⟨rfl, hb⟩
    replace RD := Lib.hid (RD.out.below hb)
    clear hb hc
    go_wp2_with fail
    obtain ⟨r1, r2, r3⟩ := RD.out.done
    refine ⟨⟨k + 1, HLt.out, by go_num, r1, r2, r3⟩, by simp [intOf]; have := HLt.out; omega⟩
   ·clear hlt
    have e0 : ((k : Int) == 0) = false := by rw [beq_eq_false_iff_ne]; omega
    have e1 : ((k : Int) == 1) = false := by rw [beq_eq_false_iff_ne]; omega
    have e2 : ((k : Int) == 2) = false := by rw [beq_eq_false_iff_ne]; omega
    have e3 : ((k : Int) == 3) = false := by rw [beq_eq_false_iff_ne]; omega
    have e4 : ((k : Int) == 4) = false := by rw [beq_eq_false_iff_ne]; omega
    have e5 : ((k : Int) == 5) = false := by rw [beq_eq_false_iff_ne]; omega
    have e6 : ((k : Int) == 6) = false := by rw [beq_eq_false_iff_ne]; omega
    have e7 : ((k : Int) == 7) = false := by rw [beq_eq_false_iff_ne]; omega
    have e8 : ((k : Int) == 8) = false := by rw [beq_eq_false_iff_ne]; omega
    have e9 : ((k : Int) == 9) = false := by rw [beq_eq_false_iff_ne]; omega
    have e10 : ((k : Int) == 10) = false := by rw [beq_eq_false_iff_ne]; omega
    have HKN := Lib.hid hkn
    clear hkn
    go_upto_region 22 with fail
    clear y0 y1 y2 y3 y4 y5 y6 y7 y8 y9 yl g0 g1 g2 g3 gl
    have RD := Lib.hid (Rd.new K.out b1.out b2.out #[.int .i64 3, .int .i64 (-1), .int .i64 256, .int .i64 0, .int .i64 1, .slice a1 201 c1, .slice a2 201 c2, .int .i64 1, .int .i64 0, .bool false] #[.int .i64 8, .int .i64 2, .int .i64 3, .int .i64 4, .int .i64 0, .int .i64 4, .slice none 0 0])
    obtain ⟨x, hx⟩ : ∃ b, b = wr.heap.size := ⟨_, rfl⟩
    obtain ⟨t, ht⟩ : ∃ b, b = wr.heap.size + 1 := ⟨_, rfl⟩
    rw [← ht, ← hx] at RD
    rw [← ht, ← hx]
    generalize (wr.alloc (.cells #[.int .i64 3, .int .i64 (-1), .int .i64 256, .int .i64 0, .int .i64 1, .slice a1 201 c1, .slice a2 201 c2, .int .i64 1, .int .i64 0, .bool false] 46)).alloc (.cells #[.int .i64 8, .int .i64 2, .int .i64 3, .int .i64 4, .int .i64 0, .int .i64 4, .slice none 0 0] 26) = w1 at *
    clear hx ht
    obtain ⟨z0, z1, z2, z3, z4, z5, z6, z7, z8, z9⟩ := ten_c RD.out.X
    have zl := lt_of_block RD.out.X
    obtain ⟨f0, f1, f2, f3, f4, f5, f6, f7, f8, f9⟩ := ten_f RD.out.X
    obtain ⟨t0, t1, t2, t3, t4, t5, t6⟩ := seven_new RD.out.Tb
    have tl := lt_of_block RD.out.Tb
    obtain ⟨h0, h1, h2, h3, h4, h5, h6⟩ := seven_free RD.out.Tb
    have mk := hmk16
    have h6' : (w1.alloc (.cells (madeCells (tkC tb0) 160) 46)).frozen? ⟨t, 6, none⟩ = false := free_of_block (RD.out.row (.cells (madeCells (tkC tb0) 160) 46)).Tb
    have hsz : (w1.setCell ⟨t, 6, none⟩ (.slice (some ⟨w1.heap.size, 0, none⟩) 16 16)).heap.size = w1.heap.size := by simp [World.setCell]
    have RS := Lib.hid (RD.out.setT 6 (.slice (some ⟨w1.heap.size, 0, none⟩) 16 16))
    have RW := RS.out.row (.cells (madeCells (tkC tb0) 160) 46)
    have LF := lf_zero (x := x) (t := t) RS.out.K.B.size (lt_of_block RS.out.X) (lt_of_block RS.out.Tb)
    rw [hsz] at RW LF
    replace RW := Lib.hid RW
    replace LF := Lib.hid LF
    clear hsz RS
    go_upto_region 47 with fail
    clear e0 e1 e2 e3 e4 e5 e6 e7 e8 e9 e10 f0 f1 f2 f3 f4 f5 f6 f7 f8 f9 h0 h1 h2 h3 h4 h5 h6
    clear z0 z1 z2 z3 z4 z5 z6 z7 z8 z9 zl
    clear t0 t1 t2 t3 t4 t5 t6 tl
    clear h6' mk
    obtain ⟨gT, hgT⟩ : ∃ b, b = w1.heap.size := ⟨_, rfl⟩
    rw [← hgT] at RW LF ⊢
    clear hgT RD
    have RD2 : Rd w L x t (some gT) #[.int .i64 3, .int .i64 (-1), .int .i64 256, .int .i64 0, .int .i64 1, .slice a1 201 c1, .slice a2 201 c2, .int .i64 1, .int .i64 0, .bool false] #[.int .i64 8, .int .i64 2, .int .i64 3, .int .i64 4, .int .i64 0, .int .i64 4, .slice (some ⟨gT, 0, none⟩) 16 16] q1 q2 ((w1.setCell ⟨t, 6, none⟩ (.slice (some ⟨gT, 0, none⟩) 16 16)).alloc (.cells (madeCells (tkC tb0) 160) 46)) := RW.out
    clear RW
    have RD := Lib.hid RD2
    clear RD2
    generalize (w1.setCell ⟨t, 6, none⟩ (.slice (some ⟨gT, 0, none⟩) 16 16)).alloc (.cells (madeCells (tkC tb0) 160) 46) = w2 at *
    obtain ⟨z0, z1, z2, z3, z4, z5, z6, z7, z8, z9⟩ := ten_c RD.out.X
    have zl := lt_of_block RD.out.X
    obtain ⟨t0, t1, t2, t3, t4, t5, t6⟩ := seven_new RD.out.Tb
    have tl := lt_of_block RD.out.Tb
    have RB := Lib.hid (RD.out.below (below_alloc w2 (.cells #[.int .i64 3, .int .i64 (-1), .int .i64 256, .int .i64 0, .int .i64 1, .slice a1 201 c1, .slice a2 201 c2, .int .i64 1, .int .i64 0, .bool false] 46)))
    have LB := Lib.hid (LF.out.below (below_alloc w2 (.cells #[.int .i64 3, .int .i64 (-1), .int .i64 256, .int .i64 0, .int .i64 1, .slice a1 201 c1, .slice a2 201 c2, .int .i64 1, .int .i64 0, .bool false] 46)))
    go_upto_region 48 with (at_builtin; refine wpList_append_own_at _ rfl _ _ 24 rfl w.heap.size 46 i0 _ 10 112 Try.underlying24 HF.out.1 HF.out.2.1 HF.out.2.2.1 HF.out.2.2.2 rfl (by decide) _ 16 _ rfl LB.out.row ⟨w2.heap.size, 0, none⟩ 1 1 [.int .i64 3, .int .i64 (-1), .int .i64 256, .int .i64 0, .int .i64 1, .slice a1 201 c1, .slice a2 201 c2, .int .i64 1, .int .i64 0, .bool false] rfl rfl (cells_new rfl) (by intro u hu; simp at hu; rcases hu with rfl | rfl | rfl | rfl | rfl | rfl | rfl | rfl | rfl | rfl <;> rfl) (by unfold maxLen; decide) (by decide) (by have := RB.out.K.B.size; exact this) ?_; intro v9 w9 hown9 hg9 _ hat9; obtain ⟨a9, c9, rfl⟩ := row_slice hown9; have R9 := Lib.hid (RB.out.grown hg9); have L9 := Lib.hid (Lf.snoc (q := (cT 11, (⟨a1, 201, c1, a2, 201, c2⟩ : Bs))) LB.out (bdx_as RB.out.bands.1 HQ1.out.1.symm HQ1.out.2.symm) RB.out.lts hown9 hg9 hat9); have t6' : w9.cell? ⟨t, 6, none⟩ = some (.slice (some ⟨gT, 0, none⟩) 16 16) := cell_of_block R9.out.Tb rfl; have f6' : w9.frozen? ⟨t, 6, none⟩ = false := free_of_block R9.out.Tb; have l6' := lt_of_block R9.out.Tb; clear hown9 hg9 hat9)
    clear z0 z1 z2 z3 z4 z5 z6 z7 z8 z9 zl
    clear t0 t1 t2 t3 t4 t5 t6 tl
    clear t6' f6' l6' RB LB RD LF
    have RD := Lib.hid (R9.out.setT 6 (.slice a9 17 c9))
    have LF := Lib.hid (L9.out.outs (Outs.of_only ((Only.refl t w9).setCell 6 (.slice a9 17 c9)) (List.mem_cons_of_mem _ List.mem_cons_self)))
    clear R9 L9
    have RD2 : Rd w L x t (some gT) #[.int .i64 3, .int .i64 (-1), .int .i64 256, .int .i64 0, .int .i64 1, .slice a1 201 c1, .slice a2 201 c2, .int .i64 1, .int .i64 0, .bool false] #[.int .i64 8, .int .i64 2, .int .i64 3, .int .i64 4, .int .i64 0, .int .i64 4, .slice a9 17 c9] q1 q2 (w9.setCell ⟨t, 6, none⟩ (.slice a9 17 c9)) := RD.out
    clear RD
    have RD := Lib.hid RD2
    clear RD2
    generalize w9.setCell ⟨t, 6, none⟩ (.slice a9 17 c9) = w3 at *
    obtain ⟨M2, hM2⟩ : ∃ x, x = (List.replicate 16 tb0) ++ [(cT 11, (⟨a1, 201, c1, a2, 201, c2⟩ : Bs))] := ⟨_, rfl⟩
    have hMf : fsts M2 = cL 11 := by rw [hM2]; rfl
    have hl2 : M2.length = 17 := by rw [hM2]; rfl
    rw [← hM2] at LF
    have HI := Lib.hid (tbi_len LF.out hl2 (by decide))
    have HM := Lib.hid hMf
    clear hM2 hMf hl2 LF
    have hT : w3.heap[t]? = some (.cells #[.int .i64 8, .int .i64 2, .int .i64 3, .int .i64 4, .int .i64 0, .int .i64 4, .slice a9 17 c9] 26 (0, 0)) := RD.out.Tb
    have hck : ckE pG 0 4 (cL 11) = 4 := cE (n := 11) (by decide)
    have HCk := Lib.hid hck
    have hcall : ∀ (W : World) (gb : Nat), Below w3.heap.size w3 W → W.heap[gb]? = some (.cells (madeCells #[.int .i64 0, .int .i64 0, .int .i64 0] 51) 40 (0, 0)) → Calls Try.prog 9 #[.agg #[.int .i64 8, .int .i64 2, .int .i64 3, .int .i64 4, .int .i64 0, .int .i64 4, .slice a9 17 c9], .slice (some ⟨gb, 0, none⟩) 17 17] W (CyErr 4 W) := fun W gb hb hg => cy_err pG (now := 0) (next := 4) (by rw [cyE_ck (by rw [hck]; decide), hck]) (by decide) a9 17 c9 _ 17 17 M2 W (HI.out.below hb) HM.out (pls_zero hg)
    refine rg48 t 4 w3 _ hT hcall (fun _ _ _ _ _ h => HPan.out _ _ _ _ _ h) ?_
    rintro a' w4 ⟨u18, u19, u171, u172, u173, u174, u175, u176, u177, rfl, hb⟩
    try dsimp only
    replace RD := Lib.hid (RD.out.below hb)
    replace HI := Lib.hid (HI.out.below hb)
    clear hb hT hcall hck
    obtain ⟨t0, t1, t2, t3, t4, t5, t6⟩ := seven_new RD.out.Tb
    have tl := lt_of_block RD.out.Tb
    go_wp2_with fail
    clear t0 t1 t2 t3 t4 t5 t6 tl
    refine (fd_err pG (now := 0) (next := 4) (id := 3) HCk.out (by decide) a9 17 c9 M2 _ HI.out HM.out).mono ?_; rintro e w5 ⟨sL, nL, kL, sH, nH, kH, rfl, hb⟩
    replace RD := Lib.hid (RD.out.below hb)
    replace HI := Lib.hid (HI.out.below hb)
    clear hb
    replace RD := Lib.hid (RD.out.below (below_alloc w5 (.cells #[.int .i64 0, .int .i64 0, .int .i64 0, .int .i64 0, .int .i64 0, .slice sL nL kL, .slice sH nH kH, .int .i64 0, .int .i64 0, .bool false] 46)))
    replace HI := Lib.hid (HI.out.below (below_alloc w5 (.cells #[.int .i64 0, .int .i64 0, .int .i64 0, .int .i64 0, .int .i64 0, .slice sL nL kL, .slice sH nH kH, .int .i64 0, .int .i64 0, .bool false] 46)))
    go_upto_region 50 with fail
    generalize w5.alloc (.cells #[.int .i64 0, .int .i64 0, .int .i64 0, .int .i64 0, .int .i64 0, .slice sL nL kL, .slice sH nH kH, .int .i64 0, .int .i64 0, .bool false] 46) = w6 at *
    obtain ⟨t0, t1, t2, t3, t4, t5, t6⟩ := seven_new RD.out.Tb
    have tl := lt_of_block RD.out.Tb
    have hc := pCheckT_call pG 0 4 a9 17 c9 M2 w6 HI.out.T HI.out.B
    rw [HM.out, HCk.out] at hc
    unfold tbV at hc
    go_wp2_with fail
    clear t0 t1 t2 t3 t4 t5 t6 tl
    refine hc.mono ?_; rintro e w7 ⟨rfl, hb⟩
    replace RD := Lib.hid (RD.out.below hb)
    clear hb hc
    go_wp2_with fail
    obtain ⟨r1, r2, r3⟩ := RD.out.done
    refine ⟨⟨k + 1, HLt.out, by go_num, r1, r2, r3⟩, by simp [intOf]; have := HLt.out; omega⟩
  ·have hk12 : (k : Int) = 12 := by omega
   rw [hk12]
   go_wp2_with fail
   exact HQ.out _ _ _ _ _ _ _ _ _ _ _ _ _ _ _ _ _ _ _ _ _ _ _ _ _ _ _ _ _ _ _ _ _ _ _ _ _ _ _ _ _ _ _ _ _ _ _ _ _ _ _ _ _ _ _ _ _ _ _ _ _ _ _ _ _ _ _ _ _ _ _ _ _ _ _ _ _ _ _ _ _ _ _ _ _ _ _ _ ⟨K.out, b1.out, b2.out⟩
end Go.Proofs.Ytikjjpjekchcjaa
