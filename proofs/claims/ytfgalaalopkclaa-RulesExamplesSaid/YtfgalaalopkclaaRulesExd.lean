/-
  Layer 38 (rules): the law Examples, its second loop. Printed by genRulesEx3.py.
-/
import Derived.Test.YtfgalaalopkclaaRulesExb
import Derived.Deep.DeepCutAuto
import Derived.Deep.RegionHeld3
namespace Go.Proofs.Ytfgalaalopkclaa
open Go.RowKit PlaneMath PilotMath RulesMath MyHeap MyOwn MyCopy

noncomputable def lp2C : Code := ((Try.f9.body.bind (loopOf 31)).getD .skip)
set_option maxRecDepth 100000 in
set_option maxHeartbeats 32000000 in
theorem lp2 {u0 u2 u3 u4 u5 u6 u7 u8 u9 u10 u11 u12 u13 u14 u15 u16 u17 u18 u19 u20 u21 u22 u23 u24 u25 u26 u27 u28 u29 u30 u31 u32 u33 u34 u35 u36 u37 u38 u39 u40 u41 u42 u43 u44 u45 u46 u47 u48 u49 u50 u51 u52 u53 u54 u55 u56 u57 u58 u59 u60 u61 u62 u63 u64 u65 u66 u67 u68 u69 u70 u71 u72 u73 u74 u75 u76 u77 u78 u79 u80 u81 u82 u83 u84 u85 u86 u87 u88 u89 u90 u91 u92 u93 u94 u95 u96 u97 u98 u99 u100 u101 u102 u103 u104 u105 u106 u107 u108 u109 u110 u111 u112 u113 u114 u115 u116 u117 u118 u119 u120 u121 u122 u123 u124 u125 u126 u127 u128 u129 u130 u131 u132 u133 u134 u135 u136 u137 u138 u139 u140 u141 u142 u143 u144 u145 u146 u147 u148 u149 u150 u151 u152 u153 u154 u155 u156 u157 u158 u159 u160 u161 u162 u163 u164 u165 u166 u167 u168 u169 u170 u171 u172 u173 u174 u175 u176 u177 u178 u179 u180 u181 u182 u183 u184 u185 u186 u187 u188 u189 u190 u191 u192 u193 u194 u195 u196 u197 u198 u199 u200 u201 u202 u203 u204 u205 u206 u207 u208 u209 u210 u211 u212 u213 u214 u215 u216 u217 u218 u219 u220 u221 u222 u223 u224 u225 u226 u227 u228 u229 u230 u231 u232 u233 u234 u235 u236 u237 u238 u239 u240 u241 u242 u243 u244 u245 u246 u247 u248 u249 u250 u251 u252 u253 u254 u255 u256 u257 u258 u259 u260 u261 u262 u263 u264 u265 u266 u267 u268 u269 u270 u271 u272 u273 u274 u275 u276 u277 u278 u279 u280 u281 u282 u283 u284 u285 u286 u287 u288 u289 u290 u291 u292 u293 u294 u295 u296 u297 u298 u299 u300 u301 u302 u303 u304 u305 u306 u307 u308 u309 u310 u311 u312 u313 u314 u315 u316 u317 u318 u319 u320 u321 u322 u323 u327 u328 u329 u330 u331 u332 u333 u334 u335 u336 u337 u338 u339 u340 u341 u342 u343 u344 u345 u346 u347 u348 u349 u350 u351 u352 u353 u354 u355 u356 u357 u358 u359 u360 : Value} (w : World) (pE bE bU : Nat) (wc : World) (Q0 : Exit → Act → World → Prop) (hT : Tk w pE bE bU wc) (hexit : ∀ a' W', (∃ u0 u38 u39 u40 u41 u327 u328 u329 u330 u331 u332 u333 u334 u335 u336 u337 u338 u339 u340 u341 u342 u343 u344 u345 u346 u347 u348 u349 u350 u351 u352 u353 u354 u355 u356 u357 u358 u359 u360 : Value, a' = ⟨#[u0, .pointer (some ⟨pE, 0, none⟩), u2, u3, u4, u5, u6, u7, u8, u9, u10, u11, u12, u13, u14, u15, u16, u17, u18, u19, u20, u21, u22, u23, u24, u25, u26, u27, u28, u29, u30, u31, u32, u33, u34, u35, u36, u37, u38, u39, u40, u41, u42, u43, u44, u45, u46, u47, u48, u49, u50, u51, u52, u53, u54, u55, u56, u57, u58, u59, u60, u61, u62, u63, u64, u65, u66, u67, u68, u69, u70, u71, u72, u73, u74, u75, u76, u77, u78, u79, u80, u81, u82, u83, u84, u85, u86, u87, u88, u89, u90, u91, u92, u93, u94, u95, u96, u97, u98, u99, u100, u101, u102, u103, u104, u105, u106, u107, u108, u109, u110, u111, u112, u113, u114, u115, u116, u117, u118, u119, u120, u121, u122, u123, u124, u125, u126, u127, u128, u129, u130, u131, u132, u133, u134, u135, u136, u137, u138, u139, u140, u141, u142, u143, u144, u145, u146, u147, u148, u149, u150, u151, u152, u153, u154, u155, u156, u157, u158, u159, u160, u161, u162, u163, u164, u165, u166, u167, u168, u169, u170, u171, u172, u173, u174, u175, u176, u177, u178, u179, u180, u181, u182, u183, u184, u185, u186, u187, u188, u189, u190, u191, u192, u193, u194, u195, u196, u197, u198, u199, u200, u201, u202, u203, u204, u205, u206, u207, u208, u209, u210, u211, u212, u213, u214, u215, u216, u217, u218, u219, u220, u221, u222, u223, u224, u225, u226, u227, u228, u229, u230, u231, u232, u233, u234, u235, u236, u237, u238, u239, u240, u241, u242, u243, u244, u245, u246, u247, u248, u249, u250, u251, u252, u253, u254, u255, u256, u257, u258, u259, u260, u261, u262, u263, u264, u265, u266, u267, u268, u269, u270, u271, u272, u273, u274, u275, u276, u277, u278, u279, u280, u281, u282, u283, u284, u285, u286, u287, u288, u289, u290, u291, u292, u293, u294, u295, u296, u297, u298, u299, u300, u301, u302, u303, u304, u305, u306, u307, u308, u309, u310, u311, u312, u313, u314, u315, u316, u317, u318, u319, u320, u321, u322, u323, .slice (some ⟨bU, 0, none⟩) 9 9, .int .i64 9, .int .i64 9, u327, u328, u329, u330, u331, u332, u333, u334, u335, u336, u337, u338, u339, u340, u341, u342, u343, u344, u345, u346, u347, u348, u349, u350, u351, u352, u353, u354, u355, u356, u357, u358, u359, u360], []⟩ ∧ Tk w pE bE bU W') → Q0 (.exit 2) a' W') :
    Code.wp Try.prog lp2C Q0 ⟨#[u0, .pointer (some ⟨pE, 0, none⟩), u2, u3, u4, u5, u6, u7, u8, u9, u10, u11, u12, u13, u14, u15, u16, u17, u18, u19, u20, u21, u22, u23, u24, u25, u26, u27, u28, u29, u30, u31, u32, u33, u34, u35, u36, u37, u38, u39, u40, u41, u42, u43, u44, u45, u46, u47, u48, u49, u50, u51, u52, u53, u54, u55, u56, u57, u58, u59, u60, u61, u62, u63, u64, u65, u66, u67, u68, u69, u70, u71, u72, u73, u74, u75, u76, u77, u78, u79, u80, u81, u82, u83, u84, u85, u86, u87, u88, u89, u90, u91, u92, u93, u94, u95, u96, u97, u98, u99, u100, u101, u102, u103, u104, u105, u106, u107, u108, u109, u110, u111, u112, u113, u114, u115, u116, u117, u118, u119, u120, u121, u122, u123, u124, u125, u126, u127, u128, u129, u130, u131, u132, u133, u134, u135, u136, u137, u138, u139, u140, u141, u142, u143, u144, u145, u146, u147, u148, u149, u150, u151, u152, u153, u154, u155, u156, u157, u158, u159, u160, u161, u162, u163, u164, u165, u166, u167, u168, u169, u170, u171, u172, u173, u174, u175, u176, u177, u178, u179, u180, u181, u182, u183, u184, u185, u186, u187, u188, u189, u190, u191, u192, u193, u194, u195, u196, u197, u198, u199, u200, u201, u202, u203, u204, u205, u206, u207, u208, u209, u210, u211, u212, u213, u214, u215, u216, u217, u218, u219, u220, u221, u222, u223, u224, u225, u226, u227, u228, u229, u230, u231, u232, u233, u234, u235, u236, u237, u238, u239, u240, u241, u242, u243, u244, u245, u246, u247, u248, u249, u250, u251, u252, u253, u254, u255, u256, u257, u258, u259, u260, u261, u262, u263, u264, u265, u266, u267, u268, u269, u270, u271, u272, u273, u274, u275, u276, u277, u278, u279, u280, u281, u282, u283, u284, u285, u286, u287, u288, u289, u290, u291, u292, u293, u294, u295, u296, u297, u298, u299, u300, u301, u302, u303, u304, u305, u306, u307, u308, u309, u310, u311, u312, u313, u314, u315, u316, u317, u318, u319, u320, u321, u322, u323, .slice (some ⟨bU, 0, none⟩) 9 9, .int .i64 9, .int .i64 0, u327, u328, u329, u330, u331, u332, u333, u334, u335, u336, u337, u338, u339, u340, u341, u342, u343, u344, u345, u346, u347, u348, u349, u350, u351, u352, u353, u354, u355, u356, u357, u358, u359, u360], []⟩ wc := by
  conv => arg 2; whnf
  try dsimp only
  have K2 := Lib.hid hT
  have HQ := Lib.hid hexit
  clear hT hexit
  go_loopw [326] (fun kv wr => ∃ k : Nat, k ≤ 9 ∧ kv = .int .i64 k ∧ Tk w pE bE bU wr) (fun kv _ => 9 - (intOf kv).toNat)
  case atStart => exact ⟨0, by omega, rfl, K2.out⟩
  case round =>
    clear K2
    obtain ⟨k, hk, rfl, hT⟩ := hrel
    have K := Lib.hid hT
    clear hT
    by_cases hlt : k < 9
    · skip
      obtain ⟨t0, t1, t2, t3, t4, t5, t6, t7, t8, t9, t10, t11, t12, t13, t14, t15⟩ := exCells_get k hlt
      have x0 := cell_of_block K.out.t t0
      have x1 := cell_of_block K.out.t t1
      have x2 := cell_of_block K.out.t t2
      have x3 := cell_of_block K.out.t t3
      have x4 := cell_of_block K.out.t t4
      have x5 := cell_of_block K.out.t t5
      have x6 := cell_of_block K.out.t t6
      have x7 := cell_of_block K.out.t t7
      have x8 := cell_of_block K.out.t t8
      have x9 := cell_of_block K.out.t t9
      have x10 := cell_of_block K.out.t t10
      have x11 := cell_of_block K.out.t t11
      have x12 := cell_of_block K.out.t t12
      have x13 := cell_of_block K.out.t t13
      have x14 := cell_of_block K.out.t t14
      have x15 := cell_of_block K.out.t t15
      obtain ⟨hE, hR, hs⟩ := exR_ok k hlt
      clear t0 t1 t2 t3 t4 t5 t6 t7 t8 t9 t10 t11 t12 t13 t14 t15
      generalize exR k = r at *
      obtain ⟨⟨⟨s, rr, kk⟩, age, rv⟩, oz, fl, ⟨⟨s2, r2, k2⟩, age2, rv2⟩⟩ := r
      dsimp only at x0 x1 x2 x3 x4 x5 x6 x7 x8 x9 x10 x11 x12 x13 x14 x15 hE hR hs
      unfold keepN at hR
      dsimp only at hR
      have HN := Lib.hid (And.intro hE (And.intro hR hs))
      have xE0 := cell_of_block (i := 0) K.out.K.E rfl
      have xE1 := cell_of_block (i := 1) K.out.K.E rfl
      have xE2 := cell_of_block (i := 2) K.out.K.E rfl
      have xE3 := cell_of_block (i := 3) K.out.K.E rfl
      have xEl := lt_of_block K.out.K.E
      have ql := World.block_lt_of_cell? wr _ x0
      have hk0 : (0 : Int) ≤ (k : Int) := by omega
      have hk1 : (k : Int) < 9 := by omega
      clear hE hR hs
      go_wp2_with fail
      have hb1 := below_alloc wr (.cells #[.int .u8 s, .int .i64 rr, .bool kk, .int .i64 age, .bool rv, .int .i64 5000, .int .i64 0, .int .i64 oz, .int .i64 0, .int .i64 fl, .int .u8 0, .int .u8 s2, .int .i64 r2, .bool false, .int .i64 age2, .bool rv2] 72)
      refine (pNext_call (some ⟨bE, 0, none⟩) 2 2 exS 5000 0 oz 0 25 fl 0 ⟨⟨s, rr, kk⟩, age, rv⟩ _ (K.out.K.I.below hb1) HN.out.2.2).mono ?_
      intro e w5 hpost
      obtain ⟨rfl, hb⟩ := nxLit hpost HN.out.1 HN.out.2.1
      have HX := Lib.hid (keepO hb (block_new wr (.cells #[.int .u8 s, .int .i64 rr, .bool kk, .int .i64 age, .bool rv, .int .i64 5000, .int .i64 0, .int .i64 oz, .int .i64 0, .int .i64 fl, .int .u8 0, .int .u8 s2, .int .i64 r2, .bool false, .int .i64 age2, .bool rv2] 72 (0, 0)) rfl))
      replace K := Lib.hid (K.out.keep (hb1.trans (hb.mono hb1.size)))
      have z11 := cell_of_block (i := 11) HX.out rfl
      have z12 := cell_of_block (i := 12) HX.out rfl
      have z13 := cell_of_block (i := 13) HX.out rfl
      have z14 := cell_of_block (i := 14) HX.out rfl
      have z15 := cell_of_block (i := 15) HX.out rfl
      have zl := lt_of_block HX.out
      clear hpost hb hb1 xE0 xE1 xE2 xE3 xEl ql x0 x1 x2 x3 x4 x5 x6 x7 x8 x9 x10 x11 x12 x13 x14 x15
      generalize wr.heap.size = px at *
      have ng := nst_neq
      have gd := nst_guard
      replace K := Lib.hid ((K.out.keep (below_alloc _ (.cells #[.int .u8 s2, .int .i64 r2, .bool (r2 == 0), .int .i64 age2, .bool rv2] 57))).keep (below_alloc _ (.cells #[.int .u8 s2, .int .i64 r2, .bool (r2 == 0), .int .i64 age2, .bool rv2] 57)))
      by_cases h0 : r2 = 0
      · have d0 : (r2 == 0) = true := by rw [beq_iff_eq]; exact h0
        rw [d0] at K ⊢
        clear d0
        subst h0
        go_wp2_with fail
        go_roundw
        case rel => exact ⟨k + 1, by omega, by go_num, K.out⟩
        case measure => simp [intOf]; omega
      · have d0 : (r2 == 0) = false := by rw [beq_eq_false_iff_ne]; exact h0
        rw [d0] at K ⊢
        go_wp2_with fail
        go_roundw
        case rel => exact ⟨k + 1, by omega, by go_num, K.out⟩
        case measure => simp [intOf]; omega
    · obtain rfl : k = 9 := by omega
      have hk9 : ((9 : Nat) : Int) = 9 := rfl
      rw [hk9]
      clear hk9 hk hlt
      go_wp2_with fail
      exact HQ.out _ _ ⟨_, _, _, _, _, _, _, _, _, _, _, _, _, _, _, _, _, _, _, _, _, _, _, _, _, _, _, _, _, _, _, _, _, _, _, _, _, _, _, rfl, K.out⟩
end Go.Proofs.Ytfgalaalopkclaa
