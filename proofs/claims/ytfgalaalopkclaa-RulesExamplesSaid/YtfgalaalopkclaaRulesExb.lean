/-
  Layer 38 (rules): the law Examples, its first loop. Printed by genRulesEx3.py.
-/
import Derived.Test.YtfgalaalopkclaaRulesExa
import Derived.Deep.DeepCutAuto
import Derived.Deep.RegionHeld3
namespace Go.Proofs.Ytfgalaalopkclaa
open Go.RowKit PlaneMath PilotMath RulesMath MyHeap MyOwn MyCopy

/-- A region of a body. -/
def regOf (n : Nat) : Code → Option Code
  | .region i ops d => if i = n then some (.region i ops d) else none
  | .seq a b => match regOf n a with
    | some c => some c
    | none => regOf n b
  | .loop c => regOf n c
  | .block _ c => regOf n c
  | .scope c => regOf n c
  | .cond _ a b => match regOf n a with
    | some c => some c
    | none => regOf n b
  | _ => none
/-- The loop of a body that holds a region. -/
def loopOf (n : Nat) : Code → Option Code
  | .seq a b => match loopOf n a with
    | some c => some c
    | none => loopOf n b
  | .loop c => match regOf n c with
    | some _ => some (.loop c)
    | none => none
  | .block _ c => loopOf n c
  | .scope c => loopOf n c
  | .cond _ a b => match loopOf n a with
    | some c => some c
    | none => loopOf n b
  | _ => none
noncomputable def lp1C : Code := ((Try.f9.body.bind (loopOf 5)).getD .skip)
set_option maxRecDepth 100000 in
set_option maxHeartbeats 32000000 in
theorem lp1 {u0 u1 u2 u3 u4 u5 u6 u7 u8 u9 u10 u11 u12 u13 u14 u15 u16 u17 u18 u19 u20 u21 u22 u23 u24 u25 u26 u27 u28 u29 u30 u31 u32 u33 u34 u35 u36 u37 u38 u39 u40 u41 u42 u43 u44 u45 u46 u47 u48 u49 u50 u51 u52 u53 u54 u55 u56 u57 u58 u59 u60 u61 u62 u63 u64 u65 u66 u67 u68 u69 u73 u74 u75 u76 u77 u78 u79 u80 u81 u82 u83 u84 u85 u86 u87 u88 u89 u90 u91 u92 u93 u94 u95 u96 u97 u98 u99 u100 u101 u102 u103 u104 u105 u106 u107 u108 u109 u110 u111 u112 u113 u114 u115 u116 u117 u118 u119 u120 u121 u122 u123 u124 u125 u126 u127 u128 u129 u130 u131 u132 u133 u134 u135 u136 u137 u138 u139 u140 u141 u142 u143 u144 u145 u146 u147 u148 u149 u150 u151 u152 u153 u154 u155 u156 u157 u158 u159 u160 u161 u162 u163 u164 u165 u166 u167 u168 u169 u170 u171 u172 u173 u174 u175 u176 u177 u178 u179 u180 u181 u182 u183 u184 u185 u186 u187 u188 u189 u190 u191 u192 u193 u194 u195 u196 u197 u198 u199 u200 u201 u202 u203 u204 u205 u206 u207 u208 u209 u210 u211 u212 u213 u214 u215 u216 u217 u218 u219 u220 u221 u222 u223 u224 u225 u226 u227 u228 u229 u230 u231 u232 u233 u234 u235 u236 u237 u238 u239 u240 u241 u242 u243 u244 u245 u246 u247 u248 u249 u250 u251 u252 u253 u254 u255 u256 u257 u258 u259 u260 u261 u262 u263 u264 u265 u266 u267 u268 u269 u270 u271 u272 u273 u274 u275 u276 u277 u278 u279 u280 u281 u282 u283 u284 u285 u286 u287 u288 u289 u290 u291 u292 u293 u294 u295 u296 u297 u298 u299 u300 u301 u302 u303 u304 u305 u306 u307 u308 u309 u310 u311 u312 u313 u314 u315 u316 u317 u318 u319 u320 u321 u322 u323 u324 u325 u326 u327 u328 u329 u330 u331 u332 u333 u334 u335 u336 u337 u338 u339 u340 u341 u342 u343 u344 u345 u346 u347 u348 u349 u350 u351 u352 u353 u354 u355 u356 u357 u358 u359 u360 : Value} (w : World) (pE bE bT : Nat) (wc : World) (Q0 : Exit → Act → World → Prop) (hT : Eb w pE bE bT wc) (hexit : ∀ a' W', (∃ u0 u3 u4 u5 u6 u7 u73 u74 u75 u76 u77 u78 u79 u80 u81 u82 u83 u84 u85 u86 u87 u88 u89 u90 u91 u92 u93 u94 u95 u96 u97 u98 u99 u100 u101 u102 : Value, a' = ⟨#[u0, u1, u2, u3, u4, u5, u6, u7, u8, u9, u10, u11, u12, u13, u14, u15, u16, u17, u18, u19, u20, u21, u22, u23, u24, u25, u26, u27, u28, u29, u30, u31, u32, u33, u34, u35, u36, u37, u38, u39, u40, u41, u42, u43, u44, u45, u46, u47, u48, u49, u50, u51, u52, u53, u54, u55, u56, u57, u58, u59, u60, u61, u62, u63, u64, u65, u66, u67, u68, u69, .slice (some ⟨bT, 0, none⟩) 10 10, .int .i64 10, .int .i64 10, u73, u74, u75, u76, u77, u78, u79, u80, u81, u82, u83, u84, u85, u86, u87, u88, u89, u90, u91, u92, u93, u94, u95, u96, u97, u98, u99, u100, u101, u102, u103, u104, u105, u106, u107, u108, u109, u110, u111, u112, u113, u114, u115, u116, u117, u118, u119, u120, u121, u122, u123, u124, u125, u126, u127, u128, u129, u130, u131, u132, u133, u134, u135, u136, u137, u138, u139, u140, u141, u142, u143, u144, u145, u146, u147, u148, u149, u150, u151, u152, u153, u154, u155, u156, u157, u158, u159, u160, u161, u162, u163, u164, u165, u166, u167, u168, u169, u170, u171, u172, u173, u174, u175, u176, u177, u178, u179, u180, u181, u182, u183, u184, u185, u186, u187, u188, u189, u190, u191, u192, u193, u194, u195, u196, u197, u198, u199, u200, u201, u202, u203, u204, u205, u206, u207, u208, u209, u210, u211, u212, u213, u214, u215, u216, u217, u218, u219, u220, u221, u222, u223, u224, u225, u226, u227, u228, u229, u230, u231, u232, u233, u234, u235, u236, u237, u238, u239, u240, u241, u242, u243, u244, u245, u246, u247, u248, u249, u250, u251, u252, u253, u254, u255, u256, u257, u258, u259, u260, u261, u262, u263, u264, u265, u266, u267, u268, u269, u270, u271, u272, u273, u274, u275, u276, u277, u278, u279, u280, u281, u282, u283, u284, u285, u286, u287, u288, u289, u290, u291, u292, u293, u294, u295, u296, u297, u298, u299, u300, u301, u302, u303, u304, u305, u306, u307, u308, u309, u310, u311, u312, u313, u314, u315, u316, u317, u318, u319, u320, u321, u322, u323, u324, u325, u326, u327, u328, u329, u330, u331, u332, u333, u334, u335, u336, u337, u338, u339, u340, u341, u342, u343, u344, u345, u346, u347, u348, u349, u350, u351, u352, u353, u354, u355, u356, u357, u358, u359, u360], []⟩ ∧ Eb w pE bE bT W') → Q0 (.exit 0) a' W') :
    Code.wp Try.prog lp1C Q0 ⟨#[u0, u1, u2, u3, u4, u5, u6, u7, u8, u9, u10, u11, u12, u13, u14, u15, u16, u17, u18, u19, u20, u21, u22, u23, u24, u25, u26, u27, u28, u29, u30, u31, u32, u33, u34, u35, u36, u37, u38, u39, u40, u41, u42, u43, u44, u45, u46, u47, u48, u49, u50, u51, u52, u53, u54, u55, u56, u57, u58, u59, u60, u61, u62, u63, u64, u65, u66, u67, u68, u69, .slice (some ⟨bT, 0, none⟩) 10 10, .int .i64 10, .int .i64 0, u73, u74, u75, u76, u77, u78, u79, u80, u81, u82, u83, u84, u85, u86, u87, u88, u89, u90, u91, u92, u93, u94, u95, u96, u97, u98, u99, u100, u101, u102, u103, u104, u105, u106, u107, u108, u109, u110, u111, u112, u113, u114, u115, u116, u117, u118, u119, u120, u121, u122, u123, u124, u125, u126, u127, u128, u129, u130, u131, u132, u133, u134, u135, u136, u137, u138, u139, u140, u141, u142, u143, u144, u145, u146, u147, u148, u149, u150, u151, u152, u153, u154, u155, u156, u157, u158, u159, u160, u161, u162, u163, u164, u165, u166, u167, u168, u169, u170, u171, u172, u173, u174, u175, u176, u177, u178, u179, u180, u181, u182, u183, u184, u185, u186, u187, u188, u189, u190, u191, u192, u193, u194, u195, u196, u197, u198, u199, u200, u201, u202, u203, u204, u205, u206, u207, u208, u209, u210, u211, u212, u213, u214, u215, u216, u217, u218, u219, u220, u221, u222, u223, u224, u225, u226, u227, u228, u229, u230, u231, u232, u233, u234, u235, u236, u237, u238, u239, u240, u241, u242, u243, u244, u245, u246, u247, u248, u249, u250, u251, u252, u253, u254, u255, u256, u257, u258, u259, u260, u261, u262, u263, u264, u265, u266, u267, u268, u269, u270, u271, u272, u273, u274, u275, u276, u277, u278, u279, u280, u281, u282, u283, u284, u285, u286, u287, u288, u289, u290, u291, u292, u293, u294, u295, u296, u297, u298, u299, u300, u301, u302, u303, u304, u305, u306, u307, u308, u309, u310, u311, u312, u313, u314, u315, u316, u317, u318, u319, u320, u321, u322, u323, u324, u325, u326, u327, u328, u329, u330, u331, u332, u333, u334, u335, u336, u337, u338, u339, u340, u341, u342, u343, u344, u345, u346, u347, u348, u349, u350, u351, u352, u353, u354, u355, u356, u357, u358, u359, u360], []⟩ wc := by
  conv => arg 2; whnf
  try dsimp only
  have K := Lib.hid hT
  have HQ := Lib.hid hexit
  clear hT hexit
  go_loopw [72] (fun kv wr => ∃ k : Nat, k ≤ 10 ∧ kv = .int .i64 k ∧ Eb w pE bE bT wr) (fun kv _ => 10 - (intOf kv).toNat)
  case atStart => exact ⟨0, by omega, rfl, K.out⟩
  case round =>
    clear K
    obtain ⟨k, hk, rfl, hT⟩ := hrel
    have K := Lib.hid hT
    clear hT
    by_cases hlt : k < 10
    · skip
      obtain ⟨a, n, c, s, x0, x1, x2, x3, hI, hs, hc, hp⟩ := K.out.e k hlt
      have HI := Lib.hid (And.intro hI (And.intro hs (And.intro hc hp)))
      have hk0 : (0 : Int) ≤ (k : Int) := by omega
      have hk1 : (k : Int) < 10 := by omega
      have ql := World.block_lt_of_cell? wr _ x0
      clear hI hs hc hp
      go_wp2_with fail
      have hb1 := below_alloc wr (.cells #[.slice a n c, .int .i64 s.alim, .int .i64 s.d, .int .i64 s.pl] 24)
      refine (pChoose_call a n c s 60000 0 0 0 (-1) 0 3 _ (HI.out.1.below hb1)).mono ?_
      intro e w5 hpost
      obtain ⟨R, rfl, hb⟩ := chLit hpost HI.out.2.2.1
      have HX := Lib.hid (keepO hb (block_new wr (.cells #[.slice a n c, .int .i64 s.alim, .int .i64 s.d, .int .i64 s.pl] 24 (0, 0)) rfl))
      replace K := Lib.hid (And.intro (K.out.keep (hb1.trans (hb.mono hb1.size))) (HI.out.1.below (hb1.trans (hb.mono hb1.size))))
      have y0 := cell_of_block (i := 0) HX.out rfl
      have y1 := cell_of_block (i := 1) HX.out rfl
      have y2 := cell_of_block (i := 2) HX.out rfl
      have y3 := cell_of_block (i := 3) HX.out rfl
      have yl := lt_of_block HX.out
      clear hpost hb hb1 x0 x1 x2 x3 ql
      generalize wr.heap.size = px at *
      go_wp2_with fail
      have hb1 := below_alloc w5 (.cells #[.int .u8 R.s, .int .i64 R.r, .bool R.k] 30)
      refine (pSeparation_call a n c s 60000 0 0 0 (-1) adv0 _ (K.out.2.below hb1) (by decide)).mono ?_
      intro e w6 hpost
      obtain ⟨R2, rfl, hb⟩ := srLit hpost HI.out.2.2.2
      replace K := Lib.hid (And.intro (K.out.1.keep (hb1.trans (hb.mono hb1.size))) (K.out.2.below (hb1.trans (hb.mono hb1.size))))
      replace HX := Lib.hid (keepO (hb1.trans (hb.mono hb1.size)) HX.out)
      clear y0 y1 y2 y3 yl
      have y0 := cell_of_block (i := 0) HX.out rfl
      have y1 := cell_of_block (i := 1) HX.out rfl
      have y2 := cell_of_block (i := 2) HX.out rfl
      have y3 := cell_of_block (i := 3) HX.out rfl
      have yl := lt_of_block HX.out
      clear hpost hb hb1
      generalize w5.heap.size = px2 at *
      go_wp2_with fail
      refine (pCheckS a n c s _ K.out.2).mono ?_
      rintro e w7 ⟨rfl, hb⟩
      rw [HI.out.2.1]
      replace K := Lib.hid (K.out.1.keep hb)
      clear hb y0 y1 y2 y3 yl HX
      go_wp2_with fail
      go_roundw
      case rel => exact ⟨k + 1, by omega, by go_num, K.out⟩
      case measure => simp [intOf]; omega
    · obtain rfl : k = 10 := by omega
      have hk10 : ((10 : Nat) : Int) = 10 := rfl
      rw [hk10]
      clear hk10 hk hlt
      go_wp2_with fail
      exact HQ.out _ _ ⟨_, _, _, _, _, _, _, _, _, _, _, _, _, _, _, _, _, _, _, _, _, _, _, _, _, _, _, _, _, _, _, _, _, _, _, _, rfl, K.out⟩
end Go.Proofs.Ytfgalaalopkclaa
