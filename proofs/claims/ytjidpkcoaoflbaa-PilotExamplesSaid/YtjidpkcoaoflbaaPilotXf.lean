/-
  Layer 37 (pilot): the law PilotExamples: its second loop. Printed by genPilotX2.py.
-/
import Derived.Test.YtjidpkcoaoflbaaPilotXg
namespace Go.Proofs.Ytjidpkcoaoflbaa
open Go.RowKit PilotMath MyHeap MyOwn PlaneMath MyCopy
attribute [local go_sem ↓] storeRunP Go.wp_at_zero Go.wp_at_succ
attribute [local go_sem] blk8_mk ptr8_mk cls8_mk agg8_mk
attribute [local go_sem] rowAt_new Go.MyCopyWide.setRow_last

noncomputable def lpBC : Code := ((Try.f8.body.bind (loopOf 11)).getD .skip)
set_option maxRecDepth 100000 in
set_option maxHeartbeats 64000000 in
theorem lpB {u0 u1 u2 u3 u4 u5 u6 u7 u8 u9 u10 u11 u12 u13 u14 u15 u16 u17 u18 u19 u20 u21 u22 u23 u24 u25 u26 u27 u28 u29 u30 u31 u32 u33 u34 u35 u36 u37 u38 u39 u40 u41 u42 u43 u44 u45 u46 u47 u48 u49 u50 u51 u52 u53 u54 u55 u56 u57 u58 u59 u60 u61 u62 u63 u64 u65 u66 u67 u68 u69 u70 u71 u72 u73 u74 u75 u76 u77 u78 u79 u80 u81 u82 u83 u84 u85 u86 u87 u88 u89 u90 u91 u92 u93 u94 u95 u96 u97 u98 u99 u100 u101 u102 u103 u104 u108 u109 u110 u111 u112 u113 u114 u115 u116 u117 u118 u119 u120 u121 u122 u123 u124 u125 u126 u127 u128 u129 u130 u131 u132 u133 u134 u135 u136 u137 u138 u139 u140 u141 u142 u143 u144 u145 u146 u147 u148 u149 u150 u151 u152 u153 u154 u155 u156 u157 u158 u159 u160 u161 u162 u163 u164 u165 u166 u167 u168 u169 u170 u171 u172 u173 u174 u175 u176 u177 u178 u179 u180 u181 u182 u183 u184 u185 u186 u187 u188 u189 u190 u191 u192 u193 u194 u195 u196 u197 u198 u199 u200 u201 u202 u203 u204 u205 u206 u207 u208 u209 u210 u211 u212 u213 u214 u215 u216 u217 u218 u219 u220 u221 u222 u223 u224 u225 u226 u227 u228 u229 u230 u231 u232 u233 u234 u235 u236 u237 u238 u239 u240 u241 u242 u243 u244 u245 u246 u247 u248 u249 u250 u251 u252 u253 u254 u255 u256 u257 u258 u259 u260 u261 u262 u263 u264 u265 u266 u267 u268 u269 u270 u271 u272 u273 u274 u275 u276 u277 u278 u279 u280 u281 u282 u283 u284 u285 u286 u287 u288 u289 u290 u291 u292 u293 u294 u295 u296 u297 u298 u299 u300 : Value} (w : World) (bT : Nat) (wc : World) (Q0 : Exit → Act → World → Prop) (hT : BkK w bT plCells 23 wc) (hexit : ∀ a' W', (∃ u0 u7 u8 u9 u10 u11 u12 u13 u14 u15 u108 u109 u110 u111 u112 u113 u114 u115 u116 u117 u118 u119 u120 u121 u122 u123 u124 u125 u126 u127 u128 u129 u130 u131 u132 u133 u134 u135 u136 u137 u138 u139 u140 u141 u142 u143 u144 u145 u146 u147 u148 u149 u150 : Value, a' = ⟨#[u0, u1, u2, u3, u4, u5, u6, u7, u8, u9, u10, u11, u12, u13, u14, u15, u16, u17, u18, u19, u20, u21, u22, u23, u24, u25, u26, u27, u28, u29, u30, u31, u32, u33, u34, u35, u36, u37, u38, u39, u40, u41, u42, u43, u44, u45, u46, u47, u48, u49, u50, u51, u52, u53, u54, u55, u56, u57, u58, u59, u60, u61, u62, u63, u64, u65, u66, u67, u68, u69, u70, u71, u72, u73, u74, u75, u76, u77, u78, u79, u80, u81, u82, u83, u84, u85, u86, u87, u88, u89, u90, u91, u92, u93, u94, u95, u96, u97, u98, u99, u100, u101, u102, u103, u104, .slice (some ⟨bT, 0, none⟩) 6 6, .int .i64 6, .int .i64 6, u108, u109, u110, u111, u112, u113, u114, u115, u116, u117, u118, u119, u120, u121, u122, u123, u124, u125, u126, u127, u128, u129, u130, u131, u132, u133, u134, u135, u136, u137, u138, u139, u140, u141, u142, u143, u144, u145, u146, u147, u148, u149, u150, u151, u152, u153, u154, u155, u156, u157, u158, u159, u160, u161, u162, u163, u164, u165, u166, u167, u168, u169, u170, u171, u172, u173, u174, u175, u176, u177, u178, u179, u180, u181, u182, u183, u184, u185, u186, u187, u188, u189, u190, u191, u192, u193, u194, u195, u196, u197, u198, u199, u200, u201, u202, u203, u204, u205, u206, u207, u208, u209, u210, u211, u212, u213, u214, u215, u216, u217, u218, u219, u220, u221, u222, u223, u224, u225, u226, u227, u228, u229, u230, u231, u232, u233, u234, u235, u236, u237, u238, u239, u240, u241, u242, u243, u244, u245, u246, u247, u248, u249, u250, u251, u252, u253, u254, u255, u256, u257, u258, u259, u260, u261, u262, u263, u264, u265, u266, u267, u268, u269, u270, u271, u272, u273, u274, u275, u276, u277, u278, u279, u280, u281, u282, u283, u284, u285, u286, u287, u288, u289, u290, u291, u292, u293, u294, u295, u296, u297, u298, u299, u300], []⟩ ∧ BkK w bT plCells 23 W') → Q0 (.exit 2) a' W') :
    Code.wp Try.prog lpBC Q0 ⟨#[u0, u1, u2, u3, u4, u5, u6, u7, u8, u9, u10, u11, u12, u13, u14, u15, u16, u17, u18, u19, u20, u21, u22, u23, u24, u25, u26, u27, u28, u29, u30, u31, u32, u33, u34, u35, u36, u37, u38, u39, u40, u41, u42, u43, u44, u45, u46, u47, u48, u49, u50, u51, u52, u53, u54, u55, u56, u57, u58, u59, u60, u61, u62, u63, u64, u65, u66, u67, u68, u69, u70, u71, u72, u73, u74, u75, u76, u77, u78, u79, u80, u81, u82, u83, u84, u85, u86, u87, u88, u89, u90, u91, u92, u93, u94, u95, u96, u97, u98, u99, u100, u101, u102, u103, u104, .slice (some ⟨bT, 0, none⟩) 6 6, .int .i64 6, .int .i64 0, u108, u109, u110, u111, u112, u113, u114, u115, u116, u117, u118, u119, u120, u121, u122, u123, u124, u125, u126, u127, u128, u129, u130, u131, u132, u133, u134, u135, u136, u137, u138, u139, u140, u141, u142, u143, u144, u145, u146, u147, u148, u149, u150, u151, u152, u153, u154, u155, u156, u157, u158, u159, u160, u161, u162, u163, u164, u165, u166, u167, u168, u169, u170, u171, u172, u173, u174, u175, u176, u177, u178, u179, u180, u181, u182, u183, u184, u185, u186, u187, u188, u189, u190, u191, u192, u193, u194, u195, u196, u197, u198, u199, u200, u201, u202, u203, u204, u205, u206, u207, u208, u209, u210, u211, u212, u213, u214, u215, u216, u217, u218, u219, u220, u221, u222, u223, u224, u225, u226, u227, u228, u229, u230, u231, u232, u233, u234, u235, u236, u237, u238, u239, u240, u241, u242, u243, u244, u245, u246, u247, u248, u249, u250, u251, u252, u253, u254, u255, u256, u257, u258, u259, u260, u261, u262, u263, u264, u265, u266, u267, u268, u269, u270, u271, u272, u273, u274, u275, u276, u277, u278, u279, u280, u281, u282, u283, u284, u285, u286, u287, u288, u289, u290, u291, u292, u293, u294, u295, u296, u297, u298, u299, u300], []⟩ wc := by
  conv => arg 2; whnf
  try dsimp only
  have HK1 := Lib.hid hT
  have HQ := Lib.hid hexit
  clear hT hexit
  go_loopw [107] (fun kv wi => ∃ k : Nat, k ≤ 6 ∧ kv = .int .i64 k ∧ BkK w bT plCells 23 wi) (fun kv _ => 6 - (intOf kv).toNat)
  case atStart => exact ⟨0, by omega, rfl, HK1.out⟩
  case round =>
    obtain ⟨k, hk6, rfl, hK⟩ := hrel
    clear HK1
    have HK := Lib.hid hK
    clear hK
    by_cases hlt6 : k < 6
    · obtain ⟨t0, t1, t2⟩ := plCells_get k hlt6
      have y0 := cell_of_block HK.out.1 t0
      have y1 := cell_of_block HK.out.1 t1
      have y2 := cell_of_block HK.out.1 t2
      have hok := plk_bad k hlt6
      clear t0 t1 t2
      generalize plk k = r at *
      obtain ⟨d, pl, ms⟩ := r
      dsimp only at y0 y1 y2 hok
      have HX := Lib.hid hok
      clear hok
      have hk4 : (k : Int) < 6 := by omega
      go_wp2_with fail
      refine (pNew d pl ms _).mono ?_
      rintro e wA ⟨aq, cq, q, rfl, _, hq0, _, hb⟩
      obtain rfl := hq0 (by rw [HX.out]; decide)
      rw [HX.out]
      have KA : KK w [(wr.heap.size, .cells #[.int .i64 d, .int .i64 pl, .int .i64 ms] 23 (0, 0)), (bT, .cells plCells 23 (0, 0))] wA := KK.cons (KK.cons (bs := []) ⟨(fun p hp => by cases hp), ((HK.out.alloc _).keep hb).2⟩ ((HK.out.alloc _).keep hb).1) (keepO hb (block_new _ _ rfl))
      clear hb HK y0 y1 y2
      unfold stV
      have hl0 : ([] : List Adv).length = 0 := rfl
      rw [hl0]
      simp only [adv0]
      clear hl0
      go_wp2_with fail
      generalize wr.heap.size = bP at *
      have K := KA.alloc (.cells #[.slice aq 0 cq, .int .u8 0, .int .i64 0, .bool false, .int .u8 0, .int .i64 0, .bool false, .int .i64 0] 38)
      clear KA
      generalize wA.alloc (.cells #[.slice aq 0 cq, .int .u8 0, .int .i64 0, .bool false, .int .u8 0, .int .i64 0, .bool false, .int .i64 0] 38) = wB at *
      go_upto_region 14 with fail
      refine rg14 w bP bT d pl ms HX.out _ _ K ?_
      clear K
      rintro a' wc ⟨u10, u116, u117, u118, u119, u120, u121, u122, rfl, K⟩
      obtain ⟨y0, y1, y2⟩ := three_old (K.at (List.Mem.head _))
      have HK := Lib.hid K
      clear K
      go_wp2_with fail
      refine (pFly_call 0 d pl ms none 0 ⟨[], adv0, adv0, 0⟩ 60000 0 _ (advs_nil _ _) (fun _ h => by cases h) (by decide) (by decide)).mono ?_
      intro e wF hpost
      obtain ⟨zz, vv, rfl, hb⟩ := pfPost_bad hpost (pfE_pl HX.out _ _ _)
      replace HK := Lib.hid (HK.out.keep hb)
      clear hb hpost y0 y1 y2
      obtain ⟨y0, y1, y2⟩ := three_old (HK.out.at (List.Mem.head _))
      have hbP : bP < wF.heap.size := HK.out.lt _ (List.Mem.head _)
      go_wp2_with fail
      refine (Run_call d pl ms 60000 0 none 0 0 [] _ (advs_nil _ _) (fun _ h => by cases h)).mono ?_
      intro e wG hpost
      obtain ⟨sG, rfl, hb⟩ := runPost_E hpost (E := 1) (by rw [rnE_pl (by rw [HX.out]; decide), HX.out])
      replace HK := Lib.hid ((HK.out.alloc _).keep hb)
      clear hb hpost y0 y1 y2 hbP
      go_wp2_with fail
      go_roundw
      case rel => exact ⟨k + 1, by omega, by go_num, HK.out.at (List.Mem.tail _ (List.Mem.head _)), HK.out.2⟩
      case measure => simp [intOf]; omega
    · have hk7 : ((k : Nat) : Int) = 6 := by omega
      rw [hk7]
      clear hk7 hlt6 hk6
      go_wp2_with fail
      exact HQ.out _ _ ⟨_, _, _, _, _, _, _, _, _, _, _, _, _, _, _, _, _, _, _, _, _, _, _, _, _, _, _, _, _, _, _, _, _, _, _, _, _, _, _, _, _, _, _, _, _, _, _, _, _, _, _, _, _, rfl, HK.out⟩

end Go.Proofs.Ytjidpkcoaoflbaa
