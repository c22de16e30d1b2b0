/-
  TrkXb
-/
import Derived.Test.YtikjjpjekchcjaaPbHTExamples1
namespace Go.Proofs.Ytikjjpjekchcjaa
open Go.RowKit TrkMath MyHeap MyOwn MyCopy
noncomputable def rg8C : Code := ((Try.f5.body.bind (regOf 8)).getD .skip)
set_option maxRecDepth 100000 in
set_option maxHeartbeats 32000000 in
theorem rg8 {u0 u1 u2 u4 u5 u6 u7 u8 u9 u10 u11 u12 u13 u14 u15 u16 u17 u18 u19 u20 u21 u22 u23 u24 u25 u26 u27 u28 u29 u30 u31 u32 u33 u34 u35 u36 u37 u38 u39 u40 u41 u42 u43 u44 u45 u46 u47 u48 u49 u50 u51 u52 u53 u54 u55 u56 u57 u58 u59 u60 u61 u62 u63 u64 u65 u66 u67 u68 u69 u70 u71 u72 u73 u74 u75 u76 u77 u78 u79 u80 u81 u82 u83 u84 u85 u86 u87 u88 u89 u90 u91 u92 u93 u94 u95 u96 u97 u98 u99 u100 u101 u102 u103 u104 u105 u106 u107 u108 u109 u110 u111 u112 u113 u114 u115 u116 u117 u118 u119 u120 u121 u122 u123 u124 u125 u126 u127 u128 u129 u130 u131 u132 u133 u134 u135 u136 u137 u138 u139 u140 u141 u142 u143 u144 u145 u146 u147 u148 u149 u150 u151 u152 u153 u154 u155 u156 u157 u158 u159 u160 u161 u162 u163 u164 u165 u166 u167 u168 u169 u170 u171 u172 u173 u174 u175 u176 u177 u178 u179 u180 u181 u182 u183 u184 u185 u186 u187 u188 u189 u190 u191 u192 u193 u194 u195 u196 u197 u198 u199 u200 u201 u202 u203 u204 u205 u206 u207 u208 u209 u210 u211 u212 u213 u214 u215 u216 u217 u218 u219 u220 u221 u222 u223 u224 u225 u226 u227 u228 u229 u230 u231 u232 u233 u234 u235 u236 u237 u238 u239 u240 u241 u242 u243 u244 u245 u246 u247 u248 u249 u250 u251 u252 u253 u254 u255 u256 u257 u258 u259 u260 u261 u262 u263 u264 u265 u266 u267 u268 u269 u270 u271 u272 u273 u274 u275 u276 u277 u278 u279 u280 u281 u282 u283 u284 u285 u286 u287 u288 u289 u290 u291 u292 u293 u294 u295 u296 u297 u298 u299 u300 u301 u302 u303 u304 u305 u306 u307 u308 u309 u310 u311 u312 u313 u314 u315 u316 u317 u318 u319 u320 u321 u322 u323 u324 u325 u326 u327 u328 u329 u330 u331 u332 u333 u334 u335 u336 u337 u338 u339 u340 u341 u342 u343 u344 u345 u346 u347 u348 u349 u350 u351 u352 u353 u354 u355 u356 u357 u358 u359 u360 u361 u362 u363 u364 u365 u366 u367 u368 u369 u370 v0 v1 v2 v3 : Value} (b : Nat) (E : Int) (wc : World) (Q0 : Exit → Act → World → Prop) (hb : wc.heap[b]? = some (.cells #[v0, v1, v2, v3] 23 (0, 0)))
    (hcall : ∀ (W : World) (g : Nat), Below wc.heap.size wc W → W.heap[g]? = some (.cells (madeCells #[.int .i64 0, .int .i64 0, .int .i64 0] 51) 40 (0, 0)) → Calls Try.prog 9 #[.agg #[v0, v1, v2, v3, .int .i64 0, .int .i64 0, .slice none 0 0], .slice (some ⟨g, 0, none⟩) 17 17] W (CyErr E W))
    (hpan : ∀ (c : List PanicEntry) (a : Act) d v (w : World), Q0 (.panic c) (a.put d v) w → Q0 (.panic c) a w) (hexit : ∀ a' W', (∃ u6 u7 u86 u87 u88 u89 u90 u91 u92 u93 : Value, a' = ⟨#[u0, u1, u2, .pointer (some ⟨b, 0, none⟩), u4, u5, u6, u7, .int .i64 E, u9, u10, u11, u12, u13, u14, u15, u16, u17, u18, u19, u20, u21, u22, u23, u24, u25, u26, u27, u28, u29, u30, u31, u32, u33, u34, u35, u36, u37, u38, u39, u40, u41, u42, u43, u44, u45, u46, u47, u48, u49, u50, u51, u52, u53, u54, u55, u56, u57, u58, u59, u60, u61, u62, u63, u64, u65, u66, u67, u68, u69, u70, u71, u72, u73, u74, u75, u76, u77, u78, u79, u80, u81, u82, u83, u84, u85, u86, u87, u88, u89, u90, u91, u92, u93, u94, u95, u96, u97, u98, u99, u100, u101, u102, u103, u104, u105, u106, u107, u108, u109, u110, u111, u112, u113, u114, u115, u116, u117, u118, u119, u120, u121, u122, u123, u124, u125, u126, u127, u128, u129, u130, u131, u132, u133, u134, u135, u136, u137, u138, u139, u140, u141, u142, u143, u144, u145, u146, u147, u148, u149, u150, u151, u152, u153, u154, u155, u156, u157, u158, u159, u160, u161, u162, u163, u164, u165, u166, u167, u168, u169, u170, u171, u172, u173, u174, u175, u176, u177, u178, u179, u180, u181, u182, u183, u184, u185, u186, u187, u188, u189, u190, u191, u192, u193, u194, u195, u196, u197, u198, u199, u200, u201, u202, u203, u204, u205, u206, u207, u208, u209, u210, u211, u212, u213, u214, u215, u216, u217, u218, u219, u220, u221, u222, u223, u224, u225, u226, u227, u228, u229, u230, u231, u232, u233, u234, u235, u236, u237, u238, u239, u240, u241, u242, u243, u244, u245, u246, u247, u248, u249, u250, u251, u252, u253, u254, u255, u256, u257, u258, u259, u260, u261, u262, u263, u264, u265, u266, u267, u268, u269, u270, u271, u272, u273, u274, u275, u276, u277, u278, u279, u280, u281, u282, u283, u284, u285, u286, u287, u288, u289, u290, u291, u292, u293, u294, u295, u296, u297, u298, u299, u300, u301, u302, u303, u304, u305, u306, u307, u308, u309, u310, u311, u312, u313, u314, u315, u316, u317, u318, u319, u320, u321, u322, u323, u324, u325, u326, u327, u328, u329, u330, u331, u332, u333, u334, u335, u336, u337, u338, u339, u340, u341, u342, u343, u344, u345, u346, u347, u348, u349, u350, u351, u352, u353, u354, u355, u356, u357, u358, u359, u360, u361, u362, u363, u364, u365, u366, u367, u368, u369, u370], []⟩ ∧ Below wc.heap.size wc W') → Q0 .normal a' W') :
    Code.wp Try.prog rg8C Q0 ⟨#[u0, u1, u2, .pointer (some ⟨b, 0, none⟩), u4, u5, u6, u7, u8, u9, u10, u11, u12, u13, u14, u15, u16, u17, u18, u19, u20, u21, u22, u23, u24, u25, u26, u27, u28, u29, u30, u31, u32, u33, u34, u35, u36, u37, u38, u39, u40, u41, u42, u43, u44, u45, u46, u47, u48, u49, u50, u51, u52, u53, u54, u55, u56, u57, u58, u59, u60, u61, u62, u63, u64, u65, u66, u67, u68, u69, u70, u71, u72, u73, u74, u75, u76, u77, u78, u79, u80, u81, u82, u83, u84, u85, u86, u87, u88, u89, u90, u91, u92, u93, u94, u95, u96, u97, u98, u99, u100, u101, u102, u103, u104, u105, u106, u107, u108, u109, u110, u111, u112, u113, u114, u115, u116, u117, u118, u119, u120, u121, u122, u123, u124, u125, u126, u127, u128, u129, u130, u131, u132, u133, u134, u135, u136, u137, u138, u139, u140, u141, u142, u143, u144, u145, u146, u147, u148, u149, u150, u151, u152, u153, u154, u155, u156, u157, u158, u159, u160, u161, u162, u163, u164, u165, u166, u167, u168, u169, u170, u171, u172, u173, u174, u175, u176, u177, u178, u179, u180, u181, u182, u183, u184, u185, u186, u187, u188, u189, u190, u191, u192, u193, u194, u195, u196, u197, u198, u199, u200, u201, u202, u203, u204, u205, u206, u207, u208, u209, u210, u211, u212, u213, u214, u215, u216, u217, u218, u219, u220, u221, u222, u223, u224, u225, u226, u227, u228, u229, u230, u231, u232, u233, u234, u235, u236, u237, u238, u239, u240, u241, u242, u243, u244, u245, u246, u247, u248, u249, u250, u251, u252, u253, u254, u255, u256, u257, u258, u259, u260, u261, u262, u263, u264, u265, u266, u267, u268, u269, u270, u271, u272, u273, u274, u275, u276, u277, u278, u279, u280, u281, u282, u283, u284, u285, u286, u287, u288, u289, u290, u291, u292, u293, u294, u295, u296, u297, u298, u299, u300, u301, u302, u303, u304, u305, u306, u307, u308, u309, u310, u311, u312, u313, u314, u315, u316, u317, u318, u319, u320, u321, u322, u323, u324, u325, u326, u327, u328, u329, u330, u331, u332, u333, u334, u335, u336, u337, u338, u339, u340, u341, u342, u343, u344, u345, u346, u347, u348, u349, u350, u351, u352, u353, u354, u355, u356, u357, u358, u359, u360, u361, u362, u363, u364, u365, u366, u367, u368, u369, u370], []⟩ wc := by
 conv => arg 2; whnf
 try dsimp only
 have HQ := Lib.hid hexit
 have HCall := Lib.hid hcall
 have HPan := Lib.hid hpan
 have KD := Lib.hid (show Below wc.heap.size wc wc.drew from below_drewN (Below.refl _ _) 1)
 have HS := Lib.hid (keepO KD.out hb)
 have HB := Lib.hid KD.out
 have mk := hmk17
 clear hexit hcall hpan hb KD
 refine MyHeldE.start (fun W => W.heap[b]? = some (.cells #[v0, v1, v2, v3] 23 (0, 0))) [9, 6, 7, 10, 11] (by kernel_rfl) ?_
 have hHeld := HS.out
 generalize wc.drew = wd at *
 refine MyHeldE.t1 0 (v := ?_) .z (fun _ _ _ h => HPan.out _ _ _ _ _ h) (by assumption) ?_ ?_
 rotate_left
 ·intro w hSw; obtain ⟨q0, q1, q2, q3⟩ := four_c hSw; go_simp; (try with_reducible rfl)
 try simp only [Act.put, List.setIfInBounds_toArray, List.set_cons_zero, List.set_cons_succ]
 refine MyHeldE.t1 1 (v := ?_) (.s .z) (fun _ _ _ h => HPan.out _ _ _ _ _ h) (by assumption) ?_ ?_
 rotate_left
 ·intro w hSw; go_simp; (try with_reducible rfl)
 try simp only [Act.put, List.setIfInBounds_toArray, List.set_cons_zero, List.set_cons_succ]
 refine MyHeldE.ready (rs := [2, 8]) (by kernel_rfl) (by simp) ?_
 refine (MyHeldE.next 2 (.s (.s .z)) (fun Kq hKq => ?_) (MyHeldE.next 8 (.s (.s (.s (.s (.s (.s (.s (.s .z)))))))) (fun Kq hKq => ?_) MyHeldE.All.nil))
 ·go_simp
  have hbm := below_alloc wd (.cells (madeCells #[.int .i64 0, .int .i64 0, .int .i64 0] 51) 40)
  have HPl := Lib.hid (show (wd.alloc (.cells (madeCells #[.int .i64 0, .int .i64 0, .int .i64 0] 51) 40)).heap[wd.heap.size]? = some (.cells (madeCells #[.int .i64 0, .int .i64 0, .int .i64 0] 51) 40 (0, 0)) from block_new _ _ rfl)
  replace HB := Lib.hid (HB.out.trans (hbm.mono HB.out.size))
  replace HS := Lib.hid (keepO hbm HS.out)
  clear hbm
  have hHeld2 := HS.out
  refine hKq.out _ _ (fun _ => hHeld2) ?_
  clear hKq Kq hHeld
  have hHeld := hHeld2
  clear hHeld2
  obtain ⟨gP, hgP⟩ : ∃ b, b = wd.heap.size := ⟨_, rfl⟩
  rw [← hgP] at HPl ⊢
  clear hgP
  generalize wd.alloc (.cells (madeCells #[.int .i64 0, .int .i64 0, .int .i64 0] 51) 40) = w1 at *
  try simp only [Act.put, List.setIfInBounds_toArray, List.set_cons_zero, List.set_cons_succ]
  refine MyHeldE.ready (rs := [3, 8]) (by kernel_rfl) (by simp) ?_
  refine (MyHeldE.next 3 (.s (.s (.s .z))) (fun Kq hKq => ?_) (MyHeldE.next 8 (.s (.s (.s (.s (.s (.s (.s (.s .z)))))))) (fun Kq hKq => ?_) MyHeldE.All.nil))
  ·go_simp
   go_at_call 9
   refine (HCall.out w1 gP HB.out HPl.out).mono ?_; rintro e w2 ⟨a', c', ea, ec, rfl, hb⟩
   replace HB := Lib.hid (HB.out.trans (hb.mono HB.out.size))
   replace HS := Lib.hid (keepO hb HS.out)
   clear hb
   have hHeld2 := HS.out
   refine hKq.out _ _ (fun _ => hHeld2) ?_
   clear hKq Kq hHeld
   have hHeld := hHeld2
   clear hHeld2
   try simp only [Act.put, List.setIfInBounds_toArray, List.set_cons_zero, List.set_cons_succ]
   refine MyHeldE.t2 4 (v := ?_) (.s (.s (.s (.s .z)))) (fun _ _ _ h => HPan.out _ _ _ _ _ h) (by assumption) ?_ ?_
   rotate_left
   ·intro w hSw; go_simp; (try with_reducible rfl)
   try simp only [Act.put, List.setIfInBounds_toArray, List.set_cons_zero, List.set_cons_succ]
   refine MyHeldE.t0 6 (v := ?_) (.s (.s (.s (.s (.s (.s .z)))))) (fun _ _ _ h => HPan.out _ _ _ _ _ h) ?_ ?_
   rotate_left
   ·intro w; go_simp; (try with_reducible rfl)
   try simp only [Act.put, List.setIfInBounds_toArray, List.set_cons_zero, List.set_cons_succ]
   refine MyHeldE.t0 7 (v := ?_) (.s (.s (.s (.s (.s (.s (.s .z))))))) (fun _ _ _ h => HPan.out _ _ _ _ _ h) ?_ ?_
   rotate_left
   ·intro w; go_simp; (try with_reducible rfl)
   try simp only [Act.put, List.setIfInBounds_toArray, List.set_cons_zero, List.set_cons_succ]
   refine MyHeldE.t2 5 (v := ?_) (.s (.s (.s (.s (.s .z))))) (fun _ _ _ h => HPan.out _ _ _ _ _ h) (by assumption) ?_ ?_
   rotate_left
   ·intro w hSw; go_simp; (try with_reducible rfl)
   try simp only [Act.put, List.setIfInBounds_toArray, List.set_cons_zero, List.set_cons_succ]
   refine MyHeldE.ready (rs := [8]) (by kernel_rfl) (by simp) ?_
   refine (MyHeldE.next 8 (.s (.s (.s (.s (.s (.s (.s (.s .z)))))))) (fun Kq hKq => ?_) MyHeldE.All.nil)
   go_simp
   have hbz := below_alloc w2 (.cells #[.int .i64 0, .int .i64 0, .int .i64 0, .int .i64 0, .int .i64 0, .int .i64 0, .slice none 0 0] 26)
   have HZ := Lib.hid (show (w2.alloc (.cells #[.int .i64 0, .int .i64 0, .int .i64 0, .int .i64 0, .int .i64 0, .int .i64 0, .slice none 0 0] 26)).heap[w2.heap.size]? = some (.cells #[.int .i64 0, .int .i64 0, .int .i64 0, .int .i64 0, .int .i64 0, .int .i64 0, .slice none 0 0] 26 (0, 0)) from block_new _ _ rfl)
   have HZl := Lib.hid (show wc.heap.size ≤ w2.heap.size from HB.out.size)
   replace HB := Lib.hid (HB.out.trans (hbz.mono HB.out.size))
   replace HS := Lib.hid (keepO hbz HS.out)
   try replace HPl := Lib.hid (keepO hbz HPl.out)
   clear hbz
   have hHeld2 := HS.out
   refine hKq.out _ _ (fun _ => hHeld2) ?_
   clear hKq Kq hHeld
   have hHeld := hHeld2
   clear hHeld2
   obtain ⟨TB, hTB⟩ : ∃ b, b = w2.heap.size := ⟨_, rfl⟩
   rw [← hTB] at HZ HZl ⊢
   clear hTB
   generalize w2.alloc (.cells #[.int .i64 0, .int .i64 0, .int .i64 0, .int .i64 0, .int .i64 0, .int .i64 0, .slice none 0 0] 26) = w3 at *
   try simp only [Act.put, List.setIfInBounds_toArray, List.set_cons_zero, List.set_cons_succ]
   obtain ⟨z0, z1, z2, z3, z4, z5, z6⟩ := seven_new HZ.out
   obtain ⟨f0, f1, f2, f3, f4, f5, f6⟩ := seven_free HZ.out
   have zl := lt_of_block HZ.out
   refine MyHeldE.ready (rs := [9]) (by kernel_rfl) (by simp) ?_
   refine (MyHeldE.next 9 (.s (.s (.s (.s (.s (.s (.s (.s (.s .z))))))))) (fun Kq hKq => ?_) MyHeldE.All.nil)
   go_simp
   refine hKq.out _ _ (fun e => by cases e) ?_
   clear hKq Kq
   try simp only [Act.put, List.setIfInBounds_toArray, List.set_cons_zero, List.set_cons_succ]
   refine MyHeldE.t0 10 (v := ?_) (.s (.s (.s (.s (.s (.s (.s (.s (.s (.s .z)))))))))) (fun _ _ _ h => HPan.out _ _ _ _ _ h) ?_ ?_
   rotate_left
   ·intro w; go_simp; (try with_reducible rfl)
   try simp only [Act.put, List.setIfInBounds_toArray, List.set_cons_zero, List.set_cons_succ]
   refine MyHeldE.t0 11 (v := ?_) (.s (.s (.s (.s (.s (.s (.s (.s (.s (.s (.s .z))))))))))) (fun _ _ _ h => HPan.out _ _ _ _ _ h) ?_ ?_
   rotate_left
   ·intro w; go_simp; (try with_reducible rfl)
   try simp only [Act.put, List.setIfInBounds_toArray, List.set_cons_zero, List.set_cons_succ]
   refine MyHeldE.done (by kernel_rfl) ?_ _
   have HO := (tb_only w3 TB (.int .i64 0) (.int .i64 0) (.int .i64 0) (.int .i64 0) (.int .i64 0) (.int .i64 0) (.slice a' 0 c')).below HZl.out HB.out.size
   exact HQ.out _ _ ⟨_, _, _, _, _, _, _, _, _, _, rfl, HB.out.trans HO⟩
  ·go_simp
   have hbz := below_alloc w1 (.cells #[.int .i64 0, .int .i64 0, .int .i64 0, .int .i64 0, .int .i64 0, .int .i64 0, .slice none 0 0] 26)
   have HZ := Lib.hid (show (w1.alloc (.cells #[.int .i64 0, .int .i64 0, .int .i64 0, .int .i64 0, .int .i64 0, .int .i64 0, .slice none 0 0] 26)).heap[w1.heap.size]? = some (.cells #[.int .i64 0, .int .i64 0, .int .i64 0, .int .i64 0, .int .i64 0, .int .i64 0, .slice none 0 0] 26 (0, 0)) from block_new _ _ rfl)
   have HZl := Lib.hid (show wc.heap.size ≤ w1.heap.size from HB.out.size)
   replace HB := Lib.hid (HB.out.trans (hbz.mono HB.out.size))
   replace HS := Lib.hid (keepO hbz HS.out)
   try replace HPl := Lib.hid (keepO hbz HPl.out)
   clear hbz
   have hHeld2 := HS.out
   refine hKq.out _ _ (fun _ => hHeld2) ?_
   clear hKq Kq hHeld
   have hHeld := hHeld2
   clear hHeld2
   obtain ⟨TB, hTB⟩ : ∃ b, b = w1.heap.size := ⟨_, rfl⟩
   rw [← hTB] at HZ HZl ⊢
   clear hTB
   generalize w1.alloc (.cells #[.int .i64 0, .int .i64 0, .int .i64 0, .int .i64 0, .int .i64 0, .int .i64 0, .slice none 0 0] 26) = w2 at *
   try simp only [Act.put, List.setIfInBounds_toArray, List.set_cons_zero, List.set_cons_succ]
   refine MyHeldE.ready (rs := [3]) (by kernel_rfl) (by simp) ?_
   refine (MyHeldE.next 3 (.s (.s (.s .z))) (fun Kq hKq => ?_) MyHeldE.All.nil)
   go_simp
   go_at_call 9
   refine (HCall.out w2 gP HB.out HPl.out).mono ?_; rintro e w3 ⟨a', c', ea, ec, rfl, hb⟩
   replace HB := Lib.hid (HB.out.trans (hb.mono HB.out.size))
   replace HS := Lib.hid (keepO hb HS.out)
   replace HZ := Lib.hid (keepO hb HZ.out)
   clear hb
   have hHeld2 := HS.out
   refine hKq.out _ _ (fun _ => hHeld2) ?_
   clear hKq Kq hHeld
   have hHeld := hHeld2
   clear hHeld2
   try simp only [Act.put, List.setIfInBounds_toArray, List.set_cons_zero, List.set_cons_succ]
   refine MyHeldE.t2 4 (v := ?_) (.s (.s (.s (.s .z)))) (fun _ _ _ h => HPan.out _ _ _ _ _ h) (by assumption) ?_ ?_
   rotate_left
   ·intro w hSw; go_simp; (try with_reducible rfl)
   try simp only [Act.put, List.setIfInBounds_toArray, List.set_cons_zero, List.set_cons_succ]
   refine MyHeldE.t0 6 (v := ?_) (.s (.s (.s (.s (.s (.s .z)))))) (fun _ _ _ h => HPan.out _ _ _ _ _ h) ?_ ?_
   rotate_left
   ·intro w; go_simp; (try with_reducible rfl)
   try simp only [Act.put, List.setIfInBounds_toArray, List.set_cons_zero, List.set_cons_succ]
   refine MyHeldE.t0 7 (v := ?_) (.s (.s (.s (.s (.s (.s (.s .z))))))) (fun _ _ _ h => HPan.out _ _ _ _ _ h) ?_ ?_
   rotate_left
   ·intro w; go_simp; (try with_reducible rfl)
   try simp only [Act.put, List.setIfInBounds_toArray, List.set_cons_zero, List.set_cons_succ]
   refine MyHeldE.t2 5 (v := ?_) (.s (.s (.s (.s (.s .z))))) (fun _ _ _ h => HPan.out _ _ _ _ _ h) (by assumption) ?_ ?_
   rotate_left
   ·intro w hSw; go_simp; (try with_reducible rfl)
   try simp only [Act.put, List.setIfInBounds_toArray, List.set_cons_zero, List.set_cons_succ]
   obtain ⟨z0, z1, z2, z3, z4, z5, z6⟩ := seven_new HZ.out
   obtain ⟨f0, f1, f2, f3, f4, f5, f6⟩ := seven_free HZ.out
   have zl := lt_of_block HZ.out
   refine MyHeldE.ready (rs := [9]) (by kernel_rfl) (by simp) ?_
   refine (MyHeldE.next 9 (.s (.s (.s (.s (.s (.s (.s (.s (.s .z))))))))) (fun Kq hKq => ?_) MyHeldE.All.nil)
   go_simp
   refine hKq.out _ _ (fun e => by cases e) ?_
   clear hKq Kq
   try simp only [Act.put, List.setIfInBounds_toArray, List.set_cons_zero, List.set_cons_succ]
   refine MyHeldE.t0 10 (v := ?_) (.s (.s (.s (.s (.s (.s (.s (.s (.s (.s .z)))))))))) (fun _ _ _ h => HPan.out _ _ _ _ _ h) ?_ ?_
   rotate_left
   ·intro w; go_simp; (try with_reducible rfl)
   try simp only [Act.put, List.setIfInBounds_toArray, List.set_cons_zero, List.set_cons_succ]
   refine MyHeldE.t0 11 (v := ?_) (.s (.s (.s (.s (.s (.s (.s (.s (.s (.s (.s .z))))))))))) (fun _ _ _ h => HPan.out _ _ _ _ _ h) ?_ ?_
   rotate_left
   ·intro w; go_simp; (try with_reducible rfl)
   try simp only [Act.put, List.setIfInBounds_toArray, List.set_cons_zero, List.set_cons_succ]
   refine MyHeldE.done (by kernel_rfl) ?_ _
   have HO := (tb_only w3 TB (.int .i64 0) (.int .i64 0) (.int .i64 0) (.int .i64 0) (.int .i64 0) (.int .i64 0) (.slice a' 0 c')).below HZl.out HB.out.size
   exact HQ.out _ _ ⟨_, _, _, _, _, _, _, _, _, _, rfl, HB.out.trans HO⟩
 ·go_simp
  have hbz := below_alloc wd (.cells #[.int .i64 0, .int .i64 0, .int .i64 0, .int .i64 0, .int .i64 0, .int .i64 0, .slice none 0 0] 26)
  have HZ := Lib.hid (show (wd.alloc (.cells #[.int .i64 0, .int .i64 0, .int .i64 0, .int .i64 0, .int .i64 0, .int .i64 0, .slice none 0 0] 26)).heap[wd.heap.size]? = some (.cells #[.int .i64 0, .int .i64 0, .int .i64 0, .int .i64 0, .int .i64 0, .int .i64 0, .slice none 0 0] 26 (0, 0)) from block_new _ _ rfl)
  have HZl := Lib.hid (show wc.heap.size ≤ wd.heap.size from HB.out.size)
  replace HB := Lib.hid (HB.out.trans (hbz.mono HB.out.size))
  replace HS := Lib.hid (keepO hbz HS.out)
  try replace HPl := Lib.hid (keepO hbz HPl.out)
  clear hbz
  have hHeld2 := HS.out
  refine hKq.out _ _ (fun _ => hHeld2) ?_
  clear hKq Kq hHeld
  have hHeld := hHeld2
  clear hHeld2
  obtain ⟨TB, hTB⟩ : ∃ b, b = wd.heap.size := ⟨_, rfl⟩
  rw [← hTB] at HZ HZl ⊢
  clear hTB
  generalize wd.alloc (.cells #[.int .i64 0, .int .i64 0, .int .i64 0, .int .i64 0, .int .i64 0, .int .i64 0, .slice none 0 0] 26) = w1 at *
  try simp only [Act.put, List.setIfInBounds_toArray, List.set_cons_zero, List.set_cons_succ]
  refine MyHeldE.ready (rs := [2]) (by kernel_rfl) (by simp) ?_
  refine (MyHeldE.next 2 (.s (.s .z)) (fun Kq hKq => ?_) MyHeldE.All.nil)
  go_simp
  have hbm := below_alloc w1 (.cells (madeCells #[.int .i64 0, .int .i64 0, .int .i64 0] 51) 40)
  have HPl := Lib.hid (show (w1.alloc (.cells (madeCells #[.int .i64 0, .int .i64 0, .int .i64 0] 51) 40)).heap[w1.heap.size]? = some (.cells (madeCells #[.int .i64 0, .int .i64 0, .int .i64 0] 51) 40 (0, 0)) from block_new _ _ rfl)
  replace HB := Lib.hid (HB.out.trans (hbm.mono HB.out.size))
  replace HS := Lib.hid (keepO hbm HS.out)
  replace HZ := Lib.hid (keepO hbm HZ.out)
  clear hbm
  have hHeld2 := HS.out
  refine hKq.out _ _ (fun _ => hHeld2) ?_
  clear hKq Kq hHeld
  have hHeld := hHeld2
  clear hHeld2
  obtain ⟨gP, hgP⟩ : ∃ b, b = w1.heap.size := ⟨_, rfl⟩
  rw [← hgP] at HPl ⊢
  clear hgP
  generalize w1.alloc (.cells (madeCells #[.int .i64 0, .int .i64 0, .int .i64 0] 51) 40) = w2 at *
  try simp only [Act.put, List.setIfInBounds_toArray, List.set_cons_zero, List.set_cons_succ]
  refine MyHeldE.ready (rs := [3]) (by kernel_rfl) (by simp) ?_
  refine (MyHeldE.next 3 (.s (.s (.s .z))) (fun Kq hKq => ?_) MyHeldE.All.nil)
  go_simp
  go_at_call 9
  refine (HCall.out w2 gP HB.out HPl.out).mono ?_; rintro e w3 ⟨a', c', ea, ec, rfl, hb⟩
  replace HB := Lib.hid (HB.out.trans (hb.mono HB.out.size))
  replace HS := Lib.hid (keepO hb HS.out)
  replace HZ := Lib.hid (keepO hb HZ.out)
  clear hb
  have hHeld2 := HS.out
  refine hKq.out _ _ (fun _ => hHeld2) ?_
  clear hKq Kq hHeld
  have hHeld := hHeld2
  clear hHeld2
  try simp only [Act.put, List.setIfInBounds_toArray, List.set_cons_zero, List.set_cons_succ]
  refine MyHeldE.t2 4 (v := ?_) (.s (.s (.s (.s .z)))) (fun _ _ _ h => HPan.out _ _ _ _ _ h) (by assumption) ?_ ?_
  rotate_left
  ·intro w hSw; go_simp; (try with_reducible rfl)
  try simp only [Act.put, List.setIfInBounds_toArray, List.set_cons_zero, List.set_cons_succ]
  refine MyHeldE.t0 6 (v := ?_) (.s (.s (.s (.s (.s (.s .z)))))) (fun _ _ _ h => HPan.out _ _ _ _ _ h) ?_ ?_
  rotate_left
  ·intro w; go_simp; (try with_reducible rfl)
  try simp only [Act.put, List.setIfInBounds_toArray, List.set_cons_zero, List.set_cons_succ]
  refine MyHeldE.t0 7 (v := ?_) (.s (.s (.s (.s (.s (.s (.s .z))))))) (fun _ _ _ h => HPan.out _ _ _ _ _ h) ?_ ?_
  rotate_left
  ·intro w; go_simp; (try with_reducible rfl)
  try simp only [Act.put, List.setIfInBounds_toArray, List.set_cons_zero, List.set_cons_succ]
  refine MyHeldE.t2 5 (v := ?_) (.s (.s (.s (.s (.s .z))))) (fun _ _ _ h => HPan.out _ _ _ _ _ h) (by assumption) ?_ ?_
  rotate_left
  ·intro w hSw; go_simp; (try with_reducible rfl)
  try simp only [Act.put, List.setIfInBounds_toArray, List.set_cons_zero, List.set_cons_succ]
  obtain ⟨z0, z1, z2, z3, z4, z5, z6⟩ := seven_new HZ.out
  obtain ⟨f0, f1, f2, f3, f4, f5, f6⟩ := seven_free HZ.out
  have zl := lt_of_block HZ.out
  refine MyHeldE.ready (rs := [9]) (by kernel_rfl) (by simp) ?_
  refine (MyHeldE.next 9 (.s (.s (.s (.s (.s (.s (.s (.s (.s .z))))))))) (fun Kq hKq => ?_) MyHeldE.All.nil)
  go_simp
  refine hKq.out _ _ (fun e => by cases e) ?_
  clear hKq Kq
  try simp only [Act.put, List.setIfInBounds_toArray, List.set_cons_zero, List.set_cons_succ]
  refine MyHeldE.t0 10 (v := ?_) (.s (.s (.s (.s (.s (.s (.s (.s (.s (.s .z)))))))))) (fun _ _ _ h => HPan.out _ _ _ _ _ h) ?_ ?_
  rotate_left
  ·intro w; go_simp; (try with_reducible rfl)
  try simp only [Act.put, List.setIfInBounds_toArray, List.set_cons_zero, List.set_cons_succ]
  refine MyHeldE.t0 11 (v := ?_) (.s (.s (.s (.s (.s (.s (.s (.s (.s (.s (.s .z))))))))))) (fun _ _ _ h => HPan.out _ _ _ _ _ h) ?_ ?_
  rotate_left
  ·intro w; go_simp; (try with_reducible rfl)
  try simp only [Act.put, List.setIfInBounds_toArray, List.set_cons_zero, List.set_cons_succ]
  refine MyHeldE.done (by kernel_rfl) ?_ _
  have HO := (tb_only w3 TB (.int .i64 0) (.int .i64 0) (.int .i64 0) (.int .i64 0) (.int .i64 0) (.int .i64 0) (.slice a' 0 c')).below HZl.out HB.out.size
  exact HQ.out _ _ ⟨_, _, _, _, _, _, _, _, _, _, rfl, HB.out.trans HO⟩
end Go.Proofs.Ytikjjpjekchcjaa
