/-
  TrkKd
-/
import Derived.Test.YtikjjpjekchcjaaGreatPm34
import Derived.Test.YtikjjpjekchcjaaGreatPm37
set_option linter.all false
set_option maxRecDepth 100000
set_option maxHeartbeats 64000000
namespace Go.Proofs.YtikjjpjekchcjaaGreat
open Go.RowKit TrkMath MyHeap MyOwn MyCopy
noncomputable def rlp4C : Code := ((Tryz.f9.body.bind (cutL 29)).getD .skip)
theorem rlp4 {u0 u3 u4 u5 u6 u7 u10 u11 u12 u13 u14 u15 u16 u17 u19 u23 u24 u25 u26 u27 u28 u29 u30 u31 u32 u33 u34 u35 u36 u37 u38 u39 u40 u41 u42 u43 u44 u45 u46 u47 u48 u49 u50 u51 u52 u53 u54 u55 u56 u57 u58 u59 u60 u61 u62 u63 u64 u65 u66 u67 u68 u69 u70 u71 u72 u73 u74 u75 u76 u77 u78 u79 u80 u81 u82 u83 u84 u85 u86 u87 u88 u89 u90 u91 u92 u93 u94 u95 u96 u97 u98 u99 u100 u101 u102 u103 u104 u105 u106 u107 u108 u109 u110 u111 u112 u113 u114 u115 u116 u117 u118 u119 u120 u121 u122 u123 u124 u125 u126 u127 u128 u129 u130 u131 u132 u133 u134 u135 u136 u137 u138 u139 u140 u141 u142 u143 u144 u145 u146 u147 u148 u149 u150 u151 u152 u153 u154 u155 u156 u157 u158 u159 u160 u161 u162 u163 u164 u165 u166 u167 u168 u169 u170 u171 u172 u173 u174 u175 u176 u177 u178 u179 u180 u181 u182 u183 u184 u185 u186 u187 u188 u189 u190 u191 u192 u193 u194 u195 u196 u197 u198 u199 u200 u201 u202 u203 u204 u205 u206 u207 u208 u209 u210 u211 u212 u213 u214 u215 u216 u217 u218 u219 u220 u221 u222 u223 u224 u225 u226 u227 u228 u229 u230 u231 u232 u233 u234 u235 u236 u237 u238 u239 u240 u241 u242 u243 u244 u245 u246 u247 u248 u249 u250 u251 u252 u253 u254 u255 u256 u257 u258 u259 u260 u261 u262 u263 u264 u265 u266 u267 u268 u269 u270 u271 u272 u273 u274 u275 u276 u277 u278 u279 u280 u281 u282 u283 u284 u285 u286 u287 u288 u289 u290 u291 u292 u293 u294 u295 : Value} (p : Par) (now next nw nx : Int) (a aV aP pa : Option Addr) (n c m cV np cP tb ob ub pn pc : Nat) (L : List TB) (P : List Pl) (lp : List (Nat × Nat)) (l : List (Nat × Array Value)) (eV : Value) (E0 : List Ev) (w0 wc : World) (Q0 : Exit → Act → World → Prop)
    (hK : R4 w0 ob ub (outC p nw nx (.slice none 0 0)) l eV E0 (.slice none 0 0) [] (.slice aV m cV) L (usC pn (usR lp 0)) (.slice aP np cP) np (flat2 (Asg.toP lp)) [] wc) (hP : Pls w0 pa pn P) (hL : L.length = m) (hl : lp.length = np) (hok : ∀ k, k < m → TkOk p (gt L k).1) (hpar : ParOk p) (hpl : ∀ k, k < pn → plE (gp P k) = 0) (m16 : m ≤ 16) (p16 : pn ≤ 16) (n16 : np ≤ 16) (hpr : PrOk p (fsts L) P lp) (hE0 : E0.length ≤ 100) (htb : (tb, #[.int .i64 p.gate, .int .i64 p.need, .int .i64 p.most, .int .i64 p.pull, .int .i64 now, .int .i64 next, .slice a n c]) ∈ l) (hpan : ∀ (c : List PanicEntry) (a : Act) d v (w : World), Q0 (.panic c) (a.put d v) w → Q0 (.panic c) a w)
    (hexit : ∀ (u23 u24 u25 u26 u125 u126 u127 u128 u129 u130 u131 u132 u133 u134 u135 u136 u137 u138 u139 u140 u141 u142 u143 u144 u145 u146 u147 u148 u149 u150 u151 u152 u153 u154 u155 u156 u157 u158 u159 u160 u161 u162 u163 u164 u165 u166 u167 u168 u169 u170 u171 u172 u173 u174 u175 u176 u177 u178 u179 u180 u181 u182 u183 u184 u185 u186 u187 u188 u189 u190 u191 u192 u193 u194 u195 u196 u197 u198 u199 u200 u201 u202 u203 u204 u205 u206 u207 u208 u209 u210 u211 u212 u213 u214 u215 u216 u217 u218 u219 u220 u221 eW lW : Value) (E : List Ev) (M : List TB) (W' : World) (_ : R4 w0 ob ub (outC p nw nx lW) l eW E lW M (.slice aV m cV) L (usC pn (usR lp m)) (.slice aP np cP) np (flat2 (Asg.toP lp)) [] W' ∧ fsts M = (updA p P (ofF lp) (fsts L) m).1 ∧ E = E0 ++ (updA p P (ofF lp) (fsts L) m).2), Q0 (.exit 6) ⟨#[u0, .slice pa pn pc, .pointer (some ⟨tb, 0, none⟩), u3, u4, u5, u6, u7, eW, .slice aV m cV, u10, u11, u12, u13, u14, u15, u16, u17, .slice aP np cP, u19, .pointer (some ⟨ob, 0, none⟩), .slice (some ⟨ub, 0, none⟩) pn pn, .int .i64 (m : Int), u23, u24, u25, u26, u27, u28, u29, u30, u31, u32, u33, u34, u35, u36, u37, u38, u39, u40, u41, u42, u43, u44, u45, u46, u47, u48, u49, u50, u51, u52, u53, u54, u55, u56, u57, u58, u59, u60, u61, u62, u63, u64, u65, u66, u67, u68, u69, u70, u71, u72, u73, u74, u75, u76, u77, u78, u79, u80, u81, u82, u83, u84, u85, u86, u87, u88, u89, u90, u91, u92, u93, u94, u95, u96, u97, u98, u99, u100, u101, u102, u103, u104, u105, u106, u107, u108, u109, u110, u111, u112, u113, u114, u115, u116, u117, u118, u119, u120, u121, u122, u123, u124, u125, u126, u127, u128, u129, u130, u131, u132, u133, u134, u135, u136, u137, u138, u139, u140, u141, u142, u143, u144, u145, u146, u147, u148, u149, u150, u151, u152, u153, u154, u155, u156, u157, u158, u159, u160, u161, u162, u163, u164, u165, u166, u167, u168, u169, u170, u171, u172, u173, u174, u175, u176, u177, u178, u179, u180, u181, u182, u183, u184, u185, u186, u187, u188, u189, u190, u191, u192, u193, u194, u195, u196, u197, u198, u199, u200, u201, u202, u203, u204, u205, u206, u207, u208, u209, u210, u211, u212, u213, u214, u215, u216, u217, u218, u219, u220, u221, u222, u223, u224, u225, u226, u227, u228, u229, u230, u231, u232, u233, u234, u235, u236, u237, u238, u239, u240, u241, u242, u243, u244, u245, u246, u247, u248, u249, u250, u251, u252, u253, u254, u255, u256, u257, u258, u259, u260, u261, u262, u263, u264, u265, u266, u267, u268, u269, u270, u271, u272, u273, u274, u275, u276, u277, u278, u279, u280, u281, u282, u283, u284, u285, u286, u287, u288, u289, u290, u291, u292, u293, u294, u295], []⟩ W') :
    Code.wp Tryz.prog rlp4C Q0 ⟨#[u0, .slice pa pn pc, .pointer (some ⟨tb, 0, none⟩), u3, u4, u5, u6, u7, eV, .slice aV m cV, u10, u11, u12, u13, u14, u15, u16, u17, .slice aP np cP, u19, .pointer (some ⟨ob, 0, none⟩), .slice (some ⟨ub, 0, none⟩) pn pn, .int .i64 0, u23, u24, u25, u26, u27, u28, u29, u30, u31, u32, u33, u34, u35, u36, u37, u38, u39, u40, u41, u42, u43, u44, u45, u46, u47, u48, u49, u50, u51, u52, u53, u54, u55, u56, u57, u58, u59, u60, u61, u62, u63, u64, u65, u66, u67, u68, u69, u70, u71, u72, u73, u74, u75, u76, u77, u78, u79, u80, u81, u82, u83, u84, u85, u86, u87, u88, u89, u90, u91, u92, u93, u94, u95, u96, u97, u98, u99, u100, u101, u102, u103, u104, u105, u106, u107, u108, u109, u110, u111, u112, u113, u114, u115, u116, u117, u118, u119, u120, u121, u122, u123, u124, u125, u126, u127, u128, u129, u130, u131, u132, u133, u134, u135, u136, u137, u138, u139, u140, u141, u142, u143, u144, u145, u146, u147, u148, u149, u150, u151, u152, u153, u154, u155, u156, u157, u158, u159, u160, u161, u162, u163, u164, u165, u166, u167, u168, u169, u170, u171, u172, u173, u174, u175, u176, u177, u178, u179, u180, u181, u182, u183, u184, u185, u186, u187, u188, u189, u190, u191, u192, u193, u194, u195, u196, u197, u198, u199, u200, u201, u202, u203, u204, u205, u206, u207, u208, u209, u210, u211, u212, u213, u214, u215, u216, u217, u218, u219, u220, u221, u222, u223, u224, u225, u226, u227, u228, u229, u230, u231, u232, u233, u234, u235, u236, u237, u238, u239, u240, u241, u242, u243, u244, u245, u246, u247, u248, u249, u250, u251, u252, u253, u254, u255, u256, u257, u258, u259, u260, u261, u262, u263, u264, u265, u266, u267, u268, u269, u270, u271, u272, u273, u274, u275, u276, u277, u278, u279, u280, u281, u282, u283, u284, u285, u286, u287, u288, u289, u290, u291, u292, u293, u294, u295], []⟩ wc := by
 conv => arg 2; whnf
 try dsimp only
 have HK0 := qh hK
 have HP := qh hP
 have HLn := qh (And.intro hL (And.intro hP.len hl))
 have HO := qh (And.intro hok (And.intro hpar hpl))
 have HN := qh (And.intro m16 (And.intro p16 n16))
 have HPd := qh hpr
 have HE0 := qh hE0
 have HTB := qh htb
 obtain ⟨i0, hi0, hz0, hs0, hb0⟩ := b6 kB
 have HF := qh (And.intro hi0 (And.intro hz0 (And.intro hs0 hb0)))
 obtain ⟨i1, hi1, hz1, hs1, hb1⟩ := b6 infoEr
 have HG := qh (And.intro hi1 (And.intro hz1 (And.intro hs1 hb1)))
 have HQ := qh hexit
 have HPan := qh hpan
 clear hK hP hL hl hok hpar hpl m16 p16 n16 hpr hE0 htb hexit hpan hi0 hz0 hs0 hb0 hi1 hz1 hs1 hb1
 go_loopw [8, 22] (fun ev kv wr => ∃ (i : Nat) (E : List Ev) (lV : Value) (N : List TB), i ≤ m ∧ kv = .int .i64 i ∧ R4 w0 ob ub (outC p nw nx lV) l ev E lV N (.slice aV m cV) L (usC pn (usR lp i)) (.slice aP np cP) np (flat2 (Asg.toP lp)) [] wr ∧ fsts N = (updA p P (ofF lp) (fsts L) i).1 ∧ E = E0 ++ (updA p P (ofF lp) (fsts L) i).2) (fun _ kv _ => m - (intOf kv).toNat)
 case atStart => exact ⟨0, E0, .slice none 0 0, [], by omega, rfl, HK0.out, rfl, (List.append_nil _).symm⟩
 case round =>
  clear HK0
  obtain ⟨i, E, lV, N, hi, rfl, hK, hM1, hM2⟩ := hrel
  obtain ⟨aE, cE, rfl⟩ := aU hK.K.E
  have K := qh hK
  have HM := qh (And.intro hM1 hM2)
  clear hK hM1 hM2
  by_cases hlt : i < m
  ·obtain ⟨b, off, rfl, hq⟩ := eO (K.out.S.trs HLn.out.1 (by have := HN.out.1; omega)) hlt
   have HLt := qh hlt
   have HQ1 := qh (fX L i)
   have HBd := qh (K.out.band (q := gt L i) (k := i) (by rw [HLn.out.1]; exact hlt))
   have HOk := qh (HO.out.1 i hlt)
   have KA := qh (Rx.new (gt L i) K.out)
   have HUs := qh (iU p P (ofF lp) (fsts L) i)
   obtain ⟨q, hqe⟩ : ∃ q, gt L i = q := ⟨_, rfl⟩
   rw [HQ1.out] at HUs
   rw [hqe] at hq HQ1 HBd HOk KA HUs
   obtain ⟨x0, x1, x2, x3, x4, x5, x6, x7, x8, x9⟩ := hq
   have xl := World.block_lt_of_cell? _ _ x0
   have hk0 : (0 : Int) ≤ (i : Int) := by omega
   have hk1 : (i : Int) < (m : Int) := by omega
   have hiw : IntKind.i64.wrap ((i : Int) + 1) = ((i + 1 : Nat) : Int) := by have := HN.out.1; rw [IntWalk.i64_in _ (by omega)]; omega
   clear hqe hlt
   unfold tkC at KA HBd
   obtain ⟨⟨id, addr, ⟨g0, g1, g2⟩, lo, hi, hits, misses, firm⟩, ⟨aL, nL, cL, aH, nH, cH⟩⟩ := q
   simp only [] at x0 x1 x2 x3 x4 x5 x6 x7 x8 x9 KA HBd HOk HQ1 HUs
   go_upto_region 32 with fail
   clear x0 x1 x2 x3 x4 x5 x6 x7 x8 x9 xl
   obtain ⟨T, hTe⟩ : ∃ T, T = wr.heap.size := ⟨_, rfl⟩
   rw [← hTe] at KA HBd ⊢
   generalize wr.alloc (.cells #[.int .i64 id, .int .i64 addr, .int .i64 g0, .int .i64 g1, .int .i64 g2, .slice aL nL cL, .slice aH nH cH, .int .i64 hits, .int .i64 misses, .bool firm] 55) = wa at *
   clear hTe K
   have HMl := qh (show N.length ≤ 16 from by
    have h1 := j4 (p := p) (P := P) (of := ofF lp) (L := fsts L) i
    rw [← HM.out.1, aY] at h1
    have := HLt.out; have := HN.out.1; omega)
   have HEl := qh (show E.length ≤ 140 from by
    have h1 := iM (p := p) (P := P) (of := ofF lp) (L := fsts L) i
    have := HE0.out; have := HLt.out; have := HN.out.1
    rw [HM.out.2, List.length_append]; omega)
   have HPr := qh (prs_of KA.out.P (by rw [Asg.toP_len]; exact HLn.out.2.2) (by have := HN.out.2.2; omega))
   go_wp2_with fail
   go_loopw [24, 25] (fun kv nv w2 => ∃ j, j ≤ np ∧ kv = .int .i64 (pkF lp i j) ∧ nv = .int .i64 (j : Int) ∧ wa = w2) (fun _ nv _ => np - (intOf nv).toNat)
   case atStart => exact ⟨0, by omega, rfl, rfl, rfl⟩
   case round =>
    obtain ⟨j, hj, rfl, rfl, rfl⟩ := hrel
    by_cases hjl : j < np
    ·have hj0 : (0 : Int) ≤ (j : Int) := by omega
     have hj1 : (j : Int) < (np : Int) := by omega
     have hjw : IntKind.i64.wrap ((j : Int) + 1) = ((j + 1 : Nat) : Int) := by have := HN.out.2.2; rw [IntWalk.i64_in _ (by omega)]; omega
     have hjl2 : j < lp.length := by rw [HLn.out.2.2]; exact hjl
     obtain ⟨d, of, rfl, y0, y1⟩ := prs_at HPr.out hjl
     rw [toP_at lp hjl2] at y0 y1
     have yl := World.block_lt_of_cell? _ _ y0
     have hgd : (lp[j]?.getD (0, 0)) = lp[j] := by rw [List.getElem?_eq_getElem hjl2]; rfl
     have HJl := qh hjl
     obtain ⟨⟨u, v⟩, huv⟩ : ∃ q, lp[j] = q := ⟨_, rfl⟩
     rw [huv] at y0 y1 hgd
     simp only [] at y0 y1
     by_cases hu : u = i
     ·have hpk := pkF_yes (i := i) hjl2 (by rw [hgd]; exact hu)
      rw [hgd] at hpk
      have HPk := qh hpk
      have hub : ((u : Int) == (i : Int)) = true := by rw [hu]; exact beq_self_eq_true _
      clear hu hjl hjl2 huv hgd hpk
      go_wp2_with fail
      refine ⟨⟨j + 1, HJl.out, by rw [HPk.out], by go_num, trivial⟩, by simp [intOf]; have := HJl.out; omega⟩
     have HPk := qh (pkF_no (l := lp) (i := i) (n := j) (by rw [hgd]; exact hu))
     have hub : ((u : Int) == (i : Int)) = false := by rw [beq_eq_false_iff_ne]; omega
     clear hu hjl hjl2 huv hgd
     go_wp2_with fail
     refine ⟨⟨j + 1, HJl.out, by rw [HPk.out], by go_num, trivial⟩, by simp [intOf]; have := HJl.out; omega⟩
    obtain rfl : np = j := by omega
    have hpk := pkF_eq (PrOk.far HPd.out) i
    rw [HLn.out.2.2] at hpk
    rw [hpk]
    clear hpk HPr hj hjl
    cases hof : ofF lp i with
    | none =>
     have HU1 := qh (usR_none hof)
     rw [okF_none hof]
     rw [hof] at HUs
     clear hof
     have hmis : 0 ≤ misses ∧ misses ≤ p.most - 1 := HOk.out.mis
     have hmost := HO.out.2.1.2.2.1
     have hmw : IntKind.i64.wrap (misses + 1) = misses + 1 := IntWalk.i64_in _ (by omega)
     clear hmis hmost
     obtain ⟨z0, z1, z2, z3, z4, z5, z6, z7, z8, z9⟩ := TkAt.block' (q := (⟨id, addr, ⟨g0, g1, g2⟩, lo, hi, hits, misses, firm⟩, ⟨aL, nL, cL, aH, nH, cH⟩)) KA.out.K.X
     simp only [] at z0 z1 z2 z3 z4 z5 z6 z7 z8 z9
     have zl := aB KA.out.K.X
     obtain ⟨f0, f1, f2, f3, f4, f5, f6, f7, f8, f9⟩ := aX (q := (⟨id, addr, ⟨g0, g1, g2⟩, lo, hi, hits, misses, firm⟩, ⟨aL, nL, cL, aH, nH, cH⟩)) KA.out.K.X
     go_upto_region 40 with fail
     clear z0 z1 z2 z3 z4 z5 z6 z7 z8 z9 zl
     clear f0 f1 f2 f3 f4 f5 f6 f7 f8 f9
     have KW := qh (k8 (i := 8) (v := .int .i64 (misses + 1)) (q := (⟨id, addr, ⟨g0, g1, g2⟩, lo, hi, hits, misses, firm⟩, ⟨aL, nL, cL, aH, nH, cH⟩)) (q' := (⟨id, addr, ⟨g0, g1, g2⟩, lo, hi, hits, (misses + 1), firm⟩, ⟨aL, nL, cL, aH, nH, cH⟩)) KA.out.K.X rfl)
     replace HBd := qh (nG (t' := ⟨id, addr, ⟨g0, g1, g2⟩, lo, hi, hits, (misses + 1), firm⟩) (HBd.out.outs (Outs.of_only KW.out.1 (List.mem_cons_of_mem _ List.mem_cons_self))) rfl rfl)
     replace KA := qh (KA.out.store (q' := (⟨id, addr, ⟨g0, g1, g2⟩, lo, hi, hits, (misses + 1), firm⟩, ⟨aL, nL, cL, aH, nH, cH⟩)) KW.out.1 KW.out.2)
     clear KW
     generalize wa.setCell ⟨T, 8, none⟩ (.int .i64 (misses + 1)) = w1 at *
     obtain ⟨z0, z1, z2, z3, z4, z5, z6, z7, z8, z9⟩ := TkAt.block' (q := (⟨id, addr, ⟨g0, g1, g2⟩, lo, hi, hits, (misses + 1), firm⟩, ⟨aL, nL, cL, aH, nH, cH⟩)) KA.out.K.X
     simp only [] at z0 z1 z2 z3 z4 z5 z6 z7 z8 z9
     have zl := aB KA.out.K.X
     obtain ⟨t0, t1, t2, t3, t4, t5, t6⟩ := aK (KA.out.K.K.H _ (List.mem_cons_of_mem _ HTB.out))
     have tl := aB (KA.out.K.K.H _ (List.mem_cons_of_mem _ HTB.out))
     by_cases hms : p.most ≤ misses + 1
     ·have hT1 : updT1 p P ⟨id, addr, ⟨g0, g1, g2⟩, lo, hi, hits, misses, firm⟩ none = [] := if_pos hms
      have hE1 : updE1 p ⟨id, addr, ⟨g0, g1, g2⟩, lo, hi, hits, misses, firm⟩ none = [⟨4, id, -1⟩] := if_pos hms
      rw [hT1, hE1, List.append_nil] at HUs
      clear hT1 hE1
      have KB := qh (KA.out.below (aC w1 (.cells #[.int .u8 4, .int .i64 id, .int .i64 (-1)] 47)))
      replace HBd := qh (HBd.out.outs (Outs.of_below (aC w1 (.cells #[.int .u8 4, .int .i64 id, .int .i64 (-1)] 47))))
      clear KA
      go_wp2_with (at_builtin; refine wpList_append_own_at _ rfl _ _ 39 rfl w0.heap.size 47 i1 _ 3 24 Tryz.underlying39 HG.out.1 HG.out.2.1 HG.out.2.2.1 HG.out.2.2.2 rfl (by decide) _ E.length _ rfl KB.out.K.K.E ⟨w1.heap.size, 0, none⟩ 1 1 [.int .u8 4, .int .i64 id, .int .i64 (-1)] rfl rfl (bA rfl) (by intro u hu; simp at hu; rcases hu with rfl | rfl | rfl <;> rfl) (by have := HEl.out; unfold maxLen; omega) (by have := HEl.out; omega) KB.out.K.K.B.size ?_; intro v9 w9 hown9 hg9 _ hat9; have KC := Rx.event (x := ⟨4, id, (-1)⟩) KB.out hown9 hg9 hat9; have KA := qh KC.1; have HBd2 := qh (KC.2 _ HBd.out); clear KC; clear hown9 hg9 hat9)
      clear KB HBd
      go_roundw
      case rel => exact ⟨i + 1, E ++ [⟨4, id, -1⟩], lV, N, HLt.out, by go_num, by rw [HU1.out]; exact KA.out.drop, by rw [HUs.out]; exact HM.out.1, by rw [HUs.out, HM.out.2, List.append_assoc]⟩
      case measure => simp [intOf]; have := HLt.out; omega
     have hT1 : updT1 p P ⟨id, addr, ⟨g0, g1, g2⟩, lo, hi, hits, misses, firm⟩ none = [⟨id, addr, ⟨g0, g1, g2⟩, lo, hi, hits, (misses + 1), firm⟩] := if_neg hms
     have hE1 : updE1 p ⟨id, addr, ⟨g0, g1, g2⟩, lo, hi, hits, misses, firm⟩ none = [⟨3, id, -1⟩] := if_neg hms
     rw [hT1, hE1] at HUs
     clear hT1 hE1
     have KB := qh (KA.out.below (aC w1 (.cells #[.int .u8 3, .int .i64 id, .int .i64 (-1)] 47)))
     replace HBd := qh (HBd.out.outs (Outs.of_below (aC w1 (.cells #[.int .u8 3, .int .i64 id, .int .i64 (-1)] 47))))
     clear KA
     go_upto_region 43 with (at_builtin; refine wpList_append_own_at _ rfl _ _ 39 rfl w0.heap.size 47 i1 _ 3 24 Tryz.underlying39 HG.out.1 HG.out.2.1 HG.out.2.2.1 HG.out.2.2.2 rfl (by decide) _ E.length _ rfl KB.out.K.K.E ⟨w1.heap.size, 0, none⟩ 1 1 [.int .u8 3, .int .i64 id, .int .i64 (-1)] rfl rfl (bA rfl) (by intro u hu; simp at hu; rcases hu with rfl | rfl | rfl <;> rfl) (by have := HEl.out; unfold maxLen; omega) (by have := HEl.out; omega) KB.out.K.K.B.size ?_; intro v9 w9 hown9 hg9 _ hat9; have KC := Rx.event (x := ⟨3, id, (-1)⟩) KB.out hown9 hg9 hat9; have KA := qh KC.1; have HBd2 := qh (KC.2 _ HBd.out); clear KC; clear hown9 hg9 hat9)
     clear KB HBd
     clear z0 z1 z2 z3 z4 z5 z6 z7 z8 z9 zl
     clear t0 t1 t2 t3 t4 t5 t6 tl
     obtain ⟨aW, cW, rfl⟩ := aU KA.out.K.L.row
     obtain ⟨z0, z1, z2, z3, z4, z5, z6, z7, z8, z9⟩ := TkAt.block' (q := (⟨id, addr, ⟨g0, g1, g2⟩, lo, hi, hits, (misses + 1), firm⟩, ⟨aL, nL, cL, aH, nH, cH⟩)) KA.out.K.X
     simp only [] at z0 z1 z2 z3 z4 z5 z6 z7 z8 z9
     have zl := aB KA.out.K.X
     obtain ⟨o0, o1, o2, o3, o4, o5, o6⟩ := aK KA.out.out
     have ol := aB KA.out.out
     have KB := qh (KA.out.below (aC w9 (.cells #[.int .i64 id, .int .i64 addr, .int .i64 g0, .int .i64 g1, .int .i64 g2, .slice aL nL cL, .slice aH nH cH, .int .i64 hits, .int .i64 (misses + 1), .bool firm] 55)))
     have HBm := qh (HBd2.out.outs (Outs.of_below (aC w9 (.cells #[.int .i64 id, .int .i64 addr, .int .i64 g0, .int .i64 g1, .int .i64 g2, .slice aL nL cL, .slice aH nH cH, .int .i64 hits, .int .i64 (misses + 1), .bool firm] 55))))
     clear KA HBd2
     go_wp2_with (at_builtin; refine wpList_append_own_at _ rfl _ _ 24 rfl w0.heap.size 55 i0 _ 10 112 Tryz.underlying24 HF.out.1 HF.out.2.1 HF.out.2.2.1 HF.out.2.2.2 rfl (by decide) _ N.length _ rfl KB.out.K.L.row ⟨w9.heap.size, 0, none⟩ 1 1 [.int .i64 id, .int .i64 addr, .int .i64 g0, .int .i64 g1, .int .i64 g2, .slice aL nL cL, .slice aH nH cH, .int .i64 hits, .int .i64 (misses + 1), .bool firm] rfl rfl (bA rfl) (by intro u hu; simp at hu; rcases hu with rfl | rfl | rfl | rfl | rfl | rfl | rfl | rfl | rfl | rfl <;> rfl) (by have := HMl.out; unfold maxLen; omega) (by have := HMl.out; omega) KB.out.K.K.B.size ?_; intro v9 w9 hown9 hg9 _ hat9; obtain ⟨a9, c9, rfl⟩ := aU hown9; have KC0 := Rx.app (q := (⟨id, addr, ⟨g0, g1, g2⟩, lo, hi, hits, (misses + 1), firm⟩, ⟨aL, nL, cL, aH, nH, cH⟩)) KB.out HBm.out hown9 hg9 hat9; have KX := qh KC0.2; have KC := qh KC0.1; clear KC0; have o6' : w9.cell? ⟨ob, 6, none⟩ = some (.slice aW N.length cW) := aA KC.out.out rfl; have f6' : w9.frozen? ⟨ob, 6, none⟩ = false := aF KC.out.out; have l6' := aB KC.out.out; clear hown9 hg9 hat9)
     clear z0 z1 z2 z3 z4 z5 z6 z7 z8 z9 zl
     clear o0 o1 o2 o3 o4 o5 o6 ol
     clear o6' f6' l6'
     go_roundw
     case rel => exact ⟨i + 1, E ++ [⟨3, id, -1⟩], .slice a9 (N.length + 1) c9, N ++ [(⟨id, addr, ⟨g0, g1, g2⟩, lo, hi, hits, (misses + 1), firm⟩, ⟨aL, nL, cL, aH, nH, cH⟩)], HLt.out, by go_num, by rw [HU1.out]; exact KC.out.set 6 (.slice a9 (N.length + 1) c9), by rw [HUs.out, bK, HM.out.1], by rw [HUs.out, HM.out.2, List.append_assoc]⟩
     case measure => simp [intOf]; have := HLt.out; omega
    | some y =>
     have HU1 := qh (usR_some hof)
     have HY := qh (show y < pn from by have := HPd.out.col _ (iR hof); rw [HLn.out.2.1] at this; exact this)
     rw [okF_some hof]
     rw [hof] at HUs
     clear hof
     have hy0 : (0 : Int) ≤ (y : Int) := by omega
     have hy1 : (y : Int) < (pn : Int) := by have := HY.out; omega
     have hyn : ¬ (y : Int) < 0 := by omega
     have u0 : wa.cell? ⟨ub, y, none⟩ = some (.bool (usR lp i y)) := aA KA.out.U (usC_get _ HY.out)
     have u1 : wa.frozen? ⟨ub, y, none⟩ = false := aF KA.out.U
     have ul := aB KA.out.U
     go_upto_region 45 with fail
     clear u0 u1 ul
     have KU := KA.out.used y (.bool true)
     rw [usC_set, ← HU1.out] at KU
     replace HBd := qh (KU.2 _ HBd.out)
     replace KA := qh KU.1
     clear KU
     generalize wa.setCell ⟨ub, y, none⟩ (.bool true) = w1 at *
     obtain ⟨z0, z1, z2, z3, z4, z5, z6, z7, z8, z9⟩ := TkAt.block' (q := (⟨id, addr, ⟨g0, g1, g2⟩, lo, hi, hits, misses, firm⟩, ⟨aL, nL, cL, aH, nH, cH⟩)) KA.out.K.X
     simp only [] at z0 z1 z2 z3 z4 z5 z6 z7 z8 z9
     have zl := aB KA.out.K.X
     go_wp2_with fail
     clear z0 z1 z2 z3 z4 z5 z6 z7 z8 z9 zl
     have KD := qh (show Below w1.heap.size w1 w1.drew from aM (Below.refl _ _) 1)
     replace KA := qh (KA.out.below KD.out)
     replace HBd := qh (HBd.out.outs (Outs.of_below KD.out))
     clear KD
     obtain ⟨d, of, rfl, p0, p1, p2⟩ := fS (HP.out.below KA.out.K.K.B) HY.out
     have HPz := qh (HO.out.2.2 y HY.out)
     obtain ⟨⟨yr, yc, ya⟩, hyp⟩ : ∃ x, gp P y = x := ⟨_, rfl⟩
     rw [hyp] at p0 p1 p2 HPz
     simp only [] at p0 p1 p2
     have HS := qh (show CoU tb #[.int .i64 p.gate, .int .i64 p.need, .int .i64 p.most, .int .i64 p.pull, .int .i64 now, .int .i64 next, .slice a n c] T #[.int .i64 id, .int .i64 addr, .int .i64 g0, .int .i64 g1, .int .i64 g2, .slice aL nL cL, .slice aH nH cH, .int .i64 hits, .int .i64 misses, .bool firm] d (of + y * 3) ⟨yr, yc, ya⟩ w1.drew from ⟨KA.out.K.K.H _ (List.mem_cons_of_mem _ HTB.out), KA.out.K.X, p0, p1, p2⟩)
     obtain ⟨⟨id', addr', ⟨g0', g1', g2'⟩, lo', hi', hits', misses', firm'⟩, hUT⟩ : ∃ t', updT p ⟨id, addr, ⟨g0, g1, g2⟩, lo, hi, hits, misses, firm⟩ ⟨yr, yc, ya⟩ (lvOf ⟨yr, yc, ya⟩) = t' := ⟨_, rfl⟩
     have HId : id' = id := (congrArg Tk.id hUT).symm
     subst HId
     have HFm := qh (show firm' = (firm || decide (p.need ≤ hit1 ⟨id', addr, ⟨g0, g1, g2⟩, lo, hi, hits, misses, firm⟩)) from (congrArg Tk.firm hUT).symm)
     have HT1 := qh (show updT1 p P ⟨id', addr, ⟨g0, g1, g2⟩, lo, hi, hits, misses, firm⟩ (some y) = [⟨id', addr', ⟨g0', g1', g2'⟩, lo', hi', hits', misses', firm'⟩] from by
      show [updT p ⟨id', addr, ⟨g0, g1, g2⟩, lo, hi, hits, misses, firm⟩ (gp P y) (lvOf (gp P y))] = _
      rw [hyp, hUT])
     rw [HT1.out] at HUs
     have HCo := qh (show ∀ W : World, BdI W (⟨id', addr, ⟨g0, g1, g2⟩, lo, hi, hits, misses, firm⟩, ⟨aL, nL, cL, aH, nH, cH⟩) → Calls Tryz.prog 35 #[.agg #[.int .i64 p.gate, .int .i64 p.need, .int .i64 p.most, .int .i64 p.pull], .agg #[.int .i64 id', .int .i64 addr, .int .i64 g0, .int .i64 g1, .int .i64 g2, .slice aL nL cL, .slice aH nH cH, .int .i64 hits, .int .i64 misses, .bool firm], .agg #[.int .i64 yr, .int .i64 yc, .int .i64 ya]] W (UdPost ⟨id', addr, ⟨g0, g1, g2⟩, lo, hi, hits, misses, firm⟩ ⟨id', addr', ⟨g0', g1', g2'⟩, lo', hi', hits', misses', firm'⟩ ⟨aL, nL, cL, aH, nH, cH⟩ W) from fun W hB => by
      have h := mX p ⟨id', addr, ⟨g0, g1, g2⟩, lo, hi, hits, misses, firm⟩ ⟨aL, nL, cL, aH, nH, cH⟩ ⟨yr, yc, ya⟩ W HO.out.2.1 HOk.out HPz.out hB
      rw [hUT] at h
      exact h)
     clear hUT hyp p0 p1 p2 HT1
     refine MyHeldE.start (fun W => CoU tb #[.int .i64 p.gate, .int .i64 p.need, .int .i64 p.most, .int .i64 p.pull, .int .i64 now, .int .i64 next, .slice a n c] T #[.int .i64 id', .int .i64 addr, .int .i64 g0, .int .i64 g1, .int .i64 g2, .slice aL nL cL, .slice aH nH cH, .int .i64 hits, .int .i64 misses, .bool firm] d (of + y * 3) ⟨yr, yc, ya⟩ W) [8] (by kernel_rfl) ?_
     have hHeld := HS.out
     generalize w1.drew = w2 at *
     refine MyHeldE.tk 0 (hQ := (fun _ _ _ h => HPan.out _ _ _ _ _ h)) ?_
     refine MyHeldE.tk 1 (hQ := (fun _ _ _ h => HPan.out _ _ _ _ _ h)) (hy := fun w hSw => by obtain ⟨hSa, hSx, y0, y1, y2⟩ := hSw; obtain ⟨t0, t1, t2, t3, t4, t5, t6⟩ := aK hSa; obtain ⟨x0, x1, x2, x3, x4, x5, x6, x7, x8, x9⟩ := cY hSx; simp only [] at y0 y1 y2; go_simp; (try with_reducible rfl)) ?_
     refine MyHeldE.tk 2 (hQ := (fun _ _ _ h => HPan.out _ _ _ _ _ h)) (hy := fun w hSw => by obtain ⟨hSa, hSx, y0, y1, y2⟩ := hSw; obtain ⟨t0, t1, t2, t3, t4, t5, t6⟩ := aK hSa; obtain ⟨x0, x1, x2, x3, x4, x5, x6, x7, x8, x9⟩ := cY hSx; simp only [] at y0 y1 y2; go_simp; (try with_reducible rfl)) ?_
     refine MyHeldE.tk 3 (hQ := (fun _ _ _ h => HPan.out _ _ _ _ _ h)) ?_
     refine MyHeldE.tk 4 (hQ := (fun _ _ _ h => HPan.out _ _ _ _ _ h)) ?_
     refine MyHeldE.tk 5 (hQ := (fun _ _ _ h => HPan.out _ _ _ _ _ h)) (hy := fun w hSw => by obtain ⟨hSa, hSx, y0, y1, y2⟩ := hSw; obtain ⟨t0, t1, t2, t3, t4, t5, t6⟩ := aK hSa; obtain ⟨x0, x1, x2, x3, x4, x5, x6, x7, x8, x9⟩ := cY hSx; simp only [] at y0 y1 y2; go_simp; (try with_reducible rfl)) ?_
     refine MyHeldE.tk 6 (hQ := (fun _ _ _ h => HPan.out _ _ _ _ _ h)) (hy := fun w hSw => by obtain ⟨hSa, hSx, y0, y1, y2⟩ := hSw; obtain ⟨t0, t1, t2, t3, t4, t5, t6⟩ := aK hSa; obtain ⟨x0, x1, x2, x3, x4, x5, x6, x7, x8, x9⟩ := cY hSx; simp only [] at y0 y1 y2; go_simp; (try with_reducible rfl)) ?_
     refine MyHeldE.ready (rs := [7]) (by kernel_rfl) (by simp) ?_
     refine (MyHeldE.next 7 (MyHeld.at_rfl rfl) (fun Kq hKq => ?_) MyHeldE.All.nil)
     go_simp
     go_at_call 35
     have HLs := qh KA.out.K.lts
     have HSz := qh KA.out.K.K.B.size
     refine (HCo.out _ HBd.out.I).mono ?_; rintro e w3 ⟨⟨aL', nL', cL', aH', nH', cH'⟩, rfl, hb, hX⟩
     replace HBd := qh (hX _ _ HSz.out HLs.out HBd.out)
     replace KA := qh (KA.out.below hb)
     replace HS := qh (HS.out.below hb)
     clear hb hX HLs HSz
     unfold tkV tkC
     refine hKq.out _ _ (fun _ => (HS.out)) ?_
     clear hKq Kq hHeld
     have hHeld := (HS.out)
     try simp only [Act.put, List.setIfInBounds_toArray, List.set_cons_zero, List.set_cons_succ]
     obtain ⟨f0, f1, f2, f3, f4, f5, f6, f7, f8, f9⟩ := aX (q := (⟨id', addr, ⟨g0, g1, g2⟩, lo, hi, hits, misses, firm⟩, ⟨aL, nL, cL, aH, nH, cH⟩)) KA.out.K.X
     obtain ⟨z0, z1, z2, z3, z4, z5, z6, z7, z8, z9⟩ := TkAt.block' (q := (⟨id', addr, ⟨g0, g1, g2⟩, lo, hi, hits, misses, firm⟩, ⟨aL, nL, cL, aH, nH, cH⟩)) KA.out.K.X
     simp only [] at z0 z1 z2 z3 z4 z5 z6 z7 z8 z9
     have zl := aB KA.out.K.X
     refine MyHeldE.ready (rs := [8]) (by kernel_rfl) (by simp) ?_
     refine (MyHeldE.next 8 (MyHeld.at_rfl rfl) (fun Kq hKq => ?_) MyHeldE.All.nil)
     go_simp
     refine hKq.out _ _ (fun e => by cases e) ?_
     clear hKq Kq
     try simp only [Act.put, List.setIfInBounds_toArray, List.set_cons_zero, List.set_cons_succ]
     refine MyHeldE.done (by kernel_rfl) ?_ _
     clear z0 z1 z2 z3 z4 z5 z6 z7 z8 z9 zl
     clear f0 f1 f2 f3 f4 f5 f6 f7 f8 f9
     clear hHeld HS
     have KW := qh (fU KA.out.K.X rfl (.int .i64 id') (.int .i64 addr') (.int .i64 g0') (.int .i64 g1') (.int .i64 g2') (.slice aL' nL' cL') (.slice aH' nH' cH') (.int .i64 hits') (.int .i64 misses') (.bool firm'))
     replace HBd := qh (HBd.out.outs (Outs.of_only KW.out.1 (List.mem_cons_of_mem _ List.mem_cons_self)))
     replace KA := qh (KA.out.store (q' := (⟨id', addr', ⟨g0', g1', g2'⟩, lo', hi', hits', misses', firm'⟩, ⟨aL', nL', cL', aH', nH', cH'⟩)) KW.out.1 KW.out.2)
     clear KW
     generalize (((((((((w3.setCell ⟨T, 0, none⟩ (.int .i64 id')).setCell ⟨T, 1, none⟩ (.int .i64 addr')).setCell ⟨T, 2, none⟩ (.int .i64 g0')).setCell ⟨T, 3, none⟩ (.int .i64 g1')).setCell ⟨T, 4, none⟩ (.int .i64 g2')).setCell ⟨T, 5, none⟩ (.slice aL' nL' cL')).setCell ⟨T, 6, none⟩ (.slice aH' nH' cH')).setCell ⟨T, 7, none⟩ (.int .i64 hits')).setCell ⟨T, 8, none⟩ (.int .i64 misses')).setCell ⟨T, 9, none⟩ (.bool firm') = w4 at *
     obtain ⟨z0, z1, z2, z3, z4, z5, z6, z7, z8, z9⟩ := TkAt.block' (q := (⟨id', addr', ⟨g0', g1', g2'⟩, lo', hi', hits', misses', firm'⟩, ⟨aL', nL', cL', aH', nH', cH'⟩)) KA.out.K.X
     simp only [] at z0 z1 z2 z3 z4 z5 z6 z7 z8 z9
     have zl := aB KA.out.K.X
     have KB := qh (KA.out.below (aC w4 (.cells #[.int .u8 1, .int .i64 id', .int .i64 (y : Int)] 47)))
     replace HBd := qh (HBd.out.outs (Outs.of_below (aC w4 (.cells #[.int .u8 1, .int .i64 id', .int .i64 (y : Int)] 47))))
     clear KA
     go_upto_region 48 with (at_builtin; refine wpList_append_own_at _ rfl _ _ 39 rfl w0.heap.size 47 i1 _ 3 24 Tryz.underlying39 HG.out.1 HG.out.2.1 HG.out.2.2.1 HG.out.2.2.2 rfl (by decide) _ E.length _ rfl KB.out.K.K.E ⟨w4.heap.size, 0, none⟩ 1 1 [.int .u8 1, .int .i64 id', .int .i64 (y : Int)] rfl rfl (bA rfl) (by intro u hu; simp at hu; rcases hu with rfl | rfl | rfl <;> rfl) (by have := HEl.out; unfold maxLen; omega) (by have := HEl.out; omega) KB.out.K.K.B.size ?_; intro v9 w9 hown9 hg9 _ hat9; have KC := Rx.event (x := ⟨1, id', (y : Int)⟩) KB.out hown9 hg9 hat9; have KA := qh KC.1; have HBd2 := qh (KC.2 _ HBd.out); clear KC; clear hown9 hg9 hat9)
     clear KB HBd
     clear z0 z1 z2 z3 z4 z5 z6 z7 z8 z9 zl
     have HBd := qh HBd2.out
     clear HBd2
     obtain ⟨E1, hE1⟩ : ∃ V, E ++ [⟨1, id', (y : Int)⟩] = V := ⟨_, rfl⟩
     rw [hE1] at KA
     obtain ⟨aE1, cE1, rfl⟩ := aU KA.out.K.K.E
     replace HEl := qh (show E1.length ≤ 141 from by rw [← hE1, List.length_append]; have := HEl.out; simp; omega)
     have HV1 := qh hE1
     clear hE1
     obtain ⟨z0, z1, z2, z3, z4, z5, z6, z7, z8, z9⟩ := TkAt.block' (q := (⟨id', addr', ⟨g0', g1', g2'⟩, lo', hi', hits', misses', firm'⟩, ⟨aL', nL', cL', aH', nH', cH'⟩)) KA.out.K.X
     simp only [] at z0 z1 z2 z3 z4 z5 z6 z7 z8 z9
     have zl := aB KA.out.K.X
     cases firm with
     | true =>
      obtain rfl : firm' = true := by rw [HFm.out]; rfl
      have HNo := qh (show ¬ ((true : Bool) = false ∧ p.need ≤ hit1 ⟨id', addr, ⟨g0, g1, g2⟩, lo, hi, hits, misses, true⟩) from fun e => by cases e.1)
      have hE1 : updE1 p ⟨id', addr, ⟨g0, g1, g2⟩, lo, hi, hits, misses, true⟩ (some y) = [⟨1, id', (y : Int)⟩] := if_neg (t := ([⟨1, id', (y : Int)⟩, ⟨2, id', (y : Int)⟩] : List Ev)) HNo.out
      rw [hE1] at HUs
      clear hE1
      go_upto_region 50 with fail
      clear z0 z1 z2 z3 z4 z5 z6 z7 z8 z9 zl
      obtain ⟨aW, cW, rfl⟩ := aU KA.out.K.L.row
      obtain ⟨z0, z1, z2, z3, z4, z5, z6, z7, z8, z9⟩ := TkAt.block' (q := (⟨id', addr', ⟨g0', g1', g2'⟩, lo', hi', hits', misses', true⟩, ⟨aL', nL', cL', aH', nH', cH'⟩)) KA.out.K.X
      simp only [] at z0 z1 z2 z3 z4 z5 z6 z7 z8 z9
      have zl := aB KA.out.K.X
      obtain ⟨o0, o1, o2, o3, o4, o5, o6⟩ := aK KA.out.out
      have ol := aB KA.out.out
      have KB := qh (KA.out.below (aC w9 (.cells #[.int .i64 id', .int .i64 addr', .int .i64 g0', .int .i64 g1', .int .i64 g2', .slice aL' nL' cL', .slice aH' nH' cH', .int .i64 hits', .int .i64 misses', .bool true] 55)))
      have HBm := qh (HBd.out.outs (Outs.of_below (aC w9 (.cells #[.int .i64 id', .int .i64 addr', .int .i64 g0', .int .i64 g1', .int .i64 g2', .slice aL' nL' cL', .slice aH' nH' cH', .int .i64 hits', .int .i64 misses', .bool true] 55))))
      clear KA HBd
      go_wp2_with (at_builtin; refine wpList_append_own_at _ rfl _ _ 24 rfl w0.heap.size 55 i0 _ 10 112 Tryz.underlying24 HF.out.1 HF.out.2.1 HF.out.2.2.1 HF.out.2.2.2 rfl (by decide) _ N.length _ rfl KB.out.K.L.row ⟨w9.heap.size, 0, none⟩ 1 1 [.int .i64 id', .int .i64 addr', .int .i64 g0', .int .i64 g1', .int .i64 g2', .slice aL' nL' cL', .slice aH' nH' cH', .int .i64 hits', .int .i64 misses', .bool true] rfl rfl (bA rfl) (by intro u hu; simp at hu; rcases hu with rfl | rfl | rfl | rfl | rfl | rfl | rfl | rfl | rfl | rfl <;> rfl) (by have := HMl.out; unfold maxLen; omega) (by have := HMl.out; omega) KB.out.K.K.B.size ?_; intro v9 w9 hown9 hg9 _ hat9; obtain ⟨a9, c9, rfl⟩ := aU hown9; have KC0 := Rx.app (q := (⟨id', addr', ⟨g0', g1', g2'⟩, lo', hi', hits', misses', true⟩, ⟨aL', nL', cL', aH', nH', cH'⟩)) KB.out HBm.out hown9 hg9 hat9; have KX := qh KC0.2; have KC := qh KC0.1; clear KC0; have o6' : w9.cell? ⟨ob, 6, none⟩ = some (.slice aW N.length cW) := aA KC.out.out rfl; have f6' : w9.frozen? ⟨ob, 6, none⟩ = false := aF KC.out.out; have l6' := aB KC.out.out; clear hown9 hg9 hat9)
      clear z0 z1 z2 z3 z4 z5 z6 z7 z8 z9 zl
      clear o0 o1 o2 o3 o4 o5 o6 ol
      clear o6' f6' l6'
      go_roundw
      case rel => exact ⟨i + 1, E1, .slice a9 (N.length + 1) c9, N ++ [(⟨id', addr', ⟨g0', g1', g2'⟩, lo', hi', hits', misses', true⟩, ⟨aL', nL', cL', aH', nH', cH'⟩)], HLt.out, by go_num, by exact KC.out.set 6 (.slice a9 (N.length + 1) c9), by rw [HUs.out, bK, HM.out.1], by rw [HUs.out, ← HV1.out, HM.out.2, List.append_assoc]⟩
      case measure => simp [intOf]; have := HLt.out; omega
     | false =>
      by_cases hnd : p.need ≤ hit1 ⟨id', addr, ⟨g0, g1, g2⟩, lo, hi, hits, misses, false⟩
      ·obtain rfl : firm' = true := by rw [HFm.out, decide_eq_true hnd]; rfl
       have HYes := qh (show (false : Bool) = false ∧ p.need ≤ hit1 ⟨id', addr, ⟨g0, g1, g2⟩, lo, hi, hits, misses, false⟩ from ⟨rfl, hnd⟩)
       clear hnd
       have hE1 : updE1 p ⟨id', addr, ⟨g0, g1, g2⟩, lo, hi, hits, misses, false⟩ (some y) = [⟨1, id', (y : Int)⟩, ⟨2, id', (y : Int)⟩] := if_pos HYes.out
       rw [hE1] at HUs
       clear hE1
       go_upto_region 49 with fail
       clear z0 z1 z2 z3 z4 z5 z6 z7 z8 z9 zl
       obtain ⟨z0, z1, z2, z3, z4, z5, z6, z7, z8, z9⟩ := TkAt.block' (q := (⟨id', addr', ⟨g0', g1', g2'⟩, lo', hi', hits', misses', true⟩, ⟨aL', nL', cL', aH', nH', cH'⟩)) KA.out.K.X
       simp only [] at z0 z1 z2 z3 z4 z5 z6 z7 z8 z9
       have zl := aB KA.out.K.X
       have KB := qh (KA.out.below (aC w9 (.cells #[.int .u8 2, .int .i64 id', .int .i64 (y : Int)] 47)))
       replace HBd := qh (HBd.out.outs (Outs.of_below (aC w9 (.cells #[.int .u8 2, .int .i64 id', .int .i64 (y : Int)] 47))))
       clear KA
       go_upto_region 50 with (at_builtin; refine wpList_append_own_at _ rfl _ _ 39 rfl w0.heap.size 47 i1 _ 3 24 Tryz.underlying39 HG.out.1 HG.out.2.1 HG.out.2.2.1 HG.out.2.2.2 rfl (by decide) _ E1.length _ rfl KB.out.K.K.E ⟨w9.heap.size, 0, none⟩ 1 1 [.int .u8 2, .int .i64 id', .int .i64 (y : Int)] rfl rfl (bA rfl) (by intro u hu; simp at hu; rcases hu with rfl | rfl | rfl <;> rfl) (by have := HEl.out; unfold maxLen; omega) (by have := HEl.out; omega) KB.out.K.K.B.size ?_; intro v8 w8 hown9 hg9 _ hat9; have KC := Rx.event (x := ⟨2, id', (y : Int)⟩) KB.out hown9 hg9 hat9; have KA := qh KC.1; have HBd2 := qh (KC.2 _ HBd.out); clear KC; clear hown9 hg9 hat9)
       clear KB HBd
       clear z0 z1 z2 z3 z4 z5 z6 z7 z8 z9 zl
       have HBd := qh HBd2.out
       clear HBd2
       obtain ⟨E2, hE2⟩ : ∃ V, E1 ++ [⟨2, id', (y : Int)⟩] = V := ⟨_, rfl⟩
       rw [hE2] at KA
       obtain ⟨aE2, cE2, rfl⟩ := aU KA.out.K.K.E
       replace HEl := qh (show E2.length ≤ 142 from by rw [← hE2, List.length_append]; have := HEl.out; simp; omega)
       have HV2 := qh hE2
       clear hE2
       obtain ⟨aW, cW, rfl⟩ := aU KA.out.K.L.row
       obtain ⟨z0, z1, z2, z3, z4, z5, z6, z7, z8, z9⟩ := TkAt.block' (q := (⟨id', addr', ⟨g0', g1', g2'⟩, lo', hi', hits', misses', true⟩, ⟨aL', nL', cL', aH', nH', cH'⟩)) KA.out.K.X
       simp only [] at z0 z1 z2 z3 z4 z5 z6 z7 z8 z9
       have zl := aB KA.out.K.X
       obtain ⟨o0, o1, o2, o3, o4, o5, o6⟩ := aK KA.out.out
       have ol := aB KA.out.out
       have KB := qh (KA.out.below (aC w8 (.cells #[.int .i64 id', .int .i64 addr', .int .i64 g0', .int .i64 g1', .int .i64 g2', .slice aL' nL' cL', .slice aH' nH' cH', .int .i64 hits', .int .i64 misses', .bool true] 55)))
       have HBm := qh (HBd.out.outs (Outs.of_below (aC w8 (.cells #[.int .i64 id', .int .i64 addr', .int .i64 g0', .int .i64 g1', .int .i64 g2', .slice aL' nL' cL', .slice aH' nH' cH', .int .i64 hits', .int .i64 misses', .bool true] 55))))
       clear KA HBd
       go_wp2_with (at_builtin; refine wpList_append_own_at _ rfl _ _ 24 rfl w0.heap.size 55 i0 _ 10 112 Tryz.underlying24 HF.out.1 HF.out.2.1 HF.out.2.2.1 HF.out.2.2.2 rfl (by decide) _ N.length _ rfl KB.out.K.L.row ⟨w8.heap.size, 0, none⟩ 1 1 [.int .i64 id', .int .i64 addr', .int .i64 g0', .int .i64 g1', .int .i64 g2', .slice aL' nL' cL', .slice aH' nH' cH', .int .i64 hits', .int .i64 misses', .bool true] rfl rfl (bA rfl) (by intro u hu; simp at hu; rcases hu with rfl | rfl | rfl | rfl | rfl | rfl | rfl | rfl | rfl | rfl <;> rfl) (by have := HMl.out; unfold maxLen; omega) (by have := HMl.out; omega) KB.out.K.K.B.size ?_; intro v9 w9 hown9 hg9 _ hat9; obtain ⟨a9, c9, rfl⟩ := aU hown9; have KC0 := Rx.app (q := (⟨id', addr', ⟨g0', g1', g2'⟩, lo', hi', hits', misses', true⟩, ⟨aL', nL', cL', aH', nH', cH'⟩)) KB.out HBm.out hown9 hg9 hat9; have KX := qh KC0.2; have KC := qh KC0.1; clear KC0; have o6' : w9.cell? ⟨ob, 6, none⟩ = some (.slice aW N.length cW) := aA KC.out.out rfl; have f6' : w9.frozen? ⟨ob, 6, none⟩ = false := aF KC.out.out; have l6' := aB KC.out.out; clear hown9 hg9 hat9)
       clear z0 z1 z2 z3 z4 z5 z6 z7 z8 z9 zl
       clear o0 o1 o2 o3 o4 o5 o6 ol
       clear o6' f6' l6'
       go_roundw
       case rel => exact ⟨i + 1, E2, .slice a9 (N.length + 1) c9, N ++ [(⟨id', addr', ⟨g0', g1', g2'⟩, lo', hi', hits', misses', true⟩, ⟨aL', nL', cL', aH', nH', cH'⟩)], HLt.out, by go_num, by exact KC.out.set 6 (.slice a9 (N.length + 1) c9), by rw [HUs.out, bK, HM.out.1], by rw [HUs.out, ← HV2.out, ← HV1.out, HM.out.2, List.append_assoc, List.append_assoc]; rfl⟩
       case measure => simp [intOf]; have := HLt.out; omega
      obtain rfl : firm' = false := by rw [HFm.out, decide_eq_false hnd]; rfl
      have HNo := qh (show ¬ ((false : Bool) = false ∧ p.need ≤ hit1 ⟨id', addr, ⟨g0, g1, g2⟩, lo, hi, hits, misses, false⟩) from fun e => hnd e.2)
      clear hnd
      have hE1 : updE1 p ⟨id', addr, ⟨g0, g1, g2⟩, lo, hi, hits, misses, false⟩ (some y) = [⟨1, id', (y : Int)⟩] := if_neg (t := ([⟨1, id', (y : Int)⟩, ⟨2, id', (y : Int)⟩] : List Ev)) HNo.out
      rw [hE1] at HUs
      clear hE1
      go_upto_region 50 with fail
      clear z0 z1 z2 z3 z4 z5 z6 z7 z8 z9 zl
      obtain ⟨aW, cW, rfl⟩ := aU KA.out.K.L.row
      obtain ⟨z0, z1, z2, z3, z4, z5, z6, z7, z8, z9⟩ := TkAt.block' (q := (⟨id', addr', ⟨g0', g1', g2'⟩, lo', hi', hits', misses', false⟩, ⟨aL', nL', cL', aH', nH', cH'⟩)) KA.out.K.X
      simp only [] at z0 z1 z2 z3 z4 z5 z6 z7 z8 z9
      have zl := aB KA.out.K.X
      obtain ⟨o0, o1, o2, o3, o4, o5, o6⟩ := aK KA.out.out
      have ol := aB KA.out.out
      have KB := qh (KA.out.below (aC w9 (.cells #[.int .i64 id', .int .i64 addr', .int .i64 g0', .int .i64 g1', .int .i64 g2', .slice aL' nL' cL', .slice aH' nH' cH', .int .i64 hits', .int .i64 misses', .bool false] 55)))
      have HBm := qh (HBd.out.outs (Outs.of_below (aC w9 (.cells #[.int .i64 id', .int .i64 addr', .int .i64 g0', .int .i64 g1', .int .i64 g2', .slice aL' nL' cL', .slice aH' nH' cH', .int .i64 hits', .int .i64 misses', .bool false] 55))))
      clear KA HBd
      go_wp2_with (at_builtin; refine wpList_append_own_at _ rfl _ _ 24 rfl w0.heap.size 55 i0 _ 10 112 Tryz.underlying24 HF.out.1 HF.out.2.1 HF.out.2.2.1 HF.out.2.2.2 rfl (by decide) _ N.length _ rfl KB.out.K.L.row ⟨w9.heap.size, 0, none⟩ 1 1 [.int .i64 id', .int .i64 addr', .int .i64 g0', .int .i64 g1', .int .i64 g2', .slice aL' nL' cL', .slice aH' nH' cH', .int .i64 hits', .int .i64 misses', .bool false] rfl rfl (bA rfl) (by intro u hu; simp at hu; rcases hu with rfl | rfl | rfl | rfl | rfl | rfl | rfl | rfl | rfl | rfl <;> rfl) (by have := HMl.out; unfold maxLen; omega) (by have := HMl.out; omega) KB.out.K.K.B.size ?_; intro v9 w9 hown9 hg9 _ hat9; obtain ⟨a9, c9, rfl⟩ := aU hown9; have KC0 := Rx.app (q := (⟨id', addr', ⟨g0', g1', g2'⟩, lo', hi', hits', misses', false⟩, ⟨aL', nL', cL', aH', nH', cH'⟩)) KB.out HBm.out hown9 hg9 hat9; have KX := qh KC0.2; have KC := qh KC0.1; clear KC0; have o6' : w9.cell? ⟨ob, 6, none⟩ = some (.slice aW N.length cW) := aA KC.out.out rfl; have f6' : w9.frozen? ⟨ob, 6, none⟩ = false := aF KC.out.out; have l6' := aB KC.out.out; clear hown9 hg9 hat9)
      clear z0 z1 z2 z3 z4 z5 z6 z7 z8 z9 zl
      clear o0 o1 o2 o3 o4 o5 o6 ol
      clear o6' f6' l6'
      go_roundw
      case rel => exact ⟨i + 1, E1, .slice a9 (N.length + 1) c9, N ++ [(⟨id', addr', ⟨g0', g1', g2'⟩, lo', hi', hits', misses', false⟩, ⟨aL', nL', cL', aH', nH', cH'⟩)], HLt.out, by go_num, by exact KC.out.set 6 (.slice a9 (N.length + 1) c9), by rw [HUs.out, bK, HM.out.1], by rw [HUs.out, ← HV1.out, HM.out.2, List.append_assoc]⟩
      case measure => simp [intOf]; have := HLt.out; omega
  obtain rfl : m = i := by omega
  go_wp2_with fail
  exact HQ.out _ _ _ _ _ _ _ _ _ _ _ _ _ _ _ _ _ _ _ _ _ _ _ _ _ _ _ _ _ _ _ _ _ _ _ _ _ _ _ _ _ _ _ _ _ _ _ _ _ _ _ _ _ _ _ _ _ _ _ _ _ _ _ _ _ _ _ _ _ _ _ _ _ _ _ _ _ _ _ _ _ _ _ _ _ _ _ _ _ _ _ _ _ _ _ _ _ _ _ _ _ _ _ _ _ _ ⟨K.out, HM.out.1, HM.out.2⟩
end Go.Proofs.YtikjjpjekchcjaaGreat
