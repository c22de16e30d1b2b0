/-
  TrkKe, TrkRk
-/
import Derived.Test.YtikjjpjekchcjaaGreatPm39
set_option linter.all false
set_option maxRecDepth 100000
set_option maxHeartbeats 64000000
section
namespace Go.Proofs.YtikjjpjekchcjaaGreat
open Go.RowKit TrkMath MyHeap MyOwn MyCopy
noncomputable def rlp6C : Code := ((Tryz.f9.body.bind (cutL 52)).getD .skip)
theorem rlp6 {u0 u3 u4 u5 u6 u7 u9 u10 u11 u12 u13 u14 u15 u16 u17 u18 u19 u22 u23 u24 u25 u26 u28 u29 u30 u31 u32 u33 u34 u35 u36 u37 u38 u39 u40 u41 u42 u43 u44 u45 u46 u47 u48 u49 u50 u51 u52 u53 u54 u55 u56 u57 u58 u59 u60 u61 u62 u63 u64 u65 u66 u67 u68 u69 u70 u71 u72 u73 u74 u75 u76 u77 u78 u79 u80 u81 u82 u83 u84 u85 u86 u87 u88 u89 u90 u91 u92 u93 u94 u95 u96 u97 u98 u99 u100 u101 u102 u103 u104 u105 u106 u107 u108 u109 u110 u111 u112 u113 u114 u115 u116 u117 u118 u119 u120 u121 u122 u123 u124 u125 u126 u127 u128 u129 u130 u131 u132 u133 u134 u135 u136 u137 u138 u139 u140 u141 u142 u143 u144 u145 u146 u147 u148 u149 u150 u151 u152 u153 u154 u155 u156 u157 u158 u159 u160 u161 u162 u163 u164 u165 u166 u167 u168 u169 u170 u171 u172 u173 u174 u175 u176 u177 u178 u179 u180 u181 u182 u183 u184 u185 u186 u187 u188 u189 u190 u191 u192 u193 u194 u195 u196 u197 u198 u199 u200 u201 u202 u203 u204 u205 u206 u207 u208 u209 u210 u211 u212 u213 u214 u215 u216 u217 u218 u219 u220 u221 u222 u223 u224 u225 u226 u227 u228 u229 u230 u231 u232 u233 u234 u235 u236 u237 u238 u239 u240 u241 u242 u243 u244 u245 u246 u247 u248 u249 u250 u251 u252 u253 u254 u255 u256 u257 u258 u259 u260 u261 u262 u263 u264 u265 u266 u267 u268 u269 u270 u271 u272 u273 u274 u275 u276 u277 u278 u279 u280 u281 u282 u283 u284 u285 u286 u287 u288 u289 u290 u291 u292 u293 u294 u295 : Value} (p : Par) (now next nw nx : Int) (a pa : Option Addr) (n c tb ob ub pn pc : Nat) (M0 : List TB) (P : List Pl) (us : Nat → Bool) (l : List (Nat × Array Value)) (eV lV0 : Value) (E0 : List Ev) (w0 wc : World) (Q0 : Exit → Act → World → Prop)
    (hK : R4 w0 ob ub (outC p nw nx lV0) l eV E0 lV0 M0 (.slice none 0 0) [] (usC pn us) (.slice none 0 0) 0 [] [] wc) (hP : Pls w0 pa pn P) (hpar : ParOk p) (hpl : ∀ k, k < pn → plE (gp P k) = 0) (p16 : pn ≤ 16) (hE0 : E0.length ≤ 300) (hnx : 0 ≤ nx ∧ nx ≤ 1073741824) (htb : (tb, #[.int .i64 p.gate, .int .i64 p.need, .int .i64 p.most, .int .i64 p.pull, .int .i64 now, .int .i64 next, .slice a n c]) ∈ l) (hpan : ∀ (c : List PanicEntry) (a : Act) d v (w : World), Q0 (.panic c) (a.put d v) w → Q0 (.panic c) a w)
    (hexit : ∀ (u28 u29 u30 u31 u32 u222 u223 u224 u225 u226 u227 u228 u229 u230 u231 u232 u233 u234 u235 u236 u237 u238 u239 u240 u241 u242 u243 u244 u245 u246 u247 u248 u249 u250 u251 u252 u253 u254 u255 u256 u257 u258 u259 u260 u261 u262 u263 u264 u265 u266 u267 u268 u269 u270 u271 u272 u273 u274 u275 u276 u277 u278 u279 u280 u281 u282 u283 u284 u285 u286 u287 u288 u289 u290 u291 u292 u293 eW lW : Value) (E : List Ev) (M : List TB) (W' : World) (_ : R4 w0 ob ub (outC p nw (staA p P us (fsts M0) nx pn).next (lW)) l eW E (lW) M (.slice none 0 0) [] (usC pn us) (.slice none 0 0) 0 [] [] W' ∧ fsts M = (staA p P us (fsts M0) nx pn).tk ∧ E = E0 ++ (staA p P us (fsts M0) nx pn).ev), Q0 (.exit 10) ⟨#[u0, .slice pa pn pc, .pointer (some ⟨tb, 0, none⟩), u3, u4, u5, u6, u7, eW, u9, u10, u11, u12, u13, u14, u15, u16, u17, u18, u19, .pointer (some ⟨ob, 0, none⟩), .slice (some ⟨ub, 0, none⟩) pn pn, u22, u23, u24, u25, u26, .int .i64 (pn : Int), u28, u29, u30, u31, u32, u33, u34, u35, u36, u37, u38, u39, u40, u41, u42, u43, u44, u45, u46, u47, u48, u49, u50, u51, u52, u53, u54, u55, u56, u57, u58, u59, u60, u61, u62, u63, u64, u65, u66, u67, u68, u69, u70, u71, u72, u73, u74, u75, u76, u77, u78, u79, u80, u81, u82, u83, u84, u85, u86, u87, u88, u89, u90, u91, u92, u93, u94, u95, u96, u97, u98, u99, u100, u101, u102, u103, u104, u105, u106, u107, u108, u109, u110, u111, u112, u113, u114, u115, u116, u117, u118, u119, u120, u121, u122, u123, u124, u125, u126, u127, u128, u129, u130, u131, u132, u133, u134, u135, u136, u137, u138, u139, u140, u141, u142, u143, u144, u145, u146, u147, u148, u149, u150, u151, u152, u153, u154, u155, u156, u157, u158, u159, u160, u161, u162, u163, u164, u165, u166, u167, u168, u169, u170, u171, u172, u173, u174, u175, u176, u177, u178, u179, u180, u181, u182, u183, u184, u185, u186, u187, u188, u189, u190, u191, u192, u193, u194, u195, u196, u197, u198, u199, u200, u201, u202, u203, u204, u205, u206, u207, u208, u209, u210, u211, u212, u213, u214, u215, u216, u217, u218, u219, u220, u221, u222, u223, u224, u225, u226, u227, u228, u229, u230, u231, u232, u233, u234, u235, u236, u237, u238, u239, u240, u241, u242, u243, u244, u245, u246, u247, u248, u249, u250, u251, u252, u253, u254, u255, u256, u257, u258, u259, u260, u261, u262, u263, u264, u265, u266, u267, u268, u269, u270, u271, u272, u273, u274, u275, u276, u277, u278, u279, u280, u281, u282, u283, u284, u285, u286, u287, u288, u289, u290, u291, u292, u293, u294, u295], []⟩ W') :
    Code.wp Tryz.prog rlp6C Q0 ⟨#[u0, .slice pa pn pc, .pointer (some ⟨tb, 0, none⟩), u3, u4, u5, u6, u7, eV, u9, u10, u11, u12, u13, u14, u15, u16, u17, u18, u19, .pointer (some ⟨ob, 0, none⟩), .slice (some ⟨ub, 0, none⟩) pn pn, u22, u23, u24, u25, u26, .int .i64 0, u28, u29, u30, u31, u32, u33, u34, u35, u36, u37, u38, u39, u40, u41, u42, u43, u44, u45, u46, u47, u48, u49, u50, u51, u52, u53, u54, u55, u56, u57, u58, u59, u60, u61, u62, u63, u64, u65, u66, u67, u68, u69, u70, u71, u72, u73, u74, u75, u76, u77, u78, u79, u80, u81, u82, u83, u84, u85, u86, u87, u88, u89, u90, u91, u92, u93, u94, u95, u96, u97, u98, u99, u100, u101, u102, u103, u104, u105, u106, u107, u108, u109, u110, u111, u112, u113, u114, u115, u116, u117, u118, u119, u120, u121, u122, u123, u124, u125, u126, u127, u128, u129, u130, u131, u132, u133, u134, u135, u136, u137, u138, u139, u140, u141, u142, u143, u144, u145, u146, u147, u148, u149, u150, u151, u152, u153, u154, u155, u156, u157, u158, u159, u160, u161, u162, u163, u164, u165, u166, u167, u168, u169, u170, u171, u172, u173, u174, u175, u176, u177, u178, u179, u180, u181, u182, u183, u184, u185, u186, u187, u188, u189, u190, u191, u192, u193, u194, u195, u196, u197, u198, u199, u200, u201, u202, u203, u204, u205, u206, u207, u208, u209, u210, u211, u212, u213, u214, u215, u216, u217, u218, u219, u220, u221, u222, u223, u224, u225, u226, u227, u228, u229, u230, u231, u232, u233, u234, u235, u236, u237, u238, u239, u240, u241, u242, u243, u244, u245, u246, u247, u248, u249, u250, u251, u252, u253, u254, u255, u256, u257, u258, u259, u260, u261, u262, u263, u264, u265, u266, u267, u268, u269, u270, u271, u272, u273, u274, u275, u276, u277, u278, u279, u280, u281, u282, u283, u284, u285, u286, u287, u288, u289, u290, u291, u292, u293, u294, u295], []⟩ wc := by
 conv => arg 2; whnf
 try dsimp only
 have HK0 := qh hK
 have HP := qh hP
 have HO := qh (And.intro hpar hpl)
 have HN := qh p16
 have HE0 := qh hE0
 have HNx := qh hnx
 have HTB := qh htb
 obtain ⟨i0, hi0, hz0, hs0, hb0⟩ := b6 kB
 have HF := qh (And.intro hi0 (And.intro hz0 (And.intro hs0 hb0)))
 obtain ⟨i1, hi1, hz1, hs1, hb1⟩ := b6 infoEr
 have HG := qh (And.intro hi1 (And.intro hz1 (And.intro hs1 hb1)))
 have HQ := qh hexit
 have HPan := qh hpan
 clear hK hP hpar hpl p16 hE0 hnx htb hexit hpan hi0 hz0 hs0 hb0 hi1 hz1 hs1 hb1
 go_loopw [8, 27] (fun ev kv wr => ∃ (k : Nat) (E : List Ev) (lV : Value) (N : List TB), k ≤ pn ∧ kv = .int .i64 k ∧ R4 w0 ob ub (outC p nw (staA p P us (fsts M0) nx k).next (lV)) l ev E (lV) N (.slice none 0 0) [] (usC pn us) (.slice none 0 0) 0 [] [] wr ∧ fsts N = (staA p P us (fsts M0) nx k).tk ∧ E = E0 ++ (staA p P us (fsts M0) nx k).ev) (fun _ kv _ => pn - (intOf kv).toNat)
 case atStart => exact ⟨0, E0, lV0, M0, by omega, rfl, HK0.out, rfl, (List.append_nil _).symm⟩
 case round =>
  clear HK0
  obtain ⟨k, E, lV, N, hk, rfl, hK, hM1, hM2⟩ := hrel
  obtain ⟨aE, cE, rfl⟩ := aU hK.K.E
  obtain ⟨aW, cW, rfl⟩ := aU hK.F.row
  have K := qh hK
  have HM := qh (And.intro hM1 hM2)
  clear hK hM1 hM2
  by_cases hlt : k < pn
  ·obtain ⟨d, of, rfl, p0, p1, p2⟩ := fS (HP.out.below K.out.K.B) hlt
   have pl := World.block_lt_of_cell? _ _ p0
   have HLt := qh hlt
   have HPk := qh (HO.out.2 k hlt)
   obtain ⟨⟨yr, yc, ya⟩, hY⟩ : ∃ y, gp P k = y := ⟨_, rfl⟩
   rw [hY] at p0 p1 p2 HPk
   simp only [] at p0 p1 p2
   have HY := qh hY
   have hk0 : (0 : Int) ≤ (k : Int) := by omega
   have hk1 : (k : Int) < (pn : Int) := by omega
   have hkw : IntKind.i64.wrap ((k : Int) + 1) = ((k + 1 : Nat) : Int) := by have := HN.out; rw [IntWalk.i64_in _ (by omega)]; omega
   obtain ⟨⟨tks, evl, nxk⟩, hst⟩ : ∃ s, (staA p P us (fsts M0) nx k) = s := ⟨_, rfl⟩
   rw [hst] at K HM
   simp only [] at K HM
   have HST := qh hst
   have HNl := qh (show N.length = tks.length from by rw [← HM.out.1, aY])
   have KA := qh (K.out.plot #[.int .i64 yr, .int .i64 yc, .int .i64 ya])
   clear hY hst hlt K
   go_upto_region 55 with fail
   clear p0 p1 p2 pl
   obtain ⟨B, hB⟩ : ∃ b, b = wr.heap.size := ⟨_, rfl⟩
   rw [← hB] at KA ⊢
   generalize wr.alloc (.cells #[.int .i64 yr, .int .i64 yc, .int .i64 ya] 63) = wa at *
   clear hB
   have u0 : wa.cell? ⟨ub, k, none⟩ = some (.bool (us k)) := aA KA.out.U (usC_get _ HLt.out)
   have ul := aB KA.out.U
   obtain ⟨b0, b1, b2⟩ := cJ (KA.out.Q _ List.mem_cons_self)
   have bl := aB (KA.out.Q _ List.mem_cons_self)
   obtain ⟨o0, o1, o2, o3, o4, o5, o6⟩ := aK KA.out.out
   have ol := aB KA.out.out
   cases hus : us k with
   | true =>
    rw [hus] at u0
    have HSk := qh (cZ (p := p) (P := P) (us := us) (L := fsts M0) (next := nx) (k := k) (by rw [HST.out]; exact Or.inl hus))
    go_wp2_with fail
    refine ⟨⟨k + 1, E, _, N, HLt.out, by go_num, by rw [HSk.out, HST.out]; exact KA.out.free, by rw [HSk.out, HST.out]; exact HM.out.1, by rw [HSk.out, HST.out]; exact HM.out.2⟩, by simp [intOf]; have := HLt.out; omega⟩
   | false =>
    rw [hus] at u0
    by_cases hc : yc < 0
    ·have HSk := qh (cZ (p := p) (P := P) (us := us) (L := fsts M0) (next := nx) (k := k) (by rw [HST.out]; exact Or.inr (Or.inl (by rw [HY.out, jI (by dsimp only; omega)]; decide))))
     go_wp2_with fail
     refine ⟨⟨k + 1, E, _, N, HLt.out, by go_num, by rw [HSk.out, HST.out]; exact KA.out.free, by rw [HSk.out, HST.out]; exact HM.out.1, by rw [HSk.out, HST.out]; exact HM.out.2⟩, by simp [intOf]; have := HLt.out; omega⟩
    by_cases h16 : 16 ≤ N.length
    ·have h16i : (16 : Int) ≤ (N.length : Int) := by omega
     have HSk := qh (cZ (p := p) (P := P) (us := us) (L := fsts M0) (next := nx) (k := k) (by rw [HST.out]; exact Or.inr (Or.inr (by rw [← HNl.out]; exact h16))))
     go_wp2_with fail
     refine ⟨⟨k + 1, E, _, N, HLt.out, by go_num, by rw [HSk.out, HST.out]; exact KA.out.free, by rw [HSk.out, HST.out]; exact HM.out.1, by rw [HSk.out, HST.out]; exact HM.out.2⟩, by simp [intOf]; have := HLt.out; omega⟩
    have h16i : ¬ (16 : Int) ≤ (N.length : Int) := by omega
    have hyc : 0 ≤ yc := by omega
    have HSg := qh (kD (p := p) (P := P) (us := us) (L := fsts M0) (next := nx) (k := k) (by
     rw [HST.out]
     rintro (e | e | e)
     ·rw [hus] at e; cases e
     ·rw [HY.out] at e; exact e ((mK HPk.out).2 hyc)
     have := HNl.out; simp only [] at e; omega))
    have HB2 := qh (oU (p := p) (P := P) (us := us) (L := fsts M0) (next := nx) k)
    rw [HST.out] at HSg HB2
    simp only [] at HSg HB2
    have HMl := qh (show N.length ≤ 16 from by omega)
    have HEl := qh (show E.length ≤ 400 from by
     rw [HM.out.2, List.length_append]
     have := HB2.out; have := HE0.out; have := HLt.out; have := HN.out; omega)
    have hAo := mD ((fL HPk.out).2 hyc)
    have HLv := qh (show lvOf ⟨yr, yc, ya⟩ = (GrayMath.altA yc, GrayMath.altS yc) from gI hyc)
    obtain ⟨A, hA⟩ : ∃ x, GrayMath.altA yc = x := ⟨_, rfl⟩
    obtain ⟨Sz, hSz⟩ : ∃ x, GrayMath.altS yc = x := ⟨_, rfl⟩
    obtain ⟨EA, hEA⟩ : ∃ x, GrayMath.altE yc = x := ⟨_, rfl⟩
    simp only [hA, hSz] at hAo
    rw [hA, hSz] at HLv
    have HAC0 := qh (show ∀ W : World, Calls Tryz.prog 36 #[.int .i64 yc] W (fun e w' => e = .returned (.tuple #[.int .i64 A, .int .i64 Sz, .int .i64 EA]) ∧ Below W.heap.size W w') from fun W => by
     have h := Gry.refAltitude_call yc W
     rw [hA, hSz, hEA] at h
     exact h)
    have HMe := qh (show AltMath.meE A Sz = 0 from by
     have h1 := jH (y := ⟨yr, yc, ya⟩) HPk.out
     rw [HLv.out] at h1
     exact h1 (by show 0 < Sz; omega))
    clear hA hSz hEA hAo
    go_wp2_with fail
    clear u0 ul
    clear o0 o1 o2 o3 o4 o5 o6 ol
    clear b0 b1 b2 bl
    refine (HAC0.out _).mono ?_; rintro e w2 ⟨rfl, hb⟩
    replace KA := qh (KA.out.below hb)
    clear hb
    obtain ⟨b0, b1, b2⟩ := cJ (KA.out.Q _ List.mem_cons_self)
    have bl := aB (KA.out.Q _ List.mem_cons_self)
    obtain ⟨o0, o1, o2, o3, o4, o5, o6⟩ := aK KA.out.out
    have ol := aB KA.out.out
    obtain ⟨t0, t1, t2, t3, t4, t5, t6⟩ := aK (KA.out.K.H _ (List.mem_cons_of_mem _ HTB.out))
    have tl := aB (KA.out.K.H _ (List.mem_cons_of_mem _ HTB.out))
    have hone : (1 : Int) ≤ p.need := HO.out.1.2.1.1
    go_upto_region 58 with fail
    clear hone
    clear b0 b1 b2 bl
    clear o0 o1 o2 o3 o4 o5 o6 ol
    clear t0 t1 t2 t3 t4 t5 t6 tl
    replace KA := qh (Rx.new ((⟨nxk, ya, ⟨0, 0, 0⟩, [], [], 1, 0, (decide (p.need ≤ 1))⟩, ⟨none, 0, 0, none, 0, 0⟩)) KA.out)
    unfold tkC at KA
    try simp only [] at KA
    obtain ⟨T, hT⟩ : ∃ b, b = w2.heap.size := ⟨_, rfl⟩
    rw [← hT] at KA ⊢
    generalize w2.alloc (.cells #[.int .i64 nxk, .int .i64 ya, .int .i64 0, .int .i64 0, .int .i64 0, .slice none 0 0, .slice none 0 0, .int .i64 1, .int .i64 0, .bool (decide (p.need ≤ 1))] 55) = w3 at *
    clear hT
    obtain ⟨⟨g0, g1, g2⟩, hg⟩ : ∃ x, nwX yr = x := ⟨_, rfl⟩
    obtain ⟨EN, hEN⟩ : ∃ x, nwE yr = x := ⟨_, rfl⟩
    have HGx := qh hg
    have HNC := qh (show ∀ W : World, Calls Tryz.prog 37 #[.int .i64 yr] W (fun e w' => e = .returned (.tuple #[.agg #[.int .i64 g0, .int .i64 g1, .int .i64 g2], .int .i64 EN]) ∧ Below W.heap.size W w') from fun W => by
     have h := rNw_call yr W
     rw [hg, hEN] at h
     exact h)
    obtain ⟨lo', hlo⟩ : ∃ x, AltMath.loK (AltMath.neF A Sz) 201 = x := ⟨_, rfl⟩
    obtain ⟨hi', hhi⟩ : ∃ x, AltMath.hiK (AltMath.neF A Sz) 201 = x := ⟨_, rfl⟩
    have HLn2 := qh (show lo'.length = 201 ∧ hi'.length = 201 from ⟨by rw [← hlo]; exact AltMath.loK_len _ _, by rw [← hhi]; exact AltMath.hiK_len _ _⟩)
    have HLH := qh (And.intro hlo hhi)
    have HAC := qh (show ∀ W : World, Calls Tryz.prog 38 #[.int .i64 A, .int .i64 Sz] W (Alt.BOPost 0 lo' hi' W) from fun W => by
     have h := Alt.rNew_call A Sz W
     rw [hlo, hhi, HMe.out] at h
     exact h)
    clear hg hEN hlo hhi
    obtain ⟨b0, b1, b2⟩ := cJ (KA.out.Q _ List.mem_cons_self)
    have bl := aB (KA.out.Q _ List.mem_cons_self)
    go_wp2_with fail
    clear b0 b1 b2 bl
    refine (HNC.out _).mono ?_; rintro e w4 ⟨rfl, hb⟩
    replace KA := qh (KA.out.below hb)
    clear hb
    obtain ⟨f0, f1, f2, f3, f4, f5, f6, f7, f8, f9⟩ := aX (q := (⟨nxk, ya, ⟨0, 0, 0⟩, [], [], 1, 0, (decide (p.need ≤ 1))⟩, ⟨none, 0, 0, none, 0, 0⟩)) KA.out.K.X
    obtain ⟨z0, z1, z2, z3, z4, z5, z6, z7, z8, z9⟩ := TkAt.block' (q := (⟨nxk, ya, ⟨0, 0, 0⟩, [], [], 1, 0, (decide (p.need ≤ 1))⟩, ⟨none, 0, 0, none, 0, 0⟩)) KA.out.K.X
    simp only [] at z0 z1 z2 z3 z4 z5 z6 z7 z8 z9
    have zl := aB KA.out.K.X
    go_upto_region 59 with fail
    clear f0 f1 f2 f3 f4 f5 f6 f7 f8 f9
    clear z0 z1 z2 z3 z4 z5 z6 z7 z8 z9 zl
    have KW := qh (j5 (t := ⟨nxk, ya, ⟨0, 0, 0⟩, [], [], 1, 0, (decide (p.need ≤ 1))⟩) (s := ⟨none, 0, 0, none, 0, 0⟩) KA.out.K.X g0 g1 g2)
    replace KA := qh (KA.out.store (q' := (⟨nxk, ya, ⟨g0, g1, g2⟩, [], [], 1, 0, (decide (p.need ≤ 1))⟩, ⟨none, 0, 0, none, 0, 0⟩)) KW.out.2 KW.out.1)
    clear KW
    generalize ((w4.setCell ⟨T, 2, none⟩ (.int .i64 g0)).setCell ⟨T, 3, none⟩ (.int .i64 g1)).setCell ⟨T, 4, none⟩ (.int .i64 g2) = w5 at *
    have HLs := qh KA.out.K.lts
    go_wp2_with fail
    refine (HAC.out _).mono ?_; rintro e w6 ⟨vL, vH, rfl, hT2, -, hb⟩
    replace hT2 := hT2 rfl
    obtain ⟨a1, c1, rfl⟩ := aU (HLn2.out.1 ▸ hT2.L)
    obtain ⟨a2, c2, rfl⟩ := aU (HLn2.out.2 ▸ hT2.H)
    have HBd := qh (kA (t := ⟨nxk, ya, ⟨g0, g1, g2⟩, [], [], 1, 0, (decide (p.need ≤ 1))⟩) hT2 (Nat.le_refl _) HLn2.out.1 HLn2.out.2 w0.heap.size _ KA.out.K.K.B.size HLs.out)
    replace KA := qh (KA.out.below hb)
    clear hb hT2 HLs
    obtain ⟨f0, f1, f2, f3, f4, f5, f6, f7, f8, f9⟩ := aX (q := (⟨nxk, ya, ⟨g0, g1, g2⟩, [], [], 1, 0, (decide (p.need ≤ 1))⟩, ⟨none, 0, 0, none, 0, 0⟩)) KA.out.K.X
    obtain ⟨z0, z1, z2, z3, z4, z5, z6, z7, z8, z9⟩ := TkAt.block' (q := (⟨nxk, ya, ⟨g0, g1, g2⟩, [], [], 1, 0, (decide (p.need ≤ 1))⟩, ⟨none, 0, 0, none, 0, 0⟩)) KA.out.K.X
    simp only [] at z0 z1 z2 z3 z4 z5 z6 z7 z8 z9
    have zl := aB KA.out.K.X
    go_upto_region 60 with fail
    clear f0 f1 f2 f3 f4 f5 f6 f7 f8 f9
    clear z0 z1 z2 z3 z4 z5 z6 z7 z8 z9 zl
    have KW := qh (iJ (t := ⟨nxk, ya, ⟨g0, g1, g2⟩, [], [], 1, 0, (decide (p.need ≤ 1))⟩) (s := ⟨none, 0, 0, none, 0, 0⟩) KA.out.K.X lo' hi' a1 a2 201 c1 201 c2)
    replace HBd := qh (HBd.out.outs (Outs.of_only KW.out.2 (List.mem_cons_of_mem _ List.mem_cons_self)))
    replace KA := qh (KA.out.store (q' := (⟨nxk, ya, ⟨g0, g1, g2⟩, lo', hi', 1, 0, (decide (p.need ≤ 1))⟩, ⟨a1, 201, c1, a2, 201, c2⟩)) KW.out.2 KW.out.1)
    clear KW
    generalize (w6.setCell ⟨T, 5, none⟩ (.slice a1 201 c1)).setCell ⟨T, 6, none⟩ (.slice a2 201 c2) = w7 at *
    obtain ⟨z0, z1, z2, z3, z4, z5, z6, z7, z8, z9⟩ := TkAt.block' (q := (⟨nxk, ya, ⟨g0, g1, g2⟩, lo', hi', 1, 0, (decide (p.need ≤ 1))⟩, ⟨a1, 201, c1, a2, 201, c2⟩)) KA.out.K.X
    simp only [] at z0 z1 z2 z3 z4 z5 z6 z7 z8 z9
    have zl := aB KA.out.K.X
    obtain ⟨o0, o1, o2, o3, o4, o5, o6⟩ := aK KA.out.out
    have ol := aB KA.out.out
    have KB := qh (KA.out.below (aC w7 (.cells #[.int .i64 nxk, .int .i64 ya, .int .i64 g0, .int .i64 g1, .int .i64 g2, .slice a1 201 c1, .slice a2 201 c2, .int .i64 1, .int .i64 0, .bool (decide (p.need ≤ 1))] 55)))
    have HBm := qh (HBd.out.outs (Outs.of_below (aC w7 (.cells #[.int .i64 nxk, .int .i64 ya, .int .i64 g0, .int .i64 g1, .int .i64 g2, .slice a1 201 c1, .slice a2 201 c2, .int .i64 1, .int .i64 0, .bool (decide (p.need ≤ 1))] 55))))
    clear KA HBd
    go_upto_region 61 with (at_builtin; refine wpList_append_own_at _ rfl _ _ 24 rfl w0.heap.size 55 i0 _ 10 112 Tryz.underlying24 HF.out.1 HF.out.2.1 HF.out.2.2.1 HF.out.2.2.2 rfl (by decide) _ N.length _ rfl KB.out.K.L.row ⟨w7.heap.size, 0, none⟩ 1 1 [.int .i64 nxk, .int .i64 ya, .int .i64 g0, .int .i64 g1, .int .i64 g2, .slice a1 201 c1, .slice a2 201 c2, .int .i64 1, .int .i64 0, .bool (decide (p.need ≤ 1))] rfl rfl (bA rfl) (by intro u hu; simp at hu; rcases hu with rfl | rfl | rfl | rfl | rfl | rfl | rfl | rfl | rfl | rfl <;> rfl) (by have := HMl.out; unfold maxLen; omega) (by have := HMl.out; omega) KB.out.K.K.B.size ?_; intro v9 w9 hown9 hg9 _ hat9; obtain ⟨a9, c9, rfl⟩ := aU hown9; have KC0 := Rx.app (q := (⟨nxk, ya, ⟨g0, g1, g2⟩, lo', hi', 1, 0, (decide (p.need ≤ 1))⟩, ⟨a1, 201, c1, a2, 201, c2⟩)) KB.out HBm.out hown9 hg9 hat9; have KX := qh KC0.2; have KC := qh KC0.1; clear KC0; have o6' : w9.cell? ⟨ob, 6, none⟩ = some (.slice aW N.length cW) := aA KC.out.out rfl; have f6' : w9.frozen? ⟨ob, 6, none⟩ = false := aF KC.out.out; have l6' := aB KC.out.out; clear hown9 hg9 hat9)
    clear z0 z1 z2 z3 z4 z5 z6 z7 z8 z9 zl
    clear o0 o1 o2 o3 o4 o5 o6 ol
    clear o6' f6' l6'
    have HX1 := qh (dR (cK ((Only.refl ob w9).setCell 6 (.slice a9 (N.length + 1) c9))) KX.out (gT KC.out.out (by decide)))
    have KA := qh (show R4 w0 ob ub (outC p nw nxk (.slice a9 (N.length + 1) c9)) l _ E (.slice a9 (N.length + 1) c9) (N ++ [(⟨nxk, ya, ⟨g0, g1, g2⟩, lo', hi', 1, 0, (decide (p.need ≤ 1))⟩, ⟨a1, 201, c1, a2, 201, c2⟩)]) _ _ _ _ _ _ _ _ from by exact KC.out.set 6 (.slice a9 (N.length + 1) c9))
    clear KC KX
    generalize w9.setCell ⟨ob, 6, none⟩ (.slice a9 (N.length + 1) c9) = w10 at *
    have z0 : w10.cell? ⟨T, 0, none⟩ = some (.int .i64 nxk) := aA HX1.out rfl
    have zl := aB HX1.out
    have KB := qh (KA.out.below (aC w10 (.cells #[.int .u8 5, .int .i64 nxk, .int .i64 (k : Int)] 47)))
    clear KA HX1
    go_upto_region 62 with (at_builtin; refine wpList_append_own_at _ rfl _ _ 39 rfl w0.heap.size 47 i1 _ 3 24 Tryz.underlying39 HG.out.1 HG.out.2.1 HG.out.2.2.1 HG.out.2.2.2 rfl (by decide) _ E.length _ rfl KB.out.K.E ⟨w10.heap.size, 0, none⟩ 1 1 [.int .u8 5, .int .i64 nxk, .int .i64 (k : Int)] rfl rfl (bA rfl) (by intro u hu; simp at hu; rcases hu with rfl | rfl | rfl <;> rfl) (by have := HEl.out; unfold maxLen; omega) (by have := HEl.out; omega) KB.out.K.B.size ?_; intro v8 w8 hown9 hg9 _ hat9; have KC := qh (R4.event (x := ⟨5, nxk, (k : Int)⟩) KB.out hown9 hg9 hat9); clear hown9 hg9 hat9)
    clear z0 zl KB
    have hnw : IntKind.i64.wrap (nxk + 1) = nxk + 1 := by have := HB2.out; have := HNx.out; have := HLt.out; have := HN.out; exact IntWalk.i64_in _ (by omega)
    obtain ⟨o0, o1, o2, o3, o4, o5, o6⟩ := aK KC.out.out
    have ol := aB KC.out.out
    have f5 : w8.frozen? ⟨ob, 5, none⟩ = false := aF KC.out.out
    go_wp2_with fail
    refine ⟨⟨k + 1, E ++ [⟨5, nxk, (k : Int)⟩], .slice a9 (N.length + 1) c9, N ++ [(⟨nxk, ya, ⟨g0, g1, g2⟩, lo', hi', 1, 0, (decide (p.need ≤ 1))⟩, ⟨a1, 201, c1, a2, 201, c2⟩)], HLt.out, by go_num, by rw [HSg.out]; exact (KC.out.set 5 (.int .i64 (nxk + 1))).free, ?_, by rw [HSg.out, HM.out.2, List.append_assoc]⟩, by simp [intOf]; have := HLt.out; omega⟩
    rw [HSg.out, bK, HM.out.1, HY.out, HLv.out]
    show _ ++ [_] = _ ++ [newT p nxk ⟨yr, yc, ya⟩ (A, Sz)]
    have hd : decide (p.need ≤ 1) = decide (p.need = 1) := by
     have := HO.out.1.2.1.1
     by_cases e : p.need = 1
     ·rw [decide_eq_true e, decide_eq_true (by omega)]
     rw [decide_eq_false e, decide_eq_false (by omega)]
    unfold newT
    dsimp only
    rw [HGx.out, HLH.out.1, HLH.out.2, hd]
  obtain rfl : pn = k := by omega
  go_wp2_with fail
  exact HQ.out _ _ _ _ _ _ _ _ _ _ _ _ _ _ _ _ _ _ _ _ _ _ _ _ _ _ _ _ _ _ _ _ _ _ _ _ _ _ _ _ _ _ _ _ _ _ _ _ _ _ _ _ _ _ _ _ _ _ _ _ _ _ _ _ _ _ _ _ _ _ _ _ _ _ _ _ _ _ _ _ _ _ ⟨K.out, HM.out.1, HM.out.2⟩
end Go.Proofs.YtikjjpjekchcjaaGreat
end
section
namespace Go.Proofs.YtikjjpjekchcjaaGreat
open Go.RowKit TrkMath MyHeap MyOwn
structure TbR where
 par : Par
 now : Int
 next : Int
 tk : List Tk
def tbR0 : TbR := ⟨par0, 0, 0, []⟩
def cyR (p : Par) (now next : Int) (L : List Tk) (P : List Pl) : TbR := if cyE p now next L P = 0 then ⟨p, now + 1, cyX p next L P, cyT p next L P⟩ else tbR0
def cyW (p : Par) (now next : Int) (L : List Tk) (P : List Pl) : List Ev := if cyE p now next L P = 0 then cyV p next L P else []
theorem jQ {p : Par} {now next : Int} {L : List Tk} {P : List Pl} (h : cyE p now next L P = 0) : cyR p now next L P = ⟨p, now + 1, cyX p next L P, cyT p next L P⟩ ∧ cyW p now next L P = cyV p next L P := ⟨if_pos h, if_pos h⟩
theorem eK {p : Par} {now next : Int} {L : List Tk} {P : List Pl} (h : cyE p now next L P ≠ 0) : cyR p now next L P = tbR0 ∧ cyW p now next L P = [] := ⟨if_neg h, if_neg h⟩
def CyPost (ty : TypeId) (R : TbR) (V : List Ev) (E : Int) (w : World) (e : Ending) (w' : World) : Prop :=
 ∃ tV eV M, e = .returned (.tuple #[tbV R.par R.now R.next tV, eV, .int .i64 E]) ∧ Lf w.heap.size [eV.ownBlock] tV M w' ∧ fsts M = R.tk ∧ w'.ownsRow w.heap.size ty 3 eV V.length (flatE V) ∧ Below w.heap.size w w'
theorem cU {ty : TypeId} {R : TbR} {V : List Ev} {E : Int} {w w' : World} (hR : R = tbR0) (hV : V = []) (hB : Below w.heap.size w w') : CyPost ty R V E w (.returned (.tuple #[tbV par0 0 0 (.slice none 0 0), .slice none 0 0, .int .i64 E])) w' := by
 subst hR; subst hV
 exact ⟨_, _, [], rfl, Lf.nil _ _ _, rfl, ⟨rfl, Or.inl ⟨rfl, rfl⟩⟩, hB⟩
def LVk (P : List Pl) (k : Nat) : List Lv := (List.range P.length).map fun i => if i < k then lvOf (gp P i) else (0, 0)
theorem gX (P : List Pl) (k : Nat) : (LVk P k).length = P.length := by unfold LVk; simp
theorem pC (P : List Pl) (k i : Nat) (hi : i < P.length) : (LVk P k)[i]? = some (if i < k then lvOf (gp P i) else (0, 0)) := by
 unfold LVk
 rw [List.getElem?_map, List.getElem?_range hi]
 rfl
theorem LVk_none (P : List Pl) (k : Nat) (h : lvOf (gp P k) = (0, 0)) : LVk P (k + 1) = LVk P k := by
 unfold LVk
 refine List.map_congr_left fun i _ => ?_
 by_cases h1 : i < k
 ·rw [if_pos h1, if_pos (by omega)]
 rw [if_neg h1]
 by_cases h2 : i = k
 ·subst h2; rw [if_pos (by omega), h]
 rw [if_neg (by omega)]
theorem LVk_set (P : List Pl) (k : Nat) : LVk P (k + 1) = (LVk P k).set k (lvOf (gp P k)) := by
 apply List.ext_getElem?
 intro i
 rw [List.getElem?_set, gX]
 by_cases hi : i < P.length
 ·rw [pC _ _ _ hi, pC _ _ _ hi]
  by_cases e : k = i
  ·subst e
   rw [if_pos rfl, if_pos hi, if_pos (by omega)]
  rw [if_neg e]
  by_cases h1 : i < k
  ·rw [if_pos h1, if_pos (by omega)]
  rw [if_neg h1, if_neg (by omega)]
 rw [List.getElem?_eq_none (by rw [gX]; omega), List.getElem?_eq_none (by rw [gX]; omega)]
 by_cases e : k = i
 ·subst e; rw [if_pos rfl, if_neg hi]
 rw [if_neg e]
theorem LVk_all (P : List Pl) : LVk P P.length = P.map lvOf := by
 apply List.ext_getElem?
 intro i
 by_cases hi : i < P.length
 ·rw [pC _ _ _ hi, if_pos hi, List.getElem?_map]
  unfold gp
  rw [List.getElem?_eq_getElem hi]
  rfl
 rw [List.getElem?_eq_none (by rw [gX]; omega), List.getElem?_eq_none (by rw [List.length_map]; omega)]
theorem flat2_set : ∀ (l : List Lv) (k : Nat) (a b : Int), k < l.length → flat2 (l.set k (a, b)) = ((flat2 l).set (k * 2) (.int .i64 a)).set (k * 2 + 1) (.int .i64 b) := by
 intro l
 induction l with
 | nil => intro k a b h; exact absurd h (Nat.not_lt_zero _)
 | cons x l ih =>
  intro k a b h
  cases k with
  | zero => rfl
  | succ k =>
   have e : (k + 1) * 2 = k * 2 + 2 := by omega
   rw [e]
   show _ :: _ :: flat2 (l.set k (a, b)) = _
   rw [ih k a b (by simpa using h)]
   rfl
theorem LvAt.set {g : Nat} {LV : List Lv} {w : World} (h : LvAt g LV w) {k : Nat} (hk : k < LV.length) (a b : Int) : LvAt g (LV.set k (a, b)) ((w.setCell ⟨g, k * 2, none⟩ (.int .i64 a)).setCell ⟨g, k * 2 + 1, none⟩ (.int .i64 b)) := by
 obtain ⟨cs, h1, h2⟩ := h
 refine ⟨_, aD (aD h1), ?_⟩
 rw [flat2_set _ _ _ _ hk, ← h2, Array.toList_setIfInBounds, Array.toList_setIfInBounds]
theorem LvAt.free {g k : Nat} {LV : List Lv} {w : World} (h : LvAt g LV w) : w.frozen? ⟨g, k, none⟩ = false ∧ g < w.heap.size := by
 obtain ⟨cs, h1, -⟩ := h
 exact ⟨aF h1, aB h1⟩
theorem infoLv : (Tryz.prog.info? 78).map (fun i => (i.zero, i.size, i.bytes)) = some (some (.agg #[.int .i64 0, .int .i64 0]), 2, 16) := by kernel_rfl
theorem hmkL (n : Nat) (hn : n ≤ 1000000) (W : World) : (Instr.makeSlice 71 (.int .i64 (n : Int)) (.int .i64 (n : Int))).run Tryz.prog W = .ok (.slice (some ⟨W.heap.size, 0, none⟩) n n) (W.alloc (.cells (madeCells #[.int .i64 0, .int .i64 0] (n * 2)) 78)) := by
 obtain ⟨i0, hi, hiz, his, hib⟩ := b6 infoLv
 have h := run_make W 71 78 i0 _ Tryz.underlying71 hi hiz .i64 .i64 (n : Int) (n : Int) (by omega) (by omega) (by rw [hib]; omega) (by omega)
 rw [Int.toNat_natCast, his] at h
 exact h
theorem lv_made (P : List Pl) (n : Nat) (hn : P.length = n) (w : World) : LvAt w.heap.size (LVk P 0) (w.alloc (.cells (madeCells #[.int .i64 0, .int .i64 0] (n * 2)) 78)) := by
 refine ⟨_, aI _ _ rfl, ?_⟩
 have h1 : ∀ l : List Lv, (∀ x ∈ l, x = (0, 0)) → flat2 l = List.replicate (l.length * 2) (.int .i64 0) := by
  intro l
  induction l with
  | nil => intro _; rfl
  | cons x l ih =>
   intro h
   have hx := h x List.mem_cons_self
   subst hx
   show _ :: _ :: flat2 l = _
   rw [ih (fun y hy => h y (List.mem_cons_of_mem _ hy)), show (((0 : Int), (0 : Int)) :: l).length * 2 = l.length * 2 + 1 + 1 from by simp; omega, List.replicate_succ, List.replicate_succ]
 rw [h1 _ (fun x hx => by
  unfold LVk at hx
  obtain ⟨i, -, rfl⟩ := List.mem_map.1 hx
  rw [if_neg (Nat.not_lt_zero _)]), gX, hn]
 apply List.ext_getElem?
 intro i
 by_cases hi : i < n * 2
 ·rw [List.getElem?_replicate, if_pos hi]
  simp [madeCells, hi]
  rcases Nat.mod_two_eq_zero_or_one i with e | e <;> simp [e]
 rw [List.getElem?_eq_none (by simp [madeCells]; omega), List.getElem?_eq_none (by simp; omega)]
end Go.Proofs.YtikjjpjekchcjaaGreat
end
