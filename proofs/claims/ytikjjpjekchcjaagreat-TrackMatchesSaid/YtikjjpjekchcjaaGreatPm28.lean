/-
  TrkKb, BitsLib, PtGrayB, PtGrayC, PtGrayD, PtGrayE, PtGrayF, PtGrayG, PtGrayH
-/
import Derived.Test.YtikjjpjekchcjaaGreatPm27
set_option linter.all false
set_option maxRecDepth 100000
set_option maxHeartbeats 64000000
section
namespace Go.Proofs.YtikjjpjekchcjaaGreat
open Go.RowKit TrkMath MyHeap MyOwn MyCopy
noncomputable def rlp1C : Code := ((Tryz.f9.body.bind (cutL 7)).getD .skip)
theorem rlp1 {u0 u1 u3 u4 u5 u6 u7 u11 u12 u13 u14 u15 u16 u17 u18 u19 u20 u21 u22 u23 u24 u25 u26 u27 u28 u29 u30 u31 u32 u33 u34 u35 u36 u37 u38 u39 u40 u41 u42 u43 u44 u45 u46 u47 u48 u49 u50 u51 u52 u53 u54 u55 u56 u57 u58 u59 u60 u61 u62 u63 u64 u65 u66 u67 u68 u69 u70 u71 u72 u73 u74 u75 u76 u77 u78 u79 u80 u81 u82 u83 u84 u85 u86 u87 u88 u89 u90 u91 u92 u93 u94 u95 u96 u97 u98 u99 u100 u101 u102 u103 u104 u105 u106 u107 u108 u109 u110 u111 u112 u113 u114 u115 u116 u117 u118 u119 u120 u121 u122 u123 u124 u125 u126 u127 u128 u129 u130 u131 u132 u133 u134 u135 u136 u137 u138 u139 u140 u141 u142 u143 u144 u145 u146 u147 u148 u149 u150 u151 u152 u153 u154 u155 u156 u157 u158 u159 u160 u161 u162 u163 u164 u165 u166 u167 u168 u169 u170 u171 u172 u173 u174 u175 u176 u177 u178 u179 u180 u181 u182 u183 u184 u185 u186 u187 u188 u189 u190 u191 u192 u193 u194 u195 u196 u197 u198 u199 u200 u201 u202 u203 u204 u205 u206 u207 u208 u209 u210 u211 u212 u213 u214 u215 u216 u217 u218 u219 u220 u221 u222 u223 u224 u225 u226 u227 u228 u229 u230 u231 u232 u233 u234 u235 u236 u237 u238 u239 u240 u241 u242 u243 u244 u245 u246 u247 u248 u249 u250 u251 u252 u253 u254 u255 u256 u257 u258 u259 u260 u261 u262 u263 u264 u265 u266 u267 u268 u269 u270 u271 u272 u273 u274 u275 u276 u277 u278 u279 u280 u281 u282 u283 u284 u285 u286 u287 u288 u289 u290 u291 u292 u293 u294 u295 : Value} (p : Par) (now next : Int) (a : Option Addr) (n c tb : Nat) (L : List TB) (l : List (Nat × Array Value)) (w0 wc : World) (Q0 : Exit → Act → World → Prop)
    (hT : Trs w0 a n L) (hI : ∀ k, k < n → BdI w0 (gt L k)) (hok : ∀ k, k < n → TkOk p (gt L k).1) (hpar : ParOk p) (n16 : n ≤ 16) (htb : (tb, #[.int .i64 p.gate, .int .i64 p.need, .int .i64 p.most, .int .i64 p.pull, .int .i64 now, .int .i64 next, .slice a n c]) ∈ l) (hK : Rc w0 [] l (.slice none 0 0) [] wc) (hpan : ∀ (c : List PanicEntry) (a : Act) d v (w : World), Q0 (.panic c) (a.put d v) w → Q0 (.panic c) a w)
    (hexit : ∀ (u11 u12 u13 u40 u41 u42 u43 u44 u45 u46 u47 u48 u49 u50 u51 u52 u53 u54 u55 u56 u57 u58 u59 u60 u61 u62 u63 u64 u65 u66 u67 u68 u69 u70 u71 u72 u73 u74 u75 u76 u77 u78 eV lV : Value) (E : List Ev) (M : List TB) (W' : World) (_ : Rc w0 [] l eV E W' ∧ Lf w0.heap.size [(eV).ownBlock] lV M W' ∧ fsts M = (stpA p (fsts L) n).1 ∧ E = (stpA p (fsts L) n).2), Q0 (.exit 0) ⟨#[u0, u1, .pointer (some ⟨tb, 0, none⟩), u3, u4, u5, u6, u7, eV, lV, .int .i64 (n : Int), u11, u12, u13, u14, u15, u16, u17, u18, u19, u20, u21, u22, u23, u24, u25, u26, u27, u28, u29, u30, u31, u32, u33, u34, u35, u36, u37, u38, u39, u40, u41, u42, u43, u44, u45, u46, u47, u48, u49, u50, u51, u52, u53, u54, u55, u56, u57, u58, u59, u60, u61, u62, u63, u64, u65, u66, u67, u68, u69, u70, u71, u72, u73, u74, u75, u76, u77, u78, u79, u80, u81, u82, u83, u84, u85, u86, u87, u88, u89, u90, u91, u92, u93, u94, u95, u96, u97, u98, u99, u100, u101, u102, u103, u104, u105, u106, u107, u108, u109, u110, u111, u112, u113, u114, u115, u116, u117, u118, u119, u120, u121, u122, u123, u124, u125, u126, u127, u128, u129, u130, u131, u132, u133, u134, u135, u136, u137, u138, u139, u140, u141, u142, u143, u144, u145, u146, u147, u148, u149, u150, u151, u152, u153, u154, u155, u156, u157, u158, u159, u160, u161, u162, u163, u164, u165, u166, u167, u168, u169, u170, u171, u172, u173, u174, u175, u176, u177, u178, u179, u180, u181, u182, u183, u184, u185, u186, u187, u188, u189, u190, u191, u192, u193, u194, u195, u196, u197, u198, u199, u200, u201, u202, u203, u204, u205, u206, u207, u208, u209, u210, u211, u212, u213, u214, u215, u216, u217, u218, u219, u220, u221, u222, u223, u224, u225, u226, u227, u228, u229, u230, u231, u232, u233, u234, u235, u236, u237, u238, u239, u240, u241, u242, u243, u244, u245, u246, u247, u248, u249, u250, u251, u252, u253, u254, u255, u256, u257, u258, u259, u260, u261, u262, u263, u264, u265, u266, u267, u268, u269, u270, u271, u272, u273, u274, u275, u276, u277, u278, u279, u280, u281, u282, u283, u284, u285, u286, u287, u288, u289, u290, u291, u292, u293, u294, u295], []⟩ W') :
    Code.wp Tryz.prog rlp1C Q0 ⟨#[u0, u1, .pointer (some ⟨tb, 0, none⟩), u3, u4, u5, u6, u7, .slice none 0 0, .slice none 0 0, .int .i64 0, u11, u12, u13, u14, u15, u16, u17, u18, u19, u20, u21, u22, u23, u24, u25, u26, u27, u28, u29, u30, u31, u32, u33, u34, u35, u36, u37, u38, u39, u40, u41, u42, u43, u44, u45, u46, u47, u48, u49, u50, u51, u52, u53, u54, u55, u56, u57, u58, u59, u60, u61, u62, u63, u64, u65, u66, u67, u68, u69, u70, u71, u72, u73, u74, u75, u76, u77, u78, u79, u80, u81, u82, u83, u84, u85, u86, u87, u88, u89, u90, u91, u92, u93, u94, u95, u96, u97, u98, u99, u100, u101, u102, u103, u104, u105, u106, u107, u108, u109, u110, u111, u112, u113, u114, u115, u116, u117, u118, u119, u120, u121, u122, u123, u124, u125, u126, u127, u128, u129, u130, u131, u132, u133, u134, u135, u136, u137, u138, u139, u140, u141, u142, u143, u144, u145, u146, u147, u148, u149, u150, u151, u152, u153, u154, u155, u156, u157, u158, u159, u160, u161, u162, u163, u164, u165, u166, u167, u168, u169, u170, u171, u172, u173, u174, u175, u176, u177, u178, u179, u180, u181, u182, u183, u184, u185, u186, u187, u188, u189, u190, u191, u192, u193, u194, u195, u196, u197, u198, u199, u200, u201, u202, u203, u204, u205, u206, u207, u208, u209, u210, u211, u212, u213, u214, u215, u216, u217, u218, u219, u220, u221, u222, u223, u224, u225, u226, u227, u228, u229, u230, u231, u232, u233, u234, u235, u236, u237, u238, u239, u240, u241, u242, u243, u244, u245, u246, u247, u248, u249, u250, u251, u252, u253, u254, u255, u256, u257, u258, u259, u260, u261, u262, u263, u264, u265, u266, u267, u268, u269, u270, u271, u272, u273, u274, u275, u276, u277, u278, u279, u280, u281, u282, u283, u284, u285, u286, u287, u288, u289, u290, u291, u292, u293, u294, u295], []⟩ wc := by
 conv => arg 2; whnf
 try dsimp only
 have HK0 := qh hK
 have HT := qh hT
 have HI := qh hI
 have HO := qh (And.intro hok hpar)
 have HN := qh n16
 have HTB := qh htb
 obtain ⟨i0, hi0, hz0, hs0, hb0⟩ := b6 kB
 have HF := qh (And.intro hi0 (And.intro hz0 (And.intro hs0 hb0)))
 obtain ⟨i1, hi1, hz1, hs1, hb1⟩ := b6 infoEr
 have HG := qh (And.intro hi1 (And.intro hz1 (And.intro hs1 hb1)))
 have HQ := qh hexit
 have HPan := qh hpan
 clear hK hT hI hok hpar n16 htb hexit hpan hi0 hz0 hs0 hb0 hi1 hz1 hs1 hb1
 go_loopw [8, 9, 10] (fun ev lv kv wr => ∃ (k : Nat) (E : List Ev) (M : List TB), k ≤ n ∧ kv = .int .i64 k ∧ Rc w0 [] l ev E wr ∧ Lf w0.heap.size [(ev).ownBlock] lv M wr ∧ fsts M = (stpA p (fsts L) k).1 ∧ E = (stpA p (fsts L) k).2) (fun _ _ kv _ => n - (intOf kv).toNat)
 case atStart => exact ⟨0, [], [], by omega, rfl, HK0.out, Lf.nil _ _ _, rfl, rfl⟩
 case round =>
  clear HK0
  obtain ⟨k, E, M, hk, rfl, hK, hL, hM1, hM2⟩ := hrel
  obtain ⟨aV, cV, rfl⟩ := aU hL.row
  obtain ⟨aE, cE, rfl⟩ := aU hK.E
  have K := qh hK
  have HL := qh hL
  have HM := qh (And.intro hM1 hM2)
  clear hK hL hM1 hM2
  by_cases hlt : k < n
  ·obtain ⟨b, off, rfl, hq⟩ := eO (HT.out.below K.out.B) hlt
   have HLt := qh hlt
   have HQ1 := qh (fX L k)
   have HBd := qh ((HI.out k hlt).below K.out.B)
   have HOk := qh (HO.out.1 k hlt)
   obtain ⟨q, hqe⟩ : ∃ q, gt L k = q := ⟨_, rfl⟩
   rw [hqe] at hq HQ1 HBd HOk
   obtain ⟨x0, x1, x2, x3, x4, x5, x6, x7, x8, x9⟩ := hq
   have xl := World.block_lt_of_cell? _ _ x0
   have hk0 : (0 : Int) ≤ (k : Int) := by omega
   have hk1 : (k : Int) < (n : Int) := by omega
   have hkw : IntKind.i64.wrap ((k : Int) + 1) = ((k + 1 : Nat) : Int) := by have := HN.out; rw [IntWalk.i64_in _ (by omega)]; omega
   have KA := qh (Rr.new q K.out HL.out)
   obtain ⟨t0, t1, t2, t3, t4, t5, t6⟩ := aK (K.out.H _ HTB.out)
   have tl := aB (K.out.H _ HTB.out)
   clear hqe hlt
   unfold tkC at KA
   obtain ⟨⟨id, addr, rg, lo, hi, hits, misses, firm⟩, ⟨aL, nL, cL, aH, nH, cH⟩⟩ := q
   simp only [] at x0 x1 x2 x3 x4 x5 x6 x7 x8 x9 KA HBd HOk HQ1
   have HB2 := qh (HBd.out.below (aC wr (.cells #[.int .i64 id, .int .i64 addr, .int .i64 rg.r, .int .i64 rg.v, .int .i64 rg.n, .slice aL nL cL, .slice aH nH cH, .int .i64 hits, .int .i64 misses, .bool firm] 55)))
   have HSE := qh (show AltMath.stE lo hi p.pull = 0 from by unfold AltMath.stE; rw [if_neg (fun e => e HOk.out.ch), if_neg (by have := HO.out.2.2.2.2; omega)])
   obtain ⟨lo', hlo⟩ : ∃ l, AltMath.loK (AltMath.stF lo hi p.pull.toNat) 201 = l := ⟨_, rfl⟩
   obtain ⟨hi', hhi⟩ : ∃ l, AltMath.hiK (AltMath.stF lo hi p.pull.toNat) 201 = l := ⟨_, rfl⟩
   have HLn := qh (show lo'.length = 201 ∧ hi'.length = 201 from ⟨by rw [← hlo]; exact AltMath.loK_len _ _, by rw [← hhi]; exact AltMath.hiK_len _ _⟩)
   have HST := qh (show stpT p ⟨id, addr, rg, lo, hi, hits, misses, firm⟩ = ⟨id, addr, rg, lo', hi', hits, misses, firm⟩ from by unfold stpT; dsimp only; rw [hlo, hhi])
   have HSC := qh (show ∀ W : World, Alt.Ints W aL nL lo → Alt.Ints W aH nH hi → Calls Tryz.prog 31 #[.agg #[.slice aL nL cL, .slice aH nH cH], .int .i64 p.pull] W (Alt.BOPost 0 lo' hi' W) from fun W h1 h2 => by
    have h := Alt.rStep_call aL aH nL nH cL cH lo hi p.pull W h1 h2
    rw [hlo, hhi, HSE.out] at h
    exact h)
   clear hlo hhi
   go_upto_region 10 with fail
   clear x0 x1 x2 x3 x4 x5 x6 x7 x8 x9 xl K HL HBd
   clear t0 t1 t2 t3 t4 t5 t6 tl
   obtain ⟨T, hTe⟩ : ∃ T, T = wr.heap.size := ⟨_, rfl⟩
   rw [← hTe] at KA ⊢
   generalize wr.alloc (.cells #[.int .i64 id, .int .i64 addr, .int .i64 rg.r, .int .i64 rg.v, .int .i64 rg.n, .slice aL nL cL, .slice aH nH cH, .int .i64 hits, .int .i64 misses, .bool firm] 55) = wa at *
   clear hTe
   have y5 : wa.cell? ⟨T, 5, none⟩ = some (.slice aL nL cL) := aA KA.out.X rfl
   have y6 : wa.cell? ⟨T, 6, none⟩ = some (.slice aH nH cH) := aA KA.out.X rfl
   have yl := aB KA.out.X
   obtain ⟨t0, t1, t2, t3, t4, t5, t6⟩ := aK (KA.out.K.H _ HTB.out)
   have tl := aB (KA.out.K.H _ HTB.out)
   have HLs := qh KA.out.lts
   go_wp2_with fail
   refine (HSC.out _ HB2.out.L HB2.out.H).mono ?_; rintro e w2 ⟨vL, vH, rfl, hT2, -, hb⟩
   replace hT2 := hT2 rfl
   obtain ⟨aP, cP, rfl⟩ := aU (HLn.out.1 ▸ hT2.L)
   obtain ⟨aQ, cQ, rfl⟩ := aU (HLn.out.2 ▸ hT2.H)
   have HBn := qh (kA (t := ⟨id, addr, rg, lo, hi, hits, misses, firm⟩) hT2 (Nat.le_refl _) HLn.out.1 HLn.out.2 w0.heap.size _ KA.out.K.B.size HLs.out)
   replace KA := qh (KA.out.below hb)
   clear hb hT2 y5 y6 yl HLs HB2
   clear t0 t1 t2 t3 t4 t5 t6 tl
   obtain ⟨f0, f1, f2, f3, f4, f5, f6, f7, f8, f9⟩ := aX (q := (⟨id, addr, rg, lo, hi, hits, misses, firm⟩, ⟨aL, nL, cL, aH, nH, cH⟩)) KA.out.X
   have y5 : w2.cell? ⟨T, 5, none⟩ = some (.slice aL nL cL) := aA KA.out.X rfl
   have y6 : w2.cell? ⟨T, 6, none⟩ = some (.slice aH nH cH) := aA KA.out.X rfl
   have yl := aB KA.out.X
   go_upto_region 11 with fail
   clear f0 f1 f2 f3 f4 f5 f6 f7 f8 f9 y5 y6 yl
   have KW := qh (iJ (t := ⟨id, addr, rg, lo, hi, hits, misses, firm⟩) KA.out.X lo' hi' aP aQ 201 cP 201 cQ)
   replace HBn := qh (HBn.out.outs (Outs.of_only KW.out.2 (List.mem_cons_of_mem _ List.mem_cons_self)))
   replace KA := qh (KA.out.store KW.out.2 KW.out.1)
   clear KW
   generalize (w2.setCell ⟨T, 5, none⟩ (.slice aP 201 cP)).setCell ⟨T, 6, none⟩ (.slice aQ 201 cQ) = w3 at *
   have z5 : w3.cell? ⟨T, 5, none⟩ = some (.slice aP 201 cP) := aA KA.out.X rfl
   have z6 : w3.cell? ⟨T, 6, none⟩ = some (.slice aQ 201 cQ) := aA KA.out.X rfl
   have zl := aB KA.out.X
   go_wp2_with fail
   refine (Alt.rEmpty_call _ _ 201 201 _ _ lo' hi' _ HBn.out.L HBn.out.H).mono ?_; rintro e w4 ⟨rfl, hb⟩
   replace KA := qh (KA.out.below hb)
   replace HBn := qh (HBn.out.outs (Outs.of_below hb))
   clear hb z5 z6 zl
   obtain ⟨EB, hEB⟩ : ∃ b, Alt.emB lo' hi' = b := ⟨_, rfl⟩
   have HEB := qh (show emptyB lo' hi' = EB from hEB)
   obtain ⟨EE, hEE⟩ : ∃ b, Alt.emE lo' hi' = b := ⟨_, rfl⟩
   rw [hEB, hEE]
   clear hEB hEE
   cases EB with
   | true =>
    have z0 : w4.cell? ⟨T, 0, none⟩ = some (.int .i64 id) := aA KA.out.X rfl
    have zl := aB KA.out.X
    have HSt := qh (fY (p := p) (L := fsts L) (k := k) (by rw [HQ1.out, HST.out]; exact HEB.out))
    rw [HQ1.out] at HSt
    have HEl := qh (show E.length ≤ 100 from by rw [HM.out.2]; have := iP (p := p) (L := fsts L) k; have := HLt.out; have := HN.out; omega)
    have KB := qh (KA.out.below (aC w4 (.cells #[.int .u8 4, .int .i64 id, .int .i64 (-1)] 47)))
    clear KA
    go_wp2_with (at_builtin; refine wpList_append_own_at _ rfl _ _ 39 rfl w0.heap.size 47 i1 _ 3 24 Tryz.underlying39 HG.out.1 HG.out.2.1 HG.out.2.2.1 HG.out.2.2.2 rfl (by decide) _ E.length _ rfl KB.out.K.E ⟨w4.heap.size, 0, none⟩ 1 1 [.int .u8 4, .int .i64 id, .int .i64 (-1)] rfl rfl (bA rfl) (by intro u hu; simp at hu; rcases hu with rfl | rfl | rfl <;> rfl) (by have := HEl.out; unfold maxLen; omega) (by have := HEl.out; omega) KB.out.K.B.size ?_; intro v9 w9 hown9 hg9 _ hat9; have KC := qh (Rr.event (x := ⟨4, id, -1⟩) KB.out hown9 hg9 hat9); clear hown9 hg9 hat9)
    refine ⟨⟨k + 1, E ++ [⟨4, id, -1⟩], M, HLt.out, by go_num, KC.out.1.drop.1, KC.out.1.drop.2, by rw [HSt.out]; exact HM.out.1, by rw [HSt.out, HM.out.2]⟩, by simp [intOf]; have := HLt.out; omega⟩
   | false =>
    have HSt := qh (eU (p := p) (L := fsts L) (k := k) (by rw [HQ1.out, HST.out]; exact HEB.out))
    rw [HQ1.out, HST.out] at HSt
    obtain ⟨z0, z1, z2, z3, z4, z5, z6, z7, z8, z9⟩ := TkAt.block' (q := (⟨id, addr, rg, lo', hi', hits, misses, firm⟩, ⟨aP, 201, cP, aQ, 201, cQ⟩)) KA.out.X
    simp only [] at z0 z1 z2 z3 z4 z5 z6 z7 z8 z9
    have KB := qh (KA.out.below (aC w4 (.cells #[.int .i64 id, .int .i64 addr, .int .i64 rg.r, .int .i64 rg.v, .int .i64 rg.n, .slice aP 201 cP, .slice aQ 201 cQ, .int .i64 hits, .int .i64 misses, .bool firm] 55)))
    have HBm := qh (HBn.out.outs (Outs.of_below (aC w4 (.cells #[.int .i64 id, .int .i64 addr, .int .i64 rg.r, .int .i64 rg.v, .int .i64 rg.n, .slice aP 201 cP, .slice aQ 201 cQ, .int .i64 hits, .int .i64 misses, .bool firm] 55))))
    have HMl := qh (show M.length ≤ 100 from by
     have h1 := gG (p := p) (L := fsts L) k
     rw [← HM.out.1, aY] at h1
     have := HN.out
     have := HLt.out
     omega)
    clear KA HBn
    unfold tkC at KB
    try simp only [] at KB HBm
    go_wp2_with (at_builtin; refine wpList_append_own_at _ rfl _ _ 24 rfl w0.heap.size 55 i0 _ 10 112 Tryz.underlying24 HF.out.1 HF.out.2.1 HF.out.2.2.1 HF.out.2.2.2 rfl (by decide) _ M.length _ rfl KB.out.L.row ⟨w4.heap.size, 0, none⟩ 1 1 [.int .i64 id, .int .i64 addr, .int .i64 rg.r, .int .i64 rg.v, .int .i64 rg.n, .slice aP 201 cP, .slice aQ 201 cQ, .int .i64 hits, .int .i64 misses, .bool firm] rfl rfl (bA rfl) (by intro u hu; simp at hu; rcases hu with rfl | rfl | rfl | rfl | rfl | rfl | rfl | rfl | rfl | rfl <;> rfl) (by have := HMl.out; unfold maxLen; omega) (by have := HMl.out; omega) KB.out.K.B.size ?_; intro v9 w9 hown9 hg9 _ hat9; have KC := qh (Rr.app (q := (⟨id, addr, rg, lo', hi', hits, misses, firm⟩, ⟨aP, 201, cP, aQ, 201, cQ⟩)) KB.out HBm.out hown9 hg9 hat9); clear hown9 hg9 hat9)
    refine ⟨⟨k + 1, E, M ++ [(⟨id, addr, rg, lo', hi', hits, misses, firm⟩, ⟨aP, 201, cP, aQ, 201, cQ⟩)], HLt.out, by go_num, KC.out.1, KC.out.2.1, by rw [HSt.out, bK, HM.out.1], by rw [HSt.out]; exact HM.out.2⟩, by simp [intOf]; have := HLt.out; omega⟩
  obtain rfl : n = k := by omega
  obtain ⟨t0, t1, t2, t3, t4, t5, t6⟩ := aK (K.out.H _ HTB.out)
  have tl := aB (K.out.H _ HTB.out)
  go_wp2_with fail
  exact HQ.out _ _ _ _ _ _ _ _ _ _ _ _ _ _ _ _ _ _ _ _ _ _ _ _ _ _ _ _ _ _ _ _ _ _ _ _ _ _ _ _ _ _ _ _ _ _ _ ⟨K.out, HL.out, HM.out.1, HM.out.2⟩
end Go.Proofs.YtikjjpjekchcjaaGreat
end
section
namespace Go.MyBits
theorem fC (a : Nat) (ha : a < 9223372036854775808) : (BitVec.ofInt 64 (a : Int)).toNat = a := by
 rw [BitVec.ofInt_natCast, BitVec.toNat_ofNat]; exact Nat.mod_eq_of_lt (by omega)
theorem i64_or_nat (a b : Nat) (ha : a < 9223372036854775808) (hb : b < 9223372036854775808) : bits .or .i64 (a : Int) (b : Int) = ((a ||| b : Nat) : Int) := by
 have hx : a ||| b < 2 ^ 63 := Nat.or_lt_two_pow (by omega) (by omega)
 show IntKind.i64.wrap ((BitVec.ofInt 64 (a : Int) ||| BitVec.ofInt 64 (b : Int)).toNat : Int) = _
 rw [BitVec.toNat_or, fC a ha, fC b hb, IntKind.wrap_i64]
 omega
theorem i64_xor_nat (a b : Nat) (ha : a < 9223372036854775808) (hb : b < 9223372036854775808) : bits .xor .i64 (a : Int) (b : Int) = ((a ^^^ b : Nat) : Int) := by
 have hx : a ^^^ b < 2 ^ 63 := Nat.xor_lt_two_pow (by omega) (by omega)
 show IntKind.i64.wrap ((BitVec.ofInt 64 (a : Int) ^^^ BitVec.ofInt 64 (b : Int)).toNat : Int) = _
 rw [BitVec.toNat_xor, fC a ha, fC b hb, IntKind.wrap_i64]
 omega
theorem i64_andNot_nat (a b : Nat) (ha : a < 9223372036854775808) (hb : b < 9223372036854775808) : bits .andNot .i64 (a : Int) (b : Int) = ((a &&& (18446744073709551615 - b) : Nat) : Int) := by
 have hx : (18446744073709551615 - b) &&& a < 2 ^ 63 := Nat.and_lt_two_pow _ (by omega)
 rw [Nat.and_comm] at hx
 show IntKind.i64.wrap ((BitVec.ofInt 64 (a : Int) &&& ~~~BitVec.ofInt 64 (b : Int)).toNat : Int) = _
 rw [BitVec.toNat_and, BitVec.toNat_not, fC a ha, fC b hb, IntKind.wrap_i64]
 have e : 2 ^ 64 - 1 - b = 18446744073709551615 - b := by omega
 rw [e]
 omega
theorem i64_and1 (n : Int) : bits .and .i64 n 1 = n % 2 := by
 have h1 : (BitVec.ofInt 64 1).toNat = 2 ^ 1 - 1 := by decide
 have key : (BitVec.ofInt 64 n &&& BitVec.ofInt 64 1).toNat = (n % ((2 ^ 64 : Nat) : Int)).toNat % 2 ^ 1 := by
  rw [BitVec.toNat_and, BitVec.toNat_ofInt, h1, Nat.and_two_pow_sub_one_eq_mod]
 show IntKind.i64.wrap ((BitVec.ofInt 64 n &&& BitVec.ofInt 64 1).toNat : Nat) = n % 2
 rw [key, IntKind.wrap_i64]
 omega
theorem i64_and7 (n : Int) : bits .and .i64 n 7 = n % 8 := by
 have h1 : (BitVec.ofInt 64 7).toNat = 2 ^ 3 - 1 := by decide
 have key : (BitVec.ofInt 64 n &&& BitVec.ofInt 64 7).toNat = (n % ((2 ^ 64 : Nat) : Int)).toNat % 2 ^ 3 := by
  rw [BitVec.toNat_and, BitVec.toNat_ofInt, h1, Nat.and_two_pow_sub_one_eq_mod]
 show IntKind.i64.wrap ((BitVec.ofInt 64 n &&& BitVec.ofInt 64 7).toNat : Nat) = n % 8
 rw [key, IntKind.wrap_i64]
 omega
end Go.MyBits
end
section
namespace Go.Proofs.YtikjjpjekchcjaaGreat.Gry
open Go.RowKit
theorem dU (s : Int) (t : Nat) (v : Nat) (b : Nat) (w : World) (hst : s = t) (hs : t ≤ 32) (hv : v < 2 ^ 63) (hc : w.cell? ⟨b, 0, none⟩ = some (.int .i64 v)) (hf : w.frozen? ⟨b, 0, none⟩ = false) :
    Calls Tryz.prog 80 #[.int .i64 s, .pointer (some ⟨b, 0, none⟩)] w fun e w' => e = .returned (.tuple #[]) ∧ w' = (w.setCell ⟨b, 0, none⟩ (.int .i64 (GrayMath.dstep t v : Nat))).drew := by
 subst hst
 have e : bits .xor .i64 (v : Int) ((v : Int) / 2 ^ t) = (GrayMath.dstep t v : Nat) := by
  have := MyBits.i64_xor_nat v (v / 2 ^ t) (by omega) (Nat.lt_of_le_of_lt (Nat.div_le_self _ _) (by omega))
  rw [GrayMath.dstep, Nat.shiftRight_eq_div_pow, ← this]; simp
 go_enter Tryz.func80, Tryz.ntmps80
 go_wp2
 go_region
 all_goals go_end0
 all_goals exact ⟨rfl, rfl⟩
theorem pF (n : Nat) (w : World) (h1 : n < 2 ^ 63) :
    Calls Tryz.prog 49 #[.int .i64 n] w fun e w' => e = .returned (.int .i64 (GrayMath.un n : Nat)) ∧ Below w.heap.size w w' := by
 unfold GrayMath.un
 go_enter Tryz.func49, Tryz.ntmps49
 go_wp2_with fail
 refine wp_loop_rounds 7 ?_
 rw [rounds_succ]; go_wp2_with fail
 refine (dU 1 1 n _ _ rfl (by decide) (h1) ?_ ?_).mono ?_
 ·go_simp
 ·go_simp
 rintro e w' ⟨rfl, rfl⟩
 go_wp2_with fail
 rw [rounds_succ]; go_wp2_with fail
 refine (dU 2 2 (GrayMath.dstep 1 n) _ _ rfl (by decide) (GrayMath.dstep_lt 1 _ 63 (h1)) ?_ ?_).mono ?_
 ·go_simp
 ·go_simp
 rintro e w' ⟨rfl, rfl⟩
 go_wp2_with fail
 rw [rounds_succ]; go_wp2_with fail
 refine (dU 4 4 (GrayMath.dstep 2 (GrayMath.dstep 1 n)) _ _ rfl (by decide) (GrayMath.dstep_lt 2 _ 63 (GrayMath.dstep_lt 1 _ 63 (h1))) ?_ ?_).mono ?_
 ·go_simp
 ·go_simp
 rintro e w' ⟨rfl, rfl⟩
 go_wp2_with fail
 rw [rounds_succ]; go_wp2_with fail
 refine (dU 8 8 (GrayMath.dstep 4 (GrayMath.dstep 2 (GrayMath.dstep 1 n))) _ _ rfl (by decide) (GrayMath.dstep_lt 4 _ 63 (GrayMath.dstep_lt 2 _ 63 (GrayMath.dstep_lt 1 _ 63 (h1)))) ?_ ?_).mono ?_
 ·go_simp
 ·go_simp
 rintro e w' ⟨rfl, rfl⟩
 go_wp2_with fail
 rw [rounds_succ]; go_wp2_with fail
 refine (dU 16 16 (GrayMath.dstep 8 (GrayMath.dstep 4 (GrayMath.dstep 2 (GrayMath.dstep 1 n)))) _ _ rfl (by decide) (GrayMath.dstep_lt 8 _ 63 (GrayMath.dstep_lt 4 _ 63 (GrayMath.dstep_lt 2 _ 63 (GrayMath.dstep_lt 1 _ 63 (h1))))) ?_ ?_).mono ?_
 ·go_simp
 ·go_simp
 rintro e w' ⟨rfl, rfl⟩
 go_wp2_with fail
 rw [rounds_succ]; go_wp2_with fail
 refine (dU 32 32 (GrayMath.dstep 16 (GrayMath.dstep 8 (GrayMath.dstep 4 (GrayMath.dstep 2 (GrayMath.dstep 1 n))))) _ _ rfl (by decide) (GrayMath.dstep_lt 16 _ 63 (GrayMath.dstep_lt 8 _ 63 (GrayMath.dstep_lt 4 _ 63 (GrayMath.dstep_lt 2 _ 63 (GrayMath.dstep_lt 1 _ 63 (h1)))))) ?_ ?_).mono ?_
 ·go_simp
 ·go_simp
 rintro e w' ⟨rfl, rfl⟩
 go_wp2_with fail
 rw [rounds_succ]; go_wp2_with fail
 go_ret
 exact ⟨rfl, by go_grown⟩
end Go.Proofs.YtikjjpjekchcjaaGreat.Gry
end
section
namespace Go.Proofs.YtikjjpjekchcjaaGreat.Gry
open Go.RowKit
theorem ref_bit (g i : Nat) (h1 : g < 2 ^ 63) : bits .xor .i64 (((GrayMath.un g).testBit (i + 1)).toNat : Int) (bits .and .i64 ((g : Int) / 2 ^ i) 1) = (((GrayMath.un g).testBit i).toNat : Nat) := by
 have hd := GrayMath.digit_step g i (by omega)
 have e : ((g : Int) / 2 ^ i) % 2 = ((g / 2 ^ i % 2 : Nat) : Int) := by push_cast; rfl
 rw [MyBits.i64_and1, e, MyBits.i64_xor_nat _ _ (by have := Bool.toNat_le ((GrayMath.un g).testBit (i + 1)); omega) (by omega), hd]
theorem ref_or (g i : Nat) (h1 : g < 2 ^ 63) (hi : i + 1 ≤ 63) : bits .or .i64 (GrayMath.upper (GrayMath.un g) (i + 1) : Nat) (wrap64 ((((GrayMath.un g).testBit i).toNat : Nat) * 2 ^ i)) = (GrayMath.upper (GrayMath.un g) i : Nat) := by
 have hu := GrayMath.un_lt g 63 h1
 have hup : GrayMath.upper (GrayMath.un g) (i + 1) < 2 ^ 63 := by
  refine Nat.lt_of_le_of_lt ?_ hu
  unfold GrayMath.upper
  rw [Nat.shiftRight_eq_div_pow, Nat.shiftLeft_eq]
  exact Nat.div_mul_le_self _ _
 have hp : 2 ^ i ≤ 2 ^ 62 := Nat.pow_le_pow_right (by decide) (by omega)
 have hb := Bool.toNat_le ((GrayMath.un g).testBit i)
 have hm : ((GrayMath.un g).testBit i).toNat * 2 ^ i < 2 ^ 63 := by
  have : ((GrayMath.un g).testBit i).toNat * 2 ^ i ≤ 1 * 2 ^ i := Nat.mul_le_mul_right _ hb
  omega
 have e : ((((GrayMath.un g).testBit i).toNat : Nat) : Int) * 2 ^ i = ((((GrayMath.un g).testBit i).toNat * 2 ^ i : Nat) : Int) := by push_cast; rfl
 rw [e, IntWalk.wrap64_in _ ⟨by omega, by omega⟩, MyBits.i64_or_nat _ _ (by omega) (by omega), ← GrayMath.upper_step (GrayMath.un g) i, Nat.shiftLeft_eq]
theorem k5 (g : Nat) (w : World) (h1 : g < 2 ^ 63) :
    Calls Tryz.prog 71 #[.int .i64 g] w fun e w' => e = .returned (.int .i64 (GrayMath.un g : Nat)) ∧ w = w' := by
 have hu := GrayMath.un_lt g 63 h1
 go_enter Tryz.func71, Tryz.ntmps71
 go_wp2
 go_loop [3, 4, 5] (fun n d k => ∃ j : Nat, j ≤ 63 ∧ k = .int .i64 ((j : Int) - 1) ∧ n = .int .i64 (GrayMath.upper (GrayMath.un g) j : Nat) ∧ d = .int .i64 (((GrayMath.un g).testBit j).toNat : Nat)) (fun _ _ k => (intOf k + 1).toNat)
 case atStart => exact ⟨63, by omega, rfl, by rw [GrayMath.upper_top _ 63 hu]; rfl, by rw [Nat.testBit_lt_two_pow hu]; rfl⟩
 case round =>
  obtain ⟨j, hj, rfl, rfl, rfl⟩ := hrel
  by_cases hz : j = 0
  ·subst hz
   go_wp2
   go_ret
   exact ⟨congrArg (fun x : Nat => Ending.returned (.int .i64 x)) (GrayMath.upper_zero _), rfl⟩
  obtain ⟨i, rfl⟩ : ∃ i, j = i + 1 := ⟨j - 1, by omega⟩
  go_wp2
  refine ⟨⟨i, by omega, rfl, ?_, ?_⟩, by simp [intOf]⟩
  ·rw [ref_bit g i h1, ref_or g i h1 hj]
  rw [ref_bit g i h1]
end Go.Proofs.YtikjjpjekchcjaaGreat.Gry
end
section
namespace Go.Proofs.YtikjjpjekchcjaaGreat.Gry
open Go.RowKit GrayMath
theorem jT (n : Int) (w : World) (h1 : n < 9223372036854775808) :
    Calls Tryz.prog 73 #[.int .i64 n] w fun e w' => e = .returned (.int .i64 (grI n)) ∧ w = w' := by
 by_cases h : n < 0
 ·have hg : grI n = 0 := by simp [grI, h]
  go_enter Tryz.func73, Tryz.ntmps73
  go_wp2
  go_ret
  exact ⟨by first | rfl | simp [hg], rfl⟩
 obtain ⟨m, rfl⟩ := Int.eq_ofNat_of_zero_le (show 0 ≤ n by omega)
 have hb : bits .xor .i64 (m : Int) ((m : Int) / 2) = (grI m) := by
  rw [grI_nat, gr, ← MyBits.i64_xor_nat m (m / 2) (by omega) (by omega)]; simp
 go_enter Tryz.func73, Tryz.ntmps73
 go_wp2
 go_ret
 exact ⟨by first | rfl | simp [hb], rfl⟩
theorem gY (n : Int) (w : World) (h1 : n < 9223372036854775808) :
    Calls Tryz.prog 49 #[.int .i64 n] w fun e w' => e = .returned (.int .i64 (unI n)) ∧ Below w.heap.size w w' := by
 by_cases h : n < 0
 ·have hg : unI n = 0 := by simp [unI, h]
  go_enter Tryz.func49, Tryz.ntmps49
  go_wp2
  go_ret
  exact ⟨by first | rfl | simp [hg], by go_grown⟩
 obtain ⟨m, rfl⟩ := Int.eq_ofNat_of_zero_le (show 0 ≤ n by omega)
 rw [lT]
 exact pF m w (by omega)
theorem k6 (n : Int) (w : World) (h1 : n < 9223372036854775808) :
    Calls Tryz.prog 71 #[.int .i64 n] w fun e w' => e = .returned (.int .i64 (unI n)) ∧ w = w' := by
 by_cases h : n < 0
 ·have hg : unI n = 0 := by simp [unI, h]
  go_enter Tryz.func71, Tryz.ntmps71
  go_wp2
  go_ret
  exact ⟨by first | rfl | simp [hg], rfl⟩
 obtain ⟨m, rfl⟩ := Int.eq_ofNat_of_zero_le (show 0 ≤ n by omega)
 rw [lT]
 exact k5 m w (by omega)
theorem lL (n : Int) (w : World) :
    Calls Tryz.prog 53 #[.int .i64 n] w fun e w' => e = .returned (.bool (inR n)) ∧ w = w' := by
 unfold inR
 by_cases h : -1000 ≤ n <;> by_cases h2 : n ≤ 50000
 all_goals
  go_enter Tryz.func53, Tryz.ntmps53
  go_wp2
  go_ret
  exact ⟨by simp [h, h2], rfl⟩
theorem in_call (n : Int) (w : World) :
    Calls Tryz.prog 72 #[.int .i64 n] w fun e w' => e = .returned (.bool (inR n)) ∧ w = w' := by
 unfold inR
 by_cases h : -1000 ≤ n <;> by_cases h2 : n ≤ 50000
 all_goals
  go_enter Tryz.func72, Tryz.ntmps72
  go_wp2
  go_ret
  exact ⟨by simp [h, h2], rfl⟩
theorem oD (w : World) :
    Calls Tryz.prog 48 #[] w fun e w' => e = .returned (.agg #[.int .i64 25, .int .i64 (-1000), .int .i64 4096, .func (.func 79) #[] #[]]) ∧ Below w.heap.size w w' := by
 go_enter Tryz.func48, Tryz.ntmps48
 go_wp2
 go_returns
 exact ⟨rfl, by go_grown⟩
theorem pS (w : World) :
    Calls Tryz.prog 50 #[] w fun e w' => e = .returned (.agg #[.int .i64 100, .int .i64 (-1200), .int .i64 0, .func (.func 81) #[] #[]]) ∧ Below w.heap.size w w' := by
 go_enter Tryz.func50, Tryz.ntmps50
 go_wp2
 go_returns
 exact ⟨rfl, by go_grown⟩
theorem lK (h r : Int) (w : World) (h0 : 0 ≤ h) (r0 : 0 ≤ r) (r4 : r ≤ 4) :
    Calls Tryz.prog 74 #[.int .i64 h, .int .i64 r] w fun e w' => e = .returned (.int .i64 (lowI h r)) ∧ Below w.heap.size w w' := by
 have hr : r = 0 ∨ r = 1 ∨ r = 2 ∨ r = 3 ∨ r = 4 := by omega
 by_cases hp : h % 2 = 1
 ·have hp' : h.toNat % 2 = 1 := by omega
  rcases hr with rfl | rfl | rfl | rfl | rfl
  all_goals
   simp only [lowI, low, hp']
   go_enter Tryz.func74, Tryz.ntmps74
   go_wp2
   go_ret
   exact ⟨rfl, by go_grown⟩
 have hp' : h.toNat % 2 = 0 := by omega
 have hp0 : h % 2 = 0 := by omega
 clear hp
 rcases hr with rfl | rfl | rfl | rfl | rfl
 all_goals
  simp only [lowI, low, hp']
  go_enter Tryz.func74, Tryz.ntmps74
  go_wp2
  go_ret
  exact ⟨rfl, by go_grown⟩
end Go.Proofs.YtikjjpjekchcjaaGreat.Gry
end
section
namespace Go.Proofs.YtikjjpjekchcjaaGreat.Gry
open Go.RowKit GrayMath
theorem mZ (h : Int) (w : World) (h0 : h % 2 = 0) :
    Calls Tryz.prog 51 #[.int .i64 h] w fun e w' => e = .returned (.agg #[.int .i64 1, .int .i64 3, .int .i64 2, .int .i64 6, .int .i64 4]) ∧ Below w.heap.size w w' := by
 have hb : (bits .and .i64 h 1 == 1) = false := by rw [MyBits.i64_and1, h0]; rfl
 clear h0
 go_enter Tryz.func51, Tryz.ntmps51
 go_wp2
 go_returns
 exact ⟨rfl, by go_grown⟩
theorem reverse5 (a0 a1 a2 a3 a4 : Int) (T : TypeId) (n : Nat) (W : World) (hn : n = W.heap.size) :
    Calls Tryz.prog 82 #[.slice (some ⟨n, 0, none⟩) 5 5] (W.alloc (.cells #[.int .i64 a0, .int .i64 a1, .int .i64 a2, .int .i64 a3, .int .i64 a4] T)) fun e w' =>
     e = .returned (.tuple #[]) ∧ w' = (W.alloc (.cells #[.int .i64 a4, .int .i64 a3, .int .i64 a2, .int .i64 a1, .int .i64 a0] T)).drew.drew := by
 subst hn
 go_enter Tryz.func82, Tryz.ntmps82
 go_wp2
 refine wp_loop_rounds 3 ?_
 rw [rounds_succ]; go_wp2
 go_region
 all_goals (go_wp2; rw [rounds_succ]; go_wp2)
 go_region
 all_goals (go_wp2; rw [rounds_succ]; go_wp2; go_end0; exact ⟨rfl, rfl⟩)
theorem oN (h : Int) (w : World) (h0 : h % 2 = 1) :
    Calls Tryz.prog 51 #[.int .i64 h] w fun e w' => e = .returned (.agg #[.int .i64 4, .int .i64 6, .int .i64 2, .int .i64 3, .int .i64 1]) ∧ Below w.heap.size w w' := by
 have hb : (bits .and .i64 h 1 == 1) = true := by rw [MyBits.i64_and1, h0]; rfl
 clear h0
 go_enter Tryz.func51, Tryz.ntmps51
 go_wp2_with fail
 refine (reverse5 1 3 2 6 4 _ _ _ (by simp)).mono ?_
 rintro e w' ⟨rfl, rfl⟩
 go_wp2
 go_returns
 exact ⟨rfl, by go_grown⟩
end Go.Proofs.YtikjjpjekchcjaaGreat.Gry
end
section
namespace Go.Proofs.YtikjjpjekchcjaaGreat.Gry
open Go.RowKit GrayMath
theorem bcell {W w1 : World} (hb : Below W.heap.size W w1) : (∀ b o, b < W.heap.size → w1.cell? ⟨b, o, none⟩ = W.cell? ⟨b, o, none⟩) ∧ (∀ b o, b < W.heap.size → w1.frozen? ⟨b, o, none⟩ = W.frozen? ⟨b, o, none⟩) :=
 ⟨fun b o h => hb.cell (p := ⟨b, o, none⟩) h, fun b o h => hb.frozen (p := ⟨b, o, none⟩) h⟩
def ix5 (x v0 v1 v2 v3 v4 : Int) : Int := if x = v0 then 0 else if x = v1 then 1 else if x = v2 then 2 else if x = v3 then 3 else if x = v4 then 4 else -1
theorem index5 (x v0 v1 v2 v3 v4 : Int) (b : Nat) (w : World) (h0 : w.cell? ⟨b, 0, none⟩ = some (.int .i64 v0)) (h1 : w.cell? ⟨b, 1, none⟩ = some (.int .i64 v1)) (h2 : w.cell? ⟨b, 2, none⟩ = some (.int .i64 v2)) (h3 : w.cell? ⟨b, 3, none⟩ = some (.int .i64 v3)) (h4 : w.cell? ⟨b, 4, none⟩ = some (.int .i64 v4)) :
    Calls Tryz.prog 52 #[.slice (some ⟨b, 0, none⟩) 5 5, .int .i64 x] w fun e w' => e = .returned (.int .i64 (ix5 x v0 v1 v2 v3 v4)) ∧ w = w' := by
 go_enter Tryz.func52, Tryz.ntmps52
 go_wp2
 refine wp_loop_rounds 6 ?_
 rw [rounds_succ]; go_wp2
 all_goals try (rw [rounds_succ]; go_wp2)
 all_goals try (rw [rounds_succ]; go_wp2)
 all_goals try (rw [rounds_succ]; go_wp2)
 all_goals try (rw [rounds_succ]; go_wp2)
 all_goals try (rw [rounds_succ]; go_wp2)
 all_goals go_ret
 all_goals exact ⟨by simp_all [ix5], rfl⟩
def idxI (h x : Nat) : Int := match idx h x with | some r => (r : Int) | none => -1
theorem idx_mod (h x : Nat) : idx h x = idx (h % 2) x := by
 have : ∀ r, low h r = low (h % 2) r := fun r => by unfold low; rw [Nat.mod_mod]
 unfold idx
 congr 1
 funext r
 rw [this]
theorem idxI_tab : ∀ x, x < 8 → idxI 0 x = ix5 x 1 3 2 6 4 ∧ idxI 1 x = ix5 x 4 6 2 3 1 := by decide +kernel
theorem idxI_even (h x : Nat) (hx : x < 8) (hp : h % 2 = 0) : idxI h x = ix5 x 1 3 2 6 4 := by
 have := (idxI_tab x hx).1
 unfold idxI at this ⊢
 rwa [idx_mod, hp]
theorem idxI_odd (h x : Nat) (hx : x < 8) (hp : h % 2 = 1) : idxI h x = ix5 x 4 6 2 3 1 := by
 have := (idxI_tab x hx).2
 unfold idxI at this ⊢
 rwa [idx_mod, hp]
theorem andnot_tab : ∀ a, a < 64 → ∀ b, b < 128 → ((128 * a + b) &&& (18446744073709551615 - 4096)) = (128 * a + b) % 4096 := by decide +kernel
theorem kY (c : Int) (h0 : 0 ≤ c) (h1 : c ≤ 8191) : bits .andNot .i64 c 4096 = c % 4096 := by
 obtain ⟨a, rfl⟩ := Int.eq_ofNat_of_zero_le h0
 have := andnot_tab (a / 128) (by omega) (a % 128) (by omega)
 rw [show 128 * (a / 128) + a % 128 = a by omega] at this
 have e := MyBits.i64_andNot_nat a 4096 (by omega) (by omega)
 rw [this] at e
 simpa using e
theorem gJ (c : Int) (h : c < 0 ∨ 8191 < c) : altA c = 0 ∧ altS c = 0 ∧ altE c = 1 := by
 unfold altA altS altE altT; rw [if_pos h]; exact ⟨rfl, rfl, rfl⟩
theorem oI (c : Int) (h0 : 4096 ≤ c) (h1 : c ≤ 8191) : altT c = if inR (-1000 + 25 * unI (c - 4096)) then (-1000 + 25 * unI (c - 4096), 25, 0) else (0, 0, 7) := by
 rw [show -1000 + 25 * unI (c - 4096) = 25 * unI (c - 4096) - 1000 by omega]
 obtain ⟨a, ha⟩ := Int.eq_ofNat_of_zero_le (show 0 ≤ c - 4096 by omega)
 unfold altT
 rw [if_neg (by omega), if_pos h0, ha, lT, Int.toNat_natCast]
theorem pU (c : Int) (h0 : 0 ≤ c) (h1 : c < 4096) : altT c = if idxI (unI (c / 8)).toNat (c % 8).toNat < 0 then (0, 0, 2) else if inR (-1200 + 100 * (5 * unI (c / 8) + idxI (unI (c / 8)).toNat (c % 8).toNat)) then (-1200 + 100 * (5 * unI (c / 8) + idxI (unI (c / 8)).toNat (c % 8).toNat), 100, 0) else (0, 0, 7) := by
 rw [show -1200 + 100 * (5 * unI (c / 8) + idxI (unI (c / 8)).toNat (c % 8).toNat) = 100 * (5 * unI (c / 8) + idxI (unI (c / 8)).toNat (c % 8).toNat) - 1200 by omega]
 obtain ⟨a, rfl⟩ := Int.eq_ofNat_of_zero_le h0
 have e1 : (a : Int) / 8 = ((a / 8 : Nat) : Int) := by omega
 have e2 : ((a : Int) % 8).toNat = a % 8 := by omega
 unfold altT dec
 rw [if_neg (by omega), if_neg (by omega), e1, e2, lT, Int.toNat_natCast, Int.toNat_natCast]
 unfold idxI
 cases idx (un (a / 8)) (a % 8) with
 | none => simp
 | some r =>
  have : ¬ ((r : Int) < 0) := by omega
  simp [this]
end Go.Proofs.YtikjjpjekchcjaaGreat.Gry
end
