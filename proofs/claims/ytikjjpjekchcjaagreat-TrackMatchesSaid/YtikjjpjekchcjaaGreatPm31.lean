/-
  TrkKc, TrkRf
-/
import Derived.Test.YtikjjpjekchcjaaGreatPm30
set_option linter.all false
set_option maxRecDepth 100000
set_option maxHeartbeats 64000000
section
namespace Go.Proofs.YtikjjpjekchcjaaGreat
open Go.RowKit TrkMath MyHeap MyOwn MyCopy
theorem rowV_take (p : Par) (P : List Pl) (t : Tk) {k : Nat} (hk : k < P.length) : (rowV p P t).take (k + 1) = (rowV p P t).take k ++ [costV p t (gp P k) (lvOf (gp P k))] := by
 rw [List.take_add_one]
 congr 1
 unfold rowV gp
 rw [List.getElem?_map, List.getElem?_eq_getElem hk]
 rfl
noncomputable def rlp2C : Code := ((Tryz.f9.body.bind (cutL 17)).getD .skip)
theorem rlp2 {u0 u3 u4 u5 u6 u7 u8 u10 u11 u12 u13 u16 u17 u18 u19 u20 u21 u22 u23 u24 u25 u26 u27 u28 u29 u30 u31 u32 u33 u34 u35 u36 u37 u38 u39 u40 u41 u42 u43 u44 u45 u46 u47 u48 u49 u50 u51 u52 u53 u54 u55 u56 u57 u58 u59 u60 u61 u62 u63 u64 u65 u66 u67 u68 u69 u70 u71 u72 u73 u74 u75 u76 u77 u78 u79 u80 u81 u82 u83 u84 u85 u86 u87 u88 u89 u90 u91 u92 u93 u94 u95 u96 u97 u98 u99 u100 u101 u102 u103 u104 u105 u106 u107 u108 u109 u110 u111 u112 u113 u114 u115 u116 u117 u118 u119 u120 u121 u122 u123 u124 u125 u126 u127 u128 u129 u130 u131 u132 u133 u134 u135 u136 u137 u138 u139 u140 u141 u142 u143 u144 u145 u146 u147 u148 u149 u150 u151 u152 u153 u154 u155 u156 u157 u158 u159 u160 u161 u162 u163 u164 u165 u166 u167 u168 u169 u170 u171 u172 u173 u174 u175 u176 u177 u178 u179 u180 u181 u182 u183 u184 u185 u186 u187 u188 u189 u190 u191 u192 u193 u194 u195 u196 u197 u198 u199 u200 u201 u202 u203 u204 u205 u206 u207 u208 u209 u210 u211 u212 u213 u214 u215 u216 u217 u218 u219 u220 u221 u222 u223 u224 u225 u226 u227 u228 u229 u230 u231 u232 u233 u234 u235 u236 u237 u238 u239 u240 u241 u242 u243 u244 u245 u246 u247 u248 u249 u250 u251 u252 u253 u254 u255 u256 u257 u258 u259 u260 u261 u262 u263 u264 u265 u266 u267 u268 u269 u270 u271 u272 u273 u274 u275 u276 u277 u278 u279 u280 u281 u282 u283 u284 u285 u286 u287 u288 u289 u290 u291 u292 u293 u294 u295 : Value} (p : Par) (now next : Int) (a aV pa : Option Addr) (n c m cV tb pn pc : Nat) (M : List TB) (P : List Pl) (wc : World) (Q0 : Exit → Act → World → Prop)
    (hX : wc.heap[tb]? = some (.cells #[.int .i64 p.gate, .int .i64 p.need, .int .i64 p.most, .int .i64 p.pull, .int .i64 now, .int .i64 next, .slice a n c] 38 (0, 0))) (hT : Trs wc aV m M) (hI : ∀ k, k < m → BdI wc (gt M k)) (hP : Pls wc pa pn P) (hok : ∀ k, k < m → TkOk p (gt M k).1) (hpar : ParOk p) (m16 : m ≤ 16) (p16 : pn ≤ 16) (hpl : ∀ k, k < pn → plE (gp P k) = 0) (hpan : ∀ (c : List PanicEntry) (a : Act) d v (w : World), Q0 (.panic c) (a.put d v) w → Q0 (.panic c) a w)
    (hexit : ∀ (u16 u17 u79 u80 u81 u82 u83 u84 u85 u86 u87 u88 u89 u90 u91 u92 u93 u94 u95 u96 u97 u98 u99 u100 u101 u102 u103 u104 u105 u106 u107 u108 : Value) (cA : Option Addr) (cC : Nat) (W' : World) (_ : Below wc.heap.size wc W' ∧ Asg.Mtx W' cA m (rowsV p (fsts M) P)), Q0 (.exit 2) ⟨#[u0, .slice pa pn pc, .pointer (some ⟨tb, 0, none⟩), u3, u4, u5, u6, u7, u8, .slice aV m cV, u10, u11, u12, u13, .slice cA m cC, .int .i64 (m : Int), u16, u17, u18, u19, u20, u21, u22, u23, u24, u25, u26, u27, u28, u29, u30, u31, u32, u33, u34, u35, u36, u37, u38, u39, u40, u41, u42, u43, u44, u45, u46, u47, u48, u49, u50, u51, u52, u53, u54, u55, u56, u57, u58, u59, u60, u61, u62, u63, u64, u65, u66, u67, u68, u69, u70, u71, u72, u73, u74, u75, u76, u77, u78, u79, u80, u81, u82, u83, u84, u85, u86, u87, u88, u89, u90, u91, u92, u93, u94, u95, u96, u97, u98, u99, u100, u101, u102, u103, u104, u105, u106, u107, u108, u109, u110, u111, u112, u113, u114, u115, u116, u117, u118, u119, u120, u121, u122, u123, u124, u125, u126, u127, u128, u129, u130, u131, u132, u133, u134, u135, u136, u137, u138, u139, u140, u141, u142, u143, u144, u145, u146, u147, u148, u149, u150, u151, u152, u153, u154, u155, u156, u157, u158, u159, u160, u161, u162, u163, u164, u165, u166, u167, u168, u169, u170, u171, u172, u173, u174, u175, u176, u177, u178, u179, u180, u181, u182, u183, u184, u185, u186, u187, u188, u189, u190, u191, u192, u193, u194, u195, u196, u197, u198, u199, u200, u201, u202, u203, u204, u205, u206, u207, u208, u209, u210, u211, u212, u213, u214, u215, u216, u217, u218, u219, u220, u221, u222, u223, u224, u225, u226, u227, u228, u229, u230, u231, u232, u233, u234, u235, u236, u237, u238, u239, u240, u241, u242, u243, u244, u245, u246, u247, u248, u249, u250, u251, u252, u253, u254, u255, u256, u257, u258, u259, u260, u261, u262, u263, u264, u265, u266, u267, u268, u269, u270, u271, u272, u273, u274, u275, u276, u277, u278, u279, u280, u281, u282, u283, u284, u285, u286, u287, u288, u289, u290, u291, u292, u293, u294, u295], []⟩ W') :
    Code.wp Tryz.prog rlp2C Q0 ⟨#[u0, .slice pa pn pc, .pointer (some ⟨tb, 0, none⟩), u3, u4, u5, u6, u7, u8, .slice aV m cV, u10, u11, u12, u13, .slice none 0 0, .int .i64 0, u16, u17, u18, u19, u20, u21, u22, u23, u24, u25, u26, u27, u28, u29, u30, u31, u32, u33, u34, u35, u36, u37, u38, u39, u40, u41, u42, u43, u44, u45, u46, u47, u48, u49, u50, u51, u52, u53, u54, u55, u56, u57, u58, u59, u60, u61, u62, u63, u64, u65, u66, u67, u68, u69, u70, u71, u72, u73, u74, u75, u76, u77, u78, u79, u80, u81, u82, u83, u84, u85, u86, u87, u88, u89, u90, u91, u92, u93, u94, u95, u96, u97, u98, u99, u100, u101, u102, u103, u104, u105, u106, u107, u108, u109, u110, u111, u112, u113, u114, u115, u116, u117, u118, u119, u120, u121, u122, u123, u124, u125, u126, u127, u128, u129, u130, u131, u132, u133, u134, u135, u136, u137, u138, u139, u140, u141, u142, u143, u144, u145, u146, u147, u148, u149, u150, u151, u152, u153, u154, u155, u156, u157, u158, u159, u160, u161, u162, u163, u164, u165, u166, u167, u168, u169, u170, u171, u172, u173, u174, u175, u176, u177, u178, u179, u180, u181, u182, u183, u184, u185, u186, u187, u188, u189, u190, u191, u192, u193, u194, u195, u196, u197, u198, u199, u200, u201, u202, u203, u204, u205, u206, u207, u208, u209, u210, u211, u212, u213, u214, u215, u216, u217, u218, u219, u220, u221, u222, u223, u224, u225, u226, u227, u228, u229, u230, u231, u232, u233, u234, u235, u236, u237, u238, u239, u240, u241, u242, u243, u244, u245, u246, u247, u248, u249, u250, u251, u252, u253, u254, u255, u256, u257, u258, u259, u260, u261, u262, u263, u264, u265, u266, u267, u268, u269, u270, u271, u272, u273, u274, u275, u276, u277, u278, u279, u280, u281, u282, u283, u284, u285, u286, u287, u288, u289, u290, u291, u292, u293, u294, u295], []⟩ wc := by
 conv => arg 2; whnf
 try dsimp only
 have HX := qh hX
 have HT := qh hT
 have HI := qh hI
 have HP := qh hP
 have HLn := qh (And.intro hT.len hP.len)
 have HO := qh (And.intro hok (And.intro hpar hpl))
 have HN := qh (And.intro m16 p16)
 obtain ⟨i0, hi0, hz0, hs0, hb0⟩ := b6 k4
 have HF := qh (And.intro hi0 (And.intro hz0 (And.intro hs0 hb0)))
 obtain ⟨i2, hi2, hz2, hs2, hb2⟩ := b6 infoRow
 have HR := qh (And.intro hi2 (And.intro hz2 (And.intro hs2 hb2)))
 have HQ := qh hexit
 have HPan := qh hpan
 clear hX hT hI hP hok hpar m16 p16 hpl hexit hpan hi0 hz0 hs0 hb0 hi2 hz2 hs2 hb2
 go_loopw [14, 15] (fun cv kv wr => ∃ (i : Nat), i ≤ m ∧ kv = .int .i64 i ∧ Below wc.heap.size wc wr ∧ Mx wc.heap.size cv (fun j => rowV p P (gt M j).1) i wr) (fun _ kv _ => m - (intOf kv).toNat)
 case atStart => exact ⟨0, by omega, rfl, Below.refl _ _, Mx.nil _ _ _⟩
 case round =>
  obtain ⟨i, hi, rfl, hB, hC⟩ := hrel
  obtain ⟨us0, c1, -⟩ := hC.row
  obtain ⟨ac, cc, rfl⟩ := aU c1
  clear c1
  have B0 := qh hB
  have C := qh hC
  clear hB hC
  by_cases hlt : i < m
  ·obtain ⟨b, off, rfl, hq⟩ := eO (HT.out.below B0.out) hlt
   have HLt := qh hlt
   have HBk := qh ((HI.out i hlt).below B0.out)
   have HOk := qh (HO.out.1 i hlt)
   obtain ⟨q, hqe⟩ : ∃ q, gt M i = q := ⟨_, rfl⟩
   have HQ1 := qh (show (gt M i).1 = q.1 from by rw [hqe])
   rw [hqe] at hq HBk HOk
   have HXr := qh hq
   have HTr := qh (aN B0.out HX.out)
   have HPr := qh (HP.out.below B0.out)
   have hk0 : (0 : Int) ≤ (i : Int) := by omega
   have hk1 : (i : Int) < (m : Int) := by omega
   have hiw : IntKind.i64.wrap ((i : Int) + 1) = ((i + 1 : Nat) : Int) := by have := HN.out.1; rw [IntWalk.i64_in _ (by omega)]; omega
   obtain ⟨⟨id, addr, rg, lo, hi, hits, misses, firm⟩, ⟨aL, nL, cL, aH, nH, cH⟩⟩ := q
   simp only [] at HBk HOk HQ1 HXr
   clear hqe hlt hq
   go_wp2_with fail
   obtain ⟨wO, rfl⟩ : ∃ x, x = wr := ⟨_, rfl⟩
   go_loopw [16, 17] (fun rv kv w2 => ∃ (k : Nat), k ≤ pn ∧ kv = .int .i64 k ∧ Below wO.heap.size wO w2 ∧ w2.ownsRow wO.heap.size 3 1 rv k (Asg.flatI ((rowV p P (gt M i).1).take k))) (fun _ kv _ => pn - (intOf kv).toNat)
   case atStart => exact ⟨0, by omega, rfl, Below.refl _ _, rfl, Or.inl ⟨rfl, rfl⟩⟩
   case round =>
    obtain ⟨k, hk, rfl, hB, hR⟩ := hrel
    obtain ⟨au, cu, rfl⟩ := aU hR
    have B := qh hB
    have HOw := qh hR
    clear hB hR
    by_cases hlt : k < pn
    ·have HKl := qh hlt
     obtain ⟨d, of, rfl, p0, p1, p2⟩ := fS HPr.out hlt
     have hj0 : (0 : Int) ≤ (k : Int) := by omega
     have hj1 : (k : Int) < (pn : Int) := by omega
     have hkw : IntKind.i64.wrap ((k : Int) + 1) = ((k + 1 : Nat) : Int) := by have := HN.out.2; rw [IntWalk.i64_in _ (by omega)]; omega
     obtain ⟨V, hV⟩ : ∃ V, costV p ⟨id, addr, rg, lo, hi, hits, misses, firm⟩ (gp P k) (lvOf (gp P k)) = V := ⟨_, rfl⟩
     have HVe := qh (show (rowV p P (gt M i).1).take (k + 1) = (rowV p P (gt M i).1).take k ++ [V] from by
      have := rowV_take p P (gt M i).1 (by rw [HLn.out.2]; exact hlt)
      rw [this, HQ1.out, hV])
     have HPz := qh (HO.out.2.2 k hlt)
     obtain ⟨⟨yr, yc, ya⟩, hy⟩ : ∃ y, gp P k = y := ⟨_, rfl⟩
     rw [hy] at p0 p1 p2 hV HPz
     simp only [] at p0 p1 p2
     have HCo := qh (show ∀ W : World, Below wO.heap.size wO W → Calls Tryz.prog 33 #[.agg #[.int .i64 p.gate, .int .i64 p.need, .int .i64 p.most, .int .i64 p.pull], .agg #[.int .i64 id, .int .i64 addr, .int .i64 rg.r, .int .i64 rg.v, .int .i64 rg.n, .slice aL nL cL, .slice aH nH cH, .int .i64 hits, .int .i64 misses, .bool firm], .agg #[.int .i64 yr, .int .i64 yc, .int .i64 ya]] W (NPost V W) from fun W hB => by
      have h := rcost_call p ⟨id, addr, rg, lo, hi, hits, misses, firm⟩ ⟨aL, nL, cL, aH, nH, cH⟩ ⟨yr, yc, ya⟩ W HO.out.2.1 HOk.out HPz.out (HBk.out.below hB)
      rw [hV] at h
      exact h)
     have HH := qh (show ∀ W : World, Below wO.heap.size wO W → CoS tb #[.int .i64 p.gate, .int .i64 p.need, .int .i64 p.most, .int .i64 p.pull, .int .i64 now, .int .i64 next, .slice a n c] b (off + i * 10) (⟨id, addr, rg, lo, hi, hits, misses, firm⟩, ⟨aL, nL, cL, aH, nH, cH⟩) d (of + k * 3) ⟨yr, yc, ya⟩ W from fun W hB => CoS.below ⟨HTr.out, HXr.out, p0, p1, p2⟩ hB)
     clear hV hlt p0 p1 p2 hy
     go_wp2_with fail
     have KD := qh (show Below wr.heap.size wr wr.drew from aM (Below.refl _ _) 1)
     replace HOw := qh (aO HOw.out KD.out (Nat.le_refl _))
     replace B := qh (B.out.trans (KD.out.mono B.out.size))
     clear KD
     have HS := qh (HH.out _ B.out)
     refine MyHeldE.start (fun W => CoS tb #[.int .i64 p.gate, .int .i64 p.need, .int .i64 p.most, .int .i64 p.pull, .int .i64 now, .int .i64 next, .slice a n c] b (off + i * 10) (⟨id, addr, rg, lo, hi, hits, misses, firm⟩, ⟨aL, nL, cL, aH, nH, cH⟩) d (of + k * 3) ⟨yr, yc, ya⟩ W) [] (by kernel_rfl) ?_
     have hHeld := HS.out
     generalize wr.drew = wd at *
     refine MyHeldE.tk 0 (hQ := (fun _ _ _ h => HPan.out _ _ _ _ _ h)) ?_
     refine MyHeldE.tk 1 (hQ := (fun _ _ _ h => HPan.out _ _ _ _ _ h)) ?_
     refine MyHeldE.tk 2 (hQ := (fun _ _ _ h => HPan.out _ _ _ _ _ h)) (hy := fun w hSw => by obtain ⟨hSa, ⟨x0, x1, x2, x3, x4, x5, x6, x7, x8, x9⟩, y0, y1, y2⟩ := hSw; obtain ⟨t0, t1, t2, t3, t4, t5, t6⟩ := aK hSa; simp only [] at x0 x1 x2 x3 x4 x5 x6 x7 x8 x9 y0 y1 y2; go_simp; (try with_reducible rfl)) ?_
     refine MyHeldE.tk 3 (hQ := (fun _ _ _ h => HPan.out _ _ _ _ _ h)) ?_
     refine MyHeldE.tk 4 (hQ := (fun _ _ _ h => HPan.out _ _ _ _ _ h)) ?_
     refine MyHeldE.tk 5 (hQ := (fun _ _ _ h => HPan.out _ _ _ _ _ h)) (hy := fun w hSw => by obtain ⟨hSa, ⟨x0, x1, x2, x3, x4, x5, x6, x7, x8, x9⟩, y0, y1, y2⟩ := hSw; obtain ⟨t0, t1, t2, t3, t4, t5, t6⟩ := aK hSa; simp only [] at x0 x1 x2 x3 x4 x5 x6 x7 x8 x9 y0 y1 y2; go_simp; (try with_reducible rfl)) ?_
     refine MyHeldE.tk 6 (hQ := (fun _ _ _ h => HPan.out _ _ _ _ _ h)) (hy := fun w hSw => by obtain ⟨hSa, ⟨x0, x1, x2, x3, x4, x5, x6, x7, x8, x9⟩, y0, y1, y2⟩ := hSw; obtain ⟨t0, t1, t2, t3, t4, t5, t6⟩ := aK hSa; simp only [] at x0 x1 x2 x3 x4 x5 x6 x7 x8 x9 y0 y1 y2; go_simp; (try with_reducible rfl)) ?_
     refine MyHeldE.tk 7 (hQ := (fun _ _ _ h => HPan.out _ _ _ _ _ h)) ?_
     refine MyHeldE.tk 8 (hQ := (fun _ _ _ h => HPan.out _ _ _ _ _ h)) ?_
     refine MyHeldE.tk 9 (hQ := (fun _ _ _ h => HPan.out _ _ _ _ _ h)) (hy := fun w hSw => by obtain ⟨hSa, ⟨x0, x1, x2, x3, x4, x5, x6, x7, x8, x9⟩, y0, y1, y2⟩ := hSw; obtain ⟨t0, t1, t2, t3, t4, t5, t6⟩ := aK hSa; simp only [] at x0 x1 x2 x3 x4 x5 x6 x7 x8 x9 y0 y1 y2; go_simp; (try with_reducible rfl)) ?_
     refine MyHeldE.tk 10 (hQ := (fun _ _ _ h => HPan.out _ _ _ _ _ h)) (hy := fun w hSw => by obtain ⟨hSa, ⟨x0, x1, x2, x3, x4, x5, x6, x7, x8, x9⟩, y0, y1, y2⟩ := hSw; obtain ⟨t0, t1, t2, t3, t4, t5, t6⟩ := aK hSa; simp only [] at x0 x1 x2 x3 x4 x5 x6 x7 x8 x9 y0 y1 y2; go_simp; (try with_reducible rfl)) ?_
     refine MyHeldE.ready (rs := [11]) (by kernel_rfl) (by simp) ?_
     refine (MyHeldE.next 11 (MyHeld.at_rfl rfl) (fun Kq hKq => ?_) MyHeldE.All.nil)
     go_simp
     go_at_call 33
     refine (HCo.out _ B.out).mono ?_; rintro e w3 ⟨rfl, hb⟩
     replace HOw := qh (aO HOw.out hb (Nat.le_refl _))
     replace B := qh (B.out.trans (hb.mono B.out.size))
     clear hb HS
     have HS := qh (HH.out _ B.out)
     refine hKq.out _ _ (fun _ => (HS.out)) ?_
     clear hKq Kq hHeld
     have hHeld := (HS.out)
     try simp only [Act.put, List.setIfInBounds_toArray, List.set_cons_zero, List.set_cons_succ]
     refine MyHeldE.ready (rs := [12]) (by kernel_rfl) (by simp) ?_
     refine (MyHeldE.next 12 (MyHeld.at_rfl rfl) (fun Kq hKq => ?_) MyHeldE.All.nil)
     go_simp
     replace HOw := qh (aO HOw.out (aC w3 (.cells #[.int .i64 V] 3)) (Nat.le_refl _))
     replace B := qh (B.out.trans ((aC w3 (.cells #[.int .i64 V] 3)).mono B.out.size))
     clear HS
     have HS := qh (HH.out _ B.out)
     refine hKq.out _ _ (fun _ => HS.out) ?_
     clear hKq Kq hHeld
     have hHeld := HS.out
     try simp only [Act.put, List.setIfInBounds_toArray, List.set_cons_zero, List.set_cons_succ]
     refine MyHeldE.ready (rs := [13]) (by kernel_rfl) (by simp) ?_
     refine (MyHeldE.next 13 (MyHeld.at_rfl rfl) (fun Kq hKq => ?_) MyHeldE.All.nil)
     refine bC (by rfl) (.tmp 91) (.tmp 103) 51 (by rfl) wO.heap.size 3 i0 _ 1 8 Tryz.underlying51 HF.out.1 HF.out.2.1 HF.out.2.2.1 HF.out.2.2.2 (by rfl) (by decide) _ k _ (by rfl) HOw.out ⟨w3.heap.size, 0, none⟩ 1 1 [.int .i64 V] (by rfl) (by rfl) (bA rfl) (by intro u hu; simp at hu; subst hu; rfl) (by have := HKl.out; have := HN.out.2; unfold maxLen; omega) (by have := HKl.out; have := HN.out.2; omega) B.out.size ?_
     intro v9 w9 hown9 hg9 hat9
     obtain ⟨a9, c9, rfl⟩ := aU hown9
     have hb9 : Below wO.heap.size (w3.alloc (.cells #[.int .i64 V] 3)) w9 := (Outs.of_grown (X := [(Value.slice au k cu).ownBlock]) hg9 (fun _ e => by rw [← e]; exact List.mem_singleton.2 rfl)).below B.out.size (fun g e => (HOw.out.lt g (List.mem_singleton.1 e).symm).1)
     have B9 := qh (B.out.trans hb9)
     have HO9 := qh hown9
     have HS9 := qh (HH.out _ B9.out)
     clear hown9 hg9 hat9 hb9 HOw HS B
     refine hKq.out _ _ (fun _ => HS9.out) ?_
     clear hKq Kq hHeld
     have hHeld := HS9.out
     try simp only [Act.put, List.setIfInBounds_toArray, List.set_cons_zero, List.set_cons_succ]
     refine MyHeldE.tk 14 (hQ := (fun _ _ _ h => HPan.out _ _ _ _ _ h)) ?_
     refine MyHeldE.done (by kernel_rfl) ?_ _
     go_wp2_with fail
     refine ⟨⟨k + 1, HKl.out, by go_num, B9.out, ?_⟩, by simp [intOf]; have := HKl.out; omega⟩
     rw [HVe.out, show Asg.flatI ((rowV p P (gt M i).1).take k ++ [V]) = Asg.flatI ((rowV p P (gt M i).1).take k) ++ [.int .i64 V] from List.map_append]
     exact HO9.out
    obtain rfl : pn = k := by omega
    have hrl : (rowV p P (gt M i).1).length = pn := by rw [eQ, HLn.out.2]
    have hfin : (rowV p P (gt M i).1).take pn = (rowV p P (gt M i).1) := List.take_of_length_le (by rw [hrl]; exact Nat.le_refl _)
    rw [hfin] at HOw
    clear hfin
    obtain ⟨us, c1, c2, c3⟩ := ((C.out.below B.out).below (aC wr (.cells #[.slice au pn cu] 51))).row
    have hu : (wr.alloc (.cells #[.slice au pn cu] 51)).ownsRow wc.heap.size 3 1 (.slice au pn cu) (rowV p P (gt M i).1).length (Asg.flatI (rowV p P (gt M i).1)) := by rw [hrl]; exact aO (Mx.le HOw.out B0.out.size) (aC wr (.cells #[.slice au pn cu] 51)) (Nat.le_refl _)
    have HC1 := qh c1
    have HC3 := qh (And.intro c2 (And.intro c3 hu))
    have HBa := qh (show Below wc.heap.size wc (wr.alloc (.cells #[.slice au pn cu] 51)) from (B0.out.trans (B.out.mono B0.out.size)).trans ((aC wr (.cells #[.slice au pn cu] 51)).mono (Nat.le_trans B0.out.size B.out.size)))
    clear c1 c2 c3 hrl hu C HOw
    go_wp2_with (at_builtin; refine wpList_append_own_at _ rfl _ _ 89 rfl wc.heap.size 51 i2 _ 1 24 Tryz.underlying89 HR.out.1 HR.out.2.1 HR.out.2.2.1 HR.out.2.2.2 rfl (by decide) _ i _ rfl HC1.out ⟨wr.heap.size, 0, none⟩ 1 1 [.slice au pn cu] rfl rfl (bA rfl) (by intro u hu; simp at hu; subst hu; rfl) (by have := HLt.out; have := HN.out.1; unfold maxLen; omega) (by have := HLt.out; have := HN.out.1; omega) HBa.out.size ?_; intro v9 w9 hown9 hg9 _ hat9; have M9 := qh (Mx.snoc (F := fun j => rowV p P (gt M j).1) HC1.out HC3.out.1 HC3.out.2.1 HC3.out.2.2 hown9 hg9); have B9 := qh (HBa.out.trans ((Outs.of_grown (X := [(Value.slice ac i cc).ownBlock]) hg9 (fun _ e => by rw [← e]; exact List.mem_singleton.2 rfl)).below HBa.out.size (fun g e => (HC1.out.lt g (List.mem_singleton.1 e).symm).1))); clear hown9 hg9 hat9)
    go_roundw
    case rel => exact ⟨i + 1, HLt.out, by go_num, B9.out, M9.out⟩
    case measure => simp [intOf]; have := HLt.out; omega
  obtain rfl : m = i := by omega
  obtain ⟨cA, cC, hv, hM⟩ := C.out.mtx (L := rowsV p (fsts M) P) (by rw [d6, aY]; exact HLn.out.1) (by have := HN.out.1; omega) (fun j hj => by rw [e8 (by rw [aY, HLn.out.1]; exact hj), fX]) (fun j hj => by rw [eQ, HLn.out.2]; have := HN.out.2; omega)
  cases hv
  have HM := qh hM
  clear hM
  go_wp2_with fail
  exact HQ.out _ _ _ _ _ _ _ _ _ _ _ _ _ _ _ _ _ _ _ _ _ _ _ _ _ _ _ _ _ _ _ _ _ _ _ ⟨B0.out, HM.out⟩
end Go.Proofs.YtikjjpjekchcjaaGreat
end
section
namespace TrkMath
def pkF (l : List (Nat × Nat)) (i : Nat) : Nat → Int
 | 0 => -1
 | n + 1 => if (l[n]?.getD (0, 0)).1 = i ∧ n < l.length then ((l[n]?.getD (0, 0)).2 : Int) else pkF l i n
theorem pkF_yes {l : List (Nat × Nat)} {i n : Nat} (hn : n < l.length) (h : (l[n]?.getD (0, 0)).1 = i) : pkF l i (n + 1) = ((l[n]?.getD (0, 0)).2 : Int) := if_pos ⟨h, hn⟩
theorem pkF_no {l : List (Nat × Nat)} {i n : Nat} (h : ¬ (l[n]?.getD (0, 0)).1 = i) : pkF l i (n + 1) = pkF l i n := if_neg (fun e => h e.1)
def okF (l : List (Nat × Nat)) (i : Nat) : Int := match ofF l i with
 | none => -1
 | some y => (y : Int)
theorem pkF_eq {l : List (Nat × Nat)} (hd : ∀ a b, a < l.length → b < l.length → (l[a]?.getD (0, 0)).1 = (l[b]?.getD (0, 0)).1 → a = b) (i : Nat) : pkF l i l.length = okF l i := by
 have key : ∀ n, n ≤ l.length → (pkF l i n = -1 ∧ ∀ a, a < n → (l[a]?.getD (0, 0)).1 ≠ i) ∨ ∃ a, a < n ∧ (l[a]?.getD (0, 0)).1 = i ∧ pkF l i n = ((l[a]?.getD (0, 0)).2 : Int) := by
  intro n
  induction n with
  | zero => exact fun _ => Or.inl ⟨rfl, fun a ha => absurd ha (Nat.not_lt_zero _)⟩
  | succ n ih =>
   intro hn
   by_cases c : (l[n]?.getD (0, 0)).1 = i
   ·exact Or.inr ⟨n, by omega, c, pkF_yes (by omega) c⟩
   rw [pkF_no c]
   rcases ih (by omega) with ⟨h1, h2⟩ | ⟨a, h1, h2⟩
   ·refine Or.inl ⟨h1, fun a ha => ?_⟩
    by_cases e : a = n
    ·subst e; exact c
    exact h2 a (by omega)
   exact Or.inr ⟨a, by omega, h2⟩
 have hf : ∀ (m : List (Nat × Nat)), (∀ q ∈ m, q.1 ≠ i) → m.find? (fun q => q.1 == i) = none := fun m h => List.find?_eq_none.2 fun q hq e => h q hq (by simpa using e)
 rcases key l.length (Nat.le_refl _) with ⟨h1, h2⟩ | ⟨a, h1, h2, h3⟩
 ·rw [h1]
  unfold okF ofF
  rw [hf l fun q hq => by
   obtain ⟨b, hb, rfl⟩ := List.getElem_of_mem hq
   have := h2 b hb
   rw [List.getElem?_eq_getElem hb, Option.getD_some] at this
   exact this]
  rfl
 rw [h3]
 unfold okF ofF
 cases hq : l.find? (fun q => q.1 == i) with
 | none =>
  have := List.find?_eq_none.1 hq (l[a]) (List.getElem_mem h1)
  rw [List.getElem?_eq_getElem h1, Option.getD_some] at h2
  exact absurd (by simp [h2]) this
 | some q =>
  have hm := List.mem_of_find?_eq_some hq
  have hi : q.1 = i := by simpa using List.find?_some hq
  obtain ⟨b, hb, rfl⟩ := List.getElem_of_mem hm
  have e := hd a b h1 hb (by rw [h2, List.getElem?_eq_getElem hb, Option.getD_some, hi])
  subst e
  rw [List.getElem?_eq_getElem h1]
  rfl
end TrkMath
end
