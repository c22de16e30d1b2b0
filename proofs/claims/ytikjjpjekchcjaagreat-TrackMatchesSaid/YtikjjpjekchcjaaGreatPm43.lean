/-
  TrkKf, PtAltT, TrkSk, TrkRg, TrkRh, TrkRi, TrkHp
-/
import Derived.Test.YtikjjpjekchcjaaGreatPm38
import Derived.Test.YtikjjpjekchcjaaGreatPm41
import Derived.Test.YtikjjpjekchcjaaGreatPm42
set_option linter.all false
set_option maxRecDepth 100000
set_option maxHeartbeats 64000000
section
namespace Go.Proofs.YtikjjpjekchcjaaGreat
open Go.RowKit TrkMath MyHeap MyOwn MyCopy
theorem infoBool : (Tryz.prog.info? 4).map (fun i => (i.zero, i.size, i.bytes)) = some (some (.bool false), 1, 1) := by kernel_rfl
theorem hmkB (n : Nat) (hn : n ≤ 1000000) (W : World) : (Instr.makeSlice 94 (.int .i64 (n : Int)) (.int .i64 (n : Int))).run Tryz.prog W = .ok (.slice (some ⟨W.heap.size, 0, none⟩) n n) (W.alloc (.cells (madeCells #[.bool false] n) 4)) := by
 obtain ⟨i0, hi, hiz, his, hib⟩ := b6 infoBool
 have h := run_make W 94 4 i0 _ Tryz.underlying94 hi hiz .i64 .i64 (n : Int) (n : Int) (by omega) (by omega) (by rw [hib]; omega) (by omega)
 rw [Int.toNat_natCast, his, Nat.mul_one] at h
 exact h
theorem sub_yo {ob ub : Nat} {eV v : Value} {x : Nat} (h : some x ∈ v.ownBlock :: [eV.ownBlock]) : some x ∈ v.ownBlock :: eV.ownBlock :: Yo ob ub := by
 rcases List.mem_cons.1 h with e | e
 ·rw [e]; exact List.mem_cons_self
 rw [List.mem_singleton.1 e]; exact List.mem_cons_of_mem _ List.mem_cons_self
theorem pI (p : Par) (now next : Int) (a : Option Addr) (n c : Nat) (pa : Option Addr) (pn pc : Nat) (L : List TB) (P : List Pl) (w : World) (hT : Trs w a n L) (hB : ∀ k, k < n → BdI w (gt L k)) (hP : Pls w pa pn P) :
    Calls Tryz.prog 9 #[tbV p now next (.slice a n c), .slice pa pn pc] w (CyPost 47 (cyR p now next (fsts L) P) (cyW p now next (fsts L) P) (cyE p now next (fsts L) P) w) := by
 have HT := qh hT
 have HI := qh hB
 have HP := qh hP
 have HLn := qh (And.intro hT.len hP.len)
 have K := qh (show Below w.heap.size w ((w.alloc (.cells #[.int .i64 p.gate, .int .i64 p.need, .int .i64 p.most, .int .i64 p.pull, .int .i64 now, .int .i64 next, .slice a n c] 38)).alloc (.cells #[.int .i64 0, .int .i64 0, .int .i64 0, .int .i64 0, .int .i64 0, .int .i64 0, .slice none 0 0] 38)) ∧ ((w.alloc (.cells #[.int .i64 p.gate, .int .i64 p.need, .int .i64 p.most, .int .i64 p.pull, .int .i64 now, .int .i64 next, .slice a n c] 38)).alloc (.cells #[.int .i64 0, .int .i64 0, .int .i64 0, .int .i64 0, .int .i64 0, .int .i64 0, .slice none 0 0] 38)).heap[w.heap.size]? = some (.cells #[.int .i64 p.gate, .int .i64 p.need, .int .i64 p.most, .int .i64 p.pull, .int .i64 now, .int .i64 next, .slice a n c] 38 (0, 0)) ∧ ((w.alloc (.cells #[.int .i64 p.gate, .int .i64 p.need, .int .i64 p.most, .int .i64 p.pull, .int .i64 now, .int .i64 next, .slice a n c] 38)).alloc (.cells #[.int .i64 0, .int .i64 0, .int .i64 0, .int .i64 0, .int .i64 0, .int .i64 0, .slice none 0 0] 38)).heap[w.heap.size + 1]? = some (.cells #[.int .i64 0, .int .i64 0, .int .i64 0, .int .i64 0, .int .i64 0, .int .i64 0, .slice none 0 0] 38 (0, 0)) from ⟨(aC w _).alloc (by simp) _, aG (aI w _ rfl), aI _ _ (by simp)⟩)
 have HCk := qh (fun (W : World) (hb : Below w.heap.size w W) => pH p now next a n c pa pn pc L P W (hT.below hb) (fun k hk => (hB k hk).below hb) (hP.below hb))
 have hT0 := hT
 clear hT hB hP
 unfold tbV
 unfold tbV at HCk
 by_cases hE : cyE p now next (fsts L) P = 0
 ·obtain ⟨hck, hnn, hp16, hpz⟩ := mP hE
  obtain ⟨hpar, hnow, hnext, hl16, htk⟩ := pW hck
  clear hT0
  have HCR := qh (jQ (P := P) hE)
  rw [hE] at HCk ⊢
  have n16 : n ≤ 16 := by have := HLn.out.1; rw [aY] at hl16; omega
  have p16 : pn ≤ 16 := by have := HLn.out.2; omega
  have HNum := qh (And.intro n16 (And.intro p16 (And.intro hnow (And.intro hnext hnn))))
  have HPar := qh hpar
  have HOk := qh htk
  have HPl := qh (show ∀ k, k < pn → plE (gp P k) = 0 from fun k hk => plsE_zero hpz k (by rw [HLn.out.2]; exact hk))
  have HS := qh (show stpA p (fsts L) n = cyS p (fsts L) from by unfold cyS; rw [aY, HLn.out.1])
  clear hck hnn hp16 hpz hpar hnow hnext hl16 htk hE n16 p16
  go_enter Tryz.func9, Tryz.ntmps9
  go_wp2_with fail
  refine (HCk.out _ K.out.1).mono ?_; rintro e w1 ⟨rfl, hb⟩
  replace K := qh (And.intro (K.out.1.trans (hb.mono K.out.1.size)) (And.intro (aN hb K.out.2.1) (aN hb K.out.2.2)))
  clear hb HCk
  go_wp2_with fail
  obtain ⟨tb, htb⟩ : ∃ b, b = w.heap.size := ⟨_, rfl⟩
  obtain ⟨rb, hrb⟩ : ∃ b, b = w.heap.size + 1 := ⟨_, rfl⟩
  have KB := K.out.1
  have K' := K.out.2
  clear K
  rw [← hrb, ← htb] at K'
  have K := qh (And.intro KB K')
  clear KB K'
  rw [← hrb, ← htb]
  have HRb := qh (And.intro htb hrb)
  clear htb hrb
  have R1 := qh (show Rc w1 [] [(tb, #[.int .i64 p.gate, .int .i64 p.need, .int .i64 p.most, .int .i64 p.pull, .int .i64 now, .int .i64 next, .slice a n c])] (.slice none 0 0) [] w1 from ⟨Below.refl _ _, fun y hy => by cases List.mem_singleton.1 hy; exact K.out.2.1, ⟨rfl, Or.inl ⟨rfl, rfl⟩⟩, fun _ e => by cases e⟩)
  refine rlp1 p now next a n c tb L [(tb, #[.int .i64 p.gate, .int .i64 p.need, .int .i64 p.most, .int .i64 p.pull, .int .i64 now, .int .i64 next, .slice a n c])] w1 w1 _ (HT.out.below K.out.1) (fun k hk => (HI.out k hk).below K.out.1) (fun k hk => HOk.out _ (by rw [← eT]; exact lB (by rw [aY, HLn.out.1]; exact hk))) HPar.out HNum.out.1 List.mem_cons_self R1.out (by intro _ _ d _ _ h; cases d <;> exact h) ?_
  intro u11 u12 u13 u40 u41 u42 u43 u44 u45 u46 u47 u48 u49 u50 u51 u52 u53 u54 u55 u56 u57 u58 u59 u60 u61 u62 u63 u64 u65 u66 u67 u68 u69 u70 u71 u72 u73 u74 u75 u76 u77 u78 eV lV E M w2 hR
  obtain ⟨hK, hL, hM, hE⟩ := hR
  try dsimp only
  rw [HS.out] at hM hE
  obtain ⟨aV, cV, rfl⟩ := aU hL.row
  obtain ⟨m, hm⟩ : ∃ m, M.length = m := ⟨_, rfl⟩
  rw [hm] at hL ⊢
  have HMm := qh hm
  have HMs := qh hM
  have HEs := qh hE
  have K2 := qh hK
  have L2 := qh hL
  have hm16 : m ≤ 16 := by
   have h1 := gG (p := p) (L := fsts L) n
   rw [HS.out, ← HMs.out, aY, HMm.out] at h1
   have := HNum.out.1
   omega
  have HEl := qh (show E.length ≤ 100 from by
   have h1 := iP (p := p) (L := fsts L) n
   rw [HS.out, ← HEs.out] at h1
   have := HNum.out.1
   omega)
  have HM16 := qh hm16
  have HOk2 := qh (show ∀ k, k < m → TkOk p (gt M k).1 from fun k hk => by
   have h1 : (gt M k).1 ∈ (cyS p (fsts L)).1 := by rw [← HMs.out, ← eT]; exact lB (by rw [aY, HMm.out]; exact hk)
   unfold cyS at h1
   exact stp_ok (fun t ht => HOk.out t ht) (Nat.le_refl _) _ h1)
  clear hm hM hE hK hL hm16 R1 HS
  go_wp2_with fail
  refine rlp2 p now next a aV pa n c m cV tb pn pc M P w2 _ (K2.out.H _ List.mem_cons_self) (L2.out.trs HMm.out (by have := HM16.out; omega)) (fun k hk => (L2.out.bd k (by rw [HMm.out]; exact hk)).I) ((HP.out.below K.out.1).below K2.out.B) HOk2.out HPar.out HM16.out HNum.out.2.1 HPl.out (by intro _ _ d _ _ h; cases d <;> exact h) ?_
  intro u16 u17 u79 u80 u81 u82 u83 u84 u85 u86 u87 u88 u89 u90 u91 u92 u93 u94 u95 u96 u97 u98 u99 u100 u101 u102 u103 u104 u105 u106 u107 u108 cA cC w3 hR
  obtain ⟨hb3, hMx⟩ := hR
  try dsimp only
  replace K2 := qh (K2.out.below hb3)
  replace L2 := qh (L2.out.below hb3)
  have hch := qS (p := p) (L := fsts M) (P := P) HPar.out (by rw [aY, HMm.out]; exact HM16.out) (by rw [HLn.out.2]; exact HNum.out.2.1)
  have hbs : Asg.bsL (rowsV p (fsts M) P) = Asg.toP (prsV p (fsts M) P) := if_pos hch
  have hwd : AsgRows.wid (rowsV p (fsts M) P) ≤ 16 := by
   by_cases h0 : 0 < (fsts M).length
   ·rw [eY h0, HLn.out.2]; exact HNum.out.2.1
   have : fsts M = [] := List.length_eq_zero_iff.1 (by omega)
   rw [this]; exact Nat.zero_le _
  have hcall := Asg.rBest_call cA m cC (rowsV p (fsts M) P) w3 hMx (fun _ => hwd)
  unfold Asg.BsPost at hcall
  rw [hbs, hch] at hcall
  have hpr := oV p (fsts M) P
  have hll := PrOk.len hpr (n := m) (by rw [aY, HMm.out])
  obtain ⟨lp, hlp⟩ : ∃ l, prsV p (fsts M) P = l := ⟨_, rfl⟩
  rw [hlp] at hcall hpr hll
  have HPd := qh hpr
  have HLl := qh hll
  have HLc := qh (show cyP p (fsts L) P = lp from by unfold cyP; rw [← HMs.out]; exact hlp)
  clear hch hbs hwd hpr hll hlp hMx hb3
  go_wp2_with fail
  refine hcall.mono ?_; rintro e w4 ⟨v, rfl, hown, hb⟩
  obtain ⟨aP, cP, rfl⟩ := aU hown
  obtain ⟨np, hnp⟩ : ∃ k, (Asg.toP lp).length = k := ⟨_, rfl⟩
  rw [hnp] at hown ⊢
  have HNp := qh (show lp.length = np from by rw [← hnp, Asg.toP_len])
  have HOw := qh (Mx.le (base := w1.heap.size) hown K2.out.B.size)
  replace K2 := qh (K2.out.below hb)
  replace L2 := qh (L2.out.below hb)
  replace HOw := qh (show w4.ownsRow w1.heap.size 96 2 (.slice aP np cP) np (flat2 (Asg.toP lp)) from HOw.out)
  clear hcall hown hb hnp
  have hnw : IntKind.i64.wrap (now + 1) = now + 1 := by have := HNum.out.2.2.1; exact IntWalk.i64_in _ (by omega)
  obtain ⟨t0, t1, t2, t3, t4, t5, t6⟩ := aK (K2.out.H _ List.mem_cons_self)
  have tl := aB (K2.out.H _ List.mem_cons_self)
  go_upto_region 27 with fail
  clear t0 t1 t2 t3 t4 t5 t6 tl
  clear hnw
  have R4s := qh (R4.start K2.out L2.out HOw.out (outC p (now + 1) next (.slice none 0 0)) (usC pn (usR lp 0)) (fun y hy => by cases List.mem_singleton.1 hy; exact aB (K2.out.H _ List.mem_cons_self)))
  have mkB := hmkB pn (by have := HNum.out.2.1; omega)
  rw [show usC pn (usR lp 0) = madeCells #[.bool false] pn from (qK pn).symm] at R4s
  unfold outC at R4s
  go_wp2_with fail
  clear mkB
  rw [show madeCells #[Value.bool false] pn = usC pn (usR lp 0) from qK pn] at R4s ⊢
  have hs5 : (w4.alloc (.cells #[.int .i64 p.gate, .int .i64 p.need, .int .i64 p.most, .int .i64 p.pull, .int .i64 (now + 1), .int .i64 next, .slice none 0 0] 38)).heap.size = w4.heap.size + 1 := by simp
  try rw [hs5]
  obtain ⟨ob, hob⟩ : ∃ b, b = w4.heap.size := ⟨_, rfl⟩
  obtain ⟨ub, hub⟩ : ∃ b, b = w4.heap.size + 1 := ⟨_, rfl⟩
  rw [← hub, ← hob] at R4s
  rw [← hub, ← hob]
  generalize (w4.alloc (.cells #[.int .i64 p.gate, .int .i64 p.need, .int .i64 p.most, .int .i64 p.pull, .int .i64 (now + 1), .int .i64 next, .slice none 0 0] 38)).alloc (.cells (usC pn (usR lp 0)) 4) = w5 at *
  clear hob hub hs5 K2 L2 HOw
  refine rlp4 p now next (now + 1) next a aV aP pa n c m cV np cP tb ob ub pn pc M P lp [(tb, #[.int .i64 p.gate, .int .i64 p.need, .int .i64 p.most, .int .i64 p.pull, .int .i64 now, .int .i64 next, .slice a n c])] eV E w1 w5 _ R4s.out (HP.out.below K.out.1) HMm.out HNp.out HOk2.out HPar.out HPl.out HM16.out HNum.out.2.1 (by have := HLl.out; have := HM16.out; have := HNp.out; omega) HPd.out HEl.out List.mem_cons_self (by intro _ _ d _ _ h; cases d <;> exact h) ?_
  intro u23 u24 u25 u26 u125 u126 u127 u128 u129 u130 u131 u132 u133 u134 u135 u136 u137 u138 u139 u140 u141 u142 u143 u144 u145 u146 u147 u148 u149 u150 u151 u152 u153 u154 u155 u156 u157 u158 u159 u160 u161 u162 u163 u164 u165 u166 u167 u168 u169 u170 u171 u172 u173 u174 u175 u176 u177 u178 u179 u180 u181 u182 u183 u184 u185 u186 u187 u188 u189 u190 u191 u192 u193 u194 u195 u196 u197 u198 u199 u200 u201 u202 u203 u204 u205 u206 u207 u208 u209 u210 u211 u212 u213 u214 u215 u216 u217 u218 u219 u220 u221 eW lW E1 M1 w6 hR
  obtain ⟨hK, hM, hE⟩ := hR
  try dsimp only
  have hU : updA p P (ofF lp) (fsts M) m = cyU p (fsts L) P := by unfold cyU; rw [HLc.out, ← HMs.out, aY, HMm.out]
  have hE1l : E1.length ≤ 300 := by
   have h1 := iM (p := p) (P := P) (of := ofF lp) (L := fsts M) m
   rw [hE, List.length_append]
   have := HEl.out; have := HM16.out; omega
  rw [hU] at hM hE
  rw [usR_all HPd.out (n := m) (by rw [aY, HMm.out])] at hK
  have HM1 := qh hM
  have HE1 := qh hE
  have HE1l := qh hE1l
  have K6 := qh hK.rest
  clear hU hM hE hK R4s hE1l
  go_wp2_with fail
  refine rlp6 p now next (now + 1) next a pa n c tb ob ub pn pc M1 P (usB lp) [(tb, #[.int .i64 p.gate, .int .i64 p.need, .int .i64 p.most, .int .i64 p.pull, .int .i64 now, .int .i64 next, .slice a n c])] eW lW E1 w1 w6 _ K6.out (HP.out.below K.out.1) HPar.out HPl.out HNum.out.2.1 HE1l.out HNum.out.2.2.2.1 List.mem_cons_self (by intro _ _ d _ _ h; cases d <;> exact h) ?_
  intro u28 u29 u30 u31 u32 u222 u223 u224 u225 u226 u227 u228 u229 u230 u231 u232 u233 u234 u235 u236 u237 u238 u239 u240 u241 u242 u243 u244 u245 u246 u247 u248 u249 u250 u251 u252 u253 u254 u255 u256 u257 u258 u259 u260 u261 u262 u263 u264 u265 u266 u267 u268 u269 u270 u271 u272 u273 u274 u275 u276 u277 u278 u279 u280 u281 u282 u283 u284 u285 u286 u287 u288 u289 u290 u291 u292 u293 eX lX E2 M2 w7 hR
  obtain ⟨hK, hM, hE⟩ := hR
  try dsimp only
  have hN : staA p P (usB lp) (fsts M1) next pn = cyN p next (fsts L) P := by unfold cyN; rw [HLc.out, ← HM1.out, HLn.out.2]
  rw [hN] at hM hE hK
  obtain ⟨NX, hNX⟩ : ∃ x, cyX p next (fsts L) P = x := ⟨_, rfl⟩
  obtain ⟨TK, hTK⟩ : ∃ x, cyT p next (fsts L) P = x := ⟨_, rfl⟩
  obtain ⟨EV, hEV⟩ : ∃ x, cyV p next (fsts L) P = x := ⟨_, rfl⟩
  have HEV : E2 = EV := by rw [hE, HE1.out, HEs.out, ← hEV]; rfl
  have HTK : fsts M2 = TK := by rw [hM, ← hTK]; rfl
  have hK2 : R4 w1 ob ub (outC p (now + 1) NX lX) [(tb, #[.int .i64 p.gate, .int .i64 p.need, .int .i64 p.most, .int .i64 p.pull, .int .i64 now, .int .i64 next, .slice a n c])] eX E2 lX M2 (.slice none 0 0) [] (usC pn (usB lp)) (.slice none 0 0) 0 [] [] w7 := by rw [← hNX]; exact hK
  replace HCR := qh (show cyR p now next (fsts L) P = ⟨p, now + 1, NX, TK⟩ ∧ cyW p now next (fsts L) P = EV from by rw [← hNX, ← hTK, ← hEV]; exact HCR.out)
  have HM2 := qh HTK
  subst HEV
  have K7 := qh hK2
  obtain ⟨aT, cT, rfl⟩ := aU K7.out.F.row
  clear hN hM hE hK hK2 hNX hTK hEV HTK K6 HM1 HE1 HE1l HEs HMs
  have HZb := qh (show w7.heap[rb]? = some (.cells #[.int .i64 0, .int .i64 0, .int .i64 0, .int .i64 0, .int .i64 0, .int .i64 0, .slice none 0 0] 38 (0, 0)) from aN K7.out.K.B K.out.2.2)
  have HrL := qh (show rb < w1.heap.size from aB K.out.2.2)
  obtain ⟨o0, o1, o2, o3, o4, o5, o6⟩ := aK K7.out.out
  have ol := aB K7.out.out
  obtain ⟨q0, q1, q2, q3, q4, q5, q6⟩ := aK HZb.out
  obtain ⟨f0, f1, f2, f3, f4, f5, f6⟩ := bT HZb.out
  have ql := aB HZb.out
  go_wp2_with fail
  have KS := qh (bX (K.out.1.trans (K7.out.K.B.mono K.out.1.size)) HZb.out (by have := HRb.out.2; omega) (.int .i64 p.gate) (.int .i64 p.need) (.int .i64 p.most) (.int .i64 p.pull) (.int .i64 (now + 1)) (.int .i64 NX) (.slice aT M2.length cT))
  have HOt := qh (oT w7 rb (.int .i64 p.gate) (.int .i64 p.need) (.int .i64 p.most) (.int .i64 p.pull) (.int .i64 (now + 1)) (.int .i64 NX) (.slice aT M2.length cT))
  obtain ⟨s0, s1, s2, s3, s4, s5, s6⟩ := aK KS.out.2
  refine bodyPost_ret (v := .tuple #[tbV p (now + 1) NX (.slice aT M2.length cT), eX, .int .i64 0]) ?_ rfl ?_
  ·simp [results, Tryz.f9, go_sem, s0, s1, s2, s3, s4, s5, s6, tbV]
  rw [HCR.out.1, HCR.out.2]
  have hX : ∀ k, some k ∈ [some rb] → w1.heap.size ≤ k → False := fun k e hk => by have := Option.some.inj (List.mem_singleton.1 e); have := HrL.out; omega
  have hOo := cK HOt.out
  refine ⟨_, _, M2, rfl, ⟨?_, fun k hk => ?_, fun k e hk => ?_⟩, HM2.out, ?_, KS.out.1⟩
  ·exact bR (hOo.row K7.out.F.row (fun k e hk => hX k hk (K7.out.F.lt e).1)) K.out.1.size
  ·have h1 := K7.out.F.bd k hk
   have h2 : BdX w1.heap.size [some rb] w7 (gt M2 k) := ⟨h1.L, h1.H, fun x e => ⟨⟨(h1.gL x e).1.1, fun c => hX x c (h1.gL x e).1.1⟩, (h1.gL x e).2⟩, fun x e => ⟨⟨(h1.gH x e).1.1, fun c => hX x c (h1.gH x e).1.1⟩, (h1.gH x e).2⟩⟩
   have h3 := h2.outs hOo
   exact ⟨h3.L, h3.H, fun x e => ⟨⟨Nat.le_trans K.out.1.size (h1.gL x e).1.1, fun c => (h1.gL x e).1.2 (sub_yo c)⟩, (h3.gL x e).2⟩, fun x e => ⟨⟨Nat.le_trans K.out.1.size (h1.gH x e).1.1, fun c => (h1.gH x e).1.2 (sub_yo c)⟩, (h3.gH x e).2⟩⟩
  ·exact K7.out.F.ne k e (by rw [List.mem_singleton.1 hk]; exact List.mem_cons_self)
  exact bR (hOo.row K7.out.K.E (fun k e hk => hX k hk (K7.out.K.E.lt k e).1)) K.out.1.size
 clear hT0
 have HBd := qh (eK (P := P) hE)
 obtain ⟨E, hE2⟩ : ∃ E, cyE p now next (fsts L) P = E := ⟨_, rfl⟩
 have hne : (E != 0) = true := by rw [bne_iff_ne, ← hE2]; exact hE
 rw [hE2] at HCk ⊢
 clear hE hE2
 go_enter Tryz.func9, Tryz.ntmps9
 go_wp2_with fail
 refine (HCk.out _ K.out.1).mono ?_; rintro e w1 ⟨rfl, hb⟩
 replace K := qh (And.intro (K.out.1.trans (hb.mono K.out.1.size)) (And.intro (aN hb K.out.2.1) (aN hb K.out.2.2)))
 clear hb HCk
 obtain ⟨q0, q1, q2, q3, q4, q5, q6⟩ := aK K.out.2.2
 obtain ⟨f0, f1, f2, f3, f4, f5, f6⟩ := bT K.out.2.2
 have ql := aB K.out.2.2
 go_wp2_with fail
 have KS := qh (bX K.out.1 K.out.2.2 (Nat.le_succ _) (.int .i64 0) (.int .i64 0) (.int .i64 0) (.int .i64 0) (.int .i64 0) (.int .i64 0) (.slice none 0 0))
 obtain ⟨s0, s1, s2, s3, s4, s5, s6⟩ := aK KS.out.2
 refine bodyPost_ret (v := .tuple #[tbV par0 0 0 (.slice none 0 0), .slice none 0 0, .int .i64 E]) ?_ rfl ?_
 ·simp [results, Tryz.f9, go_sem, s0, s1, s2, s3, s4, s5, s6, tbV, par0]
 exact cU HBd.out.1 HBd.out.2 KS.out.1
end Go.Proofs.YtikjjpjekchcjaaGreat
end
section
namespace Go.Proofs.YtikjjpjekchcjaaGreat.Alt
open Go.RowKit AltMath MyHeap MyOwn MyCopy
theorem equalBand_call (aL aH dL dH : Option Addr) (nL nH cL cH mL mH eL eH : Nat) (lo hi lo' hi' : List Int) (w : World) (hL : Ints w aL nL lo) (hH : Ints w aH nH hi) (hL' : Ints w dL mL lo') (hH' : Ints w dH mH hi') :
    Calls Tryz.prog 45 #[bdV aL nL cL aH nH cH, bdV dL mL eL dH mH eH] w (BPost (decide (lo = lo') && decide (hi = hi')) w) := by
 have H := qh (And.intro (And.intro hL hH) (And.intro hL' hH'))
 have B := qh (And.intro ((aC w (.cells (bdC aL nL cL aH nH cH) 53)).alloc (by simp) (.cells (bdC dL mL eL dH mH eH) 53)) (And.intro (aG (o' := .cells (bdC dL mL eL dH mH eH) 53) (aI w (.cells (bdC aL nL cL aH nH cH) 53) rfl)) (aI (w.alloc (.cells (bdC aL nL cL aH nH cH) 53)) (.cells (bdC dL mL eL dH mH eH) 53) (n := w.heap.size + 1) (by simp))))
 clear hL hH hL' hH'
 unfold bdV
 unfold bdC at B
 cases d1 : decide (lo = lo')
 ·go_enter Tryz.func45, Tryz.ntmps45
  go_wp2_with fail
  refine (dW aL dL nL mL cL eL lo lo' _ (H.out.1.1.below B.out.1) (H.out.2.1.below B.out.1)).mono ?_; rintro e w1 ⟨rfl, hb⟩
  rw [d1]
  replace B := qh (B.out.1.trans (hb.mono B.out.1.size))
  clear hb
  go_wp2_with fail
  go_ret
  exact cO (by simp) B.out
 go_enter Tryz.func45, Tryz.ntmps45
 go_wp2_with fail
 refine (dW aL dL nL mL cL eL lo lo' _ (H.out.1.1.below B.out.1) (H.out.2.1.below B.out.1)).mono ?_; rintro e w1 ⟨rfl, hb⟩
 rw [d1]
 replace B := qh (And.intro (B.out.1.trans (hb.mono B.out.1.size)) (And.intro (aN hb B.out.2.1) (aN hb B.out.2.2)))
 obtain ⟨-, k1⟩ := bW B.out.2.1
 obtain ⟨-, k2⟩ := bW B.out.2.2
 clear hb
 go_wp2_with fail
 refine (dW aH dH nH mH cH eH hi hi' _ (H.out.1.2.below B.out.1) (H.out.2.2.below B.out.1)).mono ?_; rintro e w2 ⟨rfl, hb⟩
 replace B := qh (B.out.1.trans (hb.mono B.out.1.size))
 clear hb
 go_wp2_with fail
 go_ret
 exact cO (by simp) B.out
end Go.Proofs.YtikjjpjekchcjaaGreat.Alt
end
section
namespace Go.Proofs.YtikjjpjekchcjaaGreat
open Go.RowKit TrkMath MyHeap MyOwn
structure TbI (W : World) (a : Option Addr) (n : Nat) (M : List TB) : Prop where
 T : Trs W a n M
 B : ∀ k, k < n → BdI W (gt M k)
theorem TbI.below {W W' : World} {a : Option Addr} {n : Nat} {M : List TB} (h : TbI W a n M) (hb : Below W.heap.size W W') : TbI W' a n M := ⟨h.T.below hb, fun k hk => (h.B k hk).below hb⟩
theorem TbI.nil (W : World) (a : Option Addr) : TbI W a 0 [] := ⟨trs_nil W a, fun _ hk => absurd hk (Nat.not_lt_zero _)⟩
theorem Lf.tbI {base : Nat} {X : List (Option Nat)} {v : Value} {M : List TB} {W : World} (h : Lf base X v M W) (hm : M.length ≤ 9223372036854775807) : ∃ a c, v = .slice a M.length c ∧ TbI W a M.length M := by
 obtain ⟨a, c, e, hT⟩ := lU h.row hm
 exact ⟨a, c, e, hT, fun k hk => (h.bd k hk).I⟩
def ev0 : Ev := ⟨0, 0, 0⟩
def ge (V : List Ev) (k : Nat) : Ev := V[k]?.getD ev0
structure EvI (W : World) (a : Option Addr) (n : Nat) (V : List Ev) : Prop where
 len : V.length = n
 cells : n = 0 ∨ ∃ b off, a = some ⟨b, off, none⟩ ∧ ∀ i, i < n → W.cell? ⟨b, off + i * 3, none⟩ = some (.int .u8 (ge V i).kind) ∧ W.cell? ⟨b, off + i * 3 + 1, none⟩ = some (.int .i64 (ge V i).id) ∧ W.cell? ⟨b, off + i * 3 + 2, none⟩ = some (.int .i64 (ge V i).plot)
theorem EvI.below {W W' : World} {a : Option Addr} {n : Nat} {V : List Ev} (h : EvI W a n V) (hb : Below W.heap.size W W') : EvI W' a n V := by
 refine ⟨h.len, ?_⟩
 rcases h.cells with h0 | ⟨b, off, e, hc⟩
 ·exact Or.inl h0
 exact Or.inr ⟨b, off, e, fun i hi => ⟨aS hb (hc i hi).1, aS hb (hc i hi).2.1, aS hb (hc i hi).2.2⟩⟩
theorem qD {W : World} {a : Option Addr} {n : Nat} {V : List Ev} (h : EvI W a n V) {k : Nat} (hk : k < n) : ∃ b off, a = some ⟨b, off, none⟩ ∧ W.cell? ⟨b, off + k * 3, none⟩ = some (.int .u8 (ge V k).kind) ∧ W.cell? ⟨b, off + k * 3 + 1, none⟩ = some (.int .i64 (ge V k).id) ∧ W.cell? ⟨b, off + k * 3 + 2, none⟩ = some (.int .i64 (ge V k).plot) := by
 rcases h.cells with h0 | ⟨b, off, e, hc⟩
 ·omega
 exact ⟨b, off, e, hc k hk⟩
theorem flatE_get (V : List Ev) (i : Nat) (hi : i < V.length) : (flatE V)[i * 3]? = some (.int .u8 (ge V i).kind) ∧ (flatE V)[i * 3 + 1]? = some (.int .i64 (ge V i).id) ∧ (flatE V)[i * 3 + 2]? = some (.int .i64 (ge V i).plot) := by
 induction V generalizing i with
 | nil => exact absurd hi (Nat.not_lt_zero _)
 | cons x V ih =>
  have e : flatE (x :: V) = .int .u8 x.kind :: .int .i64 x.id :: .int .i64 x.plot :: flatE V := rfl
  cases i with
  | zero => rw [e]; exact ⟨rfl, rfl, rfl⟩
  | succ i =>
   have h := ih i (by simpa using hi)
   rw [e, show (i + 1) * 3 = i * 3 + 1 + 1 + 1 by omega]
   simpa [ge] using h
theorem o9 {w : World} {base : Nat} {e : TypeId} {v : Value} {V : List Ev} (h : w.ownsRow base e 3 v V.length (flatE V)) : ∃ a c, v = .slice a V.length c ∧ EvI w a V.length V := by
 rcases h.2 with ⟨rfl, h0⟩ | ⟨g, cap, cur, rfl, hg, hh, hc, hcm, hcs, htake⟩
 ·exact ⟨none, 0, by rw [h0], rfl, Or.inl h0⟩
 refine ⟨some ⟨g, 0, none⟩, cap, rfl, rfl, Or.inr ⟨g, 0, rfl, fun i hi => ?_⟩⟩
 obtain ⟨h1, h2, h3⟩ := flatE_get V i hi
 rw [← htake, List.getElem?_take_of_lt (by omega)] at h1 h2 h3
 rw [Nat.zero_add]
 exact ⟨aA hh (by simpa using h1), aA hh (by simpa using h2), aA hh (by simpa using h3)⟩
def CyI (R : TbR) (V : List Ev) (E : Int) (w : World) (e : Ending) (w' : World) : Prop :=
 ∃ a c ea ec M, e = .returned (.tuple #[tbV R.par R.now R.next (.slice a M.length c), .slice ea V.length ec, .int .i64 E]) ∧ TbI w' a M.length M ∧ fsts M = R.tk ∧ EvI w' ea V.length V ∧ Below w.heap.size w w'
theorem CyPost.I {ty : TypeId} {R : TbR} {V : List Ev} {E : Int} {w w' : World} {e : Ending} (h : CyPost ty R V E w e w') (hm : R.tk.length ≤ 1000) : CyI R V E w e w' := by
 obtain ⟨tV, eV, M, rfl, hL, hM, hE, hB⟩ := h
 obtain ⟨a, c, rfl, hI⟩ := hL.tbI (by rw [← hM, aY] at hm; omega)
 obtain ⟨ea, ec, rfl, hEv⟩ := o9 hE
 exact ⟨a, c, ea, ec, M, rfl, hI, hM, hEv, hB⟩
def fdE (p : Par) (now next : Int) (L : List Tk) (id : Int) : Int := if ckE p now next L ≠ 0 then ckE p now next L else if (L.find? fun t => t.id == id).isSome then 0 else 9
def fdT (p : Par) (now next : Int) (L : List Tk) (id : Int) : Tk := if fdE p now next L id = 0 then (L.find? fun t => t.id == id).getD tk0 else tk0
theorem fdE_ck {p : Par} {now next : Int} {L : List Tk} {id : Int} (h : ckE p now next L ≠ 0) : fdE p now next L id = ckE p now next L ∧ fdT p now next L id = tk0 := by
 have e : fdE p now next L id = ckE p now next L := if_pos h
 exact ⟨e, if_neg (by rw [e]; exact h)⟩
theorem fdE_no {p : Par} {now next : Int} {L : List Tk} {id : Int} (h : ckE p now next L = 0) (hn : ∀ k, k < L.length → (gk L k).id ≠ id) : fdE p now next L id = 9 ∧ fdT p now next L id = tk0 := by
 have hf : L.find? (fun t => t.id == id) = none := List.find?_eq_none.2 fun t ht => by
  obtain ⟨k, hk, rfl⟩ := List.getElem_of_mem ht
  have := hn k hk
  unfold gk at this
  rw [List.getElem?_eq_getElem hk, Option.getD_some] at this
  simpa using this
 have e : fdE p now next L id = 9 := by unfold fdE; rw [if_neg (fun e => e h), hf]; rfl
 exact ⟨e, if_neg (by rw [e]; decide)⟩
theorem find_first {L : List Tk} {id : Int} {k : Nat} (hk : k < L.length) (h : (gk L k).id = id) (hn : ∀ i, i < k → (gk L i).id ≠ id) : L.find? (fun t => t.id == id) = some (gk L k) := by
 induction L generalizing k with
 | nil => exact absurd hk (Nat.not_lt_zero _)
 | cons t L ih =>
  cases k with
  | zero =>
   have : t.id = id := h
   simp [this, gk]
  | succ k =>
   have h0 : t.id ≠ id := hn 0 (by omega)
   rw [List.find?_cons_of_neg (by simpa using h0)]
   exact ih (by simpa using hk) h (fun i hi => hn (i + 1) (by omega))
theorem o8 {p : Par} {now next : Int} {L : List Tk} {id : Int} {k : Nat} (h : ckE p now next L = 0) (hk : k < L.length) (he : (gk L k).id = id) (hn : ∀ i, i < k → (gk L i).id ≠ id) : fdE p now next L id = 0 ∧ fdT p now next L id = gk L k := by
 have hf := find_first hk he hn
 have e : fdE p now next L id = 0 := by unfold fdE; rw [if_neg (fun e => e h), hf]; rfl
 exact ⟨e, by unfold fdT; rw [if_pos e, hf]; rfl⟩
theorem mN (L : List TB) (k : Nat) : gk (fsts L) k = (gt L k).1 := eT L k
def FdPost (t : Tk) (E : Int) (w : World) (e : Ending) (w' : World) : Prop := ∃ s : Bs, e = .returned (.tuple #[tkV (t, s), .int .i64 E]) ∧ BdX w.heap.size [] w' (t, s) ∧ Below w.heap.size w w'
theorem mC (B : Nat) (X : List (Option Nat)) (w : World) : BdX B X w (tk0, bs0) := ⟨⟨rfl, by decide, Or.inl rfl⟩, ⟨rfl, by decide, Or.inl rfl⟩, fun g e => (by cases e), fun g e => (by cases e)⟩
end Go.Proofs.YtikjjpjekchcjaaGreat
end
section
namespace Go.Proofs.YtikjjpjekchcjaaGreat
open Go.RowKit TrkMath MyHeap MyOwn
theorem jX (t : Tk) (s s' : Bs) (w : World) (hI : BdI w (t, s)) (hI' : BdI w (t, s')) :
    Calls Tryz.prog 16 #[tkV (t, s), tkV (t, s')] w (fun e w' => e = .returned (.bool true) ∧ Below w.heap.size w w') := by
 have HI := qh hI
 have HI' := qh hI'
 clear hI hI'
 obtain ⟨id, addr, ⟨g0, g1, g2⟩, lo, hi, hits, misses, firm⟩ := t
 obtain ⟨aL, nL, cL, aH, nH, cH⟩ := s
 obtain ⟨dL, mL, eL, dH, mH, eH⟩ := s'
 have K := qh (((Kp.nil w).alloc #[.int .i64 id, .int .i64 addr, .int .i64 g0, .int .i64 g1, .int .i64 g2, .slice aL nL cL, .slice aH nH cH, .int .i64 hits, .int .i64 misses, .bool firm] 55).alloc #[.int .i64 id, .int .i64 addr, .int .i64 g0, .int .i64 g1, .int .i64 g2, .slice dL mL eL, .slice dH mH eH, .int .i64 hits, .int .i64 misses, .bool firm] 55)
 unfold tkV tkC
 simp only []
 go_enter Tryz.func16, Tryz.ntmps16
 go_wp2_with fail
 have hc := Alt.equalBand_call aL aH dL dH nL nH cL cH mL mH eL eH lo hi lo hi _ (HI.out.L.below K.out.B) (HI.out.H.below K.out.B) (HI'.out.L.below K.out.B) (HI'.out.H.below K.out.B)
 rw [show (decide (lo = lo) && decide (hi = hi)) = true from by simp] at hc
 unfold Alt.bdV at hc
 refine hc.mono ?_; rintro e w1 ⟨rfl, hb⟩
 replace K := qh (K.out.below hb)
 clear hb hc
 have h1 := K.out.H _ List.mem_cons_self
 have h0 := K.out.H _ (List.mem_cons_of_mem _ List.mem_cons_self)
 simp only [World.size_alloc] at h1
 obtain ⟨z0, z1, z2, z3, z4, z5, z6, z7, z8, z9⟩ := cY h0
 obtain ⟨y0, y1, y2, y3, y4, y5, y6, y7, y8, y9⟩ := cY h1
 have zl := aB h0
 have yl := aB h1
 clear h0 h1
 go_wp2_with fail
 go_ret
 exact ⟨rfl, K.out.B⟩
end Go.Proofs.YtikjjpjekchcjaaGreat
end
section
namespace Go.Proofs.YtikjjpjekchcjaaGreat
open Go.RowKit TrkMath MyHeap MyOwn
theorem nA (a a' : Option Addr) (n c c' : Nat) (M M' : List TB) (w : World) (hT : TbI w a n M) (hT' : TbI w a' n M') (hM : fsts M = fsts M') :
    Calls Tryz.prog 44 #[.slice a n c, .slice a' n c'] w (fun e w' => e = .returned (.bool true) ∧ Below w.heap.size w w') := by
 have HT := qh hT
 have HT' := qh hT'
 have HM := qh hM
 have hbn := hT.T.bound
 have HB0 := qh (Below.refl w.heap.size w)
 clear hT hT' hM
 go_enter Tryz.func44, Tryz.ntmps44
 go_wp2_with fail
 go_loopw [4, 5] (fun rv kv wr => ∃ k : Nat, k ≤ n ∧ rv = .bool false ∧ kv = .int .i64 k ∧ Below w.heap.size w wr) (fun _ kv _ => n - (intOf kv).toNat)
 case atStart => exact ⟨0, by omega, rfl, rfl, HB0.out⟩
 case round =>
  clear HB0
  obtain ⟨k, hk, rfl, rfl, hB⟩ := hrel
  have HB := qh hB
  clear hB
  by_cases hlt : k < n
  ·obtain ⟨b, off, rfl, hq⟩ := eO (HT.out.below HB.out).T hlt
   obtain ⟨d, of, rfl, hq'⟩ := eO (HT'.out.below HB.out).T hlt
   have HIq := qh ((HT.out.below HB.out).B k hlt)
   have HIq' := qh ((HT'.out.below HB.out).B k hlt)
   have he : (gt M k).1 = (gt M' k).1 := by rw [← eT, ← eT, HM.out]
   obtain ⟨⟨t, s⟩, h1⟩ : ∃ q, gt M k = q := ⟨_, rfl⟩
   obtain ⟨⟨t', s'⟩, h2⟩ : ∃ q, gt M' k = q := ⟨_, rfl⟩
   rw [h1] at hq HIq he
   rw [h2] at hq' HIq' he
   simp only [] at he
   subst he
   have HLt := qh hlt
   have hk0 : (0 : Int) ≤ (k : Int) := by omega
   have hk1 : (k : Int) < (n : Int) := by omega
   have hkw : IntKind.i64.wrap ((k : Int) + 1) = ((k + 1 : Nat) : Int) := by rw [IntWalk.i64_in _ (by omega)]; omega
   clear h1 h2 hlt
   have HSq := qh (And.intro hq hq')
   clear hq hq'
   go_wp2_with fail
   have KD := qh (show Below wr.heap.size wr wr.drew from aM (Below.refl _ _) 1)
   have HS := qh (show TkAt wr.drew b (off + k * 10) (t, s) ∧ TkAt wr.drew d (of + k * 10) (t, s') from ⟨HSq.out.1.below KD.out, HSq.out.2.below KD.out⟩)
   replace HIq := qh (HIq.out.below KD.out)
   replace HIq' := qh (HIq'.out.below KD.out)
   replace HB := qh (HB.out.trans (KD.out.mono HB.out.size))
   clear HSq KD
   refine MyHeldE.start (fun W => TkAt W b (off + k * 10) (t, s) ∧ TkAt W d (of + k * 10) (t, s')) [] (by kernel_rfl) ?_
   have hHeld := HS.out
   generalize wr.drew = wd at *
   refine MyHeldE.tk 0 ?_
   refine MyHeldE.tk 1 ?_
   refine MyHeldE.tk 2 ?_
   refine MyHeldE.tk 3 (hy := fun w hSw => by obtain ⟨⟨x0, x1, x2, x3, x4, x5, x6, x7, x8, x9⟩, ⟨v0, v1, v2, v3, v4, v5, v6, v7, v8, v9⟩⟩ := hSw; simp only [] at x0 x1 x2 x3 x4 x5 x6 x7 x8 x9 v0 v1 v2 v3 v4 v5 v6 v7 v8 v9; go_simp; (try with_reducible rfl)) ?_
   refine MyHeldE.tk 4 ?_
   refine MyHeldE.tk 5 ?_
   refine MyHeldE.tk 6 ?_
   refine MyHeldE.tk 7 (hy := fun w hSw => by obtain ⟨⟨x0, x1, x2, x3, x4, x5, x6, x7, x8, x9⟩, ⟨v0, v1, v2, v3, v4, v5, v6, v7, v8, v9⟩⟩ := hSw; simp only [] at x0 x1 x2 x3 x4 x5 x6 x7 x8 x9 v0 v1 v2 v3 v4 v5 v6 v7 v8 v9; go_simp; (try with_reducible rfl)) ?_
   have hc := jX t s s' wd HIq.out HIq'.out
   unfold tkV tkC at hc
   refine MyHeldE.ready (rs := [8]) (by kernel_rfl) (by simp) ?_
   refine (MyHeldE.next 8 (MyHeld.at_rfl rfl) (fun Kq hKq => ?_) MyHeldE.All.nil)
   go_simp
   go_at_call 16
   refine hc.mono ?_; rintro e w2 ⟨rfl, hb⟩
   replace HB := qh (HB.out.trans (hb.mono HB.out.size))
   replace HS := qh (And.intro (HS.out.1.below hb) (HS.out.2.below hb))
   clear hb hc
   refine hKq.out _ _ (fun _ => (HS.out)) ?_
   clear hKq Kq hHeld
   have hHeld := (HS.out)
   try simp only [Act.put, List.setIfInBounds_toArray, List.set_cons_zero, List.set_cons_succ]
   refine MyHeldE.tk 9 ?_
   refine MyHeldE.done (by kernel_rfl) ?_ _
   go_wp2_with fail
   refine ⟨⟨k + 1, HLt.out, rfl, by go_num, HB.out⟩, by simp [intOf]; have := HLt.out; omega⟩
  obtain rfl : n = k := by omega
  go_wp2_with fail
  go_ret
  exact ⟨rfl, HB.out⟩
end Go.Proofs.YtikjjpjekchcjaaGreat
end
section
namespace Go.Proofs.YtikjjpjekchcjaaGreat
open Go.RowKit TrkMath MyHeap MyOwn
theorem nK (p : Par) (now next : Int) (a a' : Option Addr) (n c c' : Nat) (M M' : List TB) (w : World) (hT : TbI w a n M) (hT' : TbI w a' n M') (hM : fsts M = fsts M') :
    Calls Tryz.prog 13 #[tbV p now next (.slice a n c), tbV p now next (.slice a' n c')] w (fun e w' => e = .returned (.bool true) ∧ Below w.heap.size w w') := by
 have K := qh (((Kp.nil w).alloc #[.int .i64 p.gate, .int .i64 p.need, .int .i64 p.most, .int .i64 p.pull, .int .i64 now, .int .i64 next, .slice a n c] 26).alloc #[.int .i64 p.gate, .int .i64 p.need, .int .i64 p.most, .int .i64 p.pull, .int .i64 now, .int .i64 next, .slice a' n c'] 38)
 have hc := nA a a' n c c' M M' _ (hT.below K.out.B) (hT'.below K.out.B) hM
 clear hT hT' hM
 unfold tbV
 go_enter Tryz.func13, Tryz.ntmps13
 go_wp2_with fail
 refine hc.mono ?_; rintro e w1 ⟨rfl, hb⟩
 replace K := qh (K.out.below hb)
 clear hb hc
 go_wp2_with fail
 go_ret
 exact ⟨rfl, K.out.B⟩
end Go.Proofs.YtikjjpjekchcjaaGreat
end
section
namespace Go.Proofs.YtikjjpjekchcjaaGreat
open Go.RowKit TrkMath MyHeap MyOwn
def BoolB (b : Bool) (w : World) (e : Ending) (w' : World) : Prop := e = .returned (.bool b) ∧ Below w.heap.size w w'
theorem eB (a d : Option Addr) (n c m : Nat) (V : List Ev) (w : World) (hV : EvI w a n V) (hW : EvI w d n V) (hn : n ≤ 1000) :
    Calls Tryz.prog 21 #[.slice a n c, .slice d n m] w (BoolB true w) := by
 have HV := qh hV
 have HW := qh hW
 clear hV hW
 go_enter Tryz.func21, Tryz.ntmps21
 go_wp2_with fail
 go_loopw [4, 5] (fun v4 kv wr => ∃ k : Nat, k ≤ n ∧ v4 = .bool false ∧ kv = .int .i64 k ∧ Below w.heap.size w wr) (fun _ kv _ => n - (intOf kv).toNat)
 case atStart => exact ⟨0, by omega, rfl, rfl, Below.refl _ _⟩
 case round =>
  obtain ⟨k, hk, rfl, rfl, hB⟩ := hrel
  have B := qh hB
  by_cases hlt : k < n
  ·obtain ⟨b, off, rfl, x0, x1, x2⟩ := qD (HV.out.below hB) hlt
   obtain ⟨b2, off2, rfl, y0, y1, y2⟩ := qD (HW.out.below hB) hlt
   have xl := World.block_lt_of_cell? _ _ x0
   have yl := World.block_lt_of_cell? _ _ y0
   have hk0 : (0 : Int) ≤ (k : Int) := by omega
   have hk1 : (k : Int) < (n : Int) := by omega
   have hkw : IntKind.i64.wrap ((k : Int) + 1) = ((k + 1 : Nat) : Int) := by rw [IntWalk.i64_in _ (by omega)]; omega
   have HLt := qh hlt
   obtain ⟨⟨ek, ei, ep⟩, he⟩ : ∃ x, ge V k = x := ⟨_, rfl⟩
   rw [he] at x0 x1 x2 y0 y1 y2
   simp only [] at x0 x1 x2 y0 y1 y2
   clear hB hlt he
   go_wp2_with fail
   go_quiet (fail)
   go_wp2_with fail
   refine ⟨⟨k + 1, HLt.out, rfl, by go_num, B.out.trans ((aM (Below.refl _ _) nq).mono B.out.size)⟩, by simp [intOf]; have := HLt.out; omega⟩
  obtain rfl : n = k := by omega
  clear hB
  go_wp2_with fail
  go_ret
  exact ⟨rfl, B.out⟩
end Go.Proofs.YtikjjpjekchcjaaGreat
end
