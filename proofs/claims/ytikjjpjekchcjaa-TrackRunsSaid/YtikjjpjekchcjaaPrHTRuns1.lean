/-
  TrackRuns: for every choice of parameters and every list of lists of plots the law returns true. No conditions.
-/
import Derived.Test.YtikjjpjekchcjaaPr50
import Derived.Test.YtikjjpjekchcjaaPr45
import Derived.Test.YtikjjpjekchcjaaPr48
import Derived.Test.YtikjjpjekchcjaaPr49
import Derived.Test.YtikjjpjekchcjaaRows
import Derived.Test.YtikjjpjekchcjaaPr51
import Derived.WalkKit
import Derived.ProofKit
import Derived.OpenShut
import Derived.ShutString
import Derived.Test.YtikjjpjekchcjaaPr1
set_option linter.all false
set_option maxRecDepth 100000
set_option maxHeartbeats 64000000
section
namespace Go.Proofs.Ytikjjpjekchcjaa
open Go.RowKit TrkMath MyHeap MyOwn MyCopy
theorem plsl_at {W : World} {a : Option Addr} {n i : Nat} {l : List ((Option Addr × Nat × Nat) × List Pl)} (h : PlsL W a n l) (hi : i < n) : ∃ b off pa pn pc P, a = some ⟨b, off, none⟩ ∧ W.cell? ⟨b, off + i, none⟩ = some (.slice pa pn pc) ∧ Pls W pa pn P := by
 rcases h.2.2 with h0 | ⟨b, off, e, hx⟩
 ·omega
 obtain ⟨⟨⟨pa, pn, pc⟩, P⟩, -, h2, h3⟩ := hx i hi
 exact ⟨b, off, pa, pn, pc, P, e, h2, h3⟩
theorem staA_len {p : Par} {P : List Pl} {us : Nat → Bool} {L : List Tk} {next : Int} (h : L.length ≤ 16) : ∀ k, (staA p P us L next k).tk.length ≤ 16 := by
 intro k
 induction k with
 | zero => exact h
 | succ k ih =>
  by_cases hs : skipB us P (staA p P us L next k).tk.length k
  ·rw [staA_skip hs]; exact ih
  rw [staA_go hs]
  have : ¬ 16 ≤ (staA p P us L next k).tk.length := fun e => hs (Or.inr (Or.inr e))
  show ((staA p P us L next k).tk ++ [_]).length ≤ 16
  rw [List.length_append, List.length_singleton]
  omega
theorem cyR_len (p : Par) (now next : Int) (L : List Tk) (P : List Pl) : (cyR p now next L P).tk.length ≤ 16 := by
 by_cases h : cyE p now next L P = 0
 ·rw [(cyR_ok h).1]
  obtain ⟨hck, -⟩ := cyE_zero h
  obtain ⟨-, -, -, hl, -⟩ := par_ck hck
  refine staA_len ?_ _
  have h1 := updA_len (p := p) (P := P) (of := ofF (cyP p L P)) (L := (cyS p L).1) (cyS p L).1.length
  have h2 := stpA_len (p := p) (L := L) L.length
  show (cyU p L P).1.length ≤ 16
  unfold cyU
  exact Nat.le_trans h1 (Nat.le_trans h2 hl)
 rw [(cyR_bad h).1]
 exact Nat.zero_le _
theorem Runs_call (p : Par) (a : Option Addr) (ln lc : Nat) (l : List ((Option Addr × Nat × Nat) × List Pl)) (w : World) (hl : PlsL w a ln l) :
    Calls Try.prog 4 #[parV p, .slice a ln lc] w (BoolB true w) := by
 have HP := qh hl
 clear hl
 rcases parE_two p with hE | hE
 ·have HNew := qh (show ∀ W : World, Calls Try.prog 13 #[.agg #[.int .i64 p.gate, .int .i64 p.need, .int .i64 p.most, .int .i64 p.pull]] W (fun e w' => e = .returned (.tuple #[.agg #[.int .i64 p.gate, .int .i64 p.need, .int .i64 p.most, .int .i64 p.pull, .int .i64 0, .int .i64 0, .slice none 0 0], .int .i64 0]) ∧ Below W.heap.size W w') from fun W => by
   have h := pNewT_call p W
   rw [nwP_ok hE, hE] at h
   exact h)
  have HWr := qh (show ∀ W : World, Calls Try.prog 14 #[.agg #[.int .i64 p.gate, .int .i64 p.need, .int .i64 p.most, .int .i64 p.pull]] W (NPost 0 W) from fun W => by
   have h := rWrong_call p W
   rw [hE] at h
   exact h)
  clear hE
  have K := qh ((Kp.nil w).alloc #[.int .i64 p.gate, .int .i64 p.need, .int .i64 p.most, .int .i64 p.pull] 23)
  unfold parV
  go_enter Try.func4, Try.ntmps4
  go_wp2_with fail
  refine (HNew.out _).mono ?_; rintro e w1 ⟨rfl, hb⟩
  have HS0 := qh (show w.heap.size ≤ w1.heap.size from Nat.le_trans K.out.B.size hb.size)
  replace K := qh ((K.out.below hb).alloc #[.int .i64 p.gate, .int .i64 p.need, .int .i64 p.most, .int .i64 p.pull, .int .i64 0, .int .i64 0, .slice none 0 0] 26)
  clear hb HNew
  go_upto_region 2 with fail
  obtain ⟨b2, hb2⟩ : ∃ b, b = w.heap.size := ⟨_, rfl⟩
  obtain ⟨b5, hb5⟩ : ∃ b, b = w1.heap.size := ⟨_, rfl⟩
  have HK := qh (show Below w.heap.size w (w1.alloc (.cells #[.int .i64 p.gate, .int .i64 p.need, .int .i64 p.most, .int .i64 p.pull, .int .i64 0, .int .i64 0, .slice none 0 0] 26)) ∧ (w1.alloc (.cells #[.int .i64 p.gate, .int .i64 p.need, .int .i64 p.most, .int .i64 p.pull, .int .i64 0, .int .i64 0, .slice none 0 0] 26)).heap[b2]? = some (.cells #[.int .i64 p.gate, .int .i64 p.need, .int .i64 p.most, .int .i64 p.pull] 23 (0, 0)) ∧ (w1.alloc (.cells #[.int .i64 p.gate, .int .i64 p.need, .int .i64 p.most, .int .i64 p.pull, .int .i64 0, .int .i64 0, .slice none 0 0] 26)).heap[b5]? = some (.cells #[.int .i64 p.gate, .int .i64 p.need, .int .i64 p.most, .int .i64 p.pull, .int .i64 0, .int .i64 0, .slice none 0 0] 26 (0, 0)) ∧ w.heap.size ≤ b5 from ⟨K.out.B, by rw [hb2]; exact K.out.H _ (List.mem_cons_of_mem _ List.mem_cons_self), by rw [hb5]; exact K.out.H _ List.mem_cons_self, by rw [hb5]; exact HS0.out⟩)
  rw [← hb5, ← hb2]
  clear hb2 hb5 K
  generalize w1.alloc (.cells #[.int .i64 p.gate, .int .i64 p.need, .int .i64 p.most, .int .i64 p.pull, .int .i64 0, .int .i64 0, .slice none 0 0] 26) = w2 at *
  obtain ⟨p0, p1, p2, p3⟩ := four_z HK.out.2.1
  have pl := lt_of_block HK.out.2.1
  go_wp2_with fail
  refine (HWr.out _).mono ?_; rintro e w3 ⟨rfl, hb⟩
  replace HK := qh (And.intro (HK.out.1.trans (hb.mono HK.out.1.size)) (And.intro (keepO hb HK.out.2.1) (And.intro (keepO hb HK.out.2.2.1) HK.out.2.2.2)))
  clear hb p0 p1 p2 p3 pl HWr
  by_cases hbig : 30 < ln
  ·have hbi : (30 : Int) < (ln : Int) := by omega
   obtain ⟨t0, t1, t2, t3, t4, t5, t6⟩ := seven_new HK.out.2.2.1
   have tl := lt_of_block HK.out.2.2.1
   go_wp2_with fail
   refine (awake_call _).mono ?_; rintro e w9 ⟨rfl, hb⟩
   have HBf := qh (HK.out.1.trans (hb.mono HK.out.1.size))
   clear hb
   go_wp2_with fail
   go_ret
   exact ⟨rfl, HBf.out⟩
  have hbi : ¬ (30 : Int) < (ln : Int) := by omega
  have HN := qh (show ln ≤ 30 from by omega)
  obtain ⟨p0, p1, p2, p3⟩ := four_z HK.out.2.1
  have pl := lt_of_block HK.out.2.1
  clear hbig
  go_upto_region 7 with fail
  clear p0 p1 p2 p3 pl hbi
  have hba := below_alloc w3 (.cells #[.int .i64 p.gate, .int .i64 p.need, .int .i64 p.most, .int .i64 p.pull, .int .i64 0, .int .i64 0, .slice none 0 0] 55)
  have HB0 := qh (HK.out.1.trans (hba.mono HK.out.1.size))
  obtain ⟨b7, hb7⟩ : ∃ b, b = w3.heap.size := ⟨_, rfl⟩
  have H57 := qh (show (w3.alloc (.cells #[.int .i64 p.gate, .int .i64 p.need, .int .i64 p.most, .int .i64 p.pull, .int .i64 0, .int .i64 0, .slice none 0 0] 55)).heap[b5]? = some (.cells #[.int .i64 p.gate, .int .i64 p.need, .int .i64 p.most, .int .i64 p.pull, .int .i64 0, .int .i64 0, .slice none 0 0] 26 (0, 0)) ∧ (w3.alloc (.cells #[.int .i64 p.gate, .int .i64 p.need, .int .i64 p.most, .int .i64 p.pull, .int .i64 0, .int .i64 0, .slice none 0 0] 55)).heap[b7]? = some (.cells #[.int .i64 p.gate, .int .i64 p.need, .int .i64 p.most, .int .i64 p.pull, .int .i64 0, .int .i64 0, .slice none 0 0] 55 (0, 0)) from ⟨keepO hba HK.out.2.2.1, block_new _ _ hb7⟩)
  have HL0 := qh (show b5 < b7 ∧ w.heap.size ≤ b7 from ⟨by rw [hb7]; exact lt_of_block HK.out.2.2.1, by rw [hb7]; exact HK.out.1.size⟩)
  have HS4 := qh (show (w3.alloc (.cells #[.int .i64 p.gate, .int .i64 p.need, .int .i64 p.most, .int .i64 p.pull, .int .i64 0, .int .i64 0, .slice none 0 0] 55)).heap.size = b7 + 1 from by rw [hb7]; simp)
  rw [← hb7]
  generalize w3.alloc (.cells #[.int .i64 p.gate, .int .i64 p.need, .int .i64 p.most, .int .i64 p.pull, .int .i64 0, .int .i64 0, .slice none 0 0] 55) = w4 at *
  clear hba hb7
  obtain ⟨B0, hB0⟩ : ∃ b, b = w4.heap.size := ⟨_, rfl⟩
  have HL := qh (show b5 < B0 ∧ b7 < B0 ∧ w.heap.size ≤ b5 ∧ w.heap.size ≤ b7 ∧ b5 ≠ b7 from ⟨by rw [hB0]; exact lt_of_block H57.out.1, by rw [hB0]; exact lt_of_block H57.out.2, HK.out.2.2.2, HL0.out.2, by have := HL0.out.1; omega⟩)
  have HSz0 := qh (Nat.le_of_eq hB0)
  have HB7 := qh (show B0 = b7 + 1 from by rw [hB0]; exact HS4.out)
  clear HS4
  clear hB0
  go_wp2_with fail
  go_loopw [8] (fun kv wr => ∃ (i : Nat) (nw nx : Int) (n c c' : Nat) (a1 a2 : Option Addr) (M M' : List TB) (q : Par), i ≤ ln ∧ kv = .int .i64 i ∧ Below w.heap.size w wr ∧ wr.heap[b5]? = some (.cells #[.int .i64 q.gate, .int .i64 q.need, .int .i64 q.most, .int .i64 q.pull, .int .i64 nw, .int .i64 nx, .slice a1 n c] 26 (0, 0)) ∧ wr.heap[b7]? = some (.cells #[.int .i64 q.gate, .int .i64 q.need, .int .i64 q.most, .int .i64 q.pull, .int .i64 nw, .int .i64 nx, .slice a2 n c'] 55 (0, 0)) ∧ TbJ B0 wr a1 n M ∧ TbJ B0 wr a2 n M' ∧ fsts M = fsts M' ∧ B0 ≤ wr.heap.size) (fun kv _ => ln - (intOf kv).toNat)
  case atStart => exact ⟨0, 0, 0, 0, 0, 0, none, none, [], [], p, by omega, rfl, HB0.out, H57.out.1, H57.out.2, TbJ.nil _ _, TbJ.nil _ _, rfl, HSz0.out⟩
  case round =>
   clear HB0 H57 HK HSz0
   obtain ⟨i, nw, nx, n, c, c', a1, a2, M, M', q, hi, rfl, hB, h5, h7, hJ, hJ', hM, hsz⟩ := hrel
   have HB := qh hB
   have H57 := qh (And.intro h5 h7)
   have HJ := qh (And.intro hJ hJ')
   have HM := qh hM
   have HSz := qh hsz
   clear hB h5 h7 hJ hJ' hM hsz
   by_cases hlt : i < ln
   ·obtain ⟨d, off, pa, pn, pc, P, rfl, hcell, hPl⟩ := plsl_at HP.out hlt
    replace hcell := keep1 HB.out hcell
    have HPw := qh (hPl.below HB.out)
    have HLt := qh hlt
    have HCl := qh hcell
    have hk0 : (0 : Int) ≤ (i : Int) := by omega
    have hk1 : (i : Int) < (ln : Int) := by omega
    have hkw : IntKind.i64.wrap ((i : Int) + 1) = ((i + 1 : Nat) : Int) := by have := HN.out; rw [IntWalk.i64_in _ (by omega)]; omega
    have xl := World.block_lt_of_cell? _ _ hcell
    clear hlt hPl
    by_cases h6 : 6 < pn
    ·have h6i : (6 : Int) < (pn : Int) := by omega
     go_wp2_with fail
     refine (awake_call _).mono ?_; rintro e w9 ⟨rfl, hb⟩
     have HBf := qh (HB.out.trans (hb.mono HB.out.size))
     clear hb
     go_wp2_with fail
     go_ret
     exact ⟨rfl, HBf.out⟩
    have h6i : ¬ (6 : Int) < (pn : Int) := by omega
    have H9 := qh (show pn ≤ 9 from by omega)
    obtain ⟨⟨q', nw', nx', LT⟩, hR⟩ : ∃ R, cyR q nw nx (fsts M) P = R := ⟨_, rfl⟩
    obtain ⟨E, hE⟩ : ∃ E, cyE q nw nx (fsts M) P = E := ⟨_, rfl⟩
    obtain ⟨m', hm'⟩ : ∃ k, (cyW q nw nx (fsts M) P).length = k := ⟨_, rfl⟩
    obtain ⟨n', hn'⟩ : ∃ k, LT.length = k := ⟨_, rfl⟩
    have hlen : n' ≤ 1000 := by
     have := cyR_len q nw nx (fsts M) P
     rw [hR] at this
     simp only [] at this
     omega
    have HC := qh (show ∀ W : World, Below wr.heap.size wr W → Calls Try.prog 9 #[.agg #[.int .i64 q.gate, .int .i64 q.need, .int .i64 q.most, .int .i64 q.pull, .int .i64 nw, .int .i64 nx, .slice a1 n c], .slice pa pn pc] W (CyJ q' nw' nx' LT n' m' E W) from fun W hB => by
     have h := pCycle_call q nw nx a1 n c pa pn pc M P W (HJ.out.1.I.T.below hB) (fun k hk => (HJ.out.1.I.B k hk).below hB) (HPw.out.below hB)
     rw [hR, hE] at h
     exact h.mono fun e w' hp => hp.J rfl hn' hm' hlen)
    have HC2 := qh (show ∀ W : World, Below wr.heap.size wr W → Calls Try.prog 15 #[.agg #[.int .i64 q.gate, .int .i64 q.need, .int .i64 q.most, .int .i64 q.pull, .int .i64 nw, .int .i64 nx, .slice a2 n c'], .slice pa pn pc] W (CyJ q' nw' nx' LT n' m' E W) from fun W hB => by
     have h := rCycle_call q nw nx a2 n c' pa pn pc M' P W (HJ.out.2.I.T.below hB) (fun k hk => (HJ.out.2.I.B k hk).below hB) (HPw.out.below hB) H9.out
     rw [← HM.out, hR, hE] at h
     exact h.mono fun e w' hp => hp.J rfl hn' hm' hlen)
    clear hR hE hm' hn' hlen h6
    go_upto_region 12 with fail
    refine rr12 b5 d off i ln lc pn pc n' m' pa q' nw' nx' E LT wr _ ⟨H57.out.1, hcell⟩ HLt.out HC.out (by intro _ _ d _ _ h; cases d <;> exact h) ?_
    intro u53 u54 u55 u56 u57 u58 u59 u60 u61 u62 b9 a3 ea1 c3 ec1 M3 w1 hR
    obtain ⟨hb1, h9, hl9, hJ3, hM3⟩ := hR
    try dsimp only
    have H9b := qh (And.intro h9 hl9)
    have HJ3 := qh (And.intro hJ3 hM3)
    have HB1 := qh hb1
    clear hb1 h9 hl9 hJ3 hM3 hcell xl HC
    go_upto_region 13 with fail
    refine rr13 b7 d off i ln lc pn pc n' m' pa q' nw' nx' E LT w1 _ ⟨keepO HB1.out H57.out.2, keep1 HB1.out HCl.out⟩ HLt.out (fun W hB => HC2.out W (HB1.out.trans (hB.mono HB1.out.size))) (by intro _ _ d _ _ h; cases d <;> exact h) ?_
    intro u63 u64 u65 u66 u67 u68 u69 u70 u71 u72 b12 a4 ea2 c4 ec2 M4 w2 hR
    obtain ⟨hb2, h12, hl12, hJ4, hM4⟩ := hR
    try dsimp only
    have H12 := qh (And.intro h12 hl12)
    have H9b2 := qh (keepO hb2 H9b.out.1)
    have HJ4 := qh (And.intro hJ4 hM4)
    have HJ3b := qh (HJ3.out.1.below hb2)
    have HB2 := qh (HB1.out.trans (hb2.mono HB1.out.size))
    clear hb2 h12 hl12 hJ4 hM4 HC2
    have hEE : (E != E) = false := by simp
    have hmm : ((m' : Int) != (m' : Int)) = false := by simp
    have hs := same_call q' nw' nx' a3 a4 n' c3 c4 M3 M4 w2 HJ3b.out.I HJ4.out.1.I (HJ3.out.2.trans HJ4.out.2.symm)
    unfold tbV at hs
    obtain ⟨s0, s1, s2, s3, s4, s5, s6⟩ := seven_new H9b2.out
    have sl := lt_of_block H9b2.out
    obtain ⟨r0, r1, r2, r3, r4, r5, r6⟩ := seven_new H12.out.1
    have rl := lt_of_block H12.out.1
    go_wp2_with fail
    refine hs.mono ?_; rintro e w3 ⟨rfl, hb⟩
    have HB3 := qh (HB2.out.trans (hb.mono HB2.out.size))
    have HJ5 := qh (And.intro ((HJ3b.out.below hb).base (Nat.le_trans HSz.out (Nat.le_refl _))) ((HJ4.out.1.below hb).base (Nat.le_trans HSz.out HB1.out.size)))
    have H912 := qh (And.intro (keepO hb H9b2.out) (keepO hb H12.out.1))
    clear hb hs s0 s1 s2 s3 s4 s5 s6 sl r0 r1 r2 r3 r4 r5 r6 rl H9b2 HJ3b
    by_cases hE0 : E = 0
    ·have hz : (E == 0) = true := beq_iff_eq.2 hE0
     clear hE0
     go_upto_region 17 with fail
     refine rr17 b5 b7 b9 b12 B0 n' c3 c4 a3 a4 q' nw' nx' M3 M4 _ _ w w3 _ (keepO HB3.out H57.out.1) (keepO HB3.out H57.out.2) H912.out.1 H912.out.2 rfl rfl HL.out.1 HL.out.2.1 HL.out.2.2.1 HL.out.2.2.2.1 (HB.out.trans (HB3.out.mono HB.out.size)) HL.out.2.2.2.2 (by have := HL.out.1; have := HSz.out; have := H9b.out.2; omega) (by have := HL.out.1; have := HSz.out; have := H12.out.2; have := HB1.out.size; omega) HJ5.out.1 HJ5.out.2 (by intro _ _ d _ _ h; cases d <;> exact h) ?_
     intro u91 u92 w4 hR
     obtain ⟨hb4, h5, h7, hj, hj'⟩ := hR
     try dsimp only
     have HFin := qh (And.intro hb4 (And.intro h5 (And.intro h7 (And.intro hj hj'))))
     clear hb4 h5 h7 hj hj'
     go_wp2_with fail
     refine ⟨⟨i + 1, nw', nx', n', c3, c4, a3, a4, M3, M4, q', HLt.out, by go_num, HFin.out.1, HFin.out.2.1, HFin.out.2.2.1, HFin.out.2.2.2.1, HFin.out.2.2.2.2, HJ3.out.2.trans HJ4.out.2.symm, by have := lt_of_block HFin.out.2.2.1; have := HB7.out; omega⟩, by simp [intOf]; have := HLt.out; omega⟩
    have hz : (E == 0) = false := beq_eq_false_iff_ne.2 hE0
    clear hE0
    go_wp2_with fail
    refine ⟨⟨i + 1, nw, nx, n, c, c', a1, a2, M, M', q, HLt.out, by go_num, HB.out.trans (HB3.out.mono HB.out.size), keepO HB3.out H57.out.1, keepO HB3.out H57.out.2, HJ.out.1.below HB3.out, HJ.out.2.below HB3.out, HM.out, Nat.le_trans HSz.out HB3.out.size⟩, by simp [intOf]; have := HLt.out; omega⟩
   obtain rfl : ln = i := by omega
   go_wp2_with fail
   refine (awake_call _).mono ?_; rintro e w9 ⟨rfl, hb⟩
   have HBf := qh (HB.out.trans (hb.mono HB.out.size))
   clear hb
   go_wp2_with fail
   go_ret
   exact ⟨rfl, HBf.out⟩
 have HNew := qh (show ∀ W : World, Calls Try.prog 13 #[.agg #[.int .i64 p.gate, .int .i64 p.need, .int .i64 p.most, .int .i64 p.pull]] W (fun e w' => e = .returned (.tuple #[.agg #[.int .i64 0, .int .i64 0, .int .i64 0, .int .i64 0, .int .i64 0, .int .i64 0, .slice none 0 0], .int .i64 1]) ∧ Below W.heap.size W w') from fun W => by
  have h := pNewT_call p W
  rw [nwP_bad hE, hE] at h
  exact h)
 have HWr := qh (show ∀ W : World, Calls Try.prog 14 #[.agg #[.int .i64 p.gate, .int .i64 p.need, .int .i64 p.most, .int .i64 p.pull]] W (NPost 1 W) from fun W => by
  have h := rWrong_call p W
  rw [hE] at h
  exact h)
 clear hE
 have K := qh ((Kp.nil w).alloc #[.int .i64 p.gate, .int .i64 p.need, .int .i64 p.most, .int .i64 p.pull] 23)
 unfold parV
 go_enter Try.func4, Try.ntmps4
 go_wp2_with fail
 refine (HNew.out _).mono ?_; rintro e w1 ⟨rfl, hb⟩
 have HS0 := qh (show w.heap.size ≤ w1.heap.size from Nat.le_trans K.out.B.size hb.size)
 replace K := qh ((K.out.below hb).alloc #[.int .i64 0, .int .i64 0, .int .i64 0, .int .i64 0, .int .i64 0, .int .i64 0, .slice none 0 0] 26)
 clear hb HNew
 go_upto_region 2 with fail
 obtain ⟨b2, hb2⟩ : ∃ b, b = w.heap.size := ⟨_, rfl⟩
 obtain ⟨b5, hb5⟩ : ∃ b, b = w1.heap.size := ⟨_, rfl⟩
 have HK := qh (show Below w.heap.size w (w1.alloc (.cells #[.int .i64 0, .int .i64 0, .int .i64 0, .int .i64 0, .int .i64 0, .int .i64 0, .slice none 0 0] 26)) ∧ (w1.alloc (.cells #[.int .i64 0, .int .i64 0, .int .i64 0, .int .i64 0, .int .i64 0, .int .i64 0, .slice none 0 0] 26)).heap[b2]? = some (.cells #[.int .i64 p.gate, .int .i64 p.need, .int .i64 p.most, .int .i64 p.pull] 23 (0, 0)) ∧ (w1.alloc (.cells #[.int .i64 0, .int .i64 0, .int .i64 0, .int .i64 0, .int .i64 0, .int .i64 0, .slice none 0 0] 26)).heap[b5]? = some (.cells #[.int .i64 0, .int .i64 0, .int .i64 0, .int .i64 0, .int .i64 0, .int .i64 0, .slice none 0 0] 26 (0, 0)) ∧ w.heap.size ≤ b5 from ⟨K.out.B, by rw [hb2]; exact K.out.H _ (List.mem_cons_of_mem _ List.mem_cons_self), by rw [hb5]; exact K.out.H _ List.mem_cons_self, by rw [hb5]; exact HS0.out⟩)
 rw [← hb5, ← hb2]
 clear hb2 hb5 K
 generalize w1.alloc (.cells #[.int .i64 0, .int .i64 0, .int .i64 0, .int .i64 0, .int .i64 0, .int .i64 0, .slice none 0 0] 26) = w2 at *
 obtain ⟨p0, p1, p2, p3⟩ := four_z HK.out.2.1
 have pl := lt_of_block HK.out.2.1
 go_wp2_with fail
 refine (HWr.out _).mono ?_; rintro e w3 ⟨rfl, hb⟩
 replace HK := qh (And.intro (HK.out.1.trans (hb.mono HK.out.1.size)) (And.intro (keepO hb HK.out.2.1) (And.intro (keepO hb HK.out.2.2.1) HK.out.2.2.2)))
 clear hb p0 p1 p2 p3 pl HWr
 obtain ⟨t0, t1, t2, t3, t4, t5, t6⟩ := seven_new HK.out.2.2.1
 have tl := lt_of_block HK.out.2.2.1
 go_wp2_with fail
 refine (awake_call _).mono ?_; rintro e w9 ⟨rfl, hb⟩
 have HBf := qh (HK.out.1.trans (hb.mono HK.out.1.size))
 clear hb
 go_wp2_with fail
 go_ret
 exact ⟨rfl, HBf.out⟩
end Go.Proofs.Ytikjjpjekchcjaa
end
section
namespace Go.Proofs.Ytikjjpjekchcjaa
open Go.ChangeShapes Go.WideShapes Go.ChangeAt Go.RowKit
open Go.ChangeMaps (open_string shut_string)
theorem ownKnobNone : ownKnob Try.prog.godebug = none := by kernel_rfl
theorem laidOutAll : laidOutB Try.prog = true := by kernel_rfl
theorem trackRuns_lifted (os : Os) (started : os.Started) (H : Type) (enc : TypeId × Value → H) :
    ReturnsInHanded {} Try.checked os 4 .any (Rows.trackRunsSpec.pre6 enc Try.prog Try.f4 Rows.trackRunsRow.domain false) (Rows.trackRunsSpec.post enc Try.prog Try.f4 false true false false) := by
 refine returnsInHanded_of_change (C := Try.checked) ownKnobNone started (by kernel_rfl) Try.func4
  (ChangeSpec.witness6 (enc := enc) (C := Try.checked) false ⟨#[], #[.agg #[.int .i64 0, .int .i64 0, .int .i64 0, .int .i64 0], .slice none 0 0], []⟩ 8 (by kernel_rfl) (by kernel_rfl) (by kernel_rfl) (by kernel_rfl)) ?_
 intro W base args ds gs before hval0 hW _ hsz0
 have hval : ∀ (j : Nat) t v, Try.f4.params[j]? = some t → args[j]? = some v → Value.okWide Try.prog W .any base t v := hval0
 have hW' := hW
 obtain ⟨p, q, hA0, hV, rfl, hfz, _⟩ := hW
 have hA : DataW.TrodAll enc Try.prog W 0 (fun _ => true) true Try.f4.params.toList args.toList ds p := hA0
 rw [Try.params4] at hA hval
 obtain ⟨v0, vs0, d0, ds0, p0, q0, hargs, rfl, rfl, h0, r0⟩ := trodAll_cons hA
 obtain ⟨v1, vs1, d1, ds1, p1, q1, rfl, rfl, rfl, h1, r1⟩ := trodAll_cons r0
 obtain ⟨rfl, rfl, rfl⟩ := trodAll_nil r1
 obtain rfl : args = #[v0, v1] := by cases args; simp_all
 have hV' : gs = [] := by
  cases gs with
  | nil => rfl
  | cons g gs => exact hV.elim
 subst hV'
 obtain ⟨q0, rfl⟩ := open_params Try.underlying23 (by kernel_rfl) (by kernel_rfl) Try.underlying3 Try.underlying3 Try.underlying3 Try.underlying3 (hval 0 23 v0 rfl rfl) h0
 obtain ⟨a1, n1, c1, l1, rfl, hi1⟩ := open_plsl Try.underlying49 (by kernel_rfl) Try.underlying27 (by kernel_rfl) Try.underlying40 rfl rfl rfl rfl rfl rfl Try.underlying3 (by kernel_rfl) (hval 1 49 v1 rfl rfl) h1
 clear hA0 hval0
 refine Calls.mono (Runs_call q0 a1 n1 c1 l1 W hi1) fun e W' ⟨he, hg⟩ => ?_
 subst he
 exact ⟨_, rfl, Go.MyRow.law_post laidOutAll (by kernel_rfl) (by kernel_rfl) Try.underlying4 rfl rfl rfl rfl hW' hg⟩
theorem trackRuns_holds : Rows.TrackRunsSaid :=
 OpenClaim.holds_of_wide 4 Try.f4 rfl rfl rfl rfl rfl rfl rfl ⟨rfl, rfl, rfl, rfl, rfl⟩ rfl rfl rfl rfl rfl (by kernel_rfl) Try.func4 (by kernel_rfl)
  (of_decide_eq_true (by kernel_rfl)) (by unfold Func.isWrapper; first | (rw [if_pos (by decide +kernel)]; kernel_rfl) | (rw [if_neg (by decide +kernel)]; exact ⟨rfl, rfl⟩))
  (fun os started H enc _ => trackRuns_lifted os started H enc)
end Go.Proofs.Ytikjjpjekchcjaa
end
