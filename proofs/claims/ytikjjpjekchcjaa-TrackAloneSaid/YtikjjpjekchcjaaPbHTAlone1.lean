/-
  TrkHo, TrkAl
-/
import Derived.Test.YtikjjpjekchcjaaPb17
import Derived.Test.YtikjjpjekchcjaaPb16
import Derived.Test.YtikjjpjekchcjaaPb33
import Derived.Test.YtikjjpjekchcjaaPb36
section
namespace Go.Proofs.Ytikjjpjekchcjaa
open Go.RowKit TrkMath MyHeap MyOwn
set_option maxRecDepth 100000 in
set_option maxHeartbeats 8000000 in
theorem holds_call (p : Par) (now next : Int) (a : Option Addr) (c : Nat) (M : List TB) (t : Tk) (z v : Int) (w : World) (hT : TbI w a 1 M) (hM : fsts M = [t]) (hid : t.id = 0) (hch : AltMath.chB t.lo t.hi = 0) (hin : AltMath.inB t.lo t.hi z v) :
    Calls Try.prog 20 #[tbV p now next (.slice a 1 c), .agg #[.int .i64 z, .int .i64 v]] w (BoolB true w) := by
 obtain ⟨b, off, rfl, hq⟩ := trs_at hT.T (k := 0) (by decide)
 have hg : (gt M 0).1 = t := by
  have h := fsts_get M 0
  rw [hM] at h
  exact h.symm
 have HBd := Lib.hid (hT.B 0 (by decide))
 obtain ⟨⟨t', s⟩, hqe⟩ : ∃ q, gt M 0 = q := ⟨_, rfl⟩
 rw [hqe] at hq hg HBd
 simp only [] at hg
 subst hg
 obtain ⟨x0, x1, x2, x3, x4, x5, x6, x7, x8, x9⟩ := hq
 obtain ⟨tid, addr, rg, lo, hi, hits, misses, firm⟩ := t'
 obtain ⟨aL, nL, cL, aH, nH, cH⟩ := s
 simp only [Nat.zero_mul, Nat.add_zero] at x0 x1 x2 x3 x4 x5 x6 x7 x8 x9
 simp only [] at hid hch hin HBd
 subst hid
 have HC := Lib.hid (AltMath.in_con hch hin)
 have HCh := Lib.hid hch
 have xl := World.block_lt_of_cell? _ _ x0
 have K := Lib.hid (show Below w.heap.size w ((w.alloc (.cells #[.int .i64 p.gate, .int .i64 p.need, .int .i64 p.most, .int .i64 p.pull, .int .i64 now, .int .i64 next, .slice (some ⟨b, off, none⟩) 1 c] 26)).alloc (.cells #[.int .i64 z, .int .i64 v] 66)) ∧ ((w.alloc (.cells #[.int .i64 p.gate, .int .i64 p.need, .int .i64 p.most, .int .i64 p.pull, .int .i64 now, .int .i64 next, .slice (some ⟨b, off, none⟩) 1 c] 26)).alloc (.cells #[.int .i64 z, .int .i64 v] 66)).heap[w.heap.size]? = some (.cells #[.int .i64 p.gate, .int .i64 p.need, .int .i64 p.most, .int .i64 p.pull, .int .i64 now, .int .i64 next, .slice (some ⟨b, off, none⟩) 1 c] 26 (0, 0)) ∧ ((w.alloc (.cells #[.int .i64 p.gate, .int .i64 p.need, .int .i64 p.most, .int .i64 p.pull, .int .i64 now, .int .i64 next, .slice (some ⟨b, off, none⟩) 1 c] 26)).alloc (.cells #[.int .i64 z, .int .i64 v] 66)).heap[w.heap.size + 1]? = some (.cells #[.int .i64 z, .int .i64 v] 66 (0, 0)) from ⟨(below_alloc w _).alloc (by simp) _, block_alloc (block_new w _ rfl), block_new _ _ (by simp)⟩)
 have HX := Lib.hid (show ((w.alloc (.cells #[.int .i64 p.gate, .int .i64 p.need, .int .i64 p.most, .int .i64 p.pull, .int .i64 now, .int .i64 next, .slice (some ⟨b, off, none⟩) 1 c] 26)).alloc (.cells #[.int .i64 z, .int .i64 v] 66)).cell? ⟨b, off + 5, none⟩ = some (.slice aL nL cL) ∧ ((w.alloc (.cells #[.int .i64 p.gate, .int .i64 p.need, .int .i64 p.most, .int .i64 p.pull, .int .i64 now, .int .i64 next, .slice (some ⟨b, off, none⟩) 1 c] 26)).alloc (.cells #[.int .i64 z, .int .i64 v] 66)).cell? ⟨b, off + 6, none⟩ = some (.slice aH nH cH) from ⟨keep1 K.out.1 x5, keep1 K.out.1 x6⟩)
 have HB2 := Lib.hid (HBd.out.below K.out.1)
 clear hT hM hqe hch hin
 unfold tbV
 go_enter Try.func20, Try.ntmps20
 go_wp2_with fail
 clear x0 x1 x2 x3 x4 x5 x6 x7 x8 x9 xl
 generalize (w.alloc (.cells #[.int .i64 p.gate, .int .i64 p.need, .int .i64 p.most, .int .i64 p.pull, .int .i64 now, .int .i64 next, .slice (some ⟨b, off, none⟩) 1 c] 26)).alloc (.cells #[.int .i64 z, .int .i64 v] 66) = wa at *
 have KD := Lib.hid (show Below wa.heap.size wa wa.drew from below_drewN (Below.refl _ _) 1)
 have HS := Lib.hid (show wa.drew.heap[w.heap.size]? = some (.cells #[.int .i64 p.gate, .int .i64 p.need, .int .i64 p.most, .int .i64 p.pull, .int .i64 now, .int .i64 next, .slice (some ⟨b, off, none⟩) 1 c] 26 (0, 0)) ∧ wa.drew.heap[w.heap.size + 1]? = some (.cells #[.int .i64 z, .int .i64 v] 66 (0, 0)) ∧ wa.drew.cell? ⟨b, off + 5, none⟩ = some (.slice aL nL cL) ∧ wa.drew.cell? ⟨b, off + 6, none⟩ = some (.slice aH nH cH) from ⟨keepO KD.out K.out.2.1, keepO KD.out K.out.2.2, keep1 KD.out HX.out.1, keep1 KD.out HX.out.2⟩)
 replace HB2 := Lib.hid (HB2.out.below KD.out)
 have KB := Lib.hid (K.out.1.trans (KD.out.mono K.out.1.size))
 refine MyHeldE.start (fun W => W.heap[w.heap.size]? = some (.cells #[.int .i64 p.gate, .int .i64 p.need, .int .i64 p.most, .int .i64 p.pull, .int .i64 now, .int .i64 next, .slice (some ⟨b, off, none⟩) 1 c] 26 (0, 0)) ∧ W.heap[w.heap.size + 1]? = some (.cells #[.int .i64 z, .int .i64 v] 66 (0, 0)) ∧ W.cell? ⟨b, off + 5, none⟩ = some (.slice aL nL cL) ∧ W.cell? ⟨b, off + 6, none⟩ = some (.slice aH nH cH)) [] (by kernel_rfl) ?_
 have hHeld := HS.out
 generalize wa.drew = wd at *
 refine MyHeldE.take 0 (v := ?_) .z (by kernel_rfl) (by kernel_rfl) (by kernel_rfl) (by kernel_rfl) (by kernel_rfl) (fun _ _ _ h => h) (by rfl) (by assumption) ?_ ?_
 rotate_left
 ·intro w hSw; go_simp; (try with_reducible rfl)
 try simp only [Act.put, List.setIfInBounds_toArray, List.set_cons_zero, List.set_cons_succ]
 refine MyHeldE.take 1 (v := ?_) (.s .z) (by kernel_rfl) (by kernel_rfl) (by kernel_rfl) (by kernel_rfl) (by kernel_rfl) (fun _ _ _ h => h) (by rfl) (by assumption) ?_ ?_
 rotate_left
 ·intro w hSw; obtain ⟨q0, q1, q2, q3, q4, q5, q6⟩ := seven_new hSw.1; have s3 := hSw.2.2.1; have s4 := hSw.2.2.2; have e0 := cell_of_block (i := 0) hSw.2.1 rfl; have e1 := cell_of_block (i := 1) hSw.2.1 rfl; go_simp; (try with_reducible rfl)
 try simp only [Act.put, List.setIfInBounds_toArray, List.set_cons_zero, List.set_cons_succ]
 refine MyHeldE.take 2 (v := ?_) (.s (.s .z)) (by kernel_rfl) (by kernel_rfl) (by kernel_rfl) (by kernel_rfl) (by kernel_rfl) (fun _ _ _ h => h) (by rfl) (by assumption) ?_ ?_
 rotate_left
 ·intro w hSw; go_simp; (try with_reducible rfl)
 try simp only [Act.put, List.setIfInBounds_toArray, List.set_cons_zero, List.set_cons_succ]
 refine MyHeldE.take 3 (v := ?_) (.s (.s (.s .z))) (by kernel_rfl) (by kernel_rfl) (by kernel_rfl) (by kernel_rfl) (by kernel_rfl) (fun _ _ _ h => h) (by rfl) (by assumption) ?_ ?_
 rotate_left
 ·intro w hSw; go_simp; (try with_reducible rfl)
 try simp only [Act.put, List.setIfInBounds_toArray, List.set_cons_zero, List.set_cons_succ]
 refine MyHeldE.take 4 (v := ?_) (.s (.s (.s (.s .z)))) (by kernel_rfl) (by kernel_rfl) (by kernel_rfl) (by kernel_rfl) (by kernel_rfl) (fun _ _ _ h => h) (by rfl) (by assumption) ?_ ?_
 rotate_left
 ·intro w hSw; obtain ⟨q0, q1, q2, q3, q4, q5, q6⟩ := seven_new hSw.1; have s3 := hSw.2.2.1; have s4 := hSw.2.2.2; have e0 := cell_of_block (i := 0) hSw.2.1 rfl; have e1 := cell_of_block (i := 1) hSw.2.1 rfl; go_simp; (try with_reducible rfl)
 try simp only [Act.put, List.setIfInBounds_toArray, List.set_cons_zero, List.set_cons_succ]
 refine MyHeldE.take 5 (v := ?_) (.s (.s (.s (.s (.s .z))))) (by kernel_rfl) (by kernel_rfl) (by kernel_rfl) (by kernel_rfl) (by kernel_rfl) (fun _ _ _ h => h) (by rfl) (by assumption) ?_ ?_
 rotate_left
 ·intro w hSw; obtain ⟨q0, q1, q2, q3, q4, q5, q6⟩ := seven_new hSw.1; have s3 := hSw.2.2.1; have s4 := hSw.2.2.2; have e0 := cell_of_block (i := 0) hSw.2.1 rfl; have e1 := cell_of_block (i := 1) hSw.2.1 rfl; go_simp; (try with_reducible rfl)
 try simp only [Act.put, List.setIfInBounds_toArray, List.set_cons_zero, List.set_cons_succ]
 refine MyHeldE.ready (rs := [6]) (by kernel_rfl) (by simp) ?_
 refine (MyHeldE.next 6 (.s (.s (.s (.s (.s (.s .z)))))) (fun Kq hKq => ?_) MyHeldE.All.nil)
 go_simp
 go_at_call 50
 refine (Alt.pCon_call aL aH nL nH cL cH lo hi z v _ HB2.out.L HB2.out.H).mono ?_; rintro e w2 ⟨rfl, hb⟩
 rw [HC.out, HCh.out]
 replace KB := Lib.hid (KB.out.trans (hb.mono KB.out.size))
 replace HS := Lib.hid (And.intro (keepO hb HS.out.1) (And.intro (keepO hb HS.out.2.1) (And.intro (keep1 hb HS.out.2.2.1) (keep1 hb HS.out.2.2.2))))
 clear hb
 have hHeld2 := (HS.out)
 refine hKq.out _ _ (fun _ => hHeld2) ?_
 clear hKq Kq hHeld
 have hHeld := hHeld2
 clear hHeld2
 try simp only [Act.put, List.setIfInBounds_toArray, List.set_cons_zero, List.set_cons_succ]
 refine MyHeldE.take 7 (v := ?_) (.s (.s (.s (.s (.s (.s (.s .z))))))) (by kernel_rfl) (by kernel_rfl) (by kernel_rfl) (by kernel_rfl) (by kernel_rfl) (fun _ _ _ h => h) (by rfl) (by assumption) ?_ ?_
 rotate_left
 ·intro w hSw; go_simp; (try with_reducible rfl)
 try simp only [Act.put, List.setIfInBounds_toArray, List.set_cons_zero, List.set_cons_succ]
 refine MyHeldE.take 8 (v := ?_) (.s (.s (.s (.s (.s (.s (.s (.s .z)))))))) (by kernel_rfl) (by kernel_rfl) (by kernel_rfl) (by kernel_rfl) (by kernel_rfl) (fun _ _ _ h => h) (by rfl) (by assumption) ?_ ?_
 rotate_left
 ·intro w hSw; go_simp; (try with_reducible rfl)
 try simp only [Act.put, List.setIfInBounds_toArray, List.set_cons_zero, List.set_cons_succ]
 refine MyHeldE.take 9 (v := ?_) (.s (.s (.s (.s (.s (.s (.s (.s (.s .z))))))))) (by kernel_rfl) (by kernel_rfl) (by kernel_rfl) (by kernel_rfl) (by kernel_rfl) (fun _ _ _ h => h) (by rfl) (by assumption) ?_ ?_
 rotate_left
 ·intro w hSw; go_simp; (try with_reducible rfl)
 try simp only [Act.put, List.setIfInBounds_toArray, List.set_cons_zero, List.set_cons_succ]
 refine MyHeldE.take 10 (v := ?_) (.s (.s (.s (.s (.s (.s (.s (.s (.s (.s .z)))))))))) (by kernel_rfl) (by kernel_rfl) (by kernel_rfl) (by kernel_rfl) (by kernel_rfl) (fun _ _ _ h => h) (by rfl) (by assumption) ?_ ?_
 rotate_left
 ·intro w hSw; go_simp; (try with_reducible rfl)
 try simp only [Act.put, List.setIfInBounds_toArray, List.set_cons_zero, List.set_cons_succ]
 refine MyHeldE.take 11 (v := ?_) (.s (.s (.s (.s (.s (.s (.s (.s (.s (.s (.s .z))))))))))) (by kernel_rfl) (by kernel_rfl) (by kernel_rfl) (by kernel_rfl) (by kernel_rfl) (fun _ _ _ h => h) (by rfl) (by assumption) ?_ ?_
 rotate_left
 ·intro w hSw; go_simp; (try with_reducible rfl)
 try simp only [Act.put, List.setIfInBounds_toArray, List.set_cons_zero, List.set_cons_succ]
 refine MyHeldE.done (by kernel_rfl) ?_ _
 go_wp2_with fail
 go_ret
 exact ⟨rfl, KB.out⟩
end Go.Proofs.Ytikjjpjekchcjaa
end
section
namespace TrkMath
open AltMath GrayMath AsgMath
theorem fine_lv {z : Int} (h0 : 0 ≤ z) (h1 : z ≤ 50000) : (4096 ≤ fineC z ∧ fineC z ≤ 8191) ∧ altE (fineC z) = 0 ∧ altS (fineC z) = 25 ∧ altA (fineC z) ≤ z ∧ z ≤ altA (fineC z) + 25 - 1 ∧ errA z = 0 := by
 have hr : inR z = true := by unfold inR; simp; omega
 obtain ⟨k, hk⟩ := Int.eq_ofNat_of_zero_le (show 0 ≤ (z + 1000) / 25 by omega)
 have hkb : k ≤ 2040 := by omega
 have hl := gr_lt k 12 (by omega)
 have hc : fineC z = ((4096 + gr k : Nat) : Int) := by
  unfold fineC
  rw [if_pos hr, hk, Int.toNat_natCast]
 have ht : altT (fineC z) = (25 * (k : Int) - 1000, 25, 0) := by
  rw [hc]
  unfold altT
  rw [if_neg (by omega), if_pos (by omega)]
  have e : (((4096 + gr k : Nat) : Int) - 4096).toNat = gr k := by omega
  rw [e, un_gr k (by omega), if_pos (by unfold inR; simp; omega)]
 refine ⟨by rw [hc]; omega, ?_, ?_, ?_, ?_, if_pos hr⟩
 ·unfold altE; rw [ht]
 ·unfold altS; rw [ht]
 ·unfold altA; rw [ht]; dsimp only; omega
 ·unfold altA; rw [ht]; dsimp only; omega
def yA (r z : Int) : Pl := ⟨r, fineC z, -1⟩
theorem yA_ok {r z : Int} (hr : 0 ≤ r ∧ r ≤ 8192) (h0 : 0 ≤ z) (h1 : z ≤ 50000) : plE (yA r z) = 0 ∧ lvOf (yA r z) = (altA (fineC z), 25) := by
 have hf := fine_lv h0 h1
 have hb : ¬ plBad (yA r z) := by
  unfold plBad yA
  dsimp only
  omega
 refine ⟨?_, ?_⟩
 ·rw [plE_code hb (show 0 ≤ fineC z by omega)]
  exact hf.2.1
 ·rw [lvOf_yes (show 0 ≤ fineC z by omega)]
  show (altA (fineC z), altS (fineC z)) = _
  rw [hf.2.2.1]
structure AlS (p : Par) (s gone z v r : Int) (t : Tk) : Prop where
 id : t.id = 0
 addr : t.addr = -1
 ok : TkOk p t
 mis : t.misses = gone
 it : inB t.lo t.hi z v
 hits : t.hits ≤ 1000
 rg : ∃ rl, (0 ≤ rl ∧ rl ≤ 8192) ∧ r = rl + gone * s ∧ (t.rg = ⟨256 * rl, 0, 1⟩ ∨ ∃ n, 2 ≤ n ∧ n ≤ 1000 ∧ t.rg = ⟨256 * rl, 256 * s, n⟩)
structure SpOk (p : Par) (s : Int) : Prop where
 par : ParOk p
 b : -64 ≤ s ∧ s ≤ 64
 g : p.most * s ≤ p.gate ∧ -p.gate ≤ p.most * s
theorem mul_le_of {a b s : Int} (h0 : 0 ≤ a) (h1 : a ≤ b) {g : Int} (h2 : b * s ≤ g) (h3 : -g ≤ b * s) (_hg : 0 ≤ g) : a * s ≤ g ∧ -g ≤ a * s := by
 rcases Int.lt_or_le s 0 with h | h
 ·have e1 : a * -s ≤ b * -s := Int.mul_le_mul_of_nonneg_right h1 (by omega)
  have e2 : 0 ≤ a * -s := Int.mul_nonneg h0 (by omega)
  rw [Int.mul_neg] at e1 e2
  rw [Int.mul_neg] at e1
  omega
 ·have e1 : a * s ≤ b * s := Int.mul_le_mul_of_nonneg_right h1 h
  have e2 : 0 ≤ a * s := Int.mul_nonneg h0 h
  omega
theorem rgE_pair {x : Rg} (h1 : 0 ≤ x.r ∧ x.r ≤ 2097152) (h2 : -16384 ≤ x.v ∧ x.v ≤ 16384) (h3 : 1 ≤ x.n ∧ x.n ≤ 1000) : rgE x = 0 := rgE_ok (by unfold rgBad; omega)
theorem rnd_zero {q : Int} (hq : 1 ≤ q) : rnd 0 q = 0 := by
 unfold rnd
 rw [if_neg (by decide)]
 have : (2 * 0 + q).tdiv (2 * q) = 0 := by
  rw [Int.tdiv_eq_ediv_of_nonneg (by omega)]
  exact Int.ediv_eq_zero_of_lt (by omega) (by omega)
 exact this
theorem rnd_mul {a q : Int} (hq : 1 ≤ q) : rnd (a * q) q = a := by
 unfold rnd
 split
 ·rename_i h
  have ha : 0 ≤ -(a * q) := by omega
  have e : 2 * -(a * q) + q = (2 * q) * (-a) + q := by
   have : a * q = q * a := Int.mul_comm _ _
   simp only [Int.mul_neg, Int.mul_assoc, this]
  rw [Int.tdiv_eq_ediv_of_nonneg (by omega), e, Int.mul_add_ediv_left _ _ (by omega), Int.ediv_eq_zero_of_lt (by omega) (by omega)]
  omega
 ·rename_i h
  have e : 2 * (a * q) + q = (2 * q) * a + q := by
   have : a * q = q * a := Int.mul_comm _ _
   rw [this, Int.mul_assoc]
  rw [Int.tdiv_eq_ediv_of_nonneg (by omega), e, Int.mul_add_ediv_left _ _ (by omega), Int.ediv_eq_zero_of_lt (by omega) (by omega)]
  omega
theorem lim_in {n lo hi : Int} (h1 : lo ≤ n) (h2 : n ≤ hi) : lim n lo hi = n := by unfold lim; omega
theorem al_off {p : Par} {s gone z v r : Int} {t : Tk} (h : AlS p s gone z v r t) (hs : SpOk p s) {r' z' : Int} (hr' : r' = r + s) (hb : 0 ≤ r' ∧ r' ≤ 8192) : offV (stpT p t) (yA r' z') ≤ 256 * p.gate := by
 obtain ⟨rl, hrl, hr, hx⟩ := h.rg
 have hm := h.ok.mis
 have hmost := hs.par.2.2.1
 have hg := hs.par.1
 have hmis : (stpT p t).misses + 1 = gone + 1 := by show t.misses + 1 = _; rw [h.mis]
 have hrg : (stpT p t).rg = t.rg := rfl
 have hpr : prE t.rg (gone + 1) = 0 := by
  have h0 := h.ok.rg
  unfold prE
  rw [if_neg (fun e => e h0), if_neg (by rw [← h.mis]; omega)]
 have hd := mul_le_of (a := gone + 1) (b := p.most) (s := s) (g := p.gate) (by rw [← h.mis]; omega) (by rw [← h.mis]; omega) hs.g.1 hs.g.2 (by omega)
 have e1 : (gone + 1) * s = gone * s + s := by rw [Int.add_mul, Int.one_mul]
 unfold offV
 rw [hmis, hrg]
 have hv : prV t.rg (gone + 1) = lim (t.rg.r + (gone + 1) * t.rg.v) 0 2097152 := if_pos hpr
 show max (256 * r' - prV t.rg (gone + 1)) (-(256 * r' - prV t.rg (gone + 1))) ≤ 256 * p.gate
 rw [hv]
 rcases hx with e | ⟨n, -, -, e⟩
 ·rw [e]
  dsimp only
  rw [Int.mul_zero, Int.add_zero, lim_in (by omega) (by omega)]
  omega
 ·rw [e]
  dsimp only
  have e2 : (gone + 1) * (256 * s) = 256 * ((gone + 1) * s) := by rw [← Int.mul_assoc, Int.mul_comm (gone + 1) 256, Int.mul_assoc]
  rw [e2, lim_in (by omega) (by omega)]
  omega
theorem al_up {p : Par} {s gone z v r : Int} {t : Tk} (h : AlS p s gone z v r t) (hs : SpOk p s) {r' : Int} (hr' : r' = r + s) (hb : 0 ≤ r' ∧ r' ≤ 8192) : ∃ n, 2 ≤ n ∧ n ≤ 1000 ∧ upX t.rg r' (gone + 1) = ⟨256 * r', 256 * s, n⟩ := by
 obtain ⟨rl, hrl, hr, hx⟩ := h.rg
 have hm := h.ok.mis
 have hmost := hs.par.2.2.1
 have hsb := hs.b
 have hE : upE t.rg r' (gone + 1) = 0 := by
  have h0 := h.ok.rg
  unfold upE
  rw [if_neg (fun e => e h0), if_neg (by rw [← h.mis]; omega)]
 have e1 : (gone + 1) * s = gone * s + s := by rw [Int.add_mul, Int.one_mul]
 have hg1 : 1 ≤ gone + 1 := by rw [← h.mis]; omega
 unfold upX
 rw [if_pos hE]
 rcases hx with e | ⟨n, n1, n2, e⟩
 ·rw [e]
  unfold upN upD
  dsimp only
  rw [Int.mul_zero, Int.add_zero]
  have hmin : min ((1 : Int) + 1) 8 = 2 := by decide
  rw [hmin]
  have a1 : 2 * (2 * 2 - 1) * (256 * r' - 256 * rl) = (256 * r' - 256 * rl) * (2 * (2 + 1)) := by omega
  have a2 : 6 * (256 * r' - 256 * rl) = (256 * s) * (2 * (2 + 1) * (gone + 1)) := by
   have : 256 * r' - 256 * rl = 256 * ((gone + 1) * s) := by omega
   rw [this]
   have c : 2 * (2 + 1) * (gone + 1) = 6 * (gone + 1) := by omega
   rw [c, Int.mul_comm (gone + 1) s, Int.mul_assoc 256 s, Int.mul_left_comm s 6, Int.mul_left_comm 6 256]
  rw [a1, a2, rnd_mul (by omega), rnd_mul (by omega)]
  refine ⟨2, by decide, by decide, ?_⟩
  rw [lim_in (by omega) (by omega), lim_in (by omega) (by omega)]
  congr 1 <;> omega
 ·rw [e]
  unfold upD
  dsimp only
  have e2 : (gone + 1) * (256 * s) = 256 * ((gone + 1) * s) := by rw [← Int.mul_assoc, Int.mul_comm (gone + 1) 256, Int.mul_assoc]
  have hN : 1 ≤ upN ⟨256 * rl, 256 * s, n⟩ := by unfold upN; dsimp only; omega
  obtain ⟨N, hNe⟩ : ∃ N, upN ⟨256 * rl, 256 * s, n⟩ = N := ⟨_, rfl⟩
  rw [hNe] at hN ⊢
  have hd : 256 * r' - (256 * rl + (gone + 1) * (256 * s)) = 0 := by rw [e2]; omega
  have hq : 1 ≤ N * (N + 1) := by
   have : 0 < N * (N + 1) := Int.mul_pos (by omega) (by omega)
   omega
  have hq2 : 1 ≤ N * (N + 1) * (gone + 1) := by
   have : 0 < N * (N + 1) * (gone + 1) := Int.mul_pos (by omega) (by omega)
   omega
  rw [hd, Int.mul_zero, Int.mul_zero, rnd_zero hq, rnd_zero hq2, Int.add_zero, Int.add_zero]
  refine ⟨min (n + 1) 1000, by omega, by omega, ?_⟩
  rw [lim_in (by omega) (by omega), lim_in (by omega) (by omega)]
  congr 1
  omega
structure Nx (p : Par) (s z v r z' v' r' : Int) : Prop where
 z : z' = z + v
 v1 : v' - v ≤ p.pull
 v2 : v - v' ≤ p.pull
 vb : -100 ≤ v' ∧ v' ≤ 100
 zb : 0 ≤ z' ∧ z' ≤ 50000
 r : r' = r + s
 rb : 0 ≤ r' ∧ r' ≤ 8192
theorem al_stp {p : Par} {s gone z v r z' v' r' : Int} {t : Tk} (h : AlS p s gone z v r t) (hs : SpOk p s) (hn : Nx p s z v r z' v' r') : inB (stpT p t).lo (stpT p t).hi z' v' ∧ emptyB (stpT p t).lo (stpT p t).hi = false := by
 have hi := in_stp hs.par h.ok.ch h.it hn.z (by have := hn.zb; omega) hn.zb.2 hn.vb.1 hn.vb.2 hn.v1 hn.v2
 exact ⟨hi, in_some (ch_stp p t) hi⟩
theorem al_mea {lo hi : List Int} (h : chB lo hi = 0) {r z v : Int} (hin : inB lo hi z v) (hr : 0 ≤ r ∧ r ≤ 8192) (hz : 0 ≤ z ∧ z ≤ 50000) : inB (meaL lo hi (lvOf (yA r z))) (meaH lo hi (lvOf (yA r z))) z v ∧ chB (meaL lo hi (lvOf (yA r z))) (meaH lo hi (lvOf (yA r z))) = 0 := by
 have hy := yA_ok hr hz.1 hz.2
 have hf := fine_lv hz.1 hz.2
 have hm := mea_yes (lo := lo) (hi := hi) (l := lvOf (yA r z)) (by rw [hy.2]; show (0 : Int) < 25; decide)
 have hE := lvOf_ok hy.1 (by rw [hy.2]; show (0 : Int) < 25; decide)
 rw [hm.1, hm.2]
 refine ⟨in_mea h hin (by rw [hy.2]; exact hf.2.2.2.1) (by rw [hy.2]; exact hf.2.2.2.2.1), ch_ma h hE⟩
theorem al_cost {p : Par} {s gone z v r z' v' r' : Int} {t : Tk} (h : AlS p s gone z v r t) (hs : SpOk p s) (hn : Nx p s z v r z' v' r') : 0 ≤ costV p (stpT p t) (yA r' z') (lvOf (yA r' z')) := by
 have hb : ¬ bothB (stpT p t) (yA r' z') := fun e => by
  have h1 := e.2
  exact absurd h1 (by show ¬ (0 : Int) ≤ -1; decide)
 have hf : ¬ farB p (stpT p t) (yA r' z') := by
  rintro (e | e)
  ·have := al_off h hs hn.r hn.rb (z' := z')
   omega
  ·exact hb e.1
 have hst := al_stp h hs hn
 have hm := al_mea (ch_stp p t) hst.1 hn.rb hn.zb
 rw [costV_one hf (in_some hm.2 hm.1) hb]
 unfold offV
 omega
theorem al_hit {p : Par} {s gone z v r z' v' r' : Int} {t : Tk} (h : AlS p s gone z v r t) (hs : SpOk p s) (hn : Nx p s z v r z' v' r') (hh : t.hits ≤ 900) : AlS p s 0 z' v' r' (updT p (stpT p t) (yA r' z') (lvOf (yA r' z'))) ∧ (updT p (stpT p t) (yA r' z') (lvOf (yA r' z'))).hits ≤ t.hits + 1 := by
 have hst := al_stp h hs hn
 have hm := al_mea (ch_stp p t) hst.1 hn.rb hn.zb
 have hhb := h.ok.hits
 have hh1 : hit1 (stpT p t) = t.hits + 1 := by
  unfold hit1
  show min (t.hits + 1) 1073741824 = _
  omega
 obtain ⟨n, n1, n2, hx⟩ := al_up h hs hn.r hn.rb
 have hrg : (updT p (stpT p t) (yA r' z') (lvOf (yA r' z'))).rg = ⟨256 * r', 256 * s, n⟩ := by
  show upX t.rg r' (t.misses + 1) = _
  rw [h.mis]
  exact hx
 have had : (updT p (stpT p t) (yA r' z') (lvOf (yA r' z'))).addr = -1 := by
  show (if t.addr < 0 then (-1 : Int) else t.addr) = -1
  rw [h.addr]
  rfl
 have hhi : (updT p (stpT p t) (yA r' z') (lvOf (yA r' z'))).hits = t.hits + 1 := hh1
 have hsb := hs.b
 have hrb := hn.rb
 have hmost := hs.par.2.2.1
 refine ⟨⟨h.id, had, ⟨by rw [had]; decide, ?_, by rw [hhi]; omega, ⟨Int.le_refl _, by show 0 ≤ p.most - 1; omega⟩, ?_, hm.2, in_some hm.2 hm.1⟩, rfl, hm.1, by rw [hhi]; omega, ⟨r', hn.rb, by omega, Or.inr ⟨n, n1, n2, hrg⟩⟩⟩, by rw [hhi]; exact Int.le_refl _⟩
 ·rw [hrg]
  exact rgE_pair (by dsimp only; omega) (by dsimp only; omega) (by dsimp only; omega)
 ·rw [hhi]
  show (t.firm || decide (p.need ≤ hit1 (stpT p t))) = decide (p.need ≤ t.hits + 1)
  rw [hh1, h.ok.firm]
  by_cases c : p.need ≤ t.hits
  ·rw [decide_eq_true c, decide_eq_true (show p.need ≤ t.hits + 1 by omega)]
   rfl
  ·rw [decide_eq_false c]
   rfl
theorem al_mis {p : Par} {s gone z v r z' v' r' : Int} {t : Tk} (h : AlS p s gone z v r t) (hs : SpOk p s) (hn : Nx p s z v r z' v' r') (hg : gone + 1 < p.most) : AlS p s (gone + 1) z' v' r' (misT (stpT p t)) := by
 have hst := al_stp h hs hn
 have hm := h.ok.mis
 obtain ⟨rl, hrl, hr, hx⟩ := h.rg
 refine ⟨h.id, h.addr, ⟨h.ok.addr, h.ok.rg, h.ok.hits, ⟨by show 0 ≤ t.misses + 1; omega, by show t.misses + 1 ≤ p.most - 1; rw [h.mis]; omega⟩, h.ok.firm, ch_stp p t, hst.2⟩, by show t.misses + 1 = _; rw [h.mis], hst.1, h.hits, ⟨rl, hrl, ?_, hx⟩⟩
 rw [hn.r, hr, Int.add_mul, Int.one_mul]
 omega
theorem al_new {p : Par} {s z v r : Int} (hs : SpOk p s) (hv : -100 ≤ v ∧ v ≤ 100) (hz : 0 ≤ z ∧ z ≤ 50000) (hr : 0 ≤ r ∧ r ≤ 8192) : AlS p s 0 z v r (newT p 0 (yA r z) (lvOf (yA r z))) ∧ 0 < (lvOf (yA r z)).2 := by
 have hy := yA_ok hr hz.1 hz.2
 have hf := fine_lv hz.1 hz.2
 have hne : nwE r = 0 := if_neg (by omega)
 refine ⟨⟨rfl, rfl, TkOk.new hs.par hy.1 (by show 0 ≤ fineC z; omega), rfl, ?_, by show (1 : Int) ≤ 1000; decide, ⟨r, hr, by omega, Or.inl (if_pos hne)⟩⟩, by rw [hy.2]; show (0 : Int) < 25; decide⟩
 show inB (loK (neF (lvOf (yA r z)).1 (lvOf (yA r z)).2) 201) (hiK (neF (lvOf (yA r z)).1 (lvOf (yA r z)).2) 201) z v
 rw [hy.2]
 exact in_new hv hf.2.2.2.1 hf.2.2.2.2.1 hz.2
/-! ### the law's own state -/
def AlQ (p : Par) (s : Int) (i : Nat) (seen : Bool) (gone z v r next : Int) (L : List Tk) : Prop :=
 if seen = true then next = 1 ∧ ∃ t, L = [t] ∧ AlS p s gone z v r t ∧ t.hits ≤ (i : Int) + 1 else next = 0 ∧ L = []
theorem AlQ.ck {p : Par} {s : Int} {i : Nat} {seen : Bool} {gone z v r next : Int} {L : List Tk} (h : AlQ p s i seen gone z v r next L) (hs : SpOk p s) (hi : i ≤ 60) : ckE p (i : Int) next L = 0 ∧ next ≤ 1 := by
 unfold AlQ at h
 split at h
 ·obtain ⟨rfl, t, rfl, ha, -⟩ := h
  exact ⟨ckE_one hs.par (by omega) (by decide) (by rw [ha.id]; decide) ha.ok, Int.le_refl _⟩
 ·obtain ⟨rfl, rfl⟩ := h
  exact ⟨ckE_nil hs.par (by omega) (by decide), by decide⟩
theorem AlQ.hit {p : Par} {s : Int} {i : Nat} {seen : Bool} {gone z v r next z' v' r' : Int} {L : List Tk} (h : AlQ p s i seen gone z v r next L) (hs : SpOk p s) (hi : i ≤ 60) (hn : seen = true → Nx p s z v r z' v' r') (hv : -100 ≤ v' ∧ v' ≤ 100) (hz : 0 ≤ z' ∧ z' ≤ 50000) (hr : 0 ≤ r' ∧ r' ≤ 8192) :
    cyE p (i : Int) next L [yA r' z'] = 0 ∧ AlQ p s (i + 1) true 0 z' v' r' (cyX p next L [yA r' z']) (cyT p next L [yA r' z']) := by
 have hck := h.ck hs hi
 have hy := yA_ok hr hz.1 hz.2
 refine ⟨cyE_of hck.1 (by omega) (by have := hck.2; omega) (by simp) (by unfold plsE; rw [if_neg (fun e => e hy.1)]; rfl), ?_⟩
 unfold AlQ at h ⊢
 rw [if_pos rfl]
 split at h
 ·rename_i hseen
  obtain ⟨rfl, t, rfl, ha, hh⟩ := h
  have hn := hn hseen
  have hst := al_stp ha hs hn
  have hc := cy_hit (next := 1) hs.par hst.2 (al_cost ha hs hn)
  have hu := al_hit ha hs hn (by omega)
  rw [hc.1, hc.2.2]
  exact ⟨rfl, _, rfl, hu.1, by have := hu.2; omega⟩
 ·obtain ⟨rfl, rfl⟩ := h
  have ha := al_new (v := v') hs hv hz hr
  have hN := cyN_nil_yes (p := p) (next := 0) (y := yA r' z') ha.2
  refine ⟨by unfold cyX; rw [hN]; rfl, _, by unfold cyT; rw [hN], ha.1, ?_⟩
  show (1 : Int) ≤ _
  omega
theorem AlQ.mis {p : Par} {s : Int} {i : Nat} {seen : Bool} {gone z v r next z' v' r' : Int} {L : List Tk} (h : AlQ p s i seen gone z v r next L) (hs : SpOk p s) (hi : i ≤ 60) (hn : seen = true → Nx p s z v r z' v' r' ∧ gone + 1 < p.most) :
    cyE p (i : Int) next L [] = 0 ∧ AlQ p s (i + 1) seen (gone + 1) z' v' r' (cyX p next L []) (cyT p next L []) := by
 have hck := h.ck hs hi
 refine ⟨cyE_of hck.1 (by omega) (by have := hck.2; omega) (by simp) rfl, ?_⟩
 unfold AlQ at h ⊢
 split at h
 ·rename_i hseen
  obtain ⟨rfl, t, rfl, ha, hh⟩ := h
  obtain ⟨hn, hg⟩ := hn hseen
  have hst := al_stp ha hs hn
  have hc := cy_mis (p := p) (next := 1) (t := t) hst.2
  have hm : ¬ p.most ≤ (stpT p t).misses + 1 := by
   show ¬ p.most ≤ t.misses + 1
   rw [ha.mis]
   omega
  rw [if_pos hseen, hc.1, hc.2.2, (one_mis (P := []) hm).1]
  exact ⟨rfl, _, rfl, al_mis ha hs hn hg, by show t.hits ≤ _; omega⟩
 ·rename_i hseen
  obtain ⟨rfl, rfl⟩ := h
  rw [if_neg hseen]
  exact ⟨rfl, rfl⟩
def spS (p : Par) (speed : Int) : Int := speed.tmod (min (p.gate.tdiv p.most) 64 + 1)
theorem tmod_bd {x m : Int} (hm : 0 ≤ m) : -m ≤ x.tmod (m + 1) ∧ x.tmod (m + 1) ≤ m := by
 rcases Int.lt_or_le x 0 with h | h
 ·have e : x.tmod (m + 1) = -((-x).tmod (m + 1)) := by rw [Int.neg_tmod, Int.neg_neg]
  have h1 : 0 ≤ (-x).tmod (m + 1) := Int.tmod_nonneg _ (by omega)
  have h2 : (-x).tmod (m + 1) < m + 1 := Int.tmod_lt_of_pos _ (by omega)
  omega
 ·have h1 : 0 ≤ x.tmod (m + 1) := Int.tmod_nonneg _ h
  have h2 : x.tmod (m + 1) < m + 1 := Int.tmod_lt_of_pos _ (by omega)
  omega
theorem spS_ok {p : Par} (hp : ParOk p) (speed : Int) : SpOk p (spS p speed) ∧ 0 ≤ p.gate.tdiv p.most ∧ p.gate.tdiv p.most ≤ 256 := by
 have hg := hp.1
 have hm := hp.2.2.1
 have hd : 0 ≤ p.gate.tdiv p.most := Int.tdiv_nonneg (by omega) (by omega)
 have hd2 : p.gate.tdiv p.most ≤ p.gate := Int.tdiv_le_self _ (by omega)
 have hq : p.most * p.gate.tdiv p.most ≤ p.gate := by
  have := Int.mul_tdiv_add_tmod p.gate p.most
  have h0 : 0 ≤ p.gate.tmod p.most := Int.tmod_nonneg _ (by omega)
  omega
 obtain ⟨q, hqe⟩ : ∃ q, p.gate.tdiv p.most = q := ⟨_, rfl⟩
 rw [hqe] at hd hd2 hq ⊢
 have hb := tmod_bd (x := speed) (m := min q 64) (by omega)
 unfold spS
 rw [hqe]
 obtain ⟨s, hs⟩ : ∃ s, speed.tmod (min q 64 + 1) = s := ⟨_, rfl⟩
 rw [hs] at hb ⊢
 refine ⟨⟨hp, by omega, ?_⟩, hd, by omega⟩
 have a1 : p.most * s ≤ p.most * q := Int.mul_le_mul_of_nonneg_left (by omega) (by omega)
 have a2 : p.most * -s ≤ p.most * q := Int.mul_le_mul_of_nonneg_left (by omega) (by omega)
 rw [Int.mul_neg] at a2
 omega
end TrkMath
end
