/-
  TrkRd, TrkRe
-/
import Derived.Test.YtikjjpjekchcjaaGreatPm30
set_option linter.all false
set_option maxRecDepth 100000
set_option maxHeartbeats 64000000
section
namespace Go.Proofs.YtikjjpjekchcjaaGreat
open Go.RowKit TrkMath MyHeap MyOwn
structure RkK (w : World) (p : Par) (now next : Int) (tV : Value) (W : World) : Prop where
 B : Below w.heap.size w W
 X : W.heap[w.heap.size]? = some (.cells #[.int .i64 p.gate, .int .i64 p.need, .int .i64 p.most, .int .i64 p.pull, .int .i64 now, .int .i64 next, tV] 38 (0, 0))
theorem RkK.keep {w W W' : World} {p : Par} {now next : Int} {tV : Value} (h : RkK w p now next tV W) (hb : Below W.heap.size W W') : RkK w p now next tV W' := ⟨h.B.trans (hb.mono h.B.size), aN hb h.X⟩
theorem RkK.new (w : World) (p : Par) (now next : Int) (tV : Value) : RkK w p now next tV (w.alloc (.cells #[.int .i64 p.gate, .int .i64 p.need, .int .i64 p.most, .int .i64 p.pull, .int .i64 now, .int .i64 next, tV] 38)) := ⟨aC _ _, aI _ _ rfl⟩
theorem gC (p : Par) (now next : Int) (a : Option Addr) (n c : Nat) (L : List TB) (w : World) (hT : Trs w a n L) (hB : ∀ k, k < n → BdI w (gt L k)) :
    Calls Tryz.prog 12 #[tbV p now next (.slice a n c)] w (NPost (ckE p now next (fsts L)) w) := by
 have HT := qh hT
 have HI := qh hB
 have hl : L.length = n := hT.len
 have hbn := hT.bound
 have K := qh (RkK.new w p now next (.slice a n c))
 clear hT hB
 unfold tbV
 rcases mJ p with hP | hP
 ·have HP := qh hP
  clear hP
  by_cases n0 : now < 0
  ·have HE := qh (eE (L := fsts L) (show headBad p now next from Or.inr (Or.inl (by omega))))
   go_enter Tryz.func12, Tryz.ntmps12
   go_wp2_with fail
   refine (dF p _).mono ?_; rintro e w1 ⟨rfl, hb⟩
   rw [HP.out]
   replace K := qh (K.out.keep hb)
   obtain ⟨y0, y1, y2, y3, y4, y5, y6⟩ := aK K.out.X
   have yl := aB K.out.X
   clear hb
   go_wp2_with fail
   go_ret
   exact aJ (HE.out).symm K.out.B
  by_cases n1 : 1073741824 < now
  ·have HE := qh (eE (L := fsts L) (show headBad p now next from Or.inr (Or.inl (by omega))))
   go_enter Tryz.func12, Tryz.ntmps12
   go_wp2_with fail
   refine (dF p _).mono ?_; rintro e w1 ⟨rfl, hb⟩
   rw [HP.out]
   replace K := qh (K.out.keep hb)
   obtain ⟨y0, y1, y2, y3, y4, y5, y6⟩ := aK K.out.X
   have yl := aB K.out.X
   clear hb
   go_wp2_with fail
   go_ret
   exact aJ (HE.out).symm K.out.B
  by_cases n2 : next < 0
  ·have HE := qh (eE (L := fsts L) (show headBad p now next from Or.inr (Or.inr (by omega))))
   go_enter Tryz.func12, Tryz.ntmps12
   go_wp2_with fail
   refine (dF p _).mono ?_; rintro e w1 ⟨rfl, hb⟩
   rw [HP.out]
   replace K := qh (K.out.keep hb)
   obtain ⟨y0, y1, y2, y3, y4, y5, y6⟩ := aK K.out.X
   have yl := aB K.out.X
   clear hb
   go_wp2_with fail
   go_ret
   exact aJ (HE.out).symm K.out.B
  by_cases n3 : 1073741824 < next
  ·have HE := qh (eE (L := fsts L) (show headBad p now next from Or.inr (Or.inr (by omega))))
   go_enter Tryz.func12, Tryz.ntmps12
   go_wp2_with fail
   refine (dF p _).mono ?_; rintro e w1 ⟨rfl, hb⟩
   rw [HP.out]
   replace K := qh (K.out.keep hb)
   obtain ⟨y0, y1, y2, y3, y4, y5, y6⟩ := aK K.out.X
   have yl := aB K.out.X
   clear hb
   go_wp2_with fail
   go_ret
   exact aJ (HE.out).symm K.out.B
  have HH := qh (show ¬ headBad p now next from fun h => by
   rcases h with h | h | h
   ·exact h HP.out
   ·omega
   omega)
  by_cases h16 : 16 < n
  ·have HE := qh (mR (L := fsts L) HH.out (by rw [aY, hl]; exact h16))
   have hg : (16 : Int) < (n : Int) := by omega
   go_enter Tryz.func12, Tryz.ntmps12
   go_wp2_with fail
   refine (dF p _).mono ?_; rintro e w1 ⟨rfl, hb⟩
   rw [HP.out]
   replace K := qh (K.out.keep hb)
   obtain ⟨y0, y1, y2, y3, y4, y5, y6⟩ := aK K.out.X
   have yl := aB K.out.X
   clear hb
   go_wp2_with fail
   go_ret
   exact aJ (HE.out).symm K.out.B
  have HE := qh (iT (L := fsts L) HH.out (by rw [aY, hl]; exact h16))
  have hg : ¬ (16 : Int) < (n : Int) := by omega
  have HL := qh (show (fsts L).length = n from by rw [aY]; exact hl)
  clear hl
  go_enter Tryz.func12, Tryz.ntmps12
  go_wp2_with fail
  refine (dF p _).mono ?_; rintro e w1 ⟨rfl, hb⟩
  rw [HP.out]
  replace K := qh (K.out.keep hb)
  obtain ⟨y0, y1, y2, y3, y4, y5, y6⟩ := aK K.out.X
  have yl := aB K.out.X
  clear hb
  go_wp2_with fail
  clear y0 y1 y2 y3 y4 y5 y6 yl
  go_loopw [2, 3, 4] (fun rv lv kv wr => ∃ k : Nat, k ≤ n ∧ rv = .int .i64 0 ∧ lv = .int .i64 (lastId (fsts L) k) ∧ kv = .int .i64 k ∧ CkAt p next (fsts L) k ∧ RkK w p now next (.slice a n c) wr) (fun _ _ kv _ => n - (intOf kv).toNat)
  case atStart => exact ⟨0, by omega, rfl, rfl, rfl, rfl, K.out⟩
  case round =>
   clear K
   obtain ⟨k, hk, rfl, rfl, rfl, hC, hK⟩ := hrel
   have K := qh hK
   have HC := qh hC
   clear hC hK
   obtain ⟨y0, y1, y2, y3, y4, y5, y6⟩ := aK K.out.X
   have yl := aB K.out.X
   by_cases hlt : k < n
   ·obtain ⟨b, off, rfl, hq⟩ := eO (HT.out.below K.out.B) hlt
    have HQ := qh (eT L k)
    have HBd := qh (HI.out k hlt)
    obtain ⟨q, hqe⟩ : ∃ q, gt L k = q := ⟨_, rfl⟩
    rw [hqe] at hq HQ HBd
    have HD := qh (show k < (fsts L).length from by rw [HL.out]; exact hlt)
    obtain ⟨la, hla⟩ : ∃ la, lastId (fsts L) k = la := ⟨_, rfl⟩
    have HLa := qh hla
    rw [hla]
    obtain ⟨x0, x1, x2, x3, x4, x5, x6, x7, x8, x9⟩ := hq
    have xl := World.block_lt_of_cell? _ _ x0
    have hk0 : (0 : Int) ≤ (k : Int) := by omega
    have hk1 : (k : Int) < (n : Int) := by omega
    have hkw : IntKind.i64.wrap ((k : Int) + 1) = ((k + 1 : Nat) : Int) := by rw [IntWalk.i64_in _ (by omega)]; omega
    have KA := qh (K.out.keep (aC wr (.cells (tkC q) 55)))
    have KT := qh (aI wr (.cells (tkC q) 55 (0, 0)) rfl)
    clear hqe hla
    unfold tkC at KT KA
    obtain ⟨⟨id, addr, rg, lo, hi, hits, misses, firm⟩, ⟨aL, nL, cL, aH, nH, cH⟩⟩ := q
    simp only [] at x0 x1 x2 x3 x4 x5 x6 x7 x8 x9 KT KA
    by_cases h1 : id ≤ la
    ·have HS := qh (iZ (p := p) HD.out (show (((fsts L)[k]?.getD tk0).id ≤ lastId (fsts L) k ∨ next ≤ ((fsts L)[k]?.getD tk0).id) from by rw [HQ.out, HLa.out]; exact Or.inl h1))
     go_wp2_with fail
     go_ret
     exact aJ (HE.out.trans (HC.out.trans HS.out)).symm KA.out.B
    by_cases h2 : next ≤ id
    ·have HS := qh (iZ (p := p) HD.out (show (((fsts L)[k]?.getD tk0).id ≤ lastId (fsts L) k ∨ next ≤ ((fsts L)[k]?.getD tk0).id) from by rw [HQ.out, HLa.out]; exact Or.inr h2))
     go_wp2_with fail
     go_ret
     exact aJ (HE.out.trans (HC.out.trans HS.out)).symm KA.out.B
    have HID := qh (show ¬ (id ≤ la ∨ next ≤ id) from by omega)
    by_cases c0 : addr < -1
    ·have HS := qh (b8 (p := p) (next := next) HD.out (by rw [HQ.out, HLa.out]; exact HID.out) (by rw [HQ.out, bP (show tkBad p _ from Or.inl (by dsimp only; omega))]; decide))
     rw [HQ.out, bP (show tkBad p _ from Or.inl (by dsimp only; omega))] at HS
     go_wp2_with fail
     go_ret
     exact aJ (HE.out.trans (HC.out.trans (HLa.out ▸ HS.out))).symm KA.out.B
    by_cases c1 : 16777215 < addr
    ·have HS := qh (b8 (p := p) (next := next) HD.out (by rw [HQ.out, HLa.out]; exact HID.out) (by rw [HQ.out, bP (show tkBad p _ from Or.inl (by dsimp only; omega))]; decide))
     rw [HQ.out, bP (show tkBad p _ from Or.inl (by dsimp only; omega))] at HS
     go_wp2_with fail
     go_ret
     exact aJ (HE.out.trans (HC.out.trans (HLa.out ▸ HS.out))).symm KA.out.B
    rcases (show rgE rg = 1 ∨ rgE rg = 0 from (rgE_two rg).symm) with hc | hc
    ·have HRG := qh hc
     clear hc
     have HS := qh (b8 (p := p) (next := next) HD.out (by rw [HQ.out, HLa.out]; exact HID.out) (by rw [HQ.out, bP (show tkBad p _ from Or.inr (Or.inl (by rw [HRG.out]; decide)))]; decide))
     rw [HQ.out, bP (show tkBad p _ from Or.inr (Or.inl (by rw [HRG.out]; decide)))] at HS
     go_wp2_with fail
     refine (bE rg _).mono ?_; rintro e w1 ⟨rfl, hb⟩
     rw [HRG.out]
     replace KA := qh (KA.out.keep hb)
     replace KT := qh (aN hb KT.out)
     clear hb y0 y1 y2 y3 y4 y5 y6 yl
     obtain ⟨y0, y1, y2, y3, y4, y5, y6⟩ := aK KA.out.X
     obtain ⟨z0, z1, z2, z3, z4, z5, z6, z7, z8, z9⟩ := TkAt.block' (q := (⟨id, addr, rg, lo, hi, hits, misses, _⟩, ⟨aL, nL, cL, aH, nH, cH⟩)) KT.out
     simp only [] at z0 z1 z2 z3 z4 z5 z6 z7 z8 z9
     have yl := aB KA.out.X
     have zl := aB KT.out
     go_wp2_with fail
     go_ret
     exact aJ (HE.out.trans (HC.out.trans (HLa.out ▸ HS.out))).symm KA.out.B
    have HRG := qh hc
    clear hc
    by_cases c3 : hits < 1
    ·have HS := qh (b8 (p := p) (next := next) HD.out (by rw [HQ.out, HLa.out]; exact HID.out) (by rw [HQ.out, bP (show tkBad p _ from Or.inr (Or.inr (Or.inl (by dsimp only; omega))))]; decide))
     rw [HQ.out, bP (show tkBad p _ from Or.inr (Or.inr (Or.inl (by dsimp only; omega))))] at HS
     go_wp2_with fail
     refine (bE rg _).mono ?_; rintro e w1 ⟨rfl, hb⟩
     rw [HRG.out]
     replace KA := qh (KA.out.keep hb)
     replace KT := qh (aN hb KT.out)
     clear hb y0 y1 y2 y3 y4 y5 y6 yl
     obtain ⟨y0, y1, y2, y3, y4, y5, y6⟩ := aK KA.out.X
     obtain ⟨z0, z1, z2, z3, z4, z5, z6, z7, z8, z9⟩ := TkAt.block' (q := (⟨id, addr, rg, lo, hi, hits, misses, _⟩, ⟨aL, nL, cL, aH, nH, cH⟩)) KT.out
     simp only [] at z0 z1 z2 z3 z4 z5 z6 z7 z8 z9
     have yl := aB KA.out.X
     have zl := aB KT.out
     go_wp2_with fail
     go_ret
     exact aJ (HE.out.trans (HC.out.trans (HLa.out ▸ HS.out))).symm KA.out.B
    by_cases c4 : 1073741824 < hits
    ·have HS := qh (b8 (p := p) (next := next) HD.out (by rw [HQ.out, HLa.out]; exact HID.out) (by rw [HQ.out, bP (show tkBad p _ from Or.inr (Or.inr (Or.inl (by dsimp only; omega))))]; decide))
     rw [HQ.out, bP (show tkBad p _ from Or.inr (Or.inr (Or.inl (by dsimp only; omega))))] at HS
     go_wp2_with fail
     refine (bE rg _).mono ?_; rintro e w1 ⟨rfl, hb⟩
     rw [HRG.out]
     replace KA := qh (KA.out.keep hb)
     replace KT := qh (aN hb KT.out)
     clear hb y0 y1 y2 y3 y4 y5 y6 yl
     obtain ⟨y0, y1, y2, y3, y4, y5, y6⟩ := aK KA.out.X
     obtain ⟨z0, z1, z2, z3, z4, z5, z6, z7, z8, z9⟩ := TkAt.block' (q := (⟨id, addr, rg, lo, hi, hits, misses, _⟩, ⟨aL, nL, cL, aH, nH, cH⟩)) KT.out
     simp only [] at z0 z1 z2 z3 z4 z5 z6 z7 z8 z9
     have yl := aB KA.out.X
     have zl := aB KT.out
     go_wp2_with fail
     go_ret
     exact aJ (HE.out.trans (HC.out.trans (HLa.out ▸ HS.out))).symm KA.out.B
    by_cases c5 : misses < 0
    ·have HS := qh (b8 (p := p) (next := next) HD.out (by rw [HQ.out, HLa.out]; exact HID.out) (by rw [HQ.out, bP (show tkBad p _ from Or.inr (Or.inr (Or.inr (Or.inl (by dsimp only; omega)))))]; decide))
     rw [HQ.out, bP (show tkBad p _ from Or.inr (Or.inr (Or.inr (Or.inl (by dsimp only; omega)))))] at HS
     go_wp2_with fail
     refine (bE rg _).mono ?_; rintro e w1 ⟨rfl, hb⟩
     rw [HRG.out]
     replace KA := qh (KA.out.keep hb)
     replace KT := qh (aN hb KT.out)
     clear hb y0 y1 y2 y3 y4 y5 y6 yl
     obtain ⟨y0, y1, y2, y3, y4, y5, y6⟩ := aK KA.out.X
     obtain ⟨z0, z1, z2, z3, z4, z5, z6, z7, z8, z9⟩ := TkAt.block' (q := (⟨id, addr, rg, lo, hi, hits, misses, _⟩, ⟨aL, nL, cL, aH, nH, cH⟩)) KT.out
     simp only [] at z0 z1 z2 z3 z4 z5 z6 z7 z8 z9
     have yl := aB KA.out.X
     have zl := aB KT.out
     go_wp2_with fail
     go_ret
     exact aJ (HE.out.trans (HC.out.trans (HLa.out ▸ HS.out))).symm KA.out.B
    by_cases c6 : p.most ≤ misses
    ·have HS := qh (b8 (p := p) (next := next) HD.out (by rw [HQ.out, HLa.out]; exact HID.out) (by rw [HQ.out, bP (show tkBad p _ from Or.inr (Or.inr (Or.inr (Or.inl (by dsimp only; omega)))))]; decide))
     rw [HQ.out, bP (show tkBad p _ from Or.inr (Or.inr (Or.inr (Or.inl (by dsimp only; omega)))))] at HS
     go_wp2_with fail
     refine (bE rg _).mono ?_; rintro e w1 ⟨rfl, hb⟩
     rw [HRG.out]
     replace KA := qh (KA.out.keep hb)
     replace KT := qh (aN hb KT.out)
     clear hb y0 y1 y2 y3 y4 y5 y6 yl
     obtain ⟨y0, y1, y2, y3, y4, y5, y6⟩ := aK KA.out.X
     obtain ⟨z0, z1, z2, z3, z4, z5, z6, z7, z8, z9⟩ := TkAt.block' (q := (⟨id, addr, rg, lo, hi, hits, misses, _⟩, ⟨aL, nL, cL, aH, nH, cH⟩)) KT.out
     simp only [] at z0 z1 z2 z3 z4 z5 z6 z7 z8 z9
     have yl := aB KA.out.X
     have zl := aB KT.out
     go_wp2_with fail
     go_ret
     exact aJ (HE.out.trans (HC.out.trans (HLa.out ▸ HS.out))).symm KA.out.B
    by_cases hh : p.need ≤ hits
    ·cases firm with
     | false =>
      have HS := qh (b8 (p := p) (next := next) HD.out (by rw [HQ.out, HLa.out]; exact HID.out) (by rw [HQ.out, bP (show tkBad p _ from Or.inr (Or.inr (Or.inr (Or.inr (by rw [decide_eq_true hh]; show (false : Bool) ≠ true; decide)))))]; decide))
      rw [HQ.out, bP (show tkBad p _ from Or.inr (Or.inr (Or.inr (Or.inr (by rw [decide_eq_true hh]; show (false : Bool) ≠ true; decide)))))] at HS
      go_wp2_with fail
      refine (bE rg _).mono ?_; rintro e w1 ⟨rfl, hb⟩
      rw [HRG.out]
      replace KA := qh (KA.out.keep hb)
      replace KT := qh (aN hb KT.out)
      clear hb y0 y1 y2 y3 y4 y5 y6 yl
      obtain ⟨y0, y1, y2, y3, y4, y5, y6⟩ := aK KA.out.X
      obtain ⟨z0, z1, z2, z3, z4, z5, z6, z7, z8, z9⟩ := TkAt.block' (q := (⟨id, addr, rg, lo, hi, hits, misses, _⟩, ⟨aL, nL, cL, aH, nH, cH⟩)) KT.out
      simp only [] at z0 z1 z2 z3 z4 z5 z6 z7 z8 z9
      have yl := aB KA.out.X
      have zl := aB KT.out
      go_wp2_with fail
      go_ret
      exact aJ (HE.out.trans (HC.out.trans (HLa.out ▸ HS.out))).symm KA.out.B
     | true =>
      have HOK := qh (show ¬ tkBad p ⟨id, addr, rg, lo, hi, hits, misses, true⟩ from fun h => by
       rcases h with h | h | h | h | h
       ·dsimp only at h; omega
       ·exact h HRG.out
       ·dsimp only at h; omega
       ·dsimp only at h; omega
       exact h (by rw [decide_eq_true hh]))
      go_wp2_with fail
      refine (bE rg _).mono ?_; rintro e w1 ⟨rfl, hb⟩
      rw [HRG.out]
      replace KA := qh (KA.out.keep hb)
      replace KT := qh (aN hb KT.out)
      clear hb y0 y1 y2 y3 y4 y5 y6 yl
      obtain ⟨y0, y1, y2, y3, y4, y5, y6⟩ := aK KA.out.X
      obtain ⟨z0, z1, z2, z3, z4, z5, z6, z7, z8, z9⟩ := TkAt.block' (q := (⟨id, addr, rg, lo, hi, hits, misses, _⟩, ⟨aL, nL, cL, aH, nH, cH⟩)) KT.out
      simp only [] at z0 z1 z2 z3 z4 z5 z6 z7 z8 z9
      have yl := aB KA.out.X
      have zl := aB KT.out
      go_wp2_with fail
      refine (Alt.rEmpty_call aL aH nL nH cL cH lo hi _ (HBd.out.L.below KA.out.B) (HBd.out.H.below KA.out.B)).mono ?_; rintro e w1 ⟨rfl, hb⟩
      replace KA := qh (KA.out.keep hb)
      clear hb y0 y1 y2 y3 y4 y5 y6 yl z0 z1 z2 z3 z4 z5 z6 z7 z8 z9 zl
      by_cases he : Alt.emE lo hi = 0
      ·by_cases hb1 : Alt.emB lo hi = true
       ·have hE : emptyE lo hi = 0 := he
        have hN : emptyB lo hi = true := hb1
        have HS := qh (b8 (p := p) (next := next) HD.out (by rw [HQ.out, HLa.out]; exact HID.out) (by rw [HQ.out, eC HOK.out hE hN]; decide))
        rw [HQ.out, eC HOK.out hE hN] at HS
        rw [he, hb1]
        clear hE hN he hb1
        go_wp2_with fail
        go_ret
        exact aJ (HE.out.trans (HC.out.trans (HLa.out ▸ HS.out))).symm KA.out.B
       have hE : emptyE lo hi = 0 := he
       have hN : emptyB lo hi = false := (Bool.not_eq_true _).mp hb1
       have HS := qh (qH (p := p) (next := next) HD.out (by rw [HQ.out, HLa.out]; exact HID.out) (by rw [HQ.out]; exact nD HOK.out hE hN))
       have hb2 : Alt.emB lo hi = false := hN
       rw [he, hb2]
       clear hE hN he hb1 hb2
       go_wp2_with fail
       go_roundw
       case rel => exact ⟨k + 1, by omega, rfl, by rw [show lastId (fsts L) (k + 1) = id from by show ((fsts L)[k]?.getD tk0).id = id; rw [HQ.out]], by go_num, HC.out.trans HS.out, KA.out⟩
       case measure => simp [intOf]; omega
      have hE : emptyE lo hi ≠ 0 := he
      have HS := qh (b8 (p := p) (next := next) HD.out (by rw [HQ.out, HLa.out]; exact HID.out) (by rw [HQ.out, eD HOK.out hE]; exact hE))
      rw [HQ.out, eD HOK.out hE] at HS
      obtain ⟨E, hEE⟩ : ∃ E, Alt.emE lo hi = E := ⟨_, rfl⟩
      have HEE := qh (show emptyE lo hi = E from hEE)
      rw [hEE] at he ⊢
      have hne : (E != 0) = true := bne_iff_ne.2 he
      clear hEE hE
      go_wp2_with fail
      go_ret
      exact aJ (HE.out.trans (HC.out.trans (HLa.out ▸ HS.out.trans HEE.out))).symm KA.out.B
    cases firm with
    | true =>
     have HS := qh (b8 (p := p) (next := next) HD.out (by rw [HQ.out, HLa.out]; exact HID.out) (by rw [HQ.out, bP (show tkBad p _ from Or.inr (Or.inr (Or.inr (Or.inr (by rw [decide_eq_false hh]; show (true : Bool) ≠ false; decide)))))]; decide))
     rw [HQ.out, bP (show tkBad p _ from Or.inr (Or.inr (Or.inr (Or.inr (by rw [decide_eq_false hh]; show (true : Bool) ≠ false; decide)))))] at HS
     have hd2 : (!decide (p.need ≤ hits)) = true := by rw [decide_eq_false hh]; rfl
     go_wp2_with fail
     refine (bE rg _).mono ?_; rintro e w1 ⟨rfl, hb⟩
     rw [HRG.out]
     replace KA := qh (KA.out.keep hb)
     replace KT := qh (aN hb KT.out)
     clear hb y0 y1 y2 y3 y4 y5 y6 yl
     obtain ⟨y0, y1, y2, y3, y4, y5, y6⟩ := aK KA.out.X
     obtain ⟨z0, z1, z2, z3, z4, z5, z6, z7, z8, z9⟩ := TkAt.block' (q := (⟨id, addr, rg, lo, hi, hits, misses, _⟩, ⟨aL, nL, cL, aH, nH, cH⟩)) KT.out
     simp only [] at z0 z1 z2 z3 z4 z5 z6 z7 z8 z9
     have yl := aB KA.out.X
     have zl := aB KT.out
     go_wp2_with fail
     go_ret
     exact aJ (HE.out.trans (HC.out.trans (HLa.out ▸ HS.out))).symm KA.out.B
    | false =>
     have HOK := qh (show ¬ tkBad p ⟨id, addr, rg, lo, hi, hits, misses, false⟩ from fun h => by
      rcases h with h | h | h | h | h
      ·dsimp only at h; omega
      ·exact h HRG.out
      ·dsimp only at h; omega
      ·dsimp only at h; omega
      exact h (by rw [decide_eq_false hh]))
     go_wp2_with fail
     refine (bE rg _).mono ?_; rintro e w1 ⟨rfl, hb⟩
     rw [HRG.out]
     replace KA := qh (KA.out.keep hb)
     replace KT := qh (aN hb KT.out)
     clear hb y0 y1 y2 y3 y4 y5 y6 yl
     obtain ⟨y0, y1, y2, y3, y4, y5, y6⟩ := aK KA.out.X
     obtain ⟨z0, z1, z2, z3, z4, z5, z6, z7, z8, z9⟩ := TkAt.block' (q := (⟨id, addr, rg, lo, hi, hits, misses, _⟩, ⟨aL, nL, cL, aH, nH, cH⟩)) KT.out
     simp only [] at z0 z1 z2 z3 z4 z5 z6 z7 z8 z9
     have yl := aB KA.out.X
     have zl := aB KT.out
     go_wp2_with fail
     refine (Alt.rEmpty_call aL aH nL nH cL cH lo hi _ (HBd.out.L.below KA.out.B) (HBd.out.H.below KA.out.B)).mono ?_; rintro e w1 ⟨rfl, hb⟩
     replace KA := qh (KA.out.keep hb)
     clear hb y0 y1 y2 y3 y4 y5 y6 yl z0 z1 z2 z3 z4 z5 z6 z7 z8 z9 zl
     by_cases he : Alt.emE lo hi = 0
     ·by_cases hb1 : Alt.emB lo hi = true
      ·have hE : emptyE lo hi = 0 := he
       have hN : emptyB lo hi = true := hb1
       have HS := qh (b8 (p := p) (next := next) HD.out (by rw [HQ.out, HLa.out]; exact HID.out) (by rw [HQ.out, eC HOK.out hE hN]; decide))
       rw [HQ.out, eC HOK.out hE hN] at HS
       rw [he, hb1]
       clear hE hN he hb1
       go_wp2_with fail
       go_ret
       exact aJ (HE.out.trans (HC.out.trans (HLa.out ▸ HS.out))).symm KA.out.B
      have hE : emptyE lo hi = 0 := he
      have hN : emptyB lo hi = false := (Bool.not_eq_true _).mp hb1
      have HS := qh (qH (p := p) (next := next) HD.out (by rw [HQ.out, HLa.out]; exact HID.out) (by rw [HQ.out]; exact nD HOK.out hE hN))
      have hb2 : Alt.emB lo hi = false := hN
      rw [he, hb2]
      clear hE hN he hb1 hb2
      go_wp2_with fail
      go_roundw
      case rel => exact ⟨k + 1, by omega, rfl, by rw [show lastId (fsts L) (k + 1) = id from by show ((fsts L)[k]?.getD tk0).id = id; rw [HQ.out]], by go_num, HC.out.trans HS.out, KA.out⟩
      case measure => simp [intOf]; omega
     have hE : emptyE lo hi ≠ 0 := he
     have HS := qh (b8 (p := p) (next := next) HD.out (by rw [HQ.out, HLa.out]; exact HID.out) (by rw [HQ.out, eD HOK.out hE]; exact hE))
     rw [HQ.out, eD HOK.out hE] at HS
     obtain ⟨E, hEE⟩ : ∃ E, Alt.emE lo hi = E := ⟨_, rfl⟩
     have HEE := qh (show emptyE lo hi = E from hEE)
     rw [hEE] at he ⊢
     have hne : (E != 0) = true := bne_iff_ne.2 he
     clear hEE hE
     go_wp2_with fail
     go_ret
     exact aJ (HE.out.trans (HC.out.trans (HLa.out ▸ HS.out.trans HEE.out))).symm KA.out.B
   obtain rfl : n = k := by omega
   have HF := qh (show ckL p next (-1) (fsts L) = 0 from by rw [HC.out, ← HL.out]; exact ckL_end _ _ _)
   go_wp2_with fail
   go_ret
   exact aJ (HE.out.trans HF.out).symm K.out.B
 have HP := qh hP
 clear hP
 have HE := qh (eE (L := fsts L) (show headBad p now next from Or.inl (by rw [HP.out]; decide)))
 go_enter Tryz.func12, Tryz.ntmps12
 go_wp2_with fail
 refine (dF p _).mono ?_; rintro e w1 ⟨rfl, hb⟩
 rw [HP.out]
 replace K := qh (K.out.keep hb)
 obtain ⟨y0, y1, y2, y3, y4, y5, y6⟩ := aK K.out.X
 have yl := aB K.out.X
 clear hb
 go_wp2_with fail
 go_ret
 exact aJ (HE.out).symm K.out.B
end Go.Proofs.YtikjjpjekchcjaaGreat
end
section
namespace Go.Proofs.YtikjjpjekchcjaaGreat
open Go.RowKit TrkMath MyHeap MyOwn
theorem pH (p : Par) (now next : Int) (a : Option Addr) (n c : Nat) (pa : Option Addr) (pn pc : Nat) (L : List TB) (P : List Pl) (w : World) (hT : Trs w a n L) (hB : ∀ k, k < n → BdI w (gt L k)) (hP : Pls w pa pn P) :
    Calls Tryz.prog 30 #[tbV p now next (.slice a n c), .slice pa pn pc] w (NPost (cyE p now next (fsts L) P) w) := by
 have K := qh (RkK.new w p now next (.slice a n c))
 have HCk := qh (fun (W : World) (hb : Below w.heap.size w W) => gC p now next a n c L W (hT.below hb) (fun k hk => (hB k hk).below hb))
 have HPl := qh hP
 have hlp := hP.len
 have hbp := hP.bound
 clear hT hB hP
 unfold tbV at HCk ⊢
 by_cases hE : ckE p now next (fsts L) = 0
 ·rw [hE] at HCk
  by_cases hr : now = 1073741824 ∨ 1073741808 < next
  ·have HE := qh (iY (P := P) hE hr)
   clear hE
   by_cases hn : now = 1073741824
   ·have hn1 : (now == 1073741824) = true := by rw [hn]; rfl
    clear hr hn
    go_enter Tryz.func30, Tryz.ntmps30
    go_wp2_with fail
    refine (HCk.out _ K.out.B).mono ?_; rintro e w1 ⟨rfl, hb⟩
    replace K := qh (K.out.keep hb)
    clear hb
    obtain ⟨y0, y1, y2, y3, y4, y5, y6⟩ := aK K.out.X
    have yl := aB K.out.X
    go_wp2_with fail
    go_ret
    exact aJ HE.out.symm K.out.B
   have hn1 : (now == 1073741824) = false := by rw [beq_eq_false_iff_ne]; exact hn
   have hx1 : 1073741808 < next := by omega
   clear hr hn
   go_enter Tryz.func30, Tryz.ntmps30
   go_wp2_with fail
   refine (HCk.out _ K.out.B).mono ?_; rintro e w1 ⟨rfl, hb⟩
   replace K := qh (K.out.keep hb)
   clear hb
   obtain ⟨y0, y1, y2, y3, y4, y5, y6⟩ := aK K.out.X
   have yl := aB K.out.X
   go_wp2_with fail
   go_ret
   exact aJ HE.out.symm K.out.B
  have hn1 : (now == 1073741824) = false := by rw [beq_eq_false_iff_ne]; omega
  have hx1 : ¬ 1073741808 < next := by omega
  by_cases h16 : 16 < pn
  ·have HE := qh (mQ hE hr (show 16 < P.length by omega))
   have hg : (16 : Int) < (pn : Int) := by omega
   clear hr hE
   go_enter Tryz.func30, Tryz.ntmps30
   go_wp2_with fail
   refine (HCk.out _ K.out.B).mono ?_; rintro e w1 ⟨rfl, hb⟩
   replace K := qh (K.out.keep hb)
   clear hb
   obtain ⟨y0, y1, y2, y3, y4, y5, y6⟩ := aK K.out.X
   have yl := aB K.out.X
   go_wp2_with fail
   go_ret
   exact aJ HE.out.symm K.out.B
  have HE := qh (mA hE hr (show ¬ 16 < P.length by omega))
  have hg : ¬ (16 : Int) < (pn : Int) := by omega
  clear hr hE
  go_enter Tryz.func30, Tryz.ntmps30
  go_wp2_with fail
  refine (HCk.out _ K.out.B).mono ?_; rintro e w1 ⟨rfl, hb⟩
  replace K := qh (K.out.keep hb)
  clear hb
  obtain ⟨y0, y1, y2, y3, y4, y5, y6⟩ := aK K.out.X
  have yl := aB K.out.X
  go_wp2_with fail
  clear y0 y1 y2 y3 y4 y5 y6 yl
  go_loopw [4, 6] (fun rv kv wr => ∃ k : Nat, k ≤ pn ∧ rv = .int .i64 0 ∧ kv = .int .i64 k ∧ plsE P = plsE (P.drop k) ∧ Below w.heap.size w wr) (fun _ kv _ => pn - (intOf kv).toNat)
  case atStart => exact ⟨0, by omega, rfl, rfl, rfl, K.out.B⟩
  case round =>
   clear K
   obtain ⟨k, hk, rfl, rfl, hS, hb⟩ := hrel
   have HS := qh hS
   have HB := qh hb
   clear hS hb
   by_cases hlt : k < pn
   ·obtain ⟨b, off, rfl, p0, p1, p2⟩ := fS (HPl.out.below HB.out) hlt
    have pl := World.block_lt_of_cell? _ _ p0
    have HLt := qh hlt
    have hk0 : (0 : Int) ≤ (k : Int) := by omega
    have hk1 : (k : Int) < (pn : Int) := by omega
    have hkw : IntKind.i64.wrap ((k : Int) + 1) = ((k + 1 : Nat) : Int) := by rw [IntWalk.i64_in _ (by omega)]; omega
    have hkl : k < P.length := by omega
    have hcp := rplot_call (gp P k)
    unfold plV at hcp
    have HCp := qh hcp
    clear hcp hlt
    by_cases hp0 : plE (gp P k) = 0
    ·have HGo := qh (plsE_go hkl hp0)
     rw [hp0] at HCp
     clear hp0
     go_wp2_with fail
     refine (HCp.out _).mono ?_; rintro e w2 ⟨rfl, hb⟩
     replace HB := qh (HB.out.trans (hb.mono HB.out.size))
     clear hb p0 p1 p2 pl
     go_wp2_with fail
     refine ⟨⟨k + 1, HLt.out, rfl, by go_num, HS.out.trans HGo.out, HB.out⟩, by simp [intOf]; have := HLt.out; omega⟩
    have HBad := qh (iQ hkl hp0)
    obtain ⟨E, hEE⟩ : ∃ E, plE (gp P k) = E := ⟨_, rfl⟩
    rw [hEE] at HCp HBad hp0
    have hne : (E != 0) = true := bne_iff_ne.2 hp0
    clear hEE hp0
    go_wp2_with fail
    refine (HCp.out _).mono ?_; rintro e w2 ⟨rfl, hb⟩
    replace HB := qh (HB.out.trans (hb.mono HB.out.size))
    clear hb p0 p1 p2 pl
    go_wp2_with fail
    go_ret
    exact aJ (HE.out.trans (HS.out.trans HBad.out)).symm HB.out
   obtain rfl : pn = k := by omega
   have HF := qh (show plsE P = 0 from by rw [HS.out, ← hlp, List.drop_length]; rfl)
   go_wp2_with fail
   go_ret
   exact aJ (HE.out.trans HF.out).symm HB.out
 have HE := qh (qE (P := P) hE)
 obtain ⟨E, hEE⟩ : ∃ E, ckE p now next (fsts L) = E := ⟨_, rfl⟩
 rw [hEE] at HCk HE hE
 have hne : (E != 0) = true := bne_iff_ne.2 hE
 clear hEE hE
 go_enter Tryz.func30, Tryz.ntmps30
 go_wp2_with fail
 refine (HCk.out _ K.out.B).mono ?_; rintro e w1 ⟨rfl, hb⟩
 replace K := qh (K.out.keep hb)
 clear hb
 go_wp2_with fail
 go_ret
 exact aJ HE.out.symm K.out.B
end Go.Proofs.YtikjjpjekchcjaaGreat
end
