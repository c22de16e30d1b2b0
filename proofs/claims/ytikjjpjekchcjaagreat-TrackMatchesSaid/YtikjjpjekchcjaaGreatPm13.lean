/-
  TrkG, AsgMath
-/
import Derived.Test.YtikjjpjekchcjaaGreatPm12
set_option linter.all false
set_option maxRecDepth 100000
set_option maxHeartbeats 64000000
section
namespace Go.Proofs.YtikjjpjekchcjaaGreat
open Go.RowKit TrkMath MyHeap MyOwn
def fsts (L : List TB) : List Tk := L.map fun q => q.1
theorem aY (L : List TB) : (fsts L).length = L.length := by simp [fsts]
theorem eT (L : List TB) (k : Nat) : (fsts L)[k]?.getD tk0 = (gt L k).1 := by
 unfold fsts gt
 rw [List.getElem?_map]
 cases L[k]? <;> rfl
structure CkK (w : World) (p : Par) (now next : Int) (tV : Value) (W : World) : Prop where
 B : Below w.heap.size w W
 X : W.heap[w.heap.size]? = some (.cells #[.int .i64 p.gate, .int .i64 p.need, .int .i64 p.most, .int .i64 p.pull, .int .i64 now, .int .i64 next, tV] 26 (0, 0))
theorem CkK.keep {w W W' : World} {p : Par} {now next : Int} {tV : Value} (h : CkK w p now next tV W) (hb : Below W.heap.size W W') : CkK w p now next tV W' := ⟨h.B.trans (hb.mono h.B.size), aN hb h.X⟩
theorem CkK.new (w : World) (p : Par) (now next : Int) (tV : Value) : CkK w p now next tV (w.alloc (.cells #[.int .i64 p.gate, .int .i64 p.need, .int .i64 p.most, .int .i64 p.pull, .int .i64 now, .int .i64 next, tV] 26)) := ⟨aC _ _, aI _ _ rfl⟩
theorem TkAt.block' {w : World} {b : Nat} {q : TB} {T : TypeId} {fr : Nat × Nat} (h : w.heap[b]? = some (.cells (tkC q) T fr)) :
    w.cell? ⟨b, 0, none⟩ = some (.int .i64 q.1.id) ∧ w.cell? ⟨b, 1, none⟩ = some (.int .i64 q.1.addr) ∧ w.cell? ⟨b, 2, none⟩ = some (.int .i64 q.1.rg.r) ∧ w.cell? ⟨b, 3, none⟩ = some (.int .i64 q.1.rg.v) ∧ w.cell? ⟨b, 4, none⟩ = some (.int .i64 q.1.rg.n) ∧ w.cell? ⟨b, 5, none⟩ = some (.slice q.2.aL q.2.nL q.2.cL) ∧ w.cell? ⟨b, 6, none⟩ = some (.slice q.2.aH q.2.nH q.2.cH) ∧ w.cell? ⟨b, 7, none⟩ = some (.int .i64 q.1.hits) ∧ w.cell? ⟨b, 8, none⟩ = some (.int .i64 q.1.misses) ∧ w.cell? ⟨b, 9, none⟩ = some (.bool q.1.firm) :=
 ⟨aA h rfl, aA h rfl, aA h rfl, aA h rfl, aA h rfl, aA h rfl, aA h rfl, aA h rfl, aA h rfl, aA h rfl⟩
def CkAt (p : Par) (next : Int) (L : List Tk) (k : Nat) : Prop := ckL p next (-1) L = ckL p next (lastId L k) (L.drop k)
theorem gD (p : Par) (now next : Int) (a : Option Addr) (n c : Nat) (L : List TB) (w : World) (hT : Trs w a n L) (hB : ∀ k, k < n → BdI w (gt L k)) :
    Calls Tryz.prog 11 #[tbV p now next (.slice a n c)] w (NPost (ckE p now next (fsts L)) w) := by
 have HT := qh hT
 have HI := qh hB
 have hl : L.length = n := hT.len
 have hbn := hT.bound
 have K := qh (CkK.new w p now next (.slice a n c))
 clear hT hB
 unfold tbV
 rcases mJ p with hP | hP
 ·have HP := qh hP
  clear hP
  by_cases hn : 0 ≤ now ∧ now ≤ 1073741824
  ·have HN := qh hn
   clear hn
   by_cases hx : 0 ≤ next ∧ next ≤ 1073741824
   ·have HX := qh hx
    clear hx
    have HH := qh (show ¬ headBad p now next from fun h => by
     rcases h with h | h | h
     ·exact h HP.out
     ·exact h HN.out
     exact h HX.out)
    by_cases h16 : 16 < n
    ·have HE := qh (mR (L := fsts L) HH.out (by rw [aY, hl]; exact h16))
     have hg : (16 : Int) < (n : Int) := by omega
     go_enter Tryz.func11, Tryz.ntmps11
     go_wp2_with fail
     refine (fA p _).mono ?_; rintro e w1 ⟨rfl, hb⟩
     rw [HP.out]
     replace K := qh (K.out.keep hb)
     obtain ⟨y0, y1, y2, y3, y4, y5, y6⟩ := aK K.out.X
     have yl := aB K.out.X
     clear hb
     go_wp2_with fail
     refine (fH _ _ _ _ HN.out).mono ?_; rintro e w0 ⟨rfl, rfl⟩
     go_wp2_with fail
     refine (fH _ _ _ _ HX.out).mono ?_; rintro e w0 ⟨rfl, rfl⟩
     go_wp2_with fail
     go_ret
     exact aJ (HE.out).symm K.out.B
    have HE := qh (iT (L := fsts L) HH.out (by rw [aY, hl]; exact h16))
    have hg : ¬ (16 : Int) < (n : Int) := by omega
    have HL := qh (show (fsts L).length = n from by rw [aY]; exact hl)
    clear hl
    go_enter Tryz.func11, Tryz.ntmps11
    go_wp2_with fail
    refine (fA p _).mono ?_; rintro e w1 ⟨rfl, hb⟩
    rw [HP.out]
    replace K := qh (K.out.keep hb)
    obtain ⟨y0, y1, y2, y3, y4, y5, y6⟩ := aK K.out.X
    have yl := aB K.out.X
    clear hb
    go_wp2_with fail
    refine (fH _ _ _ _ HN.out).mono ?_; rintro e w0 ⟨rfl, rfl⟩
    go_wp2_with fail
    refine (fH _ _ _ _ HX.out).mono ?_; rintro e w0 ⟨rfl, rfl⟩
    go_wp2_with fail
    clear y0 y1 y2 y3 y4 y5 y6 yl
    go_loopw [2, 3, 31] (fun rv lv kv wr => ∃ k : Nat, k ≤ n ∧ rv = .int .i64 0 ∧ lv = .int .i64 (lastId (fsts L) k) ∧ kv = .int .i64 k ∧ CkAt p next (fsts L) k ∧ CkK w p now next (.slice a n c) wr) (fun _ _ kv _ => n - (intOf kv).toNat)
    case atStart => exact ⟨0, by omega, rfl, rfl, rfl, rfl, K.out⟩
    case round =>
     clear K
     obtain ⟨k, hk, rfl, rfl, rfl, hC, hK⟩ := hrel
     have K := qh hK
     have HC := qh hC
     clear hC hK
     by_cases hlt : k < n
     ·obtain ⟨b, off, rfl, hq⟩ := eO (HT.out.below K.out.B) hlt
      have HQ := qh (eT L k)
      have HBd := qh (HI.out k hlt)
      obtain ⟨q, hqe⟩ : ∃ q, gt L k = q := ⟨_, rfl⟩
      rw [hqe] at hq HQ HBd
      have HD := qh (show k < (fsts L).length from by rw [HL.out]; exact hlt)
      obtain ⟨la, hla⟩ : ∃ la, lastId (fsts L) k = la := ⟨_, rfl⟩
      have HLa := qh hla
      rw [hla]
      have HW := qh (show IntKind.i64.wrap (p.most - 1) = p.most - 1 from by have := (nN HP.out).2.2.1; exact IntWalk.i64_in _ (by omega))
      obtain ⟨x0, x1, x2, x3, x4, x5, x6, x7, x8, x9⟩ := hq
      have xl := World.block_lt_of_cell? _ _ x0
      obtain ⟨y0, y1, y2, y3, y4, y5, y6⟩ := aK K.out.X
      have yl := aB K.out.X
      have hk0 : (0 : Int) ≤ (k : Int) := by omega
      have hk1 : (k : Int) < (n : Int) := by omega
      have KA := qh (K.out.keep (aC wr (.cells (tkC q) 55)))
      have KT := qh (aI wr (.cells (tkC q) 55 (0, 0)) rfl)
      clear hqe hla
      unfold tkC at KT KA
      obtain ⟨⟨id, addr, rg, lo, hi, hits, misses, firm⟩, ⟨aL, nL, cL, aH, nH, cH⟩⟩ := q
      simp only [] at x0 x1 x2 x3 x4 x5 x6 x7 x8 x9 KT KA
      by_cases h1 : id ≤ la
      ·have HS := qh (iZ (p := p) HD.out (show (((fsts L)[k]?.getD tk0).id ≤ lastId (fsts L) k ∨ next ≤ ((fsts L)[k]?.getD tk0).id) from by rw [HQ.out, HLa.out]; exact Or.inl h1))
       go_wp2_with fail
       go_ret
       exact aJ (HE.out.trans (HC.out.trans HS.out)).symm KA.out.B
      by_cases h2 : next ≤ id
      ·have HS := qh (iZ (p := p) HD.out (show (((fsts L)[k]?.getD tk0).id ≤ lastId (fsts L) k ∨ next ≤ ((fsts L)[k]?.getD tk0).id) from by rw [HQ.out, HLa.out]; exact Or.inr h2))
       go_wp2_with fail
       go_ret
       exact aJ (HE.out.trans (HC.out.trans HS.out)).symm KA.out.B
      have HID := qh (show ¬ (id ≤ la ∨ next ≤ id) from by omega)
      by_cases hc : -1 ≤ addr ∧ addr ≤ 16777215
      ·have HA := qh hc
       clear hc
       rcases rgE_two rg with hc | hc
       ·have HRG := qh hc
        clear hc
        by_cases hc : 1 ≤ hits ∧ hits ≤ 1073741824
        ·have HHI := qh hc
         clear hc
         by_cases hc : 0 ≤ misses ∧ misses ≤ p.most - 1
         ·have HMI := qh hc
          clear hc
          by_cases hc : firm = decide (p.need ≤ hits)
          ·have HFI := qh hc
           clear hc
           have HOK := qh (show ¬ tkBad p ⟨id, addr, rg, lo, hi, hits, misses, firm⟩ from fun h => by
            rcases h with h | h | h | h | h
            ·exact h HA.out
            ·exact h HRG.out
            ·exact h HHI.out
            ·exact h HMI.out
            exact h HFI.out)
           have wm := HW.out
           by_cases hh : p.need ≤ hits
           ·obtain rfl : firm = true := by rw [HFI.out]; exact decide_eq_true hh
            go_wp2_with fail
            refine (fH _ _ _ _ HA.out).mono ?_; rintro e w0 ⟨rfl, rfl⟩
            go_wp2_with fail
            refine (bG rg _).mono ?_; rintro e w1 ⟨rfl, hb⟩
            rw [HRG.out]
            replace KA := qh (KA.out.keep hb)
            replace KT := qh (aN hb KT.out)
            clear hb y0 y1 y2 y3 y4 y5 y6 yl
            obtain ⟨y0, y1, y2, y3, y4, y5, y6⟩ := aK KA.out.X
            obtain ⟨z0, z1, z2, z3, z4, z5, z6, z7, z8, z9⟩ := TkAt.block' (q := (⟨id, addr, rg, lo, hi, hits, misses, _⟩, ⟨aL, nL, cL, aH, nH, cH⟩)) KT.out
            simp only [] at z0 z1 z2 z3 z4 z5 z6 z7 z8 z9
            have yl := aB KA.out.X
            have zl := aB KT.out
            go_wp2_with fail
            refine (fH _ _ _ _ HHI.out).mono ?_; rintro e w0 ⟨rfl, rfl⟩
            go_wp2_with fail
            refine (fH _ _ _ _ HMI.out).mono ?_; rintro e w0 ⟨rfl, rfl⟩
            go_wp2_with fail
            refine (Alt.pEmpty_call aL aH nL nH cL cH lo hi _ (HBd.out.L.below KA.out.B) (HBd.out.H.below KA.out.B)).mono ?_; rintro e w1 ⟨rfl, hb⟩
            replace KA := qh (KA.out.keep hb)
            clear hb y0 y1 y2 y3 y4 y5 y6 yl z0 z1 z2 z3 z4 z5 z6 z7 z8 z9 zl
            by_cases he : Alt.emE lo hi = 0
            ·by_cases hb1 : Alt.emB lo hi = true
             ·have hE : emptyE lo hi = 0 := he
              have hN : emptyB lo hi = true := hb1
              have HS := qh (b8 (p := p) (next := next) HD.out (by rw [HQ.out, HLa.out]; exact HID.out) (by rw [HQ.out, eC HOK.out hE hN]; decide))
              rw [HQ.out, eC HOK.out hE hN] at HS
              rw [he, hb1]
              clear hE hN he hb1
              go_wp2_with fail
              go_ret
              exact aJ (HE.out.trans (HC.out.trans (HLa.out ▸ HS.out))).symm KA.out.B
             have hE : emptyE lo hi = 0 := he
             have hN : emptyB lo hi = false := (Bool.not_eq_true _).mp hb1
             have HS := qh (qH (p := p) (next := next) HD.out (by rw [HQ.out, HLa.out]; exact HID.out) (by rw [HQ.out]; exact nD HOK.out hE hN))
             have hb2 : Alt.emB lo hi = false := hN
             rw [he, hb2]
             clear hE hN he hb1 hb2
             go_wp2_with fail
             go_roundw
             case rel => exact ⟨k + 1, by omega, rfl, by rw [show lastId (fsts L) (k + 1) = id from by show ((fsts L)[k]?.getD tk0).id = id; rw [HQ.out]], by go_num, HC.out.trans HS.out, KA.out⟩
             case measure => simp [intOf]; omega
            have hE : emptyE lo hi ≠ 0 := he
            have HS := qh (b8 (p := p) (next := next) HD.out (by rw [HQ.out, HLa.out]; exact HID.out) (by rw [HQ.out, eD HOK.out hE]; exact hE))
            rw [HQ.out, eD HOK.out hE] at HS
            obtain ⟨E, hEE⟩ : ∃ E, Alt.emE lo hi = E := ⟨_, rfl⟩
            have HEE := qh (show emptyE lo hi = E from hEE)
            rw [hEE] at he ⊢
            have hne : (E != 0) = true := bne_iff_ne.2 he
            clear hEE hE
            go_wp2_with fail
            go_ret
            exact aJ (HE.out.trans (HC.out.trans (HLa.out ▸ HS.out.trans HEE.out))).symm KA.out.B
           obtain rfl : firm = false := by rw [HFI.out]; exact decide_eq_false hh
           go_wp2_with fail
           refine (fH _ _ _ _ HA.out).mono ?_; rintro e w0 ⟨rfl, rfl⟩
           go_wp2_with fail
           refine (bG rg _).mono ?_; rintro e w1 ⟨rfl, hb⟩
           rw [HRG.out]
           replace KA := qh (KA.out.keep hb)
           replace KT := qh (aN hb KT.out)
           clear hb y0 y1 y2 y3 y4 y5 y6 yl
           obtain ⟨y0, y1, y2, y3, y4, y5, y6⟩ := aK KA.out.X
           obtain ⟨z0, z1, z2, z3, z4, z5, z6, z7, z8, z9⟩ := TkAt.block' (q := (⟨id, addr, rg, lo, hi, hits, misses, _⟩, ⟨aL, nL, cL, aH, nH, cH⟩)) KT.out
           simp only [] at z0 z1 z2 z3 z4 z5 z6 z7 z8 z9
           have yl := aB KA.out.X
           have zl := aB KT.out
           go_wp2_with fail
           refine (fH _ _ _ _ HHI.out).mono ?_; rintro e w0 ⟨rfl, rfl⟩
           go_wp2_with fail
           refine (fH _ _ _ _ HMI.out).mono ?_; rintro e w0 ⟨rfl, rfl⟩
           go_wp2_with fail
           refine (Alt.pEmpty_call aL aH nL nH cL cH lo hi _ (HBd.out.L.below KA.out.B) (HBd.out.H.below KA.out.B)).mono ?_; rintro e w1 ⟨rfl, hb⟩
           replace KA := qh (KA.out.keep hb)
           clear hb y0 y1 y2 y3 y4 y5 y6 yl z0 z1 z2 z3 z4 z5 z6 z7 z8 z9 zl
           by_cases he : Alt.emE lo hi = 0
           ·by_cases hb1 : Alt.emB lo hi = true
            ·have hE : emptyE lo hi = 0 := he
             have hN : emptyB lo hi = true := hb1
             have HS := qh (b8 (p := p) (next := next) HD.out (by rw [HQ.out, HLa.out]; exact HID.out) (by rw [HQ.out, eC HOK.out hE hN]; decide))
             rw [HQ.out, eC HOK.out hE hN] at HS
             rw [he, hb1]
             clear hE hN he hb1
             go_wp2_with fail
             go_ret
             exact aJ (HE.out.trans (HC.out.trans (HLa.out ▸ HS.out))).symm KA.out.B
            have hE : emptyE lo hi = 0 := he
            have hN : emptyB lo hi = false := (Bool.not_eq_true _).mp hb1
            have HS := qh (qH (p := p) (next := next) HD.out (by rw [HQ.out, HLa.out]; exact HID.out) (by rw [HQ.out]; exact nD HOK.out hE hN))
            have hb2 : Alt.emB lo hi = false := hN
            rw [he, hb2]
            clear hE hN he hb1 hb2
            go_wp2_with fail
            go_roundw
            case rel => exact ⟨k + 1, by omega, rfl, by rw [show lastId (fsts L) (k + 1) = id from by show ((fsts L)[k]?.getD tk0).id = id; rw [HQ.out]], by go_num, HC.out.trans HS.out, KA.out⟩
            case measure => simp [intOf]; omega
           have hE : emptyE lo hi ≠ 0 := he
           have HS := qh (b8 (p := p) (next := next) HD.out (by rw [HQ.out, HLa.out]; exact HID.out) (by rw [HQ.out, eD HOK.out hE]; exact hE))
           rw [HQ.out, eD HOK.out hE] at HS
           obtain ⟨E, hEE⟩ : ∃ E, Alt.emE lo hi = E := ⟨_, rfl⟩
           have HEE := qh (show emptyE lo hi = E from hEE)
           rw [hEE] at he ⊢
           have hne : (E != 0) = true := bne_iff_ne.2 he
           clear hEE hE
           go_wp2_with fail
           go_ret
           exact aJ (HE.out.trans (HC.out.trans (HLa.out ▸ HS.out.trans HEE.out))).symm KA.out.B
          have HFI := qh hc
          clear hc
          have HS := qh (b8 (p := p) (next := next) HD.out (by rw [HQ.out, HLa.out]; exact HID.out) (by rw [HQ.out, bP (show tkBad p _ from Or.inr (Or.inr (Or.inr (Or.inr HFI.out))))]; decide))
          rw [HQ.out, bP (show tkBad p _ from Or.inr (Or.inr (Or.inr (Or.inr HFI.out))))] at HS
          have wm := HW.out
          by_cases hh : p.need ≤ hits
          ·obtain rfl : firm = false := by
            cases firm
            ·rfl
            exact absurd (decide_eq_true hh).symm HFI.out
           go_wp2_with fail
           refine (fH _ _ _ _ HA.out).mono ?_; rintro e w0 ⟨rfl, rfl⟩
           go_wp2_with fail
           refine (bG rg _).mono ?_; rintro e w1 ⟨rfl, hb⟩
           rw [HRG.out]
           replace KA := qh (KA.out.keep hb)
           replace KT := qh (aN hb KT.out)
           clear hb y0 y1 y2 y3 y4 y5 y6 yl
           obtain ⟨y0, y1, y2, y3, y4, y5, y6⟩ := aK KA.out.X
           obtain ⟨z0, z1, z2, z3, z4, z5, z6, z7, z8, z9⟩ := TkAt.block' (q := (⟨id, addr, rg, lo, hi, hits, misses, _⟩, ⟨aL, nL, cL, aH, nH, cH⟩)) KT.out
           simp only [] at z0 z1 z2 z3 z4 z5 z6 z7 z8 z9
           have yl := aB KA.out.X
           have zl := aB KT.out
           go_wp2_with fail
           refine (fH _ _ _ _ HHI.out).mono ?_; rintro e w0 ⟨rfl, rfl⟩
           go_wp2_with fail
           refine (fH _ _ _ _ HMI.out).mono ?_; rintro e w0 ⟨rfl, rfl⟩
           go_wp2_with fail
           go_ret
           exact aJ (HE.out.trans (HC.out.trans (HLa.out ▸ HS.out))).symm KA.out.B
          obtain rfl : firm = true := by
           cases firm
           ·exact absurd (decide_eq_false hh).symm HFI.out
           rfl
          have hd2 : (!decide (p.need ≤ hits)) = true := by rw [decide_eq_false hh]; rfl
          go_wp2_with fail
          refine (fH _ _ _ _ HA.out).mono ?_; rintro e w0 ⟨rfl, rfl⟩
          go_wp2_with fail
          refine (bG rg _).mono ?_; rintro e w1 ⟨rfl, hb⟩
          rw [HRG.out]
          replace KA := qh (KA.out.keep hb)
          replace KT := qh (aN hb KT.out)
          clear hb y0 y1 y2 y3 y4 y5 y6 yl
          obtain ⟨y0, y1, y2, y3, y4, y5, y6⟩ := aK KA.out.X
          obtain ⟨z0, z1, z2, z3, z4, z5, z6, z7, z8, z9⟩ := TkAt.block' (q := (⟨id, addr, rg, lo, hi, hits, misses, _⟩, ⟨aL, nL, cL, aH, nH, cH⟩)) KT.out
          simp only [] at z0 z1 z2 z3 z4 z5 z6 z7 z8 z9
          have yl := aB KA.out.X
          have zl := aB KT.out
          go_wp2_with fail
          refine (fH _ _ _ _ HHI.out).mono ?_; rintro e w0 ⟨rfl, rfl⟩
          go_wp2_with fail
          refine (fH _ _ _ _ HMI.out).mono ?_; rintro e w0 ⟨rfl, rfl⟩
          go_wp2_with fail
          go_ret
          exact aJ (HE.out.trans (HC.out.trans (HLa.out ▸ HS.out))).symm KA.out.B
         have HMI := qh hc
         clear hc
         have HS := qh (b8 (p := p) (next := next) HD.out (by rw [HQ.out, HLa.out]; exact HID.out) (by rw [HQ.out, bP (show tkBad p _ from Or.inr (Or.inr (Or.inr (Or.inl HMI.out))))]; decide))
         rw [HQ.out, bP (show tkBad p _ from Or.inr (Or.inr (Or.inr (Or.inl HMI.out))))] at HS
         have wm := HW.out
         go_wp2_with fail
         refine (fH _ _ _ _ HA.out).mono ?_; rintro e w0 ⟨rfl, rfl⟩
         go_wp2_with fail
         refine (bG rg _).mono ?_; rintro e w1 ⟨rfl, hb⟩
         rw [HRG.out]
         replace KA := qh (KA.out.keep hb)
         replace KT := qh (aN hb KT.out)
         clear hb y0 y1 y2 y3 y4 y5 y6 yl
         obtain ⟨y0, y1, y2, y3, y4, y5, y6⟩ := aK KA.out.X
         obtain ⟨z0, z1, z2, z3, z4, z5, z6, z7, z8, z9⟩ := TkAt.block' (q := (⟨id, addr, rg, lo, hi, hits, misses, _⟩, ⟨aL, nL, cL, aH, nH, cH⟩)) KT.out
         simp only [] at z0 z1 z2 z3 z4 z5 z6 z7 z8 z9
         have yl := aB KA.out.X
         have zl := aB KT.out
         go_wp2_with fail
         refine (fH _ _ _ _ HHI.out).mono ?_; rintro e w0 ⟨rfl, rfl⟩
         go_wp2_with fail
         refine (in_f _ _ _ _ HMI.out).mono ?_; rintro e w0 ⟨rfl, rfl⟩
         go_wp2_with fail
         go_ret
         exact aJ (HE.out.trans (HC.out.trans (HLa.out ▸ HS.out))).symm KA.out.B
        have HHI := qh hc
        clear hc
        have HS := qh (b8 (p := p) (next := next) HD.out (by rw [HQ.out, HLa.out]; exact HID.out) (by rw [HQ.out, bP (show tkBad p _ from Or.inr (Or.inr (Or.inl HHI.out)))]; decide))
        rw [HQ.out, bP (show tkBad p _ from Or.inr (Or.inr (Or.inl HHI.out)))] at HS
        go_wp2_with fail
        refine (fH _ _ _ _ HA.out).mono ?_; rintro e w0 ⟨rfl, rfl⟩
        go_wp2_with fail
        refine (bG rg _).mono ?_; rintro e w1 ⟨rfl, hb⟩
        rw [HRG.out]
        replace KA := qh (KA.out.keep hb)
        replace KT := qh (aN hb KT.out)
        clear hb y0 y1 y2 y3 y4 y5 y6 yl
        obtain ⟨y0, y1, y2, y3, y4, y5, y6⟩ := aK KA.out.X
        obtain ⟨z0, z1, z2, z3, z4, z5, z6, z7, z8, z9⟩ := TkAt.block' (q := (⟨id, addr, rg, lo, hi, hits, misses, _⟩, ⟨aL, nL, cL, aH, nH, cH⟩)) KT.out
        simp only [] at z0 z1 z2 z3 z4 z5 z6 z7 z8 z9
        have yl := aB KA.out.X
        have zl := aB KT.out
        go_wp2_with fail
        refine (in_f _ _ _ _ HHI.out).mono ?_; rintro e w0 ⟨rfl, rfl⟩
        go_wp2_with fail
        go_ret
        exact aJ (HE.out.trans (HC.out.trans (HLa.out ▸ HS.out))).symm KA.out.B
       have HRG := qh hc
       clear hc
       have HS := qh (b8 (p := p) (next := next) HD.out (by rw [HQ.out, HLa.out]; exact HID.out) (by rw [HQ.out, bP (show tkBad p _ from Or.inr (Or.inl (by rw [HRG.out]; decide)))]; decide))
       rw [HQ.out, bP (show tkBad p _ from Or.inr (Or.inl (by rw [HRG.out]; decide)))] at HS
       go_wp2_with fail
       refine (fH _ _ _ _ HA.out).mono ?_; rintro e w0 ⟨rfl, rfl⟩
       go_wp2_with fail
       refine (bG rg _).mono ?_; rintro e w1 ⟨rfl, hb⟩
       rw [HRG.out]
       replace KA := qh (KA.out.keep hb)
       replace KT := qh (aN hb KT.out)
       clear hb y0 y1 y2 y3 y4 y5 y6 yl
       obtain ⟨y0, y1, y2, y3, y4, y5, y6⟩ := aK KA.out.X
       obtain ⟨z0, z1, z2, z3, z4, z5, z6, z7, z8, z9⟩ := TkAt.block' (q := (⟨id, addr, rg, lo, hi, hits, misses, _⟩, ⟨aL, nL, cL, aH, nH, cH⟩)) KT.out
       simp only [] at z0 z1 z2 z3 z4 z5 z6 z7 z8 z9
       have yl := aB KA.out.X
       have zl := aB KT.out
       go_wp2_with fail
       go_ret
       exact aJ (HE.out.trans (HC.out.trans (HLa.out ▸ HS.out))).symm KA.out.B
      have HA := qh hc
      clear hc
      have HS := qh (b8 (p := p) (next := next) HD.out (by rw [HQ.out, HLa.out]; exact HID.out) (by rw [HQ.out, bP (show tkBad p _ from Or.inl HA.out)]; decide))
      rw [HQ.out, bP (show tkBad p _ from Or.inl HA.out)] at HS
      go_wp2_with fail
      refine (in_f _ _ _ _ HA.out).mono ?_; rintro e w0 ⟨rfl, rfl⟩
      go_wp2_with fail
      go_ret
      exact aJ (HE.out.trans (HC.out.trans (HLa.out ▸ HS.out))).symm KA.out.B
     obtain rfl : n = k := by omega
     have HF := qh (show ckL p next (-1) (fsts L) = 0 from by rw [HC.out, ← HL.out]; exact ckL_end _ _ _)
     go_wp2_with fail
     go_ret
     exact aJ (HE.out.trans HF.out).symm K.out.B
   have HX := qh hx
   have HE := qh (eE (L := fsts L) (show headBad p now next from Or.inr (Or.inr hx)))
   clear hx
   go_enter Tryz.func11, Tryz.ntmps11
   go_wp2_with fail
   refine (fA p _).mono ?_; rintro e w1 ⟨rfl, hb⟩
   rw [HP.out]
   replace K := qh (K.out.keep hb)
   obtain ⟨y0, y1, y2, y3, y4, y5, y6⟩ := aK K.out.X
   have yl := aB K.out.X
   clear hb
   go_wp2_with fail
   refine (fH _ _ _ _ HN.out).mono ?_; rintro e w0 ⟨rfl, rfl⟩
   go_wp2_with fail
   refine (in_f _ _ _ _ HX.out).mono ?_; rintro e w0 ⟨rfl, rfl⟩
   go_wp2_with fail
   go_ret
   exact aJ (HE.out).symm K.out.B
  have HN := qh hn
  have HE := qh (eE (L := fsts L) (show headBad p now next from Or.inr (Or.inl hn)))
  clear hn
  go_enter Tryz.func11, Tryz.ntmps11
  go_wp2_with fail
  refine (fA p _).mono ?_; rintro e w1 ⟨rfl, hb⟩
  rw [HP.out]
  replace K := qh (K.out.keep hb)
  obtain ⟨y0, y1, y2, y3, y4, y5, y6⟩ := aK K.out.X
  have yl := aB K.out.X
  clear hb
  go_wp2_with fail
  refine (in_f _ _ _ _ HN.out).mono ?_; rintro e w0 ⟨rfl, rfl⟩
  go_wp2_with fail
  go_ret
  exact aJ (HE.out).symm K.out.B
 have HP := qh hP
 clear hP
 have HE := qh (eE (L := fsts L) (show headBad p now next from Or.inl (by rw [HP.out]; decide)))
 go_enter Tryz.func11, Tryz.ntmps11
 go_wp2_with fail
 refine (fA p _).mono ?_; rintro e w1 ⟨rfl, hb⟩
 rw [HP.out]
 replace K := qh (K.out.keep hb)
 obtain ⟨y0, y1, y2, y3, y4, y5, y6⟩ := aK K.out.X
 have yl := aB K.out.X
 clear hb
 go_wp2_with fail
 go_ret
 exact aJ (HE.out).symm K.out.B
end Go.Proofs.YtikjjpjekchcjaaGreat
end
section
namespace AsgMath
def setT (T : Nat → Bool) (k : Nat) : Nat → Bool := fun j => if j = k then true else T j
def upd {α : Type} (f : Nat → α) (k : Nat) (x : α) : Nat → α := fun j => if j = k then x else f j
theorem bO {α : Type} {f : Nat → α} {k : Nat} {x : α} : upd f k x k = x := if_pos rfl
theorem bD {α : Type} {f : Nat → α} {k j : Nat} {x : α} (h : j ≠ k) : upd f k x j = f j := if_neg h
def sumN (f : Nat → Int) : Nat → Int
 | 0 => 0
 | k + 1 => sumN f k + f k
theorem kC {f g : Nat → Int} : ∀ {m : Nat}, (∀ j, j < m → f j ≤ g j) → sumN f m ≤ sumN g m
 | 0, _ => Int.le_refl _
 | m + 1, h => by
  have h1 := kC (f := f) (g := g) (m := m) (fun j hj => h j (by omega))
  have h2 := h m (by omega)
  simp only [sumN]
  omega
theorem eG {f g : Nat → Int} : ∀ {m : Nat}, (∀ j, j < m → f j = g j) → sumN f m = sumN g m
 | 0, _ => rfl
 | m + 1, h => by
  simp only [sumN]
  rw [eG (m := m) (fun j hj => h j (by omega)), h m (by omega)]
theorem kG {f g : Nat → Int} {x : Int} : ∀ {m k : Nat}, (∀ j, j < m → f j ≤ g j) → k < m → f k + x ≤ g k → sumN f m + x ≤ sumN g m
 | 0, k, _, hk, _ => by omega
 | m + 1, k, h, hk, hx => by
  simp only [sumN]
  by_cases e : k = m
  ·subst e
   have := kC (f := f) (g := g) (m := k) (fun j hj => h j (by omega))
   omega
  have := kG (m := m) (k := k) (fun j hj => h j (by omega)) (by omega) hx
  have := h m (by omega)
  omega
theorem qO {f g : Nat → Int} : ∀ {m : Nat}, sumN (fun j => f j + g j) m = sumN f m + sumN g m
 | 0 => rfl
 | m + 1 => by
  simp only [sumN]
  rw [qO (m := m)]
  omega
theorem kF {f : Nat → Int} {m : Nat} (h : ∀ j, j < m → f j = 0) : sumN f m = 0 := by
 rw [eG h]
 clear h
 induction m with
 | zero => rfl
 | succ m ih => simp only [sumN]; rw [ih]; rfl
theorem fN {f : Nat → Int} {m : Nat} (h : ∀ j, j < m → 0 ≤ f j) : 0 ≤ sumN f m := by
 have := kC (f := fun _ => 0) (g := f) h
 rw [kF (fun _ _ => rfl)] at this
 exact this
theorem iO {f g : Nat → Int} : ∀ {m k : Nat}, k < m → (∀ j, j < m → j ≠ k → f j = g j) → sumN g m = sumN f m - f k + g k
 | 0, k, hk, _ => by omega
 | m + 1, k, hk, h => by
  simp only [sumN]
  by_cases e : k = m
  ·subst e
   rw [eG (f := g) (g := f) (m := k) (fun j hj => (h j (by omega) (by omega)).symm)]
   omega
  rw [iO (m := m) (k := k) (by omega) (fun j hj hne => h j (by omega) hne), h m (by omega) (by omega)]
  omega
def bestK (f : Nat → Int) (p : Nat → Bool) (x : Int) : Nat → Int
 | 0 => x
 | k + 1 => if p k = true then max (bestK f p x k) (f k) else bestK f p x k
theorem jB {f : Nat → Int} {p : Nat → Bool} {x : Int} : ∀ {m : Nat}, x ≤ bestK f p x m
 | 0 => Int.le_refl _
 | m + 1 => by
  have := jB (f := f) (p := p) (x := x) (m := m)
  simp only [bestK]
  split <;> omega
theorem bestK_ge {f : Nat → Int} {p : Nat → Bool} {x : Int} : ∀ {m k : Nat}, k < m → p k = true → f k ≤ bestK f p x m
 | 0, k, hk, _ => by omega
 | m + 1, k, hk, hp => by
  simp only [bestK]
  by_cases e : k = m
  ·subst e
   rw [if_pos hp]
   omega
  have := bestK_ge (f := f) (p := p) (x := x) (m := m) (k := k) (by omega) hp
  split <;> omega
theorem iF {f : Nat → Int} {p : Nat → Bool} {x : Int} : ∀ {m : Nat}, bestK f p x m = x ∨ ∃ k, k < m ∧ p k = true ∧ bestK f p x m = f k
 | 0 => Or.inl rfl
 | m + 1 => by
  have ih := iF (f := f) (p := p) (x := x) (m := m)
  have up : (bestK f p x m = x ∨ ∃ k, k < m ∧ p k = true ∧ bestK f p x m = f k) → (bestK f p x m = x ∨ ∃ k, k < m + 1 ∧ p k = true ∧ bestK f p x m = f k) := fun h => h.imp id (fun ⟨k, h1, h2, h3⟩ => ⟨k, by omega, h2, h3⟩)
  simp only [bestK]
  by_cases hp : p m = true
  ·rw [if_pos hp]
   rcases Int.le_total (bestK f p x m) (f m) with hl | hl
   ·rw [Int.max_eq_right hl]
    exact Or.inr ⟨m, by omega, hp, rfl⟩
   rw [Int.max_eq_left hl]
   exact up ih
  rw [if_neg hp]
  exact up ih
theorem bestK_le {f : Nat → Int} {p : Nat → Bool} {x B : Int} {m : Nat} (h0 : x ≤ B) (h : ∀ k, k < m → p k = true → f k ≤ B) : bestK f p x m ≤ B := by
 rcases iF (f := f) (p := p) (x := x) (m := m) with e | ⟨k, hk, hp, e⟩
 ·omega
 rw [e]; exact h k hk hp
def okB (c : Nat → Nat → Int) (T : Nat → Bool) (i k : Nat) : Bool := decide (0 ≤ c i k) && !T k
theorem fV {c : Nat → Nat → Int} {T : Nat → Bool} {i k : Nat} : okB c T i k = true ↔ 0 ≤ c i k ∧ T k = false := by unfold okB; simp
def V (c : Nat → Nat → Int) (n m : Nat) : Nat → (Nat → Bool) → Int
 | 0, _ => 0
 | r + 1, T => bestK (fun k => 1073741824 - c (n - (r + 1)) k + V c n m r (setT T k)) (okB c T (n - (r + 1))) (V c n m r T) m
theorem mW {c : Nat → Nat → Int} {n m : Nat} : ∀ (r : Nat) (T : Nat → Bool), 0 ≤ V c n m r T
 | 0, _ => Int.le_refl _
 | r + 1, T => Int.le_trans (mW r T) (by simp only [V]; exact jB)
theorem V_le {c : Nat → Nat → Int} {n m : Nat} {y z : Nat → Int} (hy : ∀ i, 0 ≤ y i) (hz : ∀ k, 0 ≤ z k) : ∀ (r : Nat) (T : Nat → Bool), r ≤ n →
    (∀ i k, n - r ≤ i → i < n → k < m → 0 ≤ c i k → T k = false → 1073741824 - c i k ≤ y i + z k) →
    V c n m r T ≤ sumN (fun j => y (n - 1 - j)) r + sumN (fun k => if T k then 0 else z k) m
 | 0, T, _, _ => by
  have := fN (f := fun k => if T k then 0 else z k) (m := m) (fun j _ => by
   have := hz j
   split <;> omega)
  simp only [V, sumN]
  omega
 | r + 1, T, hr, h => by
  have ih := fun T h' => V_le (c := c) (n := n) (m := m) hy hz r T (by omega) h'
  simp only [V]
  refine bestK_le ?_ (fun k hk hp => ?_)
  ·have h1 := ih T (fun i k a b d e f => h i k (by omega) b d e f)
   have h2 := hy (n - 1 - r)
   simp only [sumN]
   omega
  obtain ⟨hp0, hp1⟩ := fV.1 hp
  have h1 := ih (setT T k) (fun i j a b d e f => h i j (by omega) b d e (by
   unfold setT at f
   by_cases hj : j = k
   ·rw [if_pos hj] at f; exact absurd f (by decide)
   rw [if_neg hj] at f; exact f))
  have h2 := h (n - (r + 1)) k (by omega) (by omega) hk hp0 hp1
  have h3 := iO (f := fun k => if T k then 0 else z k) (g := fun j => if setT T k j then 0 else z j) (m := m) (k := k) hk (fun j _ hne => by
   have : setT T k j = T j := if_neg hne
   rw [this])
  have e1 : (if T k = true then (0 : Int) else z k) = z k := if_neg (by rw [hp1]; decide)
  have e2 : (if setT T k k = true then (0 : Int) else z k) = 0 := if_pos (by unfold setT; rw [if_pos rfl])
  simp only [e1, e2] at h3
  have e3 : n - 1 - r = n - (r + 1) := by omega
  simp only [sumN, e3]
  omega
def val (c : Nat → Nat → Int) (m : Nat) (row : Nat → Int) : Int := sumN (fun k => if row k < 0 then 0 else 1073741824 - c (row k).toNat k) m
structure Mat (c : Nat → Nat → Int) (n m fr : Nat) (T : Nat → Bool) (row : Nat → Int) : Prop where
 rng : ∀ k, k < m → row k = -1 ∨ ∃ i : Nat, row k = (i : Int) ∧ fr ≤ i ∧ i < n ∧ T k = false ∧ 0 ≤ c i k
 inj : ∀ j k, j < m → k < m → row j = row k → 0 ≤ row j → j = k
theorem V_ge {c : Nat → Nat → Int} {n m : Nat} : ∀ (r : Nat) (T : Nat → Bool) (row : Nat → Int), r ≤ n → Mat c n m (n - r) T row → val c m row ≤ V c n m r T
 | 0, T, row, _, h => by
  have : val c m row = 0 := kF (fun j hj => by
   rcases h.rng j hj with e | ⟨i, e, h1, h2, -⟩
   ·rw [if_pos (by omega)]
   omega)
  simp only [V]
  omega
 | r + 1, T, row, hr, h => by
  by_cases hex : ∃ k, k < m ∧ row k = ((n - (r + 1) : Nat) : Int)
  ·obtain ⟨k, hk, e⟩ := hex
   rcases h.rng k hk with e' | ⟨i, e', h1, h2, h3, h4⟩
   ·omega
   have hi : i = n - (r + 1) := by omega
   subst hi
   have ih := V_ge (c := c) (n := n) (m := m) r (setT T k) (upd row k (-1)) (by omega) ⟨fun j hj => by
    by_cases hne : j = k
    ·subst hne; exact Or.inl bO
    ·rw [bD hne]
     rcases h.rng j hj with q | ⟨i, q, h1, h2, h3, h4⟩
     ·exact Or.inl q
     refine Or.inr ⟨i, q, ?_, h2, by unfold setT; rw [if_neg hne]; exact h3, h4⟩
     have : i ≠ n - (r + 1) := fun ei => hne (h.inj j k hj hk (by rw [q, e', ei]) (by omega))
     omega, fun j j' hj hj' q q0 => by
    by_cases a : j = k
    ·subst a; rw [bO] at q0; omega
    by_cases b : j' = k
    ·subst b; rw [bO] at q; omega
    rw [bD a, bD b] at q
    rw [bD a] at q0
    exact h.inj j j' hj hj' q q0⟩
   have h5 := iO (f := fun j => if row j < 0 then 0 else 1073741824 - c (row j).toNat j) (g := fun j => if upd row k (-1) j < 0 then 0 else 1073741824 - c (upd row k (-1) j).toNat j) (m := m) (k := k) hk (fun j _ hne => by simp only [bD hne])
   have e1 : (if row k < 0 then (0 : Int) else 1073741824 - c (row k).toNat k) = 1073741824 - c (n - (r + 1)) k := by
    rw [if_neg (by omega), e]; rfl
   have e2 : (if upd row k (-1) k < 0 then (0 : Int) else 1073741824 - c (upd row k (-1) k).toNat k) = 0 := if_pos (by rw [bO]; omega)
   simp only [e1, e2] at h5
   have h6 := bestK_ge (f := fun k => 1073741824 - c (n - (r + 1)) k + V c n m r (setT T k)) (p := okB c T (n - (r + 1))) (x := V c n m r T) (m := m) (k := k) hk (fV.2 ⟨h4, h3⟩)
   simp only [V]
   unfold val at ih ⊢
   omega
  have ih := V_ge (c := c) (n := n) (m := m) r T row (by omega) ⟨fun k hk => by
   rcases h.rng k hk with q | ⟨i, q, h1, h2, h3⟩
   ·exact Or.inl q
   refine Or.inr ⟨i, q, ?_, h2, h3⟩
   have : i ≠ n - (r + 1) := fun ei => hex ⟨k, hk, by rw [q, ei]⟩
   omega, h.inj⟩
  have h6 := jB (f := fun k => 1073741824 - c (n - (r + 1)) k + V c n m r (setT T k)) (p := okB c T (n - (r + 1))) (x := V c n m r T) (m := m)
  simp only [V]
  omega
theorem qR {n m : Nat} {y : Nat → Int} {row : Nat → Int} (hy : ∀ i, 0 ≤ y i) : ∀ (r : Nat), r ≤ n → (∀ i, n - r ≤ i → i < n → y i = 0 ∨ ∃ k, k < m ∧ row k = (i : Int)) →
    sumN (fun j => y (n - 1 - j)) r ≤ sumN (fun k => if row k < ((n - r : Nat) : Int) then 0 else y (row k).toNat) m
 | 0, _, _ => fN (fun j _ => by
  have := hy (row j).toNat
  split <;> omega)
 | r + 1, hr, h => by
  have ih := qR (n := n) (m := m) (row := row) hy r (by omega) (fun i a b => h i (by omega) b)
  have mono : ∀ j, j < m → (if row j < ((n - r : Nat) : Int) then 0 else y (row j).toNat) ≤ (if row j < ((n - (r + 1) : Nat) : Int) then 0 else y (row j).toNat) := fun j _ => by
   have := hy (row j).toNat
   split <;> split <;> omega
  have e3 : n - 1 - r = n - (r + 1) := by omega
  simp only [sumN, e3]
  rcases h (n - (r + 1)) (by omega) (by omega) with h0 | ⟨k, hk, e⟩
  ·have := kC (m := m) mono
   omega
  have := kG (x := y (n - (r + 1))) (m := m) mono hk (by
   rw [if_pos (by omega), if_neg (by omega), e]
   simp)
  omega
theorem V_eq {c : Nat → Nat → Int} {n m r : Nat} {T : Nat → Bool} {row y z : Nat → Int} (hr : r ≤ n) (hM : Mat c n m (n - r) T row) (hy : ∀ i, 0 ≤ y i) (hz : ∀ k, 0 ≤ z k)
    (hf : ∀ i k, n - r ≤ i → i < n → k < m → 0 ≤ c i k → T k = false → 1073741824 - c i k ≤ y i + z k)
    (ht : ∀ (i k : Nat), k < m → row k = (i : Int) → 1073741824 - c i k = y i + z k)
    (hy0 : ∀ i, n - r ≤ i → i < n → y i = 0 ∨ ∃ k, k < m ∧ row k = (i : Int))
    (hz0 : ∀ k, k < m → row k < 0 → T k = false → z k = 0) : val c m row = V c n m r T := by
 refine Int.le_antisymm (V_ge r T row hr hM) ?_
 have h1 := V_le hy hz r T hr hf
 have h2 := qR hy r hr hy0
 have h3 : val c m row = sumN (fun k => if row k < ((n - r : Nat) : Int) then 0 else y (row k).toNat) m + sumN (fun k => if T k then 0 else z k) m := by
  rw [← qO]
  refine eG (fun k hk => ?_)
  rcases hM.rng k hk with e | ⟨i, e, q1, q2, q3, q4⟩
  ·rw [if_pos (by omega), if_pos (by omega)]
   cases hT : T k with
   | true => rfl
   | false => rw [if_neg (by decide), hz0 k hk (by omega) hT]; rfl
  rw [if_neg (by omega), if_neg (by omega), if_neg (by rw [q3]; decide), e]
  exact ht i k hk e
 omega
end AsgMath
end
