/-
  TrkG
-/
import Derived.Test.YtikjjpjekchcjaaPr12
import Derived.Test.YtikjjpjekchcjaaPr1
set_option linter.all false
set_option maxRecDepth 100000
set_option maxHeartbeats 64000000
namespace Go.Proofs.Ytikjjpjekchcjaa
open Go.RowKit TrkMath MyHeap MyOwn
def fsts (L : List TB) : List Tk := L.map fun q => q.1
theorem fsts_len (L : List TB) : (fsts L).length = L.length := by simp [fsts]
theorem fsts_get (L : List TB) (k : Nat) : (fsts L)[k]?.getD tk0 = (gt L k).1 := by
 unfold fsts gt
 rw [List.getElem?_map]
 cases L[k]? <;> rfl
structure CkK (w : World) (p : Par) (now next : Int) (tV : Value) (W : World) : Prop where
 B : Below w.heap.size w W
 X : W.heap[w.heap.size]? = some (.cells #[.int .i64 p.gate, .int .i64 p.need, .int .i64 p.most, .int .i64 p.pull, .int .i64 now, .int .i64 next, tV] 26 (0, 0))
theorem CkK.keep {w W W' : World} {p : Par} {now next : Int} {tV : Value} (h : CkK w p now next tV W) (hb : Below W.heap.size W W') : CkK w p now next tV W' := ⟨h.B.trans (hb.mono h.B.size), keepO hb h.X⟩
theorem CkK.new (w : World) (p : Par) (now next : Int) (tV : Value) : CkK w p now next tV (w.alloc (.cells #[.int .i64 p.gate, .int .i64 p.need, .int .i64 p.most, .int .i64 p.pull, .int .i64 now, .int .i64 next, tV] 26)) := ⟨below_alloc _ _, block_new _ _ rfl⟩
theorem TkAt.block' {w : World} {b : Nat} {q : TB} {T : TypeId} {fr : Nat × Nat} (h : w.heap[b]? = some (.cells (tkC q) T fr)) :
    w.cell? ⟨b, 0, none⟩ = some (.int .i64 q.1.id) ∧ w.cell? ⟨b, 1, none⟩ = some (.int .i64 q.1.addr) ∧ w.cell? ⟨b, 2, none⟩ = some (.int .i64 q.1.rg.r) ∧ w.cell? ⟨b, 3, none⟩ = some (.int .i64 q.1.rg.v) ∧ w.cell? ⟨b, 4, none⟩ = some (.int .i64 q.1.rg.n) ∧ w.cell? ⟨b, 5, none⟩ = some (.slice q.2.aL q.2.nL q.2.cL) ∧ w.cell? ⟨b, 6, none⟩ = some (.slice q.2.aH q.2.nH q.2.cH) ∧ w.cell? ⟨b, 7, none⟩ = some (.int .i64 q.1.hits) ∧ w.cell? ⟨b, 8, none⟩ = some (.int .i64 q.1.misses) ∧ w.cell? ⟨b, 9, none⟩ = some (.bool q.1.firm) :=
 ⟨cell_of_block h rfl, cell_of_block h rfl, cell_of_block h rfl, cell_of_block h rfl, cell_of_block h rfl, cell_of_block h rfl, cell_of_block h rfl, cell_of_block h rfl, cell_of_block h rfl, cell_of_block h rfl⟩
def CkAt (p : Par) (next : Int) (L : List Tk) (k : Nat) : Prop := ckL p next (-1) L = ckL p next (lastId L k) (L.drop k)
theorem pCheckT_call (p : Par) (now next : Int) (a : Option Addr) (n c : Nat) (L : List TB) (w : World) (hT : Trs w a n L) (hB : ∀ k, k < n → BdI w (gt L k)) :
    Calls Try.prog 10 #[tbV p now next (.slice a n c)] w (NPost (ckE p now next (fsts L)) w) := by
 have HT := qh hT
 have HI := qh hB
 have hl : L.length = n := hT.len
 have hbn := hT.bound
 have K := qh (CkK.new w p now next (.slice a n c))
 clear hT hB
 unfold tbV
 rcases parE_two p with hP | hP
 ·have HP := qh hP
  clear hP
  by_cases hn : 0 ≤ now ∧ now ≤ 1073741824
  ·have HN := qh hn
   clear hn
   by_cases hx : 0 ≤ next ∧ next ≤ 1073741824
   ·have HX := qh hx
    clear hx
    have HH := qh (show ¬ headBad p now next from fun h => by
     rcases h with h | h | h
     ·exact h HP.out
     ·exact h HN.out
     exact h HX.out)
    by_cases h16 : 16 < n
    ·have HE := qh (ckE_long (L := fsts L) HH.out (by rw [fsts_len, hl]; exact h16))
     have hg : (16 : Int) < (n : Int) := by omega
     go_enter Try.func10, Try.ntmps10
     go_wp2_with fail
     refine (pchk_call p _).mono ?_; rintro e w1 ⟨rfl, hb⟩
     rw [HP.out]
     replace K := qh (K.out.keep hb)
     obtain ⟨y0, y1, y2, y3, y4, y5, y6⟩ := seven_new K.out.X
     have yl := lt_of_block K.out.X
     clear hb
     go_wp2_with fail
     refine (in_t _ _ _ _ HN.out).mono ?_; rintro e w0 ⟨rfl, rfl⟩
     go_wp2_with fail
     refine (in_t _ _ _ _ HX.out).mono ?_; rintro e w0 ⟨rfl, rfl⟩
     go_wp2_with fail
     go_ret
     exact nPost_of (HE.out).symm K.out.B
    have HE := qh (ckE_list (L := fsts L) HH.out (by rw [fsts_len, hl]; exact h16))
    have hg : ¬ (16 : Int) < (n : Int) := by omega
    have HL := qh (show (fsts L).length = n from by rw [fsts_len]; exact hl)
    clear hl
    go_enter Try.func10, Try.ntmps10
    go_wp2_with fail
    refine (pchk_call p _).mono ?_; rintro e w1 ⟨rfl, hb⟩
    rw [HP.out]
    replace K := qh (K.out.keep hb)
    obtain ⟨y0, y1, y2, y3, y4, y5, y6⟩ := seven_new K.out.X
    have yl := lt_of_block K.out.X
    clear hb
    go_wp2_with fail
    refine (in_t _ _ _ _ HN.out).mono ?_; rintro e w0 ⟨rfl, rfl⟩
    go_wp2_with fail
    refine (in_t _ _ _ _ HX.out).mono ?_; rintro e w0 ⟨rfl, rfl⟩
    go_wp2_with fail
    clear y0 y1 y2 y3 y4 y5 y6 yl
    go_loopw [2, 3, 31] (fun rv lv kv wr => ∃ k : Nat, k ≤ n ∧ rv = .int .i64 0 ∧ lv = .int .i64 (lastId (fsts L) k) ∧ kv = .int .i64 k ∧ CkAt p next (fsts L) k ∧ CkK w p now next (.slice a n c) wr) (fun _ _ kv _ => n - (intOf kv).toNat)
    case atStart => exact ⟨0, by omega, rfl, rfl, rfl, rfl, K.out⟩
    case round =>
     clear K
     obtain ⟨k, hk, rfl, rfl, rfl, hC, hK⟩ := hrel
     have K := qh hK
     have HC := qh hC
     clear hC hK
     by_cases hlt : k < n
     ·obtain ⟨b, off, rfl, hq⟩ := trs_at (HT.out.below K.out.B) hlt
      have HQ := qh (fsts_get L k)
      have HBd := qh (HI.out k hlt)
      obtain ⟨q, hqe⟩ : ∃ q, gt L k = q := ⟨_, rfl⟩
      rw [hqe] at hq HQ HBd
      have HD := qh (show k < (fsts L).length from by rw [HL.out]; exact hlt)
      obtain ⟨la, hla⟩ : ∃ la, lastId (fsts L) k = la := ⟨_, rfl⟩
      have HLa := qh hla
      rw [hla]
      have HW := qh (show IntKind.i64.wrap (p.most - 1) = p.most - 1 from by have := (parE_zero HP.out).2.2.1; exact IntWalk.i64_in _ (by omega))
      obtain ⟨x0, x1, x2, x3, x4, x5, x6, x7, x8, x9⟩ := hq
      have xl := World.block_lt_of_cell? _ _ x0
      obtain ⟨y0, y1, y2, y3, y4, y5, y6⟩ := seven_new K.out.X
      have yl := lt_of_block K.out.X
      have hk0 : (0 : Int) ≤ (k : Int) := by omega
      have hk1 : (k : Int) < (n : Int) := by omega
      have KA := qh (K.out.keep (below_alloc wr (.cells (tkC q) 46)))
      have KT := qh (block_new wr (.cells (tkC q) 46 (0, 0)) rfl)
      clear hqe hla
      unfold tkC at KT KA
      obtain ⟨⟨id, addr, rg, lo, hi, hits, misses, firm⟩, ⟨aL, nL, cL, aH, nH, cH⟩⟩ := q
      simp only [] at x0 x1 x2 x3 x4 x5 x6 x7 x8 x9 KT KA
      by_cases h1 : id ≤ la
      ·have HS := qh (ckL_state (p := p) HD.out (show (((fsts L)[k]?.getD tk0).id ≤ lastId (fsts L) k ∨ next ≤ ((fsts L)[k]?.getD tk0).id) from by rw [HQ.out, HLa.out]; exact Or.inl h1))
       go_wp2_with fail
       go_ret
       exact nPost_of (HE.out.trans (HC.out.trans HS.out)).symm KA.out.B
      by_cases h2 : next ≤ id
      ·have HS := qh (ckL_state (p := p) HD.out (show (((fsts L)[k]?.getD tk0).id ≤ lastId (fsts L) k ∨ next ≤ ((fsts L)[k]?.getD tk0).id) from by rw [HQ.out, HLa.out]; exact Or.inr h2))
       go_wp2_with fail
       go_ret
       exact nPost_of (HE.out.trans (HC.out.trans HS.out)).symm KA.out.B
      have HID := qh (show ¬ (id ≤ la ∨ next ≤ id) from by omega)
      by_cases hc : -1 ≤ addr ∧ addr ≤ 16777215
      ·have HA := qh hc
       clear hc
       rcases rgE_two rg with hc | hc
       ·have HRG := qh hc
        clear hc
        by_cases hc : 1 ≤ hits ∧ hits ≤ 1073741824
        ·have HHI := qh hc
         clear hc
         by_cases hc : 0 ≤ misses ∧ misses ≤ p.most - 1
         ·have HMI := qh hc
          clear hc
          by_cases hc : firm = decide (p.need ≤ hits)
          ·have HFI := qh hc
           clear hc
           have HOK := qh (show ¬ tkBad p ⟨id, addr, rg, lo, hi, hits, misses, firm⟩ from fun h => by
            rcases h with h | h | h | h | h
            ·exact h HA.out
            ·exact h HRG.out
            ·exact h HHI.out
            ·exact h HMI.out
            exact h HFI.out)
           have wm := HW.out
           by_cases hh : p.need ≤ hits
           ·obtain rfl : firm = true := by rw [HFI.out]; exact decide_eq_true hh
            go_wp2_with fail
            refine (in_t _ _ _ _ HA.out).mono ?_; rintro e w0 ⟨rfl, rfl⟩
            go_wp2_with fail
            refine (pRgCheck_call rg _).mono ?_; rintro e w1 ⟨rfl, hb⟩
            rw [HRG.out]
            replace KA := qh (KA.out.keep hb)
            replace KT := qh (keepO hb KT.out)
            clear hb y0 y1 y2 y3 y4 y5 y6 yl
            obtain ⟨y0, y1, y2, y3, y4, y5, y6⟩ := seven_new KA.out.X
            obtain ⟨z0, z1, z2, z3, z4, z5, z6, z7, z8, z9⟩ := TkAt.block' (q := (⟨id, addr, rg, lo, hi, hits, misses, _⟩, ⟨aL, nL, cL, aH, nH, cH⟩)) KT.out
            simp only [] at z0 z1 z2 z3 z4 z5 z6 z7 z8 z9
            have yl := lt_of_block KA.out.X
            have zl := lt_of_block KT.out
            go_wp2_with fail
            refine (in_t _ _ _ _ HHI.out).mono ?_; rintro e w0 ⟨rfl, rfl⟩
            go_wp2_with fail
            refine (in_t _ _ _ _ HMI.out).mono ?_; rintro e w0 ⟨rfl, rfl⟩
            go_wp2_with fail
            refine (Alt.pEmpty_call aL aH nL nH cL cH lo hi _ (HBd.out.L.below KA.out.B) (HBd.out.H.below KA.out.B)).mono ?_; rintro e w1 ⟨rfl, hb⟩
            replace KA := qh (KA.out.keep hb)
            clear hb y0 y1 y2 y3 y4 y5 y6 yl z0 z1 z2 z3 z4 z5 z6 z7 z8 z9 zl
            by_cases he : Alt.emE lo hi = 0
            ·by_cases hb1 : Alt.emB lo hi = true
             ·have hE : emptyE lo hi = 0 := he
              have hN : emptyB lo hi = true := hb1
              have HS := qh (ckL_bad (p := p) (next := next) HD.out (by rw [HQ.out, HLa.out]; exact HID.out) (by rw [HQ.out, tkE_none HOK.out hE hN]; decide))
              rw [HQ.out, tkE_none HOK.out hE hN] at HS
              rw [he, hb1]
              clear hE hN he hb1
              go_wp2_with fail
              go_ret
              exact nPost_of (HE.out.trans (HC.out.trans (HLa.out ▸ HS.out))).symm KA.out.B
             have hE : emptyE lo hi = 0 := he
             have hN : emptyB lo hi = false := (Bool.not_eq_true _).mp hb1
             have HS := qh (ckL_go (p := p) (next := next) HD.out (by rw [HQ.out, HLa.out]; exact HID.out) (by rw [HQ.out]; exact tkE_ok HOK.out hE hN))
             have hb2 : Alt.emB lo hi = false := hN
             rw [he, hb2]
             clear hE hN he hb1 hb2
             go_wp2_with fail
             go_roundw
             case rel => exact ⟨k + 1, by omega, rfl, by rw [show lastId (fsts L) (k + 1) = id from by show ((fsts L)[k]?.getD tk0).id = id; rw [HQ.out]], by go_num, HC.out.trans HS.out, KA.out⟩
             case measure => simp [intOf]; omega
            have hE : emptyE lo hi ≠ 0 := he
            have HS := qh (ckL_bad (p := p) (next := next) HD.out (by rw [HQ.out, HLa.out]; exact HID.out) (by rw [HQ.out, tkE_form HOK.out hE]; exact hE))
            rw [HQ.out, tkE_form HOK.out hE] at HS
            obtain ⟨E, hEE⟩ : ∃ E, Alt.emE lo hi = E := ⟨_, rfl⟩
            have HEE := qh (show emptyE lo hi = E from hEE)
            rw [hEE] at he ⊢
            have hne : (E != 0) = true := bne_iff_ne.2 he
            clear hEE hE
            go_wp2_with fail
            go_ret
            exact nPost_of (HE.out.trans (HC.out.trans (HLa.out ▸ HS.out.trans HEE.out))).symm KA.out.B
           obtain rfl : firm = false := by rw [HFI.out]; exact decide_eq_false hh
           go_wp2_with fail
           refine (in_t _ _ _ _ HA.out).mono ?_; rintro e w0 ⟨rfl, rfl⟩
           go_wp2_with fail
           refine (pRgCheck_call rg _).mono ?_; rintro e w1 ⟨rfl, hb⟩
           rw [HRG.out]
           replace KA := qh (KA.out.keep hb)
           replace KT := qh (keepO hb KT.out)
           clear hb y0 y1 y2 y3 y4 y5 y6 yl
           obtain ⟨y0, y1, y2, y3, y4, y5, y6⟩ := seven_new KA.out.X
           obtain ⟨z0, z1, z2, z3, z4, z5, z6, z7, z8, z9⟩ := TkAt.block' (q := (⟨id, addr, rg, lo, hi, hits, misses, _⟩, ⟨aL, nL, cL, aH, nH, cH⟩)) KT.out
           simp only [] at z0 z1 z2 z3 z4 z5 z6 z7 z8 z9
           have yl := lt_of_block KA.out.X
           have zl := lt_of_block KT.out
           go_wp2_with fail
           refine (in_t _ _ _ _ HHI.out).mono ?_; rintro e w0 ⟨rfl, rfl⟩
           go_wp2_with fail
           refine (in_t _ _ _ _ HMI.out).mono ?_; rintro e w0 ⟨rfl, rfl⟩
           go_wp2_with fail
           refine (Alt.pEmpty_call aL aH nL nH cL cH lo hi _ (HBd.out.L.below KA.out.B) (HBd.out.H.below KA.out.B)).mono ?_; rintro e w1 ⟨rfl, hb⟩
           replace KA := qh (KA.out.keep hb)
           clear hb y0 y1 y2 y3 y4 y5 y6 yl z0 z1 z2 z3 z4 z5 z6 z7 z8 z9 zl
           by_cases he : Alt.emE lo hi = 0
           ·by_cases hb1 : Alt.emB lo hi = true
            ·have hE : emptyE lo hi = 0 := he
             have hN : emptyB lo hi = true := hb1
             have HS := qh (ckL_bad (p := p) (next := next) HD.out (by rw [HQ.out, HLa.out]; exact HID.out) (by rw [HQ.out, tkE_none HOK.out hE hN]; decide))
             rw [HQ.out, tkE_none HOK.out hE hN] at HS
             rw [he, hb1]
             clear hE hN he hb1
             go_wp2_with fail
             go_ret
             exact nPost_of (HE.out.trans (HC.out.trans (HLa.out ▸ HS.out))).symm KA.out.B
            have hE : emptyE lo hi = 0 := he
            have hN : emptyB lo hi = false := (Bool.not_eq_true _).mp hb1
            have HS := qh (ckL_go (p := p) (next := next) HD.out (by rw [HQ.out, HLa.out]; exact HID.out) (by rw [HQ.out]; exact tkE_ok HOK.out hE hN))
            have hb2 : Alt.emB lo hi = false := hN
            rw [he, hb2]
            clear hE hN he hb1 hb2
            go_wp2_with fail
            go_roundw
            case rel => exact ⟨k + 1, by omega, rfl, by rw [show lastId (fsts L) (k + 1) = id from by show ((fsts L)[k]?.getD tk0).id = id; rw [HQ.out]], by go_num, HC.out.trans HS.out, KA.out⟩
            case measure => simp [intOf]; omega
           have hE : emptyE lo hi ≠ 0 := he
           have HS := qh (ckL_bad (p := p) (next := next) HD.out (by rw [HQ.out, HLa.out]; exact HID.out) (by rw [HQ.out, tkE_form HOK.out hE]; exact hE))
           rw [HQ.out, tkE_form HOK.out hE] at HS
           obtain ⟨E, hEE⟩ : ∃ E, Alt.emE lo hi = E := ⟨_, rfl⟩
           have HEE := qh (show emptyE lo hi = E from hEE)
           rw [hEE] at he ⊢
           have hne : (E != 0) = true := bne_iff_ne.2 he
           clear hEE hE
           go_wp2_with fail
           go_ret
           exact nPost_of (HE.out.trans (HC.out.trans (HLa.out ▸ HS.out.trans HEE.out))).symm KA.out.B
          have HFI := qh hc
          clear hc
          have HS := qh (ckL_bad (p := p) (next := next) HD.out (by rw [HQ.out, HLa.out]; exact HID.out) (by rw [HQ.out, tkE_bad (show tkBad p _ from Or.inr (Or.inr (Or.inr (Or.inr HFI.out))))]; decide))
          rw [HQ.out, tkE_bad (show tkBad p _ from Or.inr (Or.inr (Or.inr (Or.inr HFI.out))))] at HS
          have wm := HW.out
          by_cases hh : p.need ≤ hits
          ·obtain rfl : firm = false := by
            cases firm
            ·rfl
            exact absurd (decide_eq_true hh).symm HFI.out
           go_wp2_with fail
           refine (in_t _ _ _ _ HA.out).mono ?_; rintro e w0 ⟨rfl, rfl⟩
           go_wp2_with fail
           refine (pRgCheck_call rg _).mono ?_; rintro e w1 ⟨rfl, hb⟩
           rw [HRG.out]
           replace KA := qh (KA.out.keep hb)
           replace KT := qh (keepO hb KT.out)
           clear hb y0 y1 y2 y3 y4 y5 y6 yl
           obtain ⟨y0, y1, y2, y3, y4, y5, y6⟩ := seven_new KA.out.X
           obtain ⟨z0, z1, z2, z3, z4, z5, z6, z7, z8, z9⟩ := TkAt.block' (q := (⟨id, addr, rg, lo, hi, hits, misses, _⟩, ⟨aL, nL, cL, aH, nH, cH⟩)) KT.out
           simp only [] at z0 z1 z2 z3 z4 z5 z6 z7 z8 z9
           have yl := lt_of_block KA.out.X
           have zl := lt_of_block KT.out
           go_wp2_with fail
           refine (in_t _ _ _ _ HHI.out).mono ?_; rintro e w0 ⟨rfl, rfl⟩
           go_wp2_with fail
           refine (in_t _ _ _ _ HMI.out).mono ?_; rintro e w0 ⟨rfl, rfl⟩
           go_wp2_with fail
           go_ret
           exact nPost_of (HE.out.trans (HC.out.trans (HLa.out ▸ HS.out))).symm KA.out.B
          obtain rfl : firm = true := by
           cases firm
           ·exact absurd (decide_eq_false hh).symm HFI.out
           rfl
          have hd2 : (!decide (p.need ≤ hits)) = true := by rw [decide_eq_false hh]; rfl
          go_wp2_with fail
          refine (in_t _ _ _ _ HA.out).mono ?_; rintro e w0 ⟨rfl, rfl⟩
          go_wp2_with fail
          refine (pRgCheck_call rg _).mono ?_; rintro e w1 ⟨rfl, hb⟩
          rw [HRG.out]
          replace KA := qh (KA.out.keep hb)
          replace KT := qh (keepO hb KT.out)
          clear hb y0 y1 y2 y3 y4 y5 y6 yl
          obtain ⟨y0, y1, y2, y3, y4, y5, y6⟩ := seven_new KA.out.X
          obtain ⟨z0, z1, z2, z3, z4, z5, z6, z7, z8, z9⟩ := TkAt.block' (q := (⟨id, addr, rg, lo, hi, hits, misses, _⟩, ⟨aL, nL, cL, aH, nH, cH⟩)) KT.out
          simp only [] at z0 z1 z2 z3 z4 z5 z6 z7 z8 z9
          have yl := lt_of_block KA.out.X
          have zl := lt_of_block KT.out
          go_wp2_with fail
          refine (in_t _ _ _ _ HHI.out).mono ?_; rintro e w0 ⟨rfl, rfl⟩
          go_wp2_with fail
          refine (in_t _ _ _ _ HMI.out).mono ?_; rintro e w0 ⟨rfl, rfl⟩
          go_wp2_with fail
          go_ret
          exact nPost_of (HE.out.trans (HC.out.trans (HLa.out ▸ HS.out))).symm KA.out.B
         have HMI := qh hc
         clear hc
         have HS := qh (ckL_bad (p := p) (next := next) HD.out (by rw [HQ.out, HLa.out]; exact HID.out) (by rw [HQ.out, tkE_bad (show tkBad p _ from Or.inr (Or.inr (Or.inr (Or.inl HMI.out))))]; decide))
         rw [HQ.out, tkE_bad (show tkBad p _ from Or.inr (Or.inr (Or.inr (Or.inl HMI.out))))] at HS
         have wm := HW.out
         go_wp2_with fail
         refine (in_t _ _ _ _ HA.out).mono ?_; rintro e w0 ⟨rfl, rfl⟩
         go_wp2_with fail
         refine (pRgCheck_call rg _).mono ?_; rintro e w1 ⟨rfl, hb⟩
         rw [HRG.out]
         replace KA := qh (KA.out.keep hb)
         replace KT := qh (keepO hb KT.out)
         clear hb y0 y1 y2 y3 y4 y5 y6 yl
         obtain ⟨y0, y1, y2, y3, y4, y5, y6⟩ := seven_new KA.out.X
         obtain ⟨z0, z1, z2, z3, z4, z5, z6, z7, z8, z9⟩ := TkAt.block' (q := (⟨id, addr, rg, lo, hi, hits, misses, _⟩, ⟨aL, nL, cL, aH, nH, cH⟩)) KT.out
         simp only [] at z0 z1 z2 z3 z4 z5 z6 z7 z8 z9
         have yl := lt_of_block KA.out.X
         have zl := lt_of_block KT.out
         go_wp2_with fail
         refine (in_t _ _ _ _ HHI.out).mono ?_; rintro e w0 ⟨rfl, rfl⟩
         go_wp2_with fail
         refine (in_f _ _ _ _ HMI.out).mono ?_; rintro e w0 ⟨rfl, rfl⟩
         go_wp2_with fail
         go_ret
         exact nPost_of (HE.out.trans (HC.out.trans (HLa.out ▸ HS.out))).symm KA.out.B
        have HHI := qh hc
        clear hc
        have HS := qh (ckL_bad (p := p) (next := next) HD.out (by rw [HQ.out, HLa.out]; exact HID.out) (by rw [HQ.out, tkE_bad (show tkBad p _ from Or.inr (Or.inr (Or.inl HHI.out)))]; decide))
        rw [HQ.out, tkE_bad (show tkBad p _ from Or.inr (Or.inr (Or.inl HHI.out)))] at HS
        go_wp2_with fail
        refine (in_t _ _ _ _ HA.out).mono ?_; rintro e w0 ⟨rfl, rfl⟩
        go_wp2_with fail
        refine (pRgCheck_call rg _).mono ?_; rintro e w1 ⟨rfl, hb⟩
        rw [HRG.out]
        replace KA := qh (KA.out.keep hb)
        replace KT := qh (keepO hb KT.out)
        clear hb y0 y1 y2 y3 y4 y5 y6 yl
        obtain ⟨y0, y1, y2, y3, y4, y5, y6⟩ := seven_new KA.out.X
        obtain ⟨z0, z1, z2, z3, z4, z5, z6, z7, z8, z9⟩ := TkAt.block' (q := (⟨id, addr, rg, lo, hi, hits, misses, _⟩, ⟨aL, nL, cL, aH, nH, cH⟩)) KT.out
        simp only [] at z0 z1 z2 z3 z4 z5 z6 z7 z8 z9
        have yl := lt_of_block KA.out.X
        have zl := lt_of_block KT.out
        go_wp2_with fail
        refine (in_f _ _ _ _ HHI.out).mono ?_; rintro e w0 ⟨rfl, rfl⟩
        go_wp2_with fail
        go_ret
        exact nPost_of (HE.out.trans (HC.out.trans (HLa.out ▸ HS.out))).symm KA.out.B
       have HRG := qh hc
       clear hc
       have HS := qh (ckL_bad (p := p) (next := next) HD.out (by rw [HQ.out, HLa.out]; exact HID.out) (by rw [HQ.out, tkE_bad (show tkBad p _ from Or.inr (Or.inl (by rw [HRG.out]; decide)))]; decide))
       rw [HQ.out, tkE_bad (show tkBad p _ from Or.inr (Or.inl (by rw [HRG.out]; decide)))] at HS
       go_wp2_with fail
       refine (in_t _ _ _ _ HA.out).mono ?_; rintro e w0 ⟨rfl, rfl⟩
       go_wp2_with fail
       refine (pRgCheck_call rg _).mono ?_; rintro e w1 ⟨rfl, hb⟩
       rw [HRG.out]
       replace KA := qh (KA.out.keep hb)
       replace KT := qh (keepO hb KT.out)
       clear hb y0 y1 y2 y3 y4 y5 y6 yl
       obtain ⟨y0, y1, y2, y3, y4, y5, y6⟩ := seven_new KA.out.X
       obtain ⟨z0, z1, z2, z3, z4, z5, z6, z7, z8, z9⟩ := TkAt.block' (q := (⟨id, addr, rg, lo, hi, hits, misses, _⟩, ⟨aL, nL, cL, aH, nH, cH⟩)) KT.out
       simp only [] at z0 z1 z2 z3 z4 z5 z6 z7 z8 z9
       have yl := lt_of_block KA.out.X
       have zl := lt_of_block KT.out
       go_wp2_with fail
       go_ret
       exact nPost_of (HE.out.trans (HC.out.trans (HLa.out ▸ HS.out))).symm KA.out.B
      have HA := qh hc
      clear hc
      have HS := qh (ckL_bad (p := p) (next := next) HD.out (by rw [HQ.out, HLa.out]; exact HID.out) (by rw [HQ.out, tkE_bad (show tkBad p _ from Or.inl HA.out)]; decide))
      rw [HQ.out, tkE_bad (show tkBad p _ from Or.inl HA.out)] at HS
      go_wp2_with fail
      refine (in_f _ _ _ _ HA.out).mono ?_; rintro e w0 ⟨rfl, rfl⟩
      go_wp2_with fail
      go_ret
      exact nPost_of (HE.out.trans (HC.out.trans (HLa.out ▸ HS.out))).symm KA.out.B
     obtain rfl : n = k := by omega
     have HF := qh (show ckL p next (-1) (fsts L) = 0 from by rw [HC.out, ← HL.out]; exact ckL_end _ _ _)
     go_wp2_with fail
     go_ret
     exact nPost_of (HE.out.trans HF.out).symm K.out.B
   have HX := qh hx
   have HE := qh (ckE_head (L := fsts L) (show headBad p now next from Or.inr (Or.inr hx)))
   clear hx
   go_enter Try.func10, Try.ntmps10
   go_wp2_with fail
   refine (pchk_call p _).mono ?_; rintro e w1 ⟨rfl, hb⟩
   rw [HP.out]
   replace K := qh (K.out.keep hb)
   obtain ⟨y0, y1, y2, y3, y4, y5, y6⟩ := seven_new K.out.X
   have yl := lt_of_block K.out.X
   clear hb
   go_wp2_with fail
   refine (in_t _ _ _ _ HN.out).mono ?_; rintro e w0 ⟨rfl, rfl⟩
   go_wp2_with fail
   refine (in_f _ _ _ _ HX.out).mono ?_; rintro e w0 ⟨rfl, rfl⟩
   go_wp2_with fail
   go_ret
   exact nPost_of (HE.out).symm K.out.B
  have HN := qh hn
  have HE := qh (ckE_head (L := fsts L) (show headBad p now next from Or.inr (Or.inl hn)))
  clear hn
  go_enter Try.func10, Try.ntmps10
  go_wp2_with fail
  refine (pchk_call p _).mono ?_; rintro e w1 ⟨rfl, hb⟩
  rw [HP.out]
  replace K := qh (K.out.keep hb)
  obtain ⟨y0, y1, y2, y3, y4, y5, y6⟩ := seven_new K.out.X
  have yl := lt_of_block K.out.X
  clear hb
  go_wp2_with fail
  refine (in_f _ _ _ _ HN.out).mono ?_; rintro e w0 ⟨rfl, rfl⟩
  go_wp2_with fail
  go_ret
  exact nPost_of (HE.out).symm K.out.B
 have HP := qh hP
 clear hP
 have HE := qh (ckE_head (L := fsts L) (show headBad p now next from Or.inl (by rw [HP.out]; decide)))
 go_enter Try.func10, Try.ntmps10
 go_wp2_with fail
 refine (pchk_call p _).mono ?_; rintro e w1 ⟨rfl, hb⟩
 rw [HP.out]
 replace K := qh (K.out.keep hb)
 obtain ⟨y0, y1, y2, y3, y4, y5, y6⟩ := seven_new K.out.X
 have yl := lt_of_block K.out.X
 clear hb
 go_wp2_with fail
 go_ret
 exact nPost_of (HE.out).symm K.out.B
end Go.Proofs.Ytikjjpjekchcjaa
