/-
  TrkG, AsgMath, AsgMathB
-/
import Derived.Test.YtikjjpjekchcjaaPk8
import Derived.WalkKit
section
namespace Go.Proofs.Ytikjjpjekchcjaa
open Go.RowKit TrkMath MyHeap MyOwn
def fsts (L : List TB) : List Tk := L.map fun q => q.1
theorem fsts_len (L : List TB) : (fsts L).length = L.length := by simp [fsts]
theorem fsts_get (L : List TB) (k : Nat) : (fsts L)[k]?.getD tk0 = (gt L k).1 := by
 unfold fsts gt
 rw [List.getElem?_map]
 cases L[k]? <;> rfl
def tbC (p : Par) (now next : Int) (tV : Value) : Array Value := #[.int .i64 p.gate, .int .i64 p.need, .int .i64 p.most, .int .i64 p.pull, .int .i64 now, .int .i64 next, tV]
structure CkK (w : World) (p : Par) (now next : Int) (tV : Value) (W : World) : Prop where
 B : Below w.heap.size w W
 X : W.heap[w.heap.size]? = some (.cells #[.int .i64 p.gate, .int .i64 p.need, .int .i64 p.most, .int .i64 p.pull, .int .i64 now, .int .i64 next, tV] 26 (0, 0))
theorem CkK.keep {w W W' : World} {p : Par} {now next : Int} {tV : Value} (h : CkK w p now next tV W) (hb : Below W.heap.size W W') : CkK w p now next tV W' := ⟨h.B.trans (hb.mono h.B.size), keepO hb h.X⟩
theorem CkK.new (w : World) (p : Par) (now next : Int) (tV : Value) : CkK w p now next tV (w.alloc (.cells #[.int .i64 p.gate, .int .i64 p.need, .int .i64 p.most, .int .i64 p.pull, .int .i64 now, .int .i64 next, tV] 26)) := ⟨below_alloc _ _, block_new _ _ rfl⟩
theorem TkAt.block' {w : World} {b : Nat} {q : TB} {T : TypeId} {fr : Nat × Nat} (h : w.heap[b]? = some (.cells (tkC q) T fr)) :
    w.cell? ⟨b, 0, none⟩ = some (.int .i64 q.1.id) ∧ w.cell? ⟨b, 1, none⟩ = some (.int .i64 q.1.addr) ∧ w.cell? ⟨b, 2, none⟩ = some (.int .i64 q.1.rg.r) ∧ w.cell? ⟨b, 3, none⟩ = some (.int .i64 q.1.rg.v) ∧ w.cell? ⟨b, 4, none⟩ = some (.int .i64 q.1.rg.n) ∧ w.cell? ⟨b, 5, none⟩ = some (.slice q.2.aL q.2.nL q.2.cL) ∧ w.cell? ⟨b, 6, none⟩ = some (.slice q.2.aH q.2.nH q.2.cH) ∧ w.cell? ⟨b, 7, none⟩ = some (.int .i64 q.1.hits) ∧ w.cell? ⟨b, 8, none⟩ = some (.int .i64 q.1.misses) ∧ w.cell? ⟨b, 9, none⟩ = some (.bool q.1.firm) :=
 ⟨cell_of_block h rfl, cell_of_block h rfl, cell_of_block h rfl, cell_of_block h rfl, cell_of_block h rfl, cell_of_block h rfl, cell_of_block h rfl, cell_of_block h rfl, cell_of_block h rfl, cell_of_block h rfl⟩
def CkAt (p : Par) (next : Int) (L : List Tk) (k : Nat) : Prop := ckL p next (-1) L = ckL p next (lastId L k) (L.drop k)
set_option maxRecDepth 100000 in
set_option maxHeartbeats 8000000 in
theorem pCheckT_call (p : Par) (now next : Int) (a : Option Addr) (n c : Nat) (L : List TB) (w : World) (hT : Trs w a n L) (hB : ∀ k, k < n → BdI w (gt L k)) :
    Calls Try.prog 10 #[tbV p now next (.slice a n c)] w (NPost (ckE p now next (fsts L)) w) := by
 have HT := Lib.hid hT
 have HI := Lib.hid hB
 have hl : L.length = n := hT.len
 have hbn := hT.bound
 have K := Lib.hid (CkK.new w p now next (.slice a n c))
 clear hT hB
 unfold tbV
 rcases parE_two p with hP | hP
 ·have HP := Lib.hid hP
  clear hP
  by_cases hn : 0 ≤ now ∧ now ≤ 1073741824
  ·have HN := Lib.hid hn
   clear hn
   by_cases hx : 0 ≤ next ∧ next ≤ 1073741824
   ·have HX := Lib.hid hx
    clear hx
    have HH := Lib.hid (show ¬ headBad p now next from fun h => by
     rcases h with h | h | h
     ·exact h HP.out
     ·exact h HN.out
     ·exact h HX.out)
    by_cases h16 : 16 < n
    ·have HE := Lib.hid (ckE_long (L := fsts L) HH.out (by rw [fsts_len, hl]; exact h16))
     have hg : (16 : Int) < (n : Int) := by omega
     go_enter Try.func10, Try.ntmps10
     go_wp2_with fail
     refine (pchk_call p _).mono ?_; rintro e w1 ⟨rfl, hb⟩
     rw [HP.out]
     replace K := Lib.hid (K.out.keep hb)
     obtain ⟨y0, y1, y2, y3, y4, y5, y6⟩ := seven_new K.out.X
     have yl := lt_of_block K.out.X
     clear hb
     go_wp2_with fail
     refine (in_t _ _ _ _ HN.out).mono ?_; rintro e w0 ⟨rfl, rfl⟩
     go_wp2_with fail
     refine (in_t _ _ _ _ HX.out).mono ?_; rintro e w0 ⟨rfl, rfl⟩
     go_wp2_with fail
     go_ret
     exact nPost_of (HE.out).symm K.out.B
    ·have HE := Lib.hid (ckE_list (L := fsts L) HH.out (by rw [fsts_len, hl]; exact h16))
     have hg : ¬ (16 : Int) < (n : Int) := by omega
     have HL := Lib.hid (show (fsts L).length = n from by rw [fsts_len]; exact hl)
     clear hl
     go_enter Try.func10, Try.ntmps10
     go_wp2_with fail
     refine (pchk_call p _).mono ?_; rintro e w1 ⟨rfl, hb⟩
     rw [HP.out]
     replace K := Lib.hid (K.out.keep hb)
     obtain ⟨y0, y1, y2, y3, y4, y5, y6⟩ := seven_new K.out.X
     have yl := lt_of_block K.out.X
     clear hb
     go_wp2_with fail
     refine (in_t _ _ _ _ HN.out).mono ?_; rintro e w0 ⟨rfl, rfl⟩
     go_wp2_with fail
     refine (in_t _ _ _ _ HX.out).mono ?_; rintro e w0 ⟨rfl, rfl⟩
     go_wp2_with fail
     clear y0 y1 y2 y3 y4 y5 y6 yl
     go_loopw [2, 3, 31] (fun rv lv kv wr => ∃ k : Nat, k ≤ n ∧ rv = .int .i64 0 ∧ lv = .int .i64 (lastId (fsts L) k) ∧ kv = .int .i64 k ∧ CkAt p next (fsts L) k ∧ CkK w p now next (.slice a n c) wr) (fun _ _ kv _ => n - (intOf kv).toNat)
     case atStart => exact ⟨0, by omega, rfl, rfl, rfl, rfl, K.out⟩
     case round =>
      clear K
      obtain ⟨k, hk, rfl, rfl, rfl, hC, hK⟩ := hrel
      have K := Lib.hid hK
      have HC := Lib.hid hC
      clear hC hK
      by_cases hlt : k < n
      ·obtain ⟨b, off, rfl, hq⟩ := trs_at (HT.out.below K.out.B) hlt
       have HQ := Lib.hid (fsts_get L k)
       have HBd := Lib.hid (HI.out k hlt)
       obtain ⟨q, hqe⟩ : ∃ q, gt L k = q := ⟨_, rfl⟩
       rw [hqe] at hq HQ HBd
       have HD := Lib.hid (show k < (fsts L).length from by rw [HL.out]; exact hlt)
       obtain ⟨la, hla⟩ : ∃ la, lastId (fsts L) k = la := ⟨_, rfl⟩
       have HLa := Lib.hid hla
       rw [hla]
       have HW := Lib.hid (show IntKind.i64.wrap (p.most - 1) = p.most - 1 from by have := (parE_zero HP.out).2.2.1; exact IntWalk.i64_in _ (by omega))
       obtain ⟨x0, x1, x2, x3, x4, x5, x6, x7, x8, x9⟩ := hq
       have xl := World.block_lt_of_cell? _ _ x0
       obtain ⟨y0, y1, y2, y3, y4, y5, y6⟩ := seven_new K.out.X
       have yl := lt_of_block K.out.X
       have hk0 : (0 : Int) ≤ (k : Int) := by omega
       have hk1 : (k : Int) < (n : Int) := by omega
       have KA := Lib.hid (K.out.keep (below_alloc wr (.cells (tkC q) 46)))
       have KT := Lib.hid (block_new wr (.cells (tkC q) 46 (0, 0)) rfl)
       clear hqe hla
       unfold tkC at KT KA
       obtain ⟨⟨id, addr, rg, lo, hi, hits, misses, firm⟩, ⟨aL, nL, cL, aH, nH, cH⟩⟩ := q
       simp only [] at x0 x1 x2 x3 x4 x5 x6 x7 x8 x9 KT KA
       by_cases h1 : id ≤ la
       ·have HS := Lib.hid (ckL_state (p := p) HD.out (show (((fsts L)[k]?.getD tk0).id ≤ lastId (fsts L) k ∨ next ≤ ((fsts L)[k]?.getD tk0).id) from by rw [HQ.out, HLa.out]; exact Or.inl h1))
        go_wp2_with fail
        go_ret
        exact nPost_of (HE.out.trans (HC.out.trans HS.out)).symm KA.out.B
       ·by_cases h2 : next ≤ id
        ·have HS := Lib.hid (ckL_state (p := p) HD.out (show (((fsts L)[k]?.getD tk0).id ≤ lastId (fsts L) k ∨ next ≤ ((fsts L)[k]?.getD tk0).id) from by rw [HQ.out, HLa.out]; exact Or.inr h2))
         go_wp2_with fail
         go_ret
         exact nPost_of (HE.out.trans (HC.out.trans HS.out)).symm KA.out.B
        ·have HID := Lib.hid (show ¬ (id ≤ la ∨ next ≤ id) from by omega)
         by_cases hc : -1 ≤ addr ∧ addr ≤ 16777215
         ·have HA := Lib.hid hc
          clear hc
          rcases rgE_two rg with hc | hc
          ·have HRG := Lib.hid hc
           clear hc
           by_cases hc : 1 ≤ hits ∧ hits ≤ 1073741824
           ·have HHI := Lib.hid hc
            clear hc
            by_cases hc : 0 ≤ misses ∧ misses ≤ p.most - 1
            ·have HMI := Lib.hid hc
             clear hc
             by_cases hc : firm = decide (p.need ≤ hits)
             ·have HFI := Lib.hid hc
              clear hc
              have HOK := Lib.hid (show ¬ tkBad p ⟨id, addr, rg, lo, hi, hits, misses, firm⟩ from fun h => by
               rcases h with h | h | h | h | h
               ·exact h HA.out
               ·exact h HRG.out
               ·exact h HHI.out
               ·exact h HMI.out
               ·exact h HFI.out)
              have wm := HW.out
              by_cases hh : p.need ≤ hits
              ·obtain rfl : firm = true := by rw [HFI.out]; exact decide_eq_true hh
               go_wp2_with fail
               refine (in_t _ _ _ _ HA.out).mono ?_; rintro e w0 ⟨rfl, rfl⟩
               go_wp2_with fail
               refine (pRgCheck_call rg _).mono ?_; rintro e w1 ⟨rfl, hb⟩
               rw [HRG.out]
               replace KA := Lib.hid (KA.out.keep hb)
               replace KT := Lib.hid (keepO hb KT.out)
               clear hb y0 y1 y2 y3 y4 y5 y6 yl
               obtain ⟨y0, y1, y2, y3, y4, y5, y6⟩ := seven_new KA.out.X
               obtain ⟨z0, z1, z2, z3, z4, z5, z6, z7, z8, z9⟩ := TkAt.block' (q := (⟨id, addr, rg, lo, hi, hits, misses, _⟩, ⟨aL, nL, cL, aH, nH, cH⟩)) KT.out
               simp only [] at z0 z1 z2 z3 z4 z5 z6 z7 z8 z9
               have yl := lt_of_block KA.out.X
               have zl := lt_of_block KT.out
               go_wp2_with fail
               refine (in_t _ _ _ _ HHI.out).mono ?_; rintro e w0 ⟨rfl, rfl⟩
               go_wp2_with fail
               refine (in_t _ _ _ _ HMI.out).mono ?_; rintro e w0 ⟨rfl, rfl⟩
               go_wp2_with fail
               refine (Alt.pEmpty_call aL aH nL nH cL cH lo hi _ (HBd.out.L.below KA.out.B) (HBd.out.H.below KA.out.B)).mono ?_; rintro e w1 ⟨rfl, hb⟩
               replace KA := Lib.hid (KA.out.keep hb)
               clear hb y0 y1 y2 y3 y4 y5 y6 yl z0 z1 z2 z3 z4 z5 z6 z7 z8 z9 zl
               by_cases he : Alt.emE lo hi = 0
               ·by_cases hb1 : Alt.emB lo hi = true
                ·have hE : emptyE lo hi = 0 := he
                 have hN : emptyB lo hi = true := hb1
                 have HS := Lib.hid (ckL_bad (p := p) (next := next) HD.out (by rw [HQ.out, HLa.out]; exact HID.out) (by rw [HQ.out, tkE_none HOK.out hE hN]; decide))
                 rw [HQ.out, tkE_none HOK.out hE hN] at HS
                 rw [he, hb1]
                 clear hE hN he hb1
                 go_wp2_with fail
                 go_ret
                 exact nPost_of (HE.out.trans (HC.out.trans (HLa.out ▸ HS.out))).symm KA.out.B
                ·have hE : emptyE lo hi = 0 := he
                 have hN : emptyB lo hi = false := (Bool.not_eq_true _).mp hb1
                 have HS := Lib.hid (ckL_go (p := p) (next := next) HD.out (by rw [HQ.out, HLa.out]; exact HID.out) (by rw [HQ.out]; exact tkE_ok HOK.out hE hN))
                 have hb2 : Alt.emB lo hi = false := hN
                 rw [he, hb2]
                 clear hE hN he hb1 hb2
                 go_wp2_with fail
                 go_roundw
                 case rel => exact ⟨k + 1, by omega, rfl, by rw [show lastId (fsts L) (k + 1) = id from by show ((fsts L)[k]?.getD tk0).id = id; rw [HQ.out]], by go_num, HC.out.trans HS.out, KA.out⟩
                 case measure => simp [intOf]; omega
               ·have hE : emptyE lo hi ≠ 0 := he
                have HS := Lib.hid (ckL_bad (p := p) (next := next) HD.out (by rw [HQ.out, HLa.out]; exact HID.out) (by rw [HQ.out, tkE_form HOK.out hE]; exact hE))
                rw [HQ.out, tkE_form HOK.out hE] at HS
                obtain ⟨E, hEE⟩ : ∃ E, Alt.emE lo hi = E := ⟨_, rfl⟩
                have HEE := Lib.hid (show emptyE lo hi = E from hEE)
                rw [hEE] at he ⊢
                have hne : (E != 0) = true := bne_iff_ne.2 he
                clear hEE hE
                go_wp2_with fail
                go_ret
                exact nPost_of (HE.out.trans (HC.out.trans (HLa.out ▸ HS.out.trans HEE.out))).symm KA.out.B
              ·obtain rfl : firm = false := by rw [HFI.out]; exact decide_eq_false hh
               go_wp2_with fail
               refine (in_t _ _ _ _ HA.out).mono ?_; rintro e w0 ⟨rfl, rfl⟩
               go_wp2_with fail
               refine (pRgCheck_call rg _).mono ?_; rintro e w1 ⟨rfl, hb⟩
               rw [HRG.out]
               replace KA := Lib.hid (KA.out.keep hb)
               replace KT := Lib.hid (keepO hb KT.out)
               clear hb y0 y1 y2 y3 y4 y5 y6 yl
               obtain ⟨y0, y1, y2, y3, y4, y5, y6⟩ := seven_new KA.out.X
               obtain ⟨z0, z1, z2, z3, z4, z5, z6, z7, z8, z9⟩ := TkAt.block' (q := (⟨id, addr, rg, lo, hi, hits, misses, _⟩, ⟨aL, nL, cL, aH, nH, cH⟩)) KT.out
               simp only [] at z0 z1 z2 z3 z4 z5 z6 z7 z8 z9
               have yl := lt_of_block KA.out.X
               have zl := lt_of_block KT.out
               go_wp2_with fail
               refine (in_t _ _ _ _ HHI.out).mono ?_; rintro e w0 ⟨rfl, rfl⟩
               go_wp2_with fail
               refine (in_t _ _ _ _ HMI.out).mono ?_; rintro e w0 ⟨rfl, rfl⟩
               go_wp2_with fail
               refine (Alt.pEmpty_call aL aH nL nH cL cH lo hi _ (HBd.out.L.below KA.out.B) (HBd.out.H.below KA.out.B)).mono ?_; rintro e w1 ⟨rfl, hb⟩
               replace KA := Lib.hid (KA.out.keep hb)
               clear hb y0 y1 y2 y3 y4 y5 y6 yl z0 z1 z2 z3 z4 z5 z6 z7 z8 z9 zl
               by_cases he : Alt.emE lo hi = 0
               ·by_cases hb1 : Alt.emB lo hi = true
                ·have hE : emptyE lo hi = 0 := he
                 have hN : emptyB lo hi = true := hb1
                 have HS := Lib.hid (ckL_bad (p := p) (next := next) HD.out (by rw [HQ.out, HLa.out]; exact HID.out) (by rw [HQ.out, tkE_none HOK.out hE hN]; decide))
                 rw [HQ.out, tkE_none HOK.out hE hN] at HS
                 rw [he, hb1]
                 clear hE hN he hb1
                 go_wp2_with fail
                 go_ret
                 exact nPost_of (HE.out.trans (HC.out.trans (HLa.out ▸ HS.out))).symm KA.out.B
                ·have hE : emptyE lo hi = 0 := he
                 have hN : emptyB lo hi = false := (Bool.not_eq_true _).mp hb1
                 have HS := Lib.hid (ckL_go (p := p) (next := next) HD.out (by rw [HQ.out, HLa.out]; exact HID.out) (by rw [HQ.out]; exact tkE_ok HOK.out hE hN))
                 have hb2 : Alt.emB lo hi = false := hN
                 rw [he, hb2]
                 clear hE hN he hb1 hb2
                 go_wp2_with fail
                 go_roundw
                 case rel => exact ⟨k + 1, by omega, rfl, by rw [show lastId (fsts L) (k + 1) = id from by show ((fsts L)[k]?.getD tk0).id = id; rw [HQ.out]], by go_num, HC.out.trans HS.out, KA.out⟩
                 case measure => simp [intOf]; omega
               ·have hE : emptyE lo hi ≠ 0 := he
                have HS := Lib.hid (ckL_bad (p := p) (next := next) HD.out (by rw [HQ.out, HLa.out]; exact HID.out) (by rw [HQ.out, tkE_form HOK.out hE]; exact hE))
                rw [HQ.out, tkE_form HOK.out hE] at HS
                obtain ⟨E, hEE⟩ : ∃ E, Alt.emE lo hi = E := ⟨_, rfl⟩
                have HEE := Lib.hid (show emptyE lo hi = E from hEE)
                rw [hEE] at he ⊢
                have hne : (E != 0) = true := bne_iff_ne.2 he
                clear hEE hE
                go_wp2_with fail
                go_ret
                exact nPost_of (HE.out.trans (HC.out.trans (HLa.out ▸ HS.out.trans HEE.out))).symm KA.out.B
             ·have HFI := Lib.hid hc
              clear hc
              have HS := Lib.hid (ckL_bad (p := p) (next := next) HD.out (by rw [HQ.out, HLa.out]; exact HID.out) (by rw [HQ.out, tkE_bad (show tkBad p _ from Or.inr (Or.inr (Or.inr (Or.inr HFI.out))))]; decide))
              rw [HQ.out, tkE_bad (show tkBad p _ from Or.inr (Or.inr (Or.inr (Or.inr HFI.out))))] at HS
              have wm := HW.out
              by_cases hh : p.need ≤ hits
              ·obtain rfl : firm = false := by
                cases firm
                ·rfl
                ·exact absurd (decide_eq_true hh).symm HFI.out
               go_wp2_with fail
               refine (in_t _ _ _ _ HA.out).mono ?_; rintro e w0 ⟨rfl, rfl⟩
               go_wp2_with fail
               refine (pRgCheck_call rg _).mono ?_; rintro e w1 ⟨rfl, hb⟩
               rw [HRG.out]
               replace KA := Lib.hid (KA.out.keep hb)
               replace KT := Lib.hid (keepO hb KT.out)
               clear hb y0 y1 y2 y3 y4 y5 y6 yl
               obtain ⟨y0, y1, y2, y3, y4, y5, y6⟩ := seven_new KA.out.X
               obtain ⟨z0, z1, z2, z3, z4, z5, z6, z7, z8, z9⟩ := TkAt.block' (q := (⟨id, addr, rg, lo, hi, hits, misses, _⟩, ⟨aL, nL, cL, aH, nH, cH⟩)) KT.out
               simp only [] at z0 z1 z2 z3 z4 z5 z6 z7 z8 z9
               have yl := lt_of_block KA.out.X
               have zl := lt_of_block KT.out
               go_wp2_with fail
               refine (in_t _ _ _ _ HHI.out).mono ?_; rintro e w0 ⟨rfl, rfl⟩
               go_wp2_with fail
               refine (in_t _ _ _ _ HMI.out).mono ?_; rintro e w0 ⟨rfl, rfl⟩
               go_wp2_with fail
               go_ret
               exact nPost_of (HE.out.trans (HC.out.trans (HLa.out ▸ HS.out))).symm KA.out.B
              ·obtain rfl : firm = true := by
                cases firm
                ·exact absurd (decide_eq_false hh).symm HFI.out
                ·rfl
               have hd2 : (!decide (p.need ≤ hits)) = true := by rw [decide_eq_false hh]; rfl
               go_wp2_with fail
               refine (in_t _ _ _ _ HA.out).mono ?_; rintro e w0 ⟨rfl, rfl⟩
               go_wp2_with fail
               refine (pRgCheck_call rg _).mono ?_; rintro e w1 ⟨rfl, hb⟩
               rw [HRG.out]
               replace KA := Lib.hid (KA.out.keep hb)
               replace KT := Lib.hid (keepO hb KT.out)
               clear hb y0 y1 y2 y3 y4 y5 y6 yl
               obtain ⟨y0, y1, y2, y3, y4, y5, y6⟩ := seven_new KA.out.X
               obtain ⟨z0, z1, z2, z3, z4, z5, z6, z7, z8, z9⟩ := TkAt.block' (q := (⟨id, addr, rg, lo, hi, hits, misses, _⟩, ⟨aL, nL, cL, aH, nH, cH⟩)) KT.out
               simp only [] at z0 z1 z2 z3 z4 z5 z6 z7 z8 z9
               have yl := lt_of_block KA.out.X
               have zl := lt_of_block KT.out
               go_wp2_with fail
               refine (in_t _ _ _ _ HHI.out).mono ?_; rintro e w0 ⟨rfl, rfl⟩
               go_wp2_with fail
               refine (in_t _ _ _ _ HMI.out).mono ?_; rintro e w0 ⟨rfl, rfl⟩
               go_wp2_with fail
               go_ret
               exact nPost_of (HE.out.trans (HC.out.trans (HLa.out ▸ HS.out))).symm KA.out.B
            ·have HMI := Lib.hid hc
             clear hc
             have HS := Lib.hid (ckL_bad (p := p) (next := next) HD.out (by rw [HQ.out, HLa.out]; exact HID.out) (by rw [HQ.out, tkE_bad (show tkBad p _ from Or.inr (Or.inr (Or.inr (Or.inl HMI.out))))]; decide))
             rw [HQ.out, tkE_bad (show tkBad p _ from Or.inr (Or.inr (Or.inr (Or.inl HMI.out))))] at HS
             have wm := HW.out
             go_wp2_with fail
             refine (in_t _ _ _ _ HA.out).mono ?_; rintro e w0 ⟨rfl, rfl⟩
             go_wp2_with fail
             refine (pRgCheck_call rg _).mono ?_; rintro e w1 ⟨rfl, hb⟩
             rw [HRG.out]
             replace KA := Lib.hid (KA.out.keep hb)
             replace KT := Lib.hid (keepO hb KT.out)
             clear hb y0 y1 y2 y3 y4 y5 y6 yl
             obtain ⟨y0, y1, y2, y3, y4, y5, y6⟩ := seven_new KA.out.X
             obtain ⟨z0, z1, z2, z3, z4, z5, z6, z7, z8, z9⟩ := TkAt.block' (q := (⟨id, addr, rg, lo, hi, hits, misses, _⟩, ⟨aL, nL, cL, aH, nH, cH⟩)) KT.out
             simp only [] at z0 z1 z2 z3 z4 z5 z6 z7 z8 z9
             have yl := lt_of_block KA.out.X
             have zl := lt_of_block KT.out
             go_wp2_with fail
             refine (in_t _ _ _ _ HHI.out).mono ?_; rintro e w0 ⟨rfl, rfl⟩
             go_wp2_with fail
             refine (in_f _ _ _ _ HMI.out).mono ?_; rintro e w0 ⟨rfl, rfl⟩
             go_wp2_with fail
             go_ret
             exact nPost_of (HE.out.trans (HC.out.trans (HLa.out ▸ HS.out))).symm KA.out.B
           ·have HHI := Lib.hid hc
            clear hc
            have HS := Lib.hid (ckL_bad (p := p) (next := next) HD.out (by rw [HQ.out, HLa.out]; exact HID.out) (by rw [HQ.out, tkE_bad (show tkBad p _ from Or.inr (Or.inr (Or.inl HHI.out)))]; decide))
            rw [HQ.out, tkE_bad (show tkBad p _ from Or.inr (Or.inr (Or.inl HHI.out)))] at HS
            go_wp2_with fail
            refine (in_t _ _ _ _ HA.out).mono ?_; rintro e w0 ⟨rfl, rfl⟩
            go_wp2_with fail
            refine (pRgCheck_call rg _).mono ?_; rintro e w1 ⟨rfl, hb⟩
            rw [HRG.out]
            replace KA := Lib.hid (KA.out.keep hb)
            replace KT := Lib.hid (keepO hb KT.out)
            clear hb y0 y1 y2 y3 y4 y5 y6 yl
            obtain ⟨y0, y1, y2, y3, y4, y5, y6⟩ := seven_new KA.out.X
            obtain ⟨z0, z1, z2, z3, z4, z5, z6, z7, z8, z9⟩ := TkAt.block' (q := (⟨id, addr, rg, lo, hi, hits, misses, _⟩, ⟨aL, nL, cL, aH, nH, cH⟩)) KT.out
            simp only [] at z0 z1 z2 z3 z4 z5 z6 z7 z8 z9
            have yl := lt_of_block KA.out.X
            have zl := lt_of_block KT.out
            go_wp2_with fail
            refine (in_f _ _ _ _ HHI.out).mono ?_; rintro e w0 ⟨rfl, rfl⟩
            go_wp2_with fail
            go_ret
            exact nPost_of (HE.out.trans (HC.out.trans (HLa.out ▸ HS.out))).symm KA.out.B
          ·have HRG := Lib.hid hc
           clear hc
           have HS := Lib.hid (ckL_bad (p := p) (next := next) HD.out (by rw [HQ.out, HLa.out]; exact HID.out) (by rw [HQ.out, tkE_bad (show tkBad p _ from Or.inr (Or.inl (by rw [HRG.out]; decide)))]; decide))
           rw [HQ.out, tkE_bad (show tkBad p _ from Or.inr (Or.inl (by rw [HRG.out]; decide)))] at HS
           go_wp2_with fail
           refine (in_t _ _ _ _ HA.out).mono ?_; rintro e w0 ⟨rfl, rfl⟩
           go_wp2_with fail
           refine (pRgCheck_call rg _).mono ?_; rintro e w1 ⟨rfl, hb⟩
           rw [HRG.out]
           replace KA := Lib.hid (KA.out.keep hb)
           replace KT := Lib.hid (keepO hb KT.out)
           clear hb y0 y1 y2 y3 y4 y5 y6 yl
           obtain ⟨y0, y1, y2, y3, y4, y5, y6⟩ := seven_new KA.out.X
           obtain ⟨z0, z1, z2, z3, z4, z5, z6, z7, z8, z9⟩ := TkAt.block' (q := (⟨id, addr, rg, lo, hi, hits, misses, _⟩, ⟨aL, nL, cL, aH, nH, cH⟩)) KT.out
           simp only [] at z0 z1 z2 z3 z4 z5 z6 z7 z8 z9
           have yl := lt_of_block KA.out.X
           have zl := lt_of_block KT.out
           go_wp2_with fail
           go_ret
           exact nPost_of (HE.out.trans (HC.out.trans (HLa.out ▸ HS.out))).symm KA.out.B
         ·have HA := Lib.hid hc
          clear hc
          have HS := Lib.hid (ckL_bad (p := p) (next := next) HD.out (by rw [HQ.out, HLa.out]; exact HID.out) (by rw [HQ.out, tkE_bad (show tkBad p _ from Or.inl HA.out)]; decide))
          rw [HQ.out, tkE_bad (show tkBad p _ from Or.inl HA.out)] at HS
          go_wp2_with fail
          refine (in_f _ _ _ _ HA.out).mono ?_; rintro e w0 ⟨rfl, rfl⟩
          go_wp2_with fail
          go_ret
          exact nPost_of (HE.out.trans (HC.out.trans (HLa.out ▸ HS.out))).symm KA.out.B
      ·obtain rfl : n = k := by omega
       have HF := Lib.hid (show ckL p next (-1) (fsts L) = 0 from by rw [HC.out, ← HL.out]; exact ckL_end _ _ _)
       go_wp2_with fail
       go_ret
       exact nPost_of (HE.out.trans HF.out).symm K.out.B
   ·have HX := Lib.hid hx
    have HE := Lib.hid (ckE_head (L := fsts L) (show headBad p now next from Or.inr (Or.inr hx)))
    clear hx
    go_enter Try.func10, Try.ntmps10
    go_wp2_with fail
    refine (pchk_call p _).mono ?_; rintro e w1 ⟨rfl, hb⟩
    rw [HP.out]
    replace K := Lib.hid (K.out.keep hb)
    obtain ⟨y0, y1, y2, y3, y4, y5, y6⟩ := seven_new K.out.X
    have yl := lt_of_block K.out.X
    clear hb
    go_wp2_with fail
    refine (in_t _ _ _ _ HN.out).mono ?_; rintro e w0 ⟨rfl, rfl⟩
    go_wp2_with fail
    refine (in_f _ _ _ _ HX.out).mono ?_; rintro e w0 ⟨rfl, rfl⟩
    go_wp2_with fail
    go_ret
    exact nPost_of (HE.out).symm K.out.B
  ·have HN := Lib.hid hn
   have HE := Lib.hid (ckE_head (L := fsts L) (show headBad p now next from Or.inr (Or.inl hn)))
   clear hn
   go_enter Try.func10, Try.ntmps10
   go_wp2_with fail
   refine (pchk_call p _).mono ?_; rintro e w1 ⟨rfl, hb⟩
   rw [HP.out]
   replace K := Lib.hid (K.out.keep hb)
   obtain ⟨y0, y1, y2, y3, y4, y5, y6⟩ := seven_new K.out.X
   have yl := lt_of_block K.out.X
   clear hb
   go_wp2_with fail
   refine (in_f _ _ _ _ HN.out).mono ?_; rintro e w0 ⟨rfl, rfl⟩
   go_wp2_with fail
   go_ret
   exact nPost_of (HE.out).symm K.out.B
 ·have HP := Lib.hid hP
  clear hP
  have HE := Lib.hid (ckE_head (L := fsts L) (show headBad p now next from Or.inl (by rw [HP.out]; decide)))
  go_enter Try.func10, Try.ntmps10
  go_wp2_with fail
  refine (pchk_call p _).mono ?_; rintro e w1 ⟨rfl, hb⟩
  rw [HP.out]
  replace K := Lib.hid (K.out.keep hb)
  obtain ⟨y0, y1, y2, y3, y4, y5, y6⟩ := seven_new K.out.X
  have yl := lt_of_block K.out.X
  clear hb
  go_wp2_with fail
  go_ret
  exact nPost_of (HE.out).symm K.out.B
end Go.Proofs.Ytikjjpjekchcjaa
end
section
namespace AsgMath
def setT (T : Nat → Bool) (k : Nat) : Nat → Bool := fun j => if j = k then true else T j
def upd {α : Type} (f : Nat → α) (k : Nat) (x : α) : Nat → α := fun j => if j = k then x else f j
theorem upd_at {α : Type} {f : Nat → α} {k : Nat} {x : α} : upd f k x k = x := if_pos rfl
theorem upd_ne {α : Type} {f : Nat → α} {k j : Nat} {x : α} (h : j ≠ k) : upd f k x j = f j := if_neg h
def sumN (f : Nat → Int) : Nat → Int
 | 0 => 0
 | k + 1 => sumN f k + f k
theorem sumN_le {f g : Nat → Int} : ∀ {m : Nat}, (∀ j, j < m → f j ≤ g j) → sumN f m ≤ sumN g m
 | 0, _ => Int.le_refl _
 | m + 1, h => by
  have h1 := sumN_le (f := f) (g := g) (m := m) (fun j hj => h j (by omega))
  have h2 := h m (by omega)
  simp only [sumN]
  omega
theorem sumN_congr {f g : Nat → Int} : ∀ {m : Nat}, (∀ j, j < m → f j = g j) → sumN f m = sumN g m
 | 0, _ => rfl
 | m + 1, h => by
  simp only [sumN]
  rw [sumN_congr (m := m) (fun j hj => h j (by omega)), h m (by omega)]
theorem sumN_bump {f g : Nat → Int} {x : Int} : ∀ {m k : Nat}, (∀ j, j < m → f j ≤ g j) → k < m → f k + x ≤ g k → sumN f m + x ≤ sumN g m
 | 0, k, _, hk, _ => by omega
 | m + 1, k, h, hk, hx => by
  simp only [sumN]
  by_cases e : k = m
  ·subst e
   have := sumN_le (f := f) (g := g) (m := k) (fun j hj => h j (by omega))
   omega
  ·have := sumN_bump (m := m) (k := k) (fun j hj => h j (by omega)) (by omega) hx
   have := h m (by omega)
   omega
theorem sumN_add {f g : Nat → Int} : ∀ {m : Nat}, sumN (fun j => f j + g j) m = sumN f m + sumN g m
 | 0 => rfl
 | m + 1 => by
  simp only [sumN]
  rw [sumN_add (m := m)]
  omega
theorem sumN_zero {f : Nat → Int} {m : Nat} (h : ∀ j, j < m → f j = 0) : sumN f m = 0 := by
 rw [sumN_congr h]
 clear h
 induction m with
 | zero => rfl
 | succ m ih => simp only [sumN]; rw [ih]; rfl
theorem sumN_nonneg {f : Nat → Int} {m : Nat} (h : ∀ j, j < m → 0 ≤ f j) : 0 ≤ sumN f m := by
 have := sumN_le (f := fun _ => 0) (g := f) h
 rw [sumN_zero (fun _ _ => rfl)] at this
 exact this
theorem sumN_upd {f g : Nat → Int} : ∀ {m k : Nat}, k < m → (∀ j, j < m → j ≠ k → f j = g j) → sumN g m = sumN f m - f k + g k
 | 0, k, hk, _ => by omega
 | m + 1, k, hk, h => by
  simp only [sumN]
  by_cases e : k = m
  ·subst e
   rw [sumN_congr (f := g) (g := f) (m := k) (fun j hj => (h j (by omega) (by omega)).symm)]
   omega
  ·rw [sumN_upd (m := m) (k := k) (by omega) (fun j hj hne => h j (by omega) hne), h m (by omega) (by omega)]
   omega
def bestK (f : Nat → Int) (p : Nat → Bool) (x : Int) : Nat → Int
 | 0 => x
 | k + 1 => if p k = true then max (bestK f p x k) (f k) else bestK f p x k
theorem bestK_ge0 {f : Nat → Int} {p : Nat → Bool} {x : Int} : ∀ {m : Nat}, x ≤ bestK f p x m
 | 0 => Int.le_refl _
 | m + 1 => by
  have := bestK_ge0 (f := f) (p := p) (x := x) (m := m)
  simp only [bestK]
  split <;> omega
theorem bestK_ge {f : Nat → Int} {p : Nat → Bool} {x : Int} : ∀ {m k : Nat}, k < m → p k = true → f k ≤ bestK f p x m
 | 0, k, hk, _ => by omega
 | m + 1, k, hk, hp => by
  simp only [bestK]
  by_cases e : k = m
  ·subst e
   rw [if_pos hp]
   omega
  ·have := bestK_ge (f := f) (p := p) (x := x) (m := m) (k := k) (by omega) hp
   split <;> omega
theorem bestK_cases {f : Nat → Int} {p : Nat → Bool} {x : Int} : ∀ {m : Nat}, bestK f p x m = x ∨ ∃ k, k < m ∧ p k = true ∧ bestK f p x m = f k
 | 0 => Or.inl rfl
 | m + 1 => by
  have ih := bestK_cases (f := f) (p := p) (x := x) (m := m)
  have up : (bestK f p x m = x ∨ ∃ k, k < m ∧ p k = true ∧ bestK f p x m = f k) → (bestK f p x m = x ∨ ∃ k, k < m + 1 ∧ p k = true ∧ bestK f p x m = f k) := fun h => h.imp id (fun ⟨k, h1, h2, h3⟩ => ⟨k, by omega, h2, h3⟩)
  simp only [bestK]
  by_cases hp : p m = true
  ·rw [if_pos hp]
   rcases Int.le_total (bestK f p x m) (f m) with hl | hl
   ·rw [Int.max_eq_right hl]
    exact Or.inr ⟨m, by omega, hp, rfl⟩
   ·rw [Int.max_eq_left hl]
    exact up ih
  ·rw [if_neg hp]
   exact up ih
theorem bestK_le {f : Nat → Int} {p : Nat → Bool} {x B : Int} {m : Nat} (h0 : x ≤ B) (h : ∀ k, k < m → p k = true → f k ≤ B) : bestK f p x m ≤ B := by
 rcases bestK_cases (f := f) (p := p) (x := x) (m := m) with e | ⟨k, hk, hp, e⟩
 ·omega
 ·rw [e]; exact h k hk hp
theorem bestK_congr {f g : Nat → Int} {p q : Nat → Bool} {x y : Int} (hx : x = y) : ∀ {m : Nat}, (∀ k, k < m → p k = q k ∧ (q k = true → f k = g k)) → bestK f p x m = bestK g q y m
 | 0, _ => hx
 | m + 1, h => by
  simp only [bestK]
  rw [bestK_congr hx (m := m) (fun k hk => h k (by omega)), (h m (by omega)).1]
  by_cases hq : q m = true
  ·rw [if_pos hq, if_pos hq, (h m (by omega)).2 hq]
  ·rw [if_neg hq, if_neg hq]
def okB (c : Nat → Nat → Int) (T : Nat → Bool) (i k : Nat) : Bool := decide (0 ≤ c i k) && !T k
theorem okB_iff {c : Nat → Nat → Int} {T : Nat → Bool} {i k : Nat} : okB c T i k = true ↔ 0 ≤ c i k ∧ T k = false := by unfold okB; simp
def V (c : Nat → Nat → Int) (n m : Nat) : Nat → (Nat → Bool) → Int
 | 0, _ => 0
 | r + 1, T => bestK (fun k => 1073741824 - c (n - (r + 1)) k + V c n m r (setT T k)) (okB c T (n - (r + 1))) (V c n m r T) m
theorem V_nonneg {c : Nat → Nat → Int} {n m : Nat} : ∀ (r : Nat) (T : Nat → Bool), 0 ≤ V c n m r T
 | 0, _ => Int.le_refl _
 | r + 1, T => Int.le_trans (V_nonneg r T) (by simp only [V]; exact bestK_ge0)
theorem V_congr {c c' : Nat → Nat → Int} {n m : Nat} : ∀ (r : Nat) (T T' : Nat → Bool), r ≤ n → (∀ i k, n - r ≤ i → i < n → k < m → c i k = c' i k) → (∀ k, k < m → T k = T' k) → V c n m r T = V c' n m r T'
 | 0, _, _, _, _, _ => rfl
 | r + 1, T, T', hr, hc, hT => by
  simp only [V]
  refine bestK_congr (V_congr r T T' (by omega) (fun i k h1 h2 h3 => hc i k (by omega) h2 h3) hT) (fun k hk => ⟨?_, fun _ => ?_⟩)
  ·unfold okB
   rw [hc (n - (r + 1)) k (by omega) (by omega) hk, hT k hk]
  ·rw [hc (n - (r + 1)) k (by omega) (by omega) hk, V_congr r (setT T k) (setT T' k) (by omega) (fun i k h1 h2 h3 => hc i k (by omega) h2 h3) (fun j hj => by unfold setT; rw [hT j hj])]
theorem V_le {c : Nat → Nat → Int} {n m : Nat} {y z : Nat → Int} (hy : ∀ i, 0 ≤ y i) (hz : ∀ k, 0 ≤ z k) : ∀ (r : Nat) (T : Nat → Bool), r ≤ n →
    (∀ i k, n - r ≤ i → i < n → k < m → 0 ≤ c i k → T k = false → 1073741824 - c i k ≤ y i + z k) →
    V c n m r T ≤ sumN (fun j => y (n - 1 - j)) r + sumN (fun k => if T k then 0 else z k) m
 | 0, T, _, _ => by
  have := sumN_nonneg (f := fun k => if T k then 0 else z k) (m := m) (fun j _ => by
   have := hz j
   split <;> omega)
  simp only [V, sumN]
  omega
 | r + 1, T, hr, h => by
  have ih := fun T h' => V_le (c := c) (n := n) (m := m) hy hz r T (by omega) h'
  simp only [V]
  refine bestK_le ?_ (fun k hk hp => ?_)
  ·have h1 := ih T (fun i k a b d e f => h i k (by omega) b d e f)
   have h2 := hy (n - 1 - r)
   simp only [sumN]
   omega
  ·obtain ⟨hp0, hp1⟩ := okB_iff.1 hp
   have h1 := ih (setT T k) (fun i j a b d e f => h i j (by omega) b d e (by
    unfold setT at f
    by_cases hj : j = k
    ·rw [if_pos hj] at f; exact absurd f (by decide)
    ·rw [if_neg hj] at f; exact f))
   have h2 := h (n - (r + 1)) k (by omega) (by omega) hk hp0 hp1
   have h3 := sumN_upd (f := fun k => if T k then 0 else z k) (g := fun j => if setT T k j then 0 else z j) (m := m) (k := k) hk (fun j _ hne => by
    have : setT T k j = T j := if_neg hne
    rw [this])
   have e1 : (if T k = true then (0 : Int) else z k) = z k := if_neg (by rw [hp1]; decide)
   have e2 : (if setT T k k = true then (0 : Int) else z k) = 0 := if_pos (by unfold setT; rw [if_pos rfl])
   simp only [e1, e2] at h3
   have e3 : n - 1 - r = n - (r + 1) := by omega
   simp only [sumN, e3]
   omega
def val (c : Nat → Nat → Int) (m : Nat) (row : Nat → Int) : Int := sumN (fun k => if row k < 0 then 0 else 1073741824 - c (row k).toNat k) m
structure Mat (c : Nat → Nat → Int) (n m fr : Nat) (T : Nat → Bool) (row : Nat → Int) : Prop where
 rng : ∀ k, k < m → row k = -1 ∨ ∃ i : Nat, row k = (i : Int) ∧ fr ≤ i ∧ i < n ∧ T k = false ∧ 0 ≤ c i k
 inj : ∀ j k, j < m → k < m → row j = row k → 0 ≤ row j → j = k
theorem V_ge {c : Nat → Nat → Int} {n m : Nat} : ∀ (r : Nat) (T : Nat → Bool) (row : Nat → Int), r ≤ n → Mat c n m (n - r) T row → val c m row ≤ V c n m r T
 | 0, T, row, _, h => by
  have : val c m row = 0 := sumN_zero (fun j hj => by
   rcases h.rng j hj with e | ⟨i, e, h1, h2, -⟩
   ·rw [if_pos (by omega)]
   ·omega)
  simp only [V]
  omega
 | r + 1, T, row, hr, h => by
  by_cases hex : ∃ k, k < m ∧ row k = ((n - (r + 1) : Nat) : Int)
  ·obtain ⟨k, hk, e⟩ := hex
   rcases h.rng k hk with e' | ⟨i, e', h1, h2, h3, h4⟩
   ·omega
   ·have hi : i = n - (r + 1) := by omega
    subst hi
    have ih := V_ge (c := c) (n := n) (m := m) r (setT T k) (upd row k (-1)) (by omega) ⟨fun j hj => by
     by_cases hne : j = k
     ·subst hne; exact Or.inl upd_at
     ·rw [upd_ne hne]
      rcases h.rng j hj with q | ⟨i, q, h1, h2, h3, h4⟩
      ·exact Or.inl q
      ·refine Or.inr ⟨i, q, ?_, h2, by unfold setT; rw [if_neg hne]; exact h3, h4⟩
       have : i ≠ n - (r + 1) := fun ei => hne (h.inj j k hj hk (by rw [q, e', ei]) (by omega))
       omega, fun j j' hj hj' q q0 => by
     by_cases a : j = k
     ·subst a; rw [upd_at] at q0; omega
     ·by_cases b : j' = k
      ·subst b; rw [upd_at] at q; omega
      ·rw [upd_ne a, upd_ne b] at q
       rw [upd_ne a] at q0
       exact h.inj j j' hj hj' q q0⟩
    have h5 := sumN_upd (f := fun j => if row j < 0 then 0 else 1073741824 - c (row j).toNat j) (g := fun j => if upd row k (-1) j < 0 then 0 else 1073741824 - c (upd row k (-1) j).toNat j) (m := m) (k := k) hk (fun j _ hne => by simp only [upd_ne hne])
    have e1 : (if row k < 0 then (0 : Int) else 1073741824 - c (row k).toNat k) = 1073741824 - c (n - (r + 1)) k := by
     rw [if_neg (by omega), e]; rfl
    have e2 : (if upd row k (-1) k < 0 then (0 : Int) else 1073741824 - c (upd row k (-1) k).toNat k) = 0 := if_pos (by rw [upd_at]; omega)
    simp only [e1, e2] at h5
    have h6 := bestK_ge (f := fun k => 1073741824 - c (n - (r + 1)) k + V c n m r (setT T k)) (p := okB c T (n - (r + 1))) (x := V c n m r T) (m := m) (k := k) hk (okB_iff.2 ⟨h4, h3⟩)
    simp only [V]
    unfold val at ih ⊢
    omega
  ·have ih := V_ge (c := c) (n := n) (m := m) r T row (by omega) ⟨fun k hk => by
    rcases h.rng k hk with q | ⟨i, q, h1, h2, h3⟩
    ·exact Or.inl q
    ·refine Or.inr ⟨i, q, ?_, h2, h3⟩
     have : i ≠ n - (r + 1) := fun ei => hex ⟨k, hk, by rw [q, ei]⟩
     omega, h.inj⟩
   have h6 := bestK_ge0 (f := fun k => 1073741824 - c (n - (r + 1)) k + V c n m r (setT T k)) (p := okB c T (n - (r + 1))) (x := V c n m r T) (m := m)
   simp only [V]
   omega
theorem rows_sum {n m : Nat} {y : Nat → Int} {row : Nat → Int} (hy : ∀ i, 0 ≤ y i) : ∀ (r : Nat), r ≤ n → (∀ i, n - r ≤ i → i < n → y i = 0 ∨ ∃ k, k < m ∧ row k = (i : Int)) →
    sumN (fun j => y (n - 1 - j)) r ≤ sumN (fun k => if row k < ((n - r : Nat) : Int) then 0 else y (row k).toNat) m
 | 0, _, _ => sumN_nonneg (fun j _ => by
  have := hy (row j).toNat
  split <;> omega)
 | r + 1, hr, h => by
  have ih := rows_sum (n := n) (m := m) (row := row) hy r (by omega) (fun i a b => h i (by omega) b)
  have mono : ∀ j, j < m → (if row j < ((n - r : Nat) : Int) then 0 else y (row j).toNat) ≤ (if row j < ((n - (r + 1) : Nat) : Int) then 0 else y (row j).toNat) := fun j _ => by
   have := hy (row j).toNat
   split <;> split <;> omega
  have e3 : n - 1 - r = n - (r + 1) := by omega
  simp only [sumN, e3]
  rcases h (n - (r + 1)) (by omega) (by omega) with h0 | ⟨k, hk, e⟩
  ·have := sumN_le (m := m) mono
   omega
  ·have := sumN_bump (x := y (n - (r + 1))) (m := m) mono hk (by
    rw [if_pos (by omega), if_neg (by omega), e]
    simp)
   omega
theorem V_eq {c : Nat → Nat → Int} {n m r : Nat} {T : Nat → Bool} {row y z : Nat → Int} (hr : r ≤ n) (hM : Mat c n m (n - r) T row) (hy : ∀ i, 0 ≤ y i) (hz : ∀ k, 0 ≤ z k)
    (hf : ∀ i k, n - r ≤ i → i < n → k < m → 0 ≤ c i k → T k = false → 1073741824 - c i k ≤ y i + z k)
    (ht : ∀ (i k : Nat), k < m → row k = (i : Int) → 1073741824 - c i k = y i + z k)
    (hy0 : ∀ i, n - r ≤ i → i < n → y i = 0 ∨ ∃ k, k < m ∧ row k = (i : Int))
    (hz0 : ∀ k, k < m → row k < 0 → T k = false → z k = 0) : val c m row = V c n m r T := by
 refine Int.le_antisymm (V_ge r T row hr hM) ?_
 have h1 := V_le hy hz r T hr hf
 have h2 := rows_sum hy r hr hy0
 have h3 : val c m row = sumN (fun k => if row k < ((n - r : Nat) : Int) then 0 else y (row k).toNat) m + sumN (fun k => if T k then 0 else z k) m := by
  rw [← sumN_add]
  refine sumN_congr (fun k hk => ?_)
  rcases hM.rng k hk with e | ⟨i, e, q1, q2, q3, q4⟩
  ·rw [if_pos (by omega), if_pos (by omega)]
   cases hT : T k with
   | true => rfl
   | false => rw [if_neg (by decide), hz0 k hk (by omega) hT]; rfl
  ·rw [if_neg (by omega), if_neg (by omega), if_neg (by rw [q3]; decide), e]
   exact ht i k hk e
 omega
end AsgMath
end
section
namespace AsgMath
def colOf (m : Nat) (row : Nat → Int) (i : Int) : Option Nat := (List.range m).find? (fun k => decide (row k = i))
theorem colOf_some {m : Nat} {row : Nat → Int} {i : Int} {k : Nat} (h : colOf m row i = some k) : k < m ∧ row k = i := by
 unfold colOf at h
 have h1 := List.find?_some h
 have h2 := List.mem_of_find?_eq_some h
 exact ⟨List.mem_range.1 h2, by simpa using h1⟩
theorem colOf_none {m : Nat} {row : Nat → Int} {i : Int} (h : colOf m row i = none) {k : Nat} (hk : k < m) : row k ≠ i := by
 unfold colOf at h
 have := (List.find?_eq_none.1 h) k (List.mem_range.2 hk)
 simpa using this
def ofV (c : Nat → Nat → Int) (m : Nat) (row dist : Nat → Int) (i : Nat) : Int :=
 match colOf m row (i : Int) with
 | some k => if 1099511627776 ≤ dist k then 1099511627776 else dist k - c i k
 | none => 0
theorem ofV_free {c : Nat → Nat → Int} {m : Nat} {row dist : Nat → Int} {i : Nat} (h : ∀ k, k < m → row k ≠ (i : Int)) : ofV c m row dist i = 0 := by
 unfold ofV
 cases e : colOf m row (i : Int) with
 | none => rfl
 | some k => exact absurd (colOf_some e).2 (h k (colOf_some e).1)
theorem ofV_at {c : Nat → Nat → Int} {n m fr : Nat} {T : Nat → Bool} {row dist : Nat → Int} {i k : Nat} (hM : Mat c n m fr T row) (hk : k < m) (h : row k = (i : Int)) : ofV c m row dist i = if 1099511627776 ≤ dist k then 1099511627776 else dist k - c i k := by
 unfold ofV
 cases e : colOf m row (i : Int) with
 | none => exact absurd h (colOf_none e hk)
 | some j =>
  obtain ⟨h1, h2⟩ := colOf_some e
  have : j = k := hM.inj j k h1 hk (by rw [h2, h]) (by omega)
  subst this
  rfl
theorem ofV_congr {c : Nat → Nat → Int} {m : Nat} {row dist dist' : Nat → Int} {i : Nat} (h : ∀ k, k < m → row k = (i : Int) → dist' k = dist k) : ofV c m row dist' i = ofV c m row dist i := by
 unfold ofV
 cases e : colOf m row (i : Int) with
 | none => rfl
 | some k =>
  have := h k (colOf_some e).1 (colOf_some e).2
  simp only [this]
structure Pot (c : Nat → Nat → Int) (n m fr : Nat) (T : Nat → Bool) (row a b : Nat → Int) (β : Int) : Prop where
 feas : ∀ i k, fr ≤ i → i < n → k < m → T k = false → 0 ≤ c i k → b k ≤ a i + c i k
 tight : ∀ (i k : Nat), k < m → row k = (i : Int) → b k = a i + c i k
 a0 : ∀ i, 0 ≤ a i
 afree : ∀ i, fr ≤ i → i < n → (∀ k, k < m → row k ≠ (i : Int)) → a i = 0
 bfree : ∀ k, k < m → row k < 0 → T k = false → β ≤ b k
 bmat : ∀ k, k < m → 0 ≤ row k → b k ≤ β
 lo : 0 ≤ β
 hi : β ≤ 16777216
inductive Dep (m : Nat) (row by' : Nat → Int) : Nat → Nat → Prop
 | root {k : Nat} (h : ∀ j, j < m → row j ≠ by' k) : Dep m row by' k 0
 | step {k j d : Nat} (hj : j < m) (e : row j = by' k) (h : Dep m row by' j d) : Dep m row by' k (d + 1)
def cnt (dist : Nat → Int) : Nat → Int := sumN (fun k => if dist k < 1099511627776 then 1 else 0)
theorem cnt_le {dist : Nat → Int} : ∀ (m : Nat), cnt dist m ≤ m
 | 0 => Int.le_refl _
 | m + 1 => by
  have := cnt_le (dist := dist) m
  unfold cnt at *
  simp only [sumN]
  split <;> omega
structure DInv (c : Nat → Nat → Int) (n m fr : Nat) (T : Nat → Bool) (row b dist by' : Nat → Int) : Prop where
 tk : ∀ k, k < m → dist k < 1099511627776 → T k = false
 lo : ∀ k, k < m → dist k < 1099511627776 → b k ≤ dist k ∧ 0 ≤ dist k
 le : ∀ k, k < m → dist k ≤ 1099511627776
 par : ∀ k, k < m → dist k < 1099511627776 → ∃ i : Nat, by' k = (i : Int) ∧ fr ≤ i ∧ i < n ∧ 0 ≤ c i k ∧ row k ≠ (i : Int) ∧ ofV c m row dist i < 1099511627776 ∧ ofV c m row dist i + c i k ≤ dist k
 chain : ∀ k, k < m → dist k < 1099511627776 → ∃ d, Dep m row by' k d
 bound : ∀ k, k < m → dist k < 1099511627776 → dist k ≤ cnt dist m * 1048576
theorem DInv.start {c : Nat → Nat → Int} {n m fr : Nat} {T : Nat → Bool} {row b dist by' : Nat → Int} (h : ∀ k, k < m → dist k = 1099511627776) : DInv c n m fr T row b dist by' :=
 ⟨fun k hk q => by rw [h k hk] at q; exact absurd q (by decide), fun k hk q => by rw [h k hk] at q; exact absurd q (by decide), fun k hk => by rw [h k hk]; exact Int.le_refl _, fun k hk q => by rw [h k hk] at q; exact absurd q (by decide), fun k hk q => by rw [h k hk] at q; exact absurd q (by decide), fun k hk q => by rw [h k hk] at q; exact absurd q (by decide)⟩
theorem DInv.ge0 {c : Nat → Nat → Int} {n m fr : Nat} {T : Nat → Bool} {row b dist by' : Nat → Int} (h : DInv c n m fr T row b dist by') {k : Nat} (hk : k < m) : 0 ≤ dist k ∧ dist k ≤ 1099511627776 := by
 have h1 := h.le k hk
 by_cases hf : dist k < 1099511627776
 ·have := h.lo k hk hf; omega
 ·omega
section
variable {c : Nat → Nat → Int} {n m fr : Nat} {T : Nat → Bool} {row a b : Nat → Int} {β : Int} {dist by' : Nat → Int}
theorem Pot.b0 (h : Pot c n m fr T row a b β) (hM : Mat c n m fr T row) {k : Nat} (hk : k < m) (hT : T k = false) : 0 ≤ b k := by
 rcases hM.rng k hk with e | ⟨i, e, h1, h2, h3, h4⟩
 ·have := h.bfree k hk (by omega) hT
  have := h.lo
  omega
 ·have := h.tight i k hk e
  have := h.a0 i
  omega
theorem of_lo (hM : Mat c n m fr T row) (hP : Pot c n m fr T row a b β) (hD : DInv c n m fr T row b dist by') {i : Nat} (h1 : fr ≤ i) (h2 : i < n) (hf : ofV c m row dist i < 1099511627776) : a i ≤ ofV c m row dist i ∧ ofV c m row dist i ≤ cnt dist m * 1048576 := by
 have hc0 : 0 ≤ cnt dist m := sumN_nonneg (fun j _ => by split <;> omega)
 cases e : colOf m row (i : Int) with
 | none =>
  rw [ofV_free (fun k hk => colOf_none e hk), hP.afree i h1 h2 (fun k hk => colOf_none e hk)]
  omega
 | some k =>
  obtain ⟨hk, hr⟩ := colOf_some e
  have ho := ofV_at (dist := dist) hM hk hr
  rw [ho] at hf ⊢
  by_cases hd : 1099511627776 ≤ dist k
  ·rw [if_pos hd] at hf; omega
  ·rw [if_neg hd] at hf ⊢
   have := hD.lo k hk (by omega)
   have := hD.bound k hk (by omega)
   have := hP.tight i k hk hr
   rcases hM.rng k hk with e | ⟨i', e', q1, q2, q3, q4⟩
   ·omega
   ·have : i' = i := by omega
    subst this
    omega
theorem Dep.uniq (hM : Mat c n m fr T row) (hby : ∀ k, 0 ≤ by' k ∨ ∀ j, j < m → row j ≠ by' k) {k d : Nat} (h : Dep m row by' k d) : ∀ {d' : Nat}, Dep m row by' k d' → d = d' := by
 induction h with
 | root h0 =>
  intro d' h'
  cases h' with
  | root _ => rfl
  | step hj e _ => exact absurd e (h0 _ hj)
 | step hj e h ih =>
  intro d' h'
  cases h' with
  | root h0 => exact absurd e (h0 _ hj)
  | step hj' e' h' =>
   rename_i k j d j' d'
   have : j = j' := by
    rcases hby k with q | q
    ·exact hM.inj _ _ hj hj' (by rw [e, e']) (by omega)
    ·exact absurd e (q _ hj)
   subst this
   rw [ih h']
theorem DInv.relax (hm : m ≤ 16) (hcost : ∀ i k, i < n → k < m → c i k ≤ 1048576) (hM : Mat c n m fr T row) (hP : Pot c n m fr T row a b β) (hD : DInv c n m fr T row b dist by') {i k : Nat} (h1 : fr ≤ i) (h2 : i < n) (hk : k < m) (hT : T k = false) (hc : 0 ≤ c i k) (hr : row k ≠ (i : Int)) (hf : ofV c m row dist i < 1099511627776) (hlt : ofV c m row dist i + c i k < dist k) :
    DInv c n m fr T row b (upd dist k (ofV c m row dist i + c i k)) (upd by' k (i : Int)) := by
 have hlo := of_lo hM hP hD h1 h2 hf
 have hcl := hcost i k h2 hk
 have hle := hD.le k hk
 have hb := hP.feas i k h1 h2 hk hT hc
 have ha := hP.a0 i
 have hcm := cnt_le (dist := dist) m
 generalize hd : ofV c m row dist i = d at *
 -- the cost of the rows behind the step
 have hof : ∀ i', ofV c m row dist i' < 1099511627776 → ofV c m row (upd dist k (d + c i k)) i' ≤ ofV c m row dist i' ∧ ofV c m row (upd dist k (d + c i k)) i' < 1099511627776 := by
  intro i' hi'
  cases e : colOf m row (i' : Int) with
  | none =>
   rw [ofV_free (fun j hj => colOf_none e hj)] at hi' ⊢
   rw [ofV_free (fun j hj => colOf_none e hj)]
   omega
  | some j =>
   obtain ⟨hj, hrj⟩ := colOf_some e
   rw [ofV_at hM hj hrj] at hi' ⊢
   rw [ofV_at hM hj hrj]
   by_cases hjk : j = k
   ·subst hjk
    rw [upd_at]
    have hnk : ¬ (1099511627776 ≤ dist j) := fun hh => by rw [if_pos hh] at hi'; omega
    have hci : 0 ≤ c i' j := by
     rcases hM.rng j hk with q | ⟨i2, q, _, _, _, q4⟩
     ·omega
     ·have : i2 = i' := by omega
      subst this
      exact q4
    rw [if_neg hnk] at hi' ⊢
    rw [if_neg (by omega)]
    omega
   ·rw [upd_ne hjk]
    exact ⟨Int.le_refl _, hi'⟩
 have hcnt : cnt dist m ≤ cnt (upd dist k (d + c i k)) m ∧ (dist k = 1099511627776 → cnt dist m + 1 ≤ cnt (upd dist k (d + c i k)) m) := by
  refine ⟨sumN_le (fun j _ => ?_), fun he => sumN_bump (fun j _ => ?_) hk ?_⟩
  ·by_cases hjk : j = k
   ·subst hjk; rw [upd_at]; split <;> split <;> omega
   ·rw [upd_ne hjk]; exact Int.le_refl _
  ·by_cases hjk : j = k
   ·subst hjk; rw [upd_at]; split <;> split <;> omega
   ·rw [upd_ne hjk]; exact Int.le_refl _
  ·rw [upd_at, if_neg (by omega), if_pos (by omega)]; decide
 refine ⟨fun j hj h => ?_, fun j hj h => ?_, fun j hj => ?_, fun j hj h => ?_, fun j hj h => ?_, fun j hj h => ?_⟩
 ·by_cases hjk : j = k
  ·subst hjk; exact hT
  ·rw [upd_ne hjk] at h; exact hD.tk j hj h
 ·by_cases hjk : j = k
  ·subst hjk; rw [upd_at]; omega
  ·rw [upd_ne hjk] at h ⊢; exact hD.lo j hj h
 ·by_cases hjk : j = k
  ·subst hjk; rw [upd_at]; omega
  ·rw [upd_ne hjk]; exact hD.le j hj
 ·by_cases hjk : j = k
  ·subst hjk
   refine ⟨i, upd_at, h1, h2, hc, hr, ?_, ?_⟩
   ·rw [ofV_congr (dist := dist) (fun j hj hrj => upd_ne (fun e => hr (by rw [← e]; exact hrj))), hd]; exact hf
   ·rw [ofV_congr (dist := dist) (fun j hj hrj => upd_ne (fun e => hr (by rw [← e]; exact hrj))), hd, upd_at]; exact Int.le_refl _
  ·rw [upd_ne hjk] at h ⊢
   obtain ⟨i', e, q1, q2, q3, q4, q5, q6⟩ := hD.par j hj h
   have := hof i' q5
   rw [upd_ne hjk]
   exact ⟨i', e, q1, q2, q3, q4, this.2, by omega⟩
 ·-- no way leads back
  have low : ∀ j dd, Dep m row by' j dd → j < m → dist j < 1099511627776 → (dist k = 1099511627776 ∨ dist j - b j < dist k - b k) → Dep m row (upd by' k (i : Int)) j dd := by
   intro j dd hdep
   induction hdep with
   | @root j h0 =>
    intro hj hfin hr'
    have hjk : j ≠ k := fun e => by subst e; omega
    exact .root (by rw [upd_ne hjk]; exact h0)
   | @step j j' dd hj' e hdep ih =>
    intro hj hfin hr'
    have hjk : j ≠ k := fun e => by subst e; omega
    obtain ⟨i', e', q1, q2, q3, q4, q5, q6⟩ := hD.par j hj hfin
    have hri : row j' = (i' : Int) := by rw [e, e']
    have ho := ofV_at (dist := dist) hM hj' hri
    have ht := hP.tight i' j' hj' hri
    have hfe := hP.feas i' j q1 q2 hj (hD.tk j hj hfin) q3
    by_cases hd' : 1099511627776 ≤ dist j'
    ·rw [if_pos hd'] at ho; omega
    ·rw [if_neg hd'] at ho
     exact .step hj' (by rw [upd_ne hjk]; exact e) (ih hj' (by omega) (by omega))
  have hk' : ∃ dd, Dep m row (upd by' k (i : Int)) k dd := by
   cases e : colOf m row (i : Int) with
   | none => exact ⟨0, .root (fun j hj => by rw [upd_at]; exact colOf_none e hj)⟩
   | some j =>
    obtain ⟨hj, hrj⟩ := colOf_some e
    have ho := ofV_at (dist := dist) hM hj hrj
    rw [hd] at ho
    have ht := hP.tight i j hj hrj
    by_cases hd' : 1099511627776 ≤ dist j
    ·rw [if_pos hd'] at ho; omega
    ·rw [if_neg hd'] at ho
     obtain ⟨dd, hdd⟩ := hD.chain j hj (by omega)
     exact ⟨dd + 1, .step hj (by rw [upd_at]; exact hrj) (low j dd hdd hj (by omega) (by omega))⟩
  have all : ∀ j dd, Dep m row by' j dd → j < m → (dist j < 1099511627776 ∨ j = k) → ∃ d', Dep m row (upd by' k (i : Int)) j d' := by
   intro j dd hdep
   induction hdep with
   | @root j h0 =>
    intro hj hfin
    by_cases hjk : j = k
    ·subst hjk; exact hk'
    ·exact ⟨0, .root (by rw [upd_ne hjk]; exact h0)⟩
   | @step j j' dd hj' e hdep ih =>
    intro hj hfin
    by_cases hjk : j = k
    ·subst hjk; exact hk'
    ·obtain ⟨i', e', q1, q2, q3, q4, q5, q6⟩ := hD.par j hj (by rcases hfin with q | q; exact q; exact absurd q hjk)
     have hri : row j' = (i' : Int) := by rw [e, e']
     have ho := ofV_at (dist := dist) hM hj' hri
     by_cases hd' : 1099511627776 ≤ dist j'
     ·rw [if_pos hd'] at ho; omega
     ·obtain ⟨d', h'⟩ := ih hj' (Or.inl (by omega))
      exact ⟨d' + 1, .step hj' (by rw [upd_ne hjk]; exact e) h'⟩
  by_cases hjk : j = k
  ·subst hjk; exact hk'
  ·rw [upd_ne hjk] at h
   obtain ⟨dd, hdd⟩ := hD.chain j hj h
   exact all j dd hdd hj (Or.inl h)
 ·by_cases hjk : j = k
  ·subst hjk
   rw [upd_at]
   by_cases he : dist j = 1099511627776
   ·have := hcnt.2 he; omega
   ·have := hcnt.1
    have := hD.bound j hk (by omega)
    omega
  ·rw [upd_ne hjk] at h ⊢
   have := hcnt.1
   have := hD.bound j hj h
   omega
end
end AsgMath
end
