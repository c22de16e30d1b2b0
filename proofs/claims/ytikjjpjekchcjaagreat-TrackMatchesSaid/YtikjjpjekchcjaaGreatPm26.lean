/-
  TrkN
-/
import Derived.Test.YtikjjpjekchcjaaGreatPm25
set_option linter.all false
set_option maxRecDepth 100000
set_option maxHeartbeats 64000000
namespace Go.Proofs.YtikjjpjekchcjaaGreat
open Go.RowKit TrkMath MyHeap MyOwn MyCopy
def FK (p : Par) (P : List Pl) (L : List TB) (i k : Nat) : Nat → List Int := fun j => if j < i then rowV p P (gt L j).1 else if j = i then (rowV p P (gt L i).1).take k else []
theorem FK_zero (p : Par) (P : List Pl) (L : List TB) (j : Nat) : FK p P L 0 0 j = [] := by
 unfold FK
 rw [if_neg (Nat.not_lt_zero _)]
 split <;> simp
theorem FK_done (p : Par) (P : List Pl) (L : List TB) (i j : Nat) : FK p P L i P.length j = FK p P L (i + 1) 0 j := by
 unfold FK
 by_cases h : j < i
 ·rw [if_pos h, if_pos (by omega)]
 rw [if_neg h]
 by_cases e : j = i
 ·subst e
  rw [if_pos rfl, if_pos (by omega), List.take_of_length_le (by rw [eQ]; exact Nat.le_refl _)]
 rw [if_neg e, if_neg (by omega)]
 split <;> simp
theorem FK_at (p : Par) (P : List Pl) (L : List TB) (i k : Nat) : FK p P L i k i = (rowV p P (gt L i).1).take k := by
 unfold FK
 rw [if_neg (Nat.lt_irrefl _), if_pos rfl]
theorem FK_next (p : Par) (P : List Pl) (L : List TB) (i k : Nat) (hk : k < P.length) (j : Nat) : FK p P L i (k + 1) j = if j = i then FK p P L i k i ++ [costV p (gt L i).1 (gp P k) (lvOf (gp P k))] else FK p P L i k j := by
 by_cases e : j = i
 ·subst e
  rw [if_pos rfl, FK_at, FK_at, List.take_add_one]
  congr 1
  unfold rowV gp
  rw [List.getElem?_map, List.getElem?_eq_getElem hk]
  rfl
 rw [if_neg e]
 unfold FK
 split
 ·rfl
 first | rfl | rw [if_neg e, if_neg e]
theorem gl_map (P : List Pl) {k : Nat} (hk : k < P.length) : gl (P.map lvOf) k = lvOf (gp P k) := by
 unfold gl gp
 rw [List.getElem?_map, List.getElem?_eq_getElem hk]
 rfl
theorem toP_at (l : List (Nat × Nat)) {j : Nat} (hj : j < l.length) : (Asg.toP l)[j]?.getD (0, 0) = (((l[j]).1 : Int), ((l[j]).2 : Int)) := by
 unfold Asg.toP
 rw [List.getElem?_map, List.getElem?_eq_getElem hj]
 rfl
theorem k4 : (Tryz.prog.info? 3).map (fun i => (i.zero, i.size, i.bytes)) = some (some (.int .i64 0), 1, 8) := by kernel_rfl
theorem grown_cell {W W' : World} {v u : Value} {b i : Nat} (hg : W.grownBy W' v.ownBlock) (hne : v.ownBlock ≠ some b) (h : W.cell? ⟨b, i, none⟩ = some u) : W'.cell? ⟨b, i, none⟩ = some u :=
 (Outs.of_grown (X := [v.ownBlock]) hg (fun _ e => by rw [← e]; exact List.mem_singleton.2 rfl)).cell h (fun e => hne (List.mem_singleton.1 e).symm)
theorem gO {W W' : World} {v : Value} {b : Nat} {o : Obj} (hg : W.grownBy W' v.ownBlock) (hne : v.ownBlock ≠ some b) (h : W.heap[b]? = some o) : W'.heap[b]? = some o :=
 (hg.block b (aB h) (fun e => hne e.symm)).trans h
theorem d7 {W : World} {base : Nat} {e e' : TypeId} {s : Nat} {u : Value} {n g : Nat} {xs : List Value} {cs : Array Value} (h : W.ownsRow base e s u n xs) (hg : u.ownBlock = some g) (hb : W.heap[g]? = some (.cells cs e' (0, 0))) (hne : e ≠ e') : False := by
 obtain ⟨cs', h'⟩ := eS h hg
 rw [hb] at h'
 injection h' with h'
 injection h' with _ h''
 exact hne h''.symm
theorem PrOk.len {p : Par} {L : List Tk} {P : List Pl} {l : List (Nat × Nat)} (h : PrOk p L P l) {n : Nat} (hn : L.length = n) : l.length ≤ n := by
 have key : ∀ j (hj : j < l.length), j ≤ (l[j]).1 := by
  intro j
  induction j with
  | zero => intro _; exact Nat.zero_le _
  | succ j ih =>
   intro hj
   have h1 := ih (by omega)
   have h2 := h.inc j (j + 1) (by omega) hj (by omega)
   omega
 by_cases h0 : l.length = 0
 ·omega
 have h1 := key (l.length - 1) (by omega)
 have h2 := h.row _ (List.getElem_mem (l := l) (n := l.length - 1) (by omega))
 omega
structure Prs (w : World) (a : Option Addr) (n : Nat) (ps : List (Int × Int)) : Prop where
 len : ps.length = n
 cells : n = 0 ∨ ∃ b off, a = some ⟨b, off, none⟩ ∧ ∀ i, i < n → w.cell? ⟨b, off + i * 2, none⟩ = some (.int .i64 (ps[i]?.getD (0, 0)).1) ∧ w.cell? ⟨b, off + i * 2 + 1, none⟩ = some (.int .i64 (ps[i]?.getD (0, 0)).2)
theorem Prs.below {w w' : World} {a : Option Addr} {n : Nat} {ps : List (Int × Int)} (h : Prs w a n ps) (hb : Below w.heap.size w w') : Prs w' a n ps := by
 refine ⟨h.len, ?_⟩
 rcases h.cells with h0 | ⟨b, off, rfl, hc⟩
 ·exact Or.inl h0
 exact Or.inr ⟨b, off, rfl, fun i hi => ⟨aS hb (hc i hi).1, aS hb (hc i hi).2⟩⟩
theorem prs_at {w : World} {a : Option Addr} {n : Nat} {ps : List (Int × Int)} (h : Prs w a n ps) {k : Nat} (hk : k < n) : ∃ b off, a = some ⟨b, off, none⟩ ∧ w.cell? ⟨b, off + k * 2, none⟩ = some (.int .i64 (ps[k]?.getD (0, 0)).1) ∧ w.cell? ⟨b, off + k * 2 + 1, none⟩ = some (.int .i64 (ps[k]?.getD (0, 0)).2) := by
 rcases h.cells with h0 | ⟨b, off, e, hc⟩
 ·omega
 exact ⟨b, off, e, hc k hk⟩
theorem prs_own {w : World} {base : Nat} {e : TypeId} {v : Value} {ps : List (Int × Int)} (h : w.ownsRow base e 2 v ps.length (flat2 ps)) (hm : ps.length ≤ 9223372036854775807) : ∃ a c, v = .slice a ps.length c ∧ Prs w a ps.length ps := by
 have _ := hm
 rcases h.2 with ⟨rfl, h0⟩ | ⟨g, cap, cur, rfl, hg, hh, hc, hcm, hcs, htake⟩
 ·exact ⟨none, 0, by rw [h0], rfl, Or.inl h0⟩
 refine ⟨some ⟨g, 0, none⟩, cap, rfl, rfl, Or.inr ⟨g, 0, rfl, fun i hi => ?_⟩⟩
 obtain ⟨h1, h2⟩ := oB ps i hi
 rw [← htake, List.getElem?_take_of_lt (by omega)] at h1 h2
 rw [Nat.zero_add]
 exact ⟨aA hh (by simpa using h1), aA hh (by simpa using h2)⟩
theorem jW {w W W' : World} {b : Nat} (hg : W.grownBy W' (some b)) (hb : b = w.heap.size) (hs : w.heap.size ≤ W.heap.size) : Below w.heap.size W W' :=
 ⟨hg.os, hg.tape, hg.output, hg.size, fun k hk => hg.block k (by omega) (fun e => by have := Option.some.inj e; omega)⟩
def PrPost (l : List (Nat × Nat)) (w : World) (e : Ending) (w' : World) : Prop := ∃ b, e = .returned (.map (some b)) ∧ MapI b l w' ∧ w.heap.size ≤ b ∧ Below w.heap.size w w'
theorem pair_call (r g n c : Nat) (p : Par) (now next : Int) (a : Option Addr) (eV : Value) (pa : Option Addr) (pn pc gc : Nat) (P : List Pl) (L : List TB) (w : World)
    (hR : RunAt r p now next (.slice a n c) (.slice pa pn pc) (.slice (some ⟨g, 0, none⟩) pn gc) eV w) (hT : Trs w a n L) (hI : ∀ k, k < n → BdI w (gt L k)) (hP : Pls w pa pn P) (hL : LvAt g (P.map lvOf) w)
    (hok : ∀ k, k < n → TkOk p (gt L k).1) (hpar : ParOk p) (n16 : n ≤ 16) (p16 : pn ≤ 16) (hpl : ∀ k, k < pn → plE (gp P k) = 0) :
    Calls Tryz.prog 27 #[.pointer (some ⟨r, 0, none⟩)] w (PrPost (prsV p (fsts L) P) w) := by
 obtain ⟨i0, hi0, hz0, hs0, hb0⟩ := b6 k4
 have HF := qh (And.intro hi0 (And.intro hz0 (And.intro hs0 hb0)))
 have HR := qh hR
 have HT := qh hT
 have HI := qh hI
 have HP := qh hP
 have HLv := qh hL
 have HO := qh (And.intro hok (And.intro hpar hpl))
 have HLn := qh (And.intro hT.len hP.len)
 have HN := qh (And.intro n16 p16)
 have mkS : ∀ W : World, (Instr.makeSlice 89 (.int .i64 (n : Int)) (.int .i64 (n : Int))).run Tryz.prog W = .ok (.slice (some ⟨W.heap.size, 0, none⟩) n n) (W.alloc (.cells (madeCells #[.slice none 0 0] n) 51)) := Asg.hmkS n (by omega)
 have hmm := @run_makeMap Tryz.prog
 obtain ⟨r0, r1, r2, r3, r4, r5, r6, r7, r8, r9⟩ := hR.cells
 have rl := hR.lt
 have HCM := qh ((CM.made (n := n) (Nat.le_refl w.heap.size)).congr (G := FK p P L 0 0) (fun i _ => (FK_zero p P L i).symm))
 have HB := qh (aC w (.cells (madeCells #[.slice none 0 0] n) 51))
 clear hR hT hI hP hL hok hpar hpl hi0 hz0 hs0 hb0
 go_enter Tryz.func27, Tryz.ntmps27
 go_wp2_with fail
 obtain ⟨cb, hcb⟩ : ∃ cb, cb = w.heap.size := ⟨_, rfl⟩
 rw [← hcb]
 have HCb := qh hcb
 clear hcb r0 r1 r2 r3 r4 r5 r6 r7 r8 r9 rl mkS
 go_loopw [25] (fun kv wr => ∃ (i : Nat), i ≤ n ∧ kv = .int .i64 i ∧ Below w.heap.size w wr ∧ CM w.heap.size cb n (FK p P L i 0) wr) (fun kv _ => n - (intOf kv).toNat)
 case atStart => exact ⟨0, by omega, rfl, HB.out, by rw [HCb.out]; exact HCM.out⟩
 case round =>
  clear HCM HB
  obtain ⟨i, hi, rfl, hB, hC⟩ := hrel
  have B := qh hB
  have C := qh hC
  clear hB hC
  by_cases hlt : i < n
  ·obtain ⟨b, off, rfl, hq⟩ := eO (HT.out.below B.out) hlt
   have HLt := qh hlt
   have HBd := qh ((HI.out i hlt).below B.out)
   have HOk := qh (HO.out.1 i hlt)
   obtain ⟨q, hqe⟩ : ∃ q, gt L i = q := ⟨_, rfl⟩
   rw [hqe] at hq HBd HOk
   have HQ := qh hqe
   obtain ⟨x0, x1, x2, x3, x4, x5, x6, x7, x8, x9⟩ := hq
   have xl := World.block_lt_of_cell? _ _ x0
   obtain ⟨r0, r1, r2, r3, r4, r5, r6, r7, r8, r9⟩ := (HR.out.below B.out).cells
   have rl := (HR.out.below B.out).lt
   have hk0 : (0 : Int) ≤ (i : Int) := by omega
   have hk1 : (i : Int) < (n : Int) := by omega
   have hiw : IntKind.i64.wrap ((i : Int) + 1) = ((i + 1 : Nat) : Int) := by have := HN.out.1; rw [IntWalk.i64_in _ (by omega)]; omega
   have KA := qh (And.intro (B.out.alloc B.out.size (.cells (tkC q) 55)) (And.intro (C.out.below (aC wr (.cells (tkC q) 55))) (aI wr (.cells (tkC q) 55 (0, 0)) rfl)))
   replace HBd := qh (HBd.out.below (aC wr (.cells (tkC q) 55)))
   clear hqe hlt
   unfold tkC at KA HBd
   obtain ⟨⟨id, addr, rg, lo, hi, hits, misses, firm⟩, ⟨aL, nL, cL, aH, nH, cH⟩⟩ := q
   simp only [] at x0 x1 x2 x3 x4 x5 x6 x7 x8 x9 KA HBd HOk HQ
   go_wp2_with fail
   obtain ⟨T, hTe⟩ : ∃ T, T = wr.heap.size := ⟨_, rfl⟩
   rw [← hTe] at KA ⊢
   have HTl := qh (show w.heap.size ≤ T from by rw [hTe]; exact B.out.size)
   generalize wr.alloc (.cells #[.int .i64 id, .int .i64 addr, .int .i64 rg.r, .int .i64 rg.v, .int .i64 rg.n, .slice aL nL cL, .slice aH nH cH, .int .i64 hits, .int .i64 misses, .bool firm] 55) = wa at *
   clear hTe x0 x1 x2 x3 x4 x5 x6 x7 x8 x9 xl r0 r1 r2 r3 r4 r5 r6 r7 r8 r9 rl B C
   go_loopw [35] (fun kv wr2 => ∃ (k : Nat), k ≤ pn ∧ kv = .int .i64 k ∧ Below w.heap.size w wr2 ∧ CM w.heap.size cb n (FK p P L i k) wr2 ∧ wr2.heap[T]? = some (.cells #[.int .i64 id, .int .i64 addr, .int .i64 rg.r, .int .i64 rg.v, .int .i64 rg.n, .slice aL nL cL, .slice aH nH cH, .int .i64 hits, .int .i64 misses, .bool firm] 55 (0, 0))) (fun kv _ => pn - (intOf kv).toNat)
   case atStart => exact ⟨0, by omega, rfl, KA.out.1, KA.out.2.1, KA.out.2.2⟩
   case round =>
    obtain ⟨k, hk, rfl, hB, hC, hX⟩ := hrel
    have B := qh hB
    have C := qh hC
    have X := qh hX
    clear hB hC hX KA
    by_cases hlt : k < pn
    ·have HKl := qh hlt
     have hj0 : (0 : Int) ≤ (k : Int) := by omega
     have hj1 : (k : Int) < (pn : Int) := by omega
     have hkw : IntKind.i64.wrap ((k : Int) + 1) = ((k + 1 : Nat) : Int) := by have := HN.out.2; rw [IntWalk.i64_in _ (by omega)]; omega
     obtain ⟨au, cu, y0, hown, -, hcl⟩ := C.out.at HLt.out
     have HM := qh (show (FK p P L i k i).length ≤ 16 from by rw [FK_at, List.length_take, eQ, HLn.out.2]; have := HN.out.2; omega)
     obtain ⟨m, hm⟩ : ∃ m, (FK p P L i k i).length = m := ⟨_, rfl⟩
     rw [hm] at y0 hown HM
     have HMe := qh hm
     have HOw := qh hown
     have HGl := qh (gl_map P (k := k) (by rw [HLn.out.2]; exact hlt))
     have HBk := qh ((HI.out i HLt.out).below B.out)
     rw [HQ.out] at HBk
     obtain ⟨V, hV⟩ : ∃ V, costV p ⟨id, addr, rg, lo, hi, hits, misses, firm⟩ (gp P k) (lvOf (gp P k)) = V := ⟨_, rfl⟩
     have HVe := qh (show costV p (gt L i).1 (gp P k) (lvOf (gp P k)) = V from by rw [HQ.out]; exact hV)
     have HCo := qh (show ∀ W : World, Below w.heap.size w W → BdI W (⟨id, addr, rg, lo, hi, hits, misses, firm⟩, ⟨aL, nL, cL, aH, nH, cH⟩) → Calls Tryz.prog 55 #[.pointer (some ⟨r, 0, none⟩), .agg #[.int .i64 id, .int .i64 addr, .int .i64 rg.r, .int .i64 rg.v, .int .i64 rg.n, .slice aL nL cL, .slice aH nH cH, .int .i64 hits, .int .i64 misses, .bool firm], .int .i64 (k : Int)] W (NPost V W) from fun W hB hBd => by
      have h := cost_call r g pn gc p now next _ _ _ pn pc P (P.map lvOf) ⟨id, addr, rg, lo, hi, hits, misses, firm⟩ ⟨aL, nL, cL, aH, nH, cH⟩ k W (HR.out.below hB) (HP.out.below hB) (HLv.out.below hB) (by rw [List.length_map]; exact HLn.out.2) HKl.out HKl.out (by rw [HGl.out]; exact jH (HO.out.2.2 k HKl.out)) HOk.out HO.out.2.1 (fL (HO.out.2.2 k HKl.out)).1 hBd
      rw [HGl.out, hV] at h
      exact h)
     clear hm hown hlt hV
     go_wp2_with fail
     have KD := qh (show Below wr.heap.size wr wr.drew from aM (Below.refl _ _) 1)
     replace B := qh (B.out.trans (KD.out.mono B.out.size))
     replace C := qh (C.out.below KD.out)
     replace HOw := qh (aO HOw.out KD.out (Nat.le_refl _))
     have HS := qh (And.intro (aS KD.out y0) (aN KD.out X.out))
     replace HBk := qh (HBk.out.below KD.out)
     clear y0 X KD
     refine MyHeldE.start (fun W => W.cell? ⟨cb, i, none⟩ = some (.slice au m cu) ∧ W.heap[T]? = some (.cells #[.int .i64 id, .int .i64 addr, .int .i64 rg.r, .int .i64 rg.v, .int .i64 rg.n, .slice aL nL cL, .slice aH nH cH, .int .i64 hits, .int .i64 misses, .bool firm] 55 (0, 0))) [13] (by kernel_rfl) ?_
     have hHeld := HS.out
     refine MyHeldE.tk 0 ?_
     refine MyHeldE.tk 1 ?_
     refine MyHeldE.tk 2 ?_
     refine MyHeldE.tk 3 ?_
     refine MyHeldE.tk 4 ?_
     refine MyHeldE.tk 5 (hy := fun w hSw => by have hSc := hSw.1; go_simp; (try with_reducible rfl)) ?_
     refine MyHeldE.tk 6 ?_
     refine MyHeldE.tk 7 (hy := fun w hSw => by obtain ⟨z0, z1, z2, z3, z4, z5, z6, z7, z8, z9⟩ := TkAt.block' (q := (⟨id, addr, rg, lo, hi, hits, misses, firm⟩, ⟨aL, nL, cL, aH, nH, cH⟩)) hSw.2; simp only [] at z0 z1 z2 z3 z4 z5 z6 z7 z8 z9; go_simp; (try with_reducible rfl)) ?_
     refine MyHeldE.tk 8 ?_
     refine MyHeldE.ready (rs := [9]) (by kernel_rfl) (by simp) ?_
     refine (MyHeldE.next 9 (MyHeld.at_rfl rfl) (fun Kq hKq => ?_) MyHeldE.All.nil)
     go_simp
     go_at_call 55
     refine (HCo.out _ B.out HBk.out).mono ?_; rintro e w2 ⟨rfl, hb⟩
     replace B := qh (B.out.trans (hb.mono B.out.size))
     replace C := qh (C.out.below hb)
     replace HOw := qh (aO HOw.out hb (Nat.le_refl _))
     replace HS := qh (And.intro (aS hb HS.out.1) (aN hb HS.out.2))
     clear hb
     refine hKq.out _ _ (fun _ => (HS.out)) ?_
     clear hKq Kq hHeld
     have hHeld := (HS.out)
     try simp only [Act.put, List.setIfInBounds_toArray, List.set_cons_zero, List.set_cons_succ]
     refine MyHeldE.ready (rs := [10]) (by kernel_rfl) (by simp) ?_
     refine (MyHeldE.next 10 (MyHeld.at_rfl rfl) (fun Kq hKq => ?_) MyHeldE.All.nil)
     go_simp
     replace B := qh (B.out.trans ((aC _ (.cells #[.int .i64 V] 3)).mono B.out.size))
     replace C := qh (C.out.below (aC _ (.cells #[.int .i64 V] 3)))
     replace HOw := qh (aO HOw.out (aC _ (.cells #[.int .i64 V] 3)) (Nat.le_refl _))
     replace HS := qh (And.intro (aS (aC _ (.cells #[.int .i64 V] 3)) HS.out.1) (aN (aC _ (.cells #[.int .i64 V] 3)) HS.out.2))
     refine hKq.out _ _ (fun _ => HS.out) ?_
     clear hKq Kq hHeld
     have hHeld := HS.out
     try simp only [Act.put, List.setIfInBounds_toArray, List.set_cons_zero, List.set_cons_succ]
     refine MyHeldE.ready (rs := [11]) (by kernel_rfl) (by simp) ?_
     refine (MyHeldE.next 11 (MyHeld.at_rfl rfl) (fun Kq hKq => ?_) MyHeldE.All.nil)
     refine bC (by rfl) (.tmp 43) (.tmp 48) 51 (by rfl) w.heap.size 3 i0 _ 1 8 Tryz.underlying51 HF.out.1 HF.out.2.1 HF.out.2.2.1 HF.out.2.2.2 (by rfl) (by decide) _ m _ (by rfl) HOw.out ⟨w2.heap.size, 0, none⟩ 1 1 [.int .i64 V] (by rfl) (by rfl) (bA rfl) (by intro u hu; simp at hu; subst hu; rfl) (by have := HM.out; unfold maxLen; omega) (by have := HM.out; omega) B.out.size ?_
     intro v9 w9 hown9 hg9 hat9
     obtain ⟨a9, c9, rfl⟩ := aU hown9
     obtain ⟨-, csC, hC1, -⟩ := C.out
     have hncb : (Value.slice au m cu).ownBlock ≠ some cb := fun e => d7 HOw.out e hC1 (by decide)
     have hnT : (Value.slice au m cu).ownBlock ≠ some T := fun e => d7 HOw.out e HS.out.2 (by decide)
     have HS9 := qh (And.intro (grown_cell hg9 hncb HS.out.1) (gO hg9 hnT HS.out.2))
     have hTcb : T ≠ cb := fun e => by
      obtain ⟨-, cs, h1, -⟩ := C.out
      have h2 := HS.out.2
      rw [e, h1] at h2
      injection h2 with h2
      injection h2 with _ h2
      exact absurd h2 (by decide)
     have KC := qh (C.out.put (G := FK p P L i (k + 1)) (x := V) HLt.out HS.out.1 hg9 (by rw [HMe.out]; exact hown9) hat9 (fun j _ => by rw [← HVe.out]; exact FK_next p P L i k (by rw [HLn.out.2]; exact HKl.out) j) B.out.size)
     have hO9 : Only cb w9 (w9.setCell ⟨cb, i, none⟩ (.slice a9 (m + 1) c9)) := (Only.refl _ _).setCell _ _
     have XT := qh (hO9.keeps HS9.out.2 hTcb)
     have f9 : w9.frozen? ⟨cb, i, none⟩ = false := by
      obtain ⟨-, cs, h1, -⟩ := C.out
      exact aF (gO hg9 hncb h1)
     have l9 : cb < w9.heap.size := by
      obtain ⟨-, cs, h1, -⟩ := C.out
      exact aB (gO hg9 hncb h1)
     clear hown9 hg9 hat9 hncb hnT hTcb hO9 hC1
     refine hKq.out _ _ (fun _ => HS9.out) ?_
     clear hKq Kq hHeld
     have hHeld := HS9.out
     try simp only [Act.put, List.setIfInBounds_toArray, List.set_cons_zero, List.set_cons_succ]
     refine MyHeldE.tk 12 ?_
     refine MyHeldE.ready (rs := [13]) (by kernel_rfl) (by simp) ?_
     refine (MyHeldE.next 13 (MyHeld.at_rfl rfl) (fun Kq hKq => ?_) MyHeldE.All.nil)
     go_simp
     refine hKq.out _ _ (fun e => by cases e) ?_
     clear hKq Kq
     try simp only [Act.put, List.setIfInBounds_toArray, List.set_cons_zero, List.set_cons_succ]
     refine MyHeldE.done (by kernel_rfl) ?_ _
     go_wp2_with fail
     refine ⟨⟨k + 1, HKl.out, by go_num, ?_, KC.out.1, XT.out⟩, by simp [intOf]; have := HKl.out; omega⟩
     exact B.out.trans KC.out.2
    obtain rfl : pn = k := by omega
    go_wp2_with fail
    go_roundw
    case rel => exact ⟨i + 1, HLt.out, by go_num, B.out, C.out.congr fun j _ => by rw [← HLn.out.2]; exact FK_done p P L i j⟩
    case measure => simp [intOf]; have := HLt.out; omega
  obtain rfl : n = i := by omega
  have HFit := qh (oV p (fsts L) P)
  have HLe := qh (show (fsts L).length = n from by rw [aY]; exact HLn.out.1)
  have hch := qS (p := p) (L := fsts L) (P := P) HO.out.2.1 (by rw [HLe.out]; exact HN.out.1) (by rw [HLn.out.2]; exact HN.out.2)
  have hbs : Asg.bsL (rowsV p (fsts L) P) = Asg.toP (prsV p (fsts L) P) := if_pos hch
  have hmx := C.out.mtx (L := rowsV p (fsts L) P) (by rw [d6]; exact HLe.out) (by have := HN.out.1; omega) (fun i hi => by
   rw [e8 (by rw [HLe.out]; exact hi), fX]
   unfold FK
   rw [if_pos hi]) (fun i hi => by
   unfold FK
   rw [if_pos hi, eQ, HLn.out.2]
   have := HN.out.2
   omega)
  have hcall := Asg.best_call (some ⟨cb, 0, none⟩) n n (rowsV p (fsts L) P) wr hmx
  unfold Asg.BsPost at hcall
  rw [hbs, hch] at hcall
  have HLp := qh (show (prsV p (fsts L) P).length ≤ n from PrOk.len HFit.out HLe.out)
  obtain ⟨l, hl⟩ : ∃ l, prsV p (fsts L) P = l := ⟨_, rfl⟩
  rw [hl] at hcall HFit HLp
  have HLq := qh hl
  clear hch hbs hmx hl
  go_wp2_with fail
  refine hcall.mono ?_; rintro e w2 ⟨v, rfl, hown, hb⟩
  obtain ⟨aP, cP, hv, hPrs⟩ := prs_own hown (by rw [Asg.toP_len]; have := HLp.out; have := HN.out.1; omega)
  subst hv
  obtain ⟨m, hm⟩ : ∃ m, (Asg.toP l).length = m := ⟨_, rfl⟩
  rw [hm] at hPrs ⊢
  have HMl := qh (show l.length = m from by rw [← hm, Asg.toP_len])
  have HPr := qh hPrs
  replace B := qh (B.out.trans (hb.mono B.out.size))
  clear hcall hown hb hPrs hm C
  go_wp2_with fail
  have HMp := qh (show MapI w2.heap.size (l.take 0) (w2.alloc (.map #[] 0)) from MapI.made w2)
  have HB2 := qh (aC w2 (.map #[] 0))
  obtain ⟨mb, hmb⟩ : ∃ mb, mb = w2.heap.size := ⟨_, rfl⟩
  rw [← hmb] at HMp ⊢
  have HMb := qh hmb
  clear hmb
  go_loopw [61] (fun kv wr => ∃ (j : Nat), j ≤ m ∧ kv = .int .i64 j ∧ Below w2.heap.size w2 wr ∧ MapI mb (l.take j) wr) (fun kv _ => m - (intOf kv).toNat)
  case atStart => exact ⟨0, by omega, rfl, HB2.out, HMp.out⟩
  case round =>
   clear HMp HB2
   obtain ⟨j, hj, rfl, hB, hM⟩ := hrel
   have B2 := qh hB
   have M := qh hM
   clear hB hM
   by_cases hlt : j < m
   ·have HJ := qh hlt
    obtain ⟨b, off, rfl, y0, y1⟩ := prs_at (HPr.out.below B2.out) hlt
    rw [toP_at l (by rw [HMl.out]; exact hlt)] at y0 y1
    have yl := World.block_lt_of_cell? _ _ y0
    have hk0 : (0 : Int) ≤ (j : Int) := by omega
    have hk1 : (j : Int) < (m : Int) := by omega
    have hjw : IntKind.i64.wrap ((j : Int) + 1) = ((j + 1 : Nat) : Int) := by have := HLp.out; have := HMl.out; have := HN.out.1; rw [IntWalk.i64_in _ (by omega)]; omega
    obtain ⟨⟨i, k⟩, hik⟩ : ∃ q, l[j]'(by rw [HMl.out]; exact hlt) = q := ⟨_, rfl⟩
    rw [hik] at y0 y1
    simp only [] at y0 y1
    have HIn := qh (show (i, k) ∈ l from by rw [← hik]; exact List.getElem_mem _)
    have HIb := qh (show i ≤ 1000 ∧ k ≤ 1000 from by
     have h1 := HFit.out.row _ HIn.out
     have h2 := HFit.out.col _ HIn.out
     rw [HLe.out] at h1
     rw [HLn.out.2] at h2
     have := HN.out
     dsimp only at h1 h2
     omega)
    have HTk := qh (show l.take (j + 1) = l.take j ++ [(i, k)] from by
     rw [List.take_add_one, List.getElem?_eq_getElem (by rw [HMl.out]; exact hlt), hik]
     rfl)
    have HNe := qh (show ∀ q ∈ l.take j, q.1 ≠ i from fun q hq => by
     obtain ⟨x, hx, e⟩ := List.getElem_of_mem hq
     rw [List.getElem_take] at e
     have hxj : x < j := by rw [List.length_take] at hx; omega
     have := HFit.out.inc x j (by rw [HMl.out]; omega) (by rw [HMl.out]; exact hlt) hxj
     rw [e, hik] at this
     dsimp only at this
     omega)
    have MA := qh (M.out.below (aC wr (.cells #[.int .i64 (i : Int), .int .i64 (k : Int)] 96)))
    have BA := qh (B2.out.alloc B2.out.size (.cells #[.int .i64 (i : Int), .int .i64 (k : Int)] 96))
    obtain ⟨D, hD, hDm, hDr⟩ := MA.out
    have HD := qh (And.intro hDm hDr)
    have HDo := qh hD
    clear hlt hik hD hDm hDr M
    go_wp2_with (at_mapUpdate; refine wpList_mapUpdate_own _ rfl _ _ _ 81 rfl 3 3 keyI Tryz.underlying81 _ mb _ D rfl HDo.out (by rw [List.length_take]; have := HLp.out; have := HMl.out; have := HN.out.1; unfold maxLen; omega) _ _ (.int .i64 (i : Int)) rfl rfl (qB (by omega) (by have := HIb.out.1; omega)) (.lit (.int .i64 (k : Int))) [] (plainElem_int Tryz.underlying3 (wf64 (by omega) (by have := HIb.out.2; omega))) ?_; intro w9 hown9 hg9; have M9 := qh (MapI.put HD.out.1 HD.out.2 hown9 HNe.out); have B9 := qh (BA.out.trans (jW hg9 HMb.out BA.out.size)); clear hown9 hg9)
    refine ⟨⟨j + 1, HJ.out, by go_num, B9.out, by rw [HTk.out]; exact M9.out⟩, by simp [intOf]; have := HJ.out; omega⟩
   obtain rfl : m = j := by omega
   go_wp2_with fail
   go_ret
   refine ⟨mb, rfl, ?_, by rw [HMb.out]; exact B.out.size, B.out.trans (B2.out.mono B.out.size)⟩
   have h := M.out
   rw [List.take_of_length_le (by rw [HMl.out]; exact Nat.le_refl _)] at h
   rw [HLq.out]
   exact h
end Go.Proofs.YtikjjpjekchcjaaGreat
