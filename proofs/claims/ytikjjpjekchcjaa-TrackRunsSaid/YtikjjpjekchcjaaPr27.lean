/-
  PtAltL, TrkM
-/
import Derived.Test.YtikjjpjekchcjaaPr9
import Derived.Test.YtikjjpjekchcjaaPr19
import Derived.Test.YtikjjpjekchcjaaPr1
set_option linter.all false
set_option maxRecDepth 100000
set_option maxHeartbeats 64000000
section
namespace Go.Proofs.Ytikjjpjekchcjaa.Alt
open Go.RowKit Go.Shelf AltMath MyHeap MyCopy MyOwn
def SeW (w : World) (aL : Option Addr) (nL cL : Nat) (aH : Option Addr) (nH cH : Nat) (pl : Int) : World := ((w.alloc (.cells #[.slice aL nL cL, .slice aH nH cH] 44)).alloc (.cells #[.int .i64 pl] 3)).alloc (.cells #[.slice none 0 0, .slice none 0 0] 44)
structure SeK (w : World) (aL : Option Addr) (nL cL : Nat) (aH : Option Addr) (nH cH : Nat) (pl : Int) (W : World) : Prop where
 B : Below w.heap.size w W
 X : W.heap[w.heap.size]? = some (.cells (bdC aL nL cL aH nH cH) 44 (0, 0))
 a : W.heap[w.heap.size + 1]? = some (.cells #[.int .i64 pl] 3 (0, 0))
 R : W.heap[w.heap.size + 1 + 1]? = some (.cells #[.slice none 0 0, .slice none 0 0] 44 (0, 0))
theorem SeK.new (w : World) (aL : Option Addr) (nL cL : Nat) (aH : Option Addr) (nH cH : Nat) (pl : Int) : SeK w aL nL cL aH nH cH pl (SeW w aL nL cL aH nH cH pl) :=
 ⟨((below_alloc w _).alloc (by simp) _).alloc (by simp; omega) _, block_alloc (block_alloc (block_new _ _ rfl)), block_alloc (block_new _ _ (by simp)), block_new _ _ (by simp)⟩
theorem SeK.keep {w W W' : World} {aL : Option Addr} {nL cL : Nat} {aH : Option Addr} {nH cH : Nat} {pl : Int} (h : SeK w aL nL cL aH nH cH pl W) (hb : Below W.heap.size W W') : SeK w aL nL cL aH nH cH pl W' := ⟨h.B.trans (hb.mono h.B.size), keepO hb h.X, keepO hb h.a, keepO hb h.R⟩
theorem pStep_call (aL aH : Option Addr) (nL nH cL cH : Nat) (lo hi : List Int) (pl : Int) (w : World) (hL : Ints w aL nL lo) (hH : Ints w aH nH hi) :
    Calls Try.prog 57 #[bdV aL nL cL aH nH cH, .int .i64 pl] w (BOPost (stE lo hi pl) (loK (stF lo hi pl.toNat) 201) (hiK (stF lo hi pl.toNat) 201) w) := by
 have H := qh (And.intro hL hH)
 have K := qh (SeK.new w aL nL cL aH nH cH pl)
 clear hL hH
 unfold SeW at K
 unfold bdV
 by_cases hE : chB lo hi = 0
 ·by_cases hp : pl < 0 ∨ 32 < pl
  ·have HE := qh (And.intro hE hp)
   clear hE
   by_cases hp0 : pl < 0
   all_goals
    have hp1 : pl < 0 ∨ 32 < pl := hp
    clear hp
    try (replace hp1 : 32 < pl := by omega)
    go_enter Try.func57, Try.ntmps57
    go_wp2_with fail
    refine (pCheck_call aL aH nL nH cL cH lo hi _ (H.out.1.below K.out.B) (H.out.2.below K.out.B)).mono ?_; rintro e w1 ⟨rfl, hb⟩
    replace K := qh (K.out.keep hb)
    rw [HE.out.1]
    have p0 := cell_of_block (i := 0) K.out.a rfl
    obtain ⟨d0, d1, g0, g1⟩ := two_facts K.out.R
    clear hb
    go_wp2_with fail
    have hx := block_setCell (i := 1) (v := .slice none 0 0) (block_setCell (i := 0) (v := .slice none 0 0) K.out.R)
    have hO : Only (w.heap.size + 1 + 1) w1 ((w1.setCell ⟨w.heap.size + 1 + 1, 0, none⟩ (.slice none 0 0)).setCell ⟨w.heap.size + 1 + 1, 1, none⟩ (.slice none 0 0)) := ((Only.refl _ _).setCell 0 _).setCell 1 _
    have r0 := cell_of_block (i := 0) (v := .slice none 0 0) hx rfl
    have r1 := cell_of_block (i := 1) (v := .slice none 0 0) hx rfl
    refine bodyPost_ret (v := .tuple #[.agg #[.slice none 0 0, .slice none 0 0], .int .i64 1]) ?_ rfl (bo_err (stE_no HE.out.1 HE.out.2) (by decide) (K.out.B.trans (hO.below (by omega) K.out.B.size)))
    simp [results, Try.f57, go_sem, r0, r1]
  obtain ⟨P, rfl⟩ : ∃ P : Nat, pl = (P : Int) := ⟨pl.toNat, by omega⟩
  have hP0 : (0 : Int) ≤ (P : Int) := by omega
  have hP1 : (P : Int) ≤ 32 := by omega
  obtain ⟨e1, e2, e3⟩ := chB_ok hE
  obtain rfl : nL = 201 := by rw [← H.out.1.len]; exact e1
  obtain rfl : nH = 201 := by rw [← H.out.2.len]; exact e2
  obtain ⟨b1, o1, rfl, -⟩ := ints_at H.out.1 (k := 0) (by decide)
  obtain ⟨b2, o2, rfl, -⟩ := ints_at H.out.2 (k := 0) (by decide)
  have HE := qh (And.intro hE e3)
  clear hE hp e1 e2 e3
  go_enter Try.func57, Try.ntmps57
  go_wp2_with fail
  refine (pCheck_call (some ⟨b1, o1, none⟩) (some ⟨b2, o2, none⟩) 201 201 cL cH lo hi _ (H.out.1.below K.out.B) (H.out.2.below K.out.B)).mono ?_; rintro e w1 ⟨rfl, hb⟩
  replace K := qh (K.out.keep hb)
  rw [HE.out.1]
  have p0 := cell_of_block (i := 0) K.out.a rfl
  clear hb
  go_wp2_with fail
  refine (made_call (stF lo hi P) 83 #[.pointer (some ⟨w.heap.size, 0, none⟩), .pointer (some ⟨w.heap.size + 1, 0, none⟩)] w1 (enters_of Try.func83 (by kernel_rfl) rfl)
   (fun V hV i hi1 => step1_call b1 o1 b2 o2 cL cH lo hi P w.heap.size (w.heap.size + 1) i V hi1 (by omega) HE.out.2 (H.out.1.below (K.out.keep hV).B) (H.out.2.below (K.out.keep hV).B) (K.out.keep hV).X (cell_of_block (K.out.keep hV).a rfl))).mono ?_
  rintro e w3 ⟨vL, vH, rfl, hT, hB⟩
  obtain ⟨aP, nP, cP, rfl⟩ := own_slice3 hT.L
  obtain ⟨aQ, nQ, cQ, rfl⟩ := own_slice3 hT.H
  obtain ⟨d0, d1, g0, g1⟩ := two_facts (keepO hB K.out.R)
  have HT := qh (And.intro hT hB)
  clear hT hB p0
  go_wp2_with fail
  obtain ⟨hT9, hB9, r0, r1⟩ := pt_store (R := w.heap.size + 1 + 1) (by omega) K.out.R K.out.B HT.out.1 HT.out.2
  have hE0 : stE lo hi (P : Int) = 0 := stE_ok HE.out.1 (by omega)
  refine bodyPost_ret (v := .tuple #[.agg #[.slice aP nP cP, .slice aQ nQ cQ], .int .i64 0]) ?_ rfl ⟨_, _, by rw [hE0], fun _ => hT9, fun e => absurd hE0 e, hB9⟩
  simp [results, Try.f57, go_sem, r0, r1]
 have d1 : (chB lo hi != 0) = true := bne_iff_ne.2 hE
 have HE := qh hE
 clear hE
 go_enter Try.func57, Try.ntmps57
 go_wp2_with fail
 refine (pCheck_call aL aH nL nH cL cH lo hi _ (H.out.1.below K.out.B) (H.out.2.below K.out.B)).mono ?_; rintro e w1 ⟨rfl, hb⟩
 replace K := qh (K.out.keep hb)
 obtain ⟨c0, c1, g0, g1⟩ := two_facts K.out.R
 clear hb
 go_wp2_with fail
 have hx := block_setCell (i := 1) (v := .slice none 0 0) (block_setCell (i := 0) (v := .slice none 0 0) K.out.R)
 have hO : Only (w.heap.size + 1 + 1) w1 ((w1.setCell ⟨w.heap.size + 1 + 1, 0, none⟩ (.slice none 0 0)).setCell ⟨w.heap.size + 1 + 1, 1, none⟩ (.slice none 0 0)) := ((Only.refl _ _).setCell 0 _).setCell 1 _
 have r0 := cell_of_block (i := 0) (v := .slice none 0 0) hx rfl
 have r1 := cell_of_block (i := 1) (v := .slice none 0 0) hx rfl
 refine bodyPost_ret (v := .tuple #[.agg #[.slice none 0 0, .slice none 0 0], .int .i64 (chB lo hi)]) ?_ rfl (bo_err (stE_ch HE.out) HE.out (K.out.B.trans (hO.below (by omega) K.out.B.size)))
 simp [results, Try.f57, go_sem, r0, r1]
end Go.Proofs.Ytikjjpjekchcjaa.Alt
end
section
namespace Go.Proofs.Ytikjjpjekchcjaa
open Go.RowKit TrkMath MyHeap MyOwn
def noteV (r : Nat) : Value := .func (.func 24) #[.pointer (some ⟨r, 0, none⟩)] #[]
def StPost (base r g : Nat) (p : Par) (now next : Int) (pV lV : Value) (LV : List Lv) (R : List Tk) (E : List Ev) (w0 : World) (e : Ending) (w' : World) : Prop :=
 e = .returned (.tuple #[]) ∧ ∃ tV eV M, RnK base r g p now next tV pV lV eV LV E w0 w' ∧ Lf base (XR r g eV) tV M w' ∧ fsts M = R
theorem fsts_snoc (M : List TB) (q : TB) : fsts (M ++ [q]) = fsts M ++ [q.1] := by simp [fsts]
theorem gk_fsts (L : List TB) (k : Nat) : gk (fsts L) k = (gt L k).1 := fsts_get L k
theorem tk_two {w : World} {T : Nat} {t : Tk} {s : Bs} (h : w.heap[T]? = some (.cells (tkC (t, s)) 46 (0, 0))) (lo hi : List Int) (aL aH : Option Addr) (nL cL nH cH : Nat) :
    ((w.setCell ⟨T, 5, none⟩ (.slice aL nL cL)).setCell ⟨T, 6, none⟩ (.slice aH nH cH)).heap[T]? = some (.cells (tkC ({ t with lo := lo, hi := hi }, ⟨aL, nL, cL, aH, nH, cH⟩)) 46 (0, 0)) ∧ Only T w ((w.setCell ⟨T, 5, none⟩ (.slice aL nL cL)).setCell ⟨T, 6, none⟩ (.slice aH nH cH)) := by
 refine ⟨?_, ((Only.refl _ _).setCell _ _).setCell _ _⟩
 have := block_setCell (i := 6) (v := .slice aH nH cH) (block_setCell (i := 5) (v := .slice aL nL cL) h)
 simpa [tkC] using this
theorem tk_free {w : World} {T : Nat} {q : TB} (h : w.heap[T]? = some (.cells (tkC q) 46 (0, 0))) : w.frozen? ⟨T, 0, none⟩ = false ∧ w.frozen? ⟨T, 1, none⟩ = false ∧ w.frozen? ⟨T, 2, none⟩ = false ∧ w.frozen? ⟨T, 3, none⟩ = false ∧ w.frozen? ⟨T, 4, none⟩ = false ∧ w.frozen? ⟨T, 5, none⟩ = false ∧ w.frozen? ⟨T, 6, none⟩ = false ∧ w.frozen? ⟨T, 7, none⟩ = false ∧ w.frozen? ⟨T, 8, none⟩ = false ∧ w.frozen? ⟨T, 9, none⟩ = false :=
 ⟨free_of_block h, free_of_block h, free_of_block h, free_of_block h, free_of_block h, free_of_block h, free_of_block h, free_of_block h, free_of_block h, free_of_block h⟩
theorem step_call (r g : Nat) (p : Par) (now next : Int) (a : Option Addr) (n c : Nat) (pV lV eV : Value) (LV : List Lv) (E : List Ev) (L : List TB) (w0 w : World)
    (hK : RnK w0.heap.size r g p now next (.slice a n c) pV lV eV LV E w0 w) (hT : Trs w0 a n L) (hI : ∀ k, k < n → BdI w0 (gt L k)) (hok : ∀ k, k < n → TkOk p (gt L k).1) (hpar : ParOk p) (n16 : n ≤ 16) (hE : E.length ≤ 100) :
    Calls Try.prog 25 #[.pointer (some ⟨r, 0, none⟩), noteV r] w (StPost w0.heap.size r g p now next pV lV LV (stpA p (fsts L) n).1 (E ++ (stpA p (fsts L) n).2) w0) := by
 have K := qh hK
 have HT := qh hT
 have HI := qh hI
 have HO := qh (And.intro hok (And.intro hpar hE))
 have HN := qh (And.intro n16 hT.bound)
 obtain ⟨r0, r1, r2, r3, r4, r5, r6, r7, r8, r9⟩ := hK.R.cells
 have rl := hK.R.lt
 obtain ⟨i0, hi0, hz0, hs0, hb0⟩ := info_pts infoTk
 have HF := qh (And.intro hi0 (And.intro hz0 (And.intro hs0 hb0)))
 clear hK hT hI hok hpar hE hi0 hz0 hs0 hb0
 unfold noteV
 go_enter Try.func25, Try.ntmps25
 go_wp2_with fail
 clear r0 r1 r2 r3 r4 r5 r6 r7 r8 r9 rl
 go_loopw [4, 15] (fun lv kv wr => ∃ (k : Nat) (M : List TB) (eW : Value), k ≤ n ∧ kv = .int .i64 k ∧ RnK w0.heap.size r g p now next (.slice a n c) pV lV eW LV (E ++ (stpA p (fsts L) k).2) w0 wr ∧ Lf w0.heap.size (XR r g eW) lv M wr ∧ fsts M = (stpA p (fsts L) k).1) (fun _ kv _ => n - (intOf kv).toNat)
 case atStart => exact ⟨0, [], eV, by omega, rfl, by rw [show E ++ (stpA p (fsts L) 0).2 = E from List.append_nil E]; exact K.out, Lf.nil _ _ _, rfl⟩
 case round =>
  clear K
  obtain ⟨k, M, eW, hk, rfl, hK, hL, hM⟩ := hrel
  obtain ⟨aV, cV, rfl⟩ := row_slice hL.row
  have K := qh hK
  have HL := qh hL
  have HM := qh hM
  clear hK hL hM
  by_cases hlt : k < n
  ·obtain ⟨b, off, rfl, hq⟩ := trs_at (HT.out.below K.out.B) hlt
   have HLt := qh hlt
   have HQ := qh (gk_fsts L k)
   have HBd := qh ((HI.out k hlt).below K.out.B)
   have HOk := qh (HO.out.1 k hlt)
   obtain ⟨q, hqe⟩ : ∃ q, gt L k = q := ⟨_, rfl⟩
   rw [hqe] at hq HQ HBd HOk
   obtain ⟨x0, x1, x2, x3, x4, x5, x6, x7, x8, x9⟩ := hq
   have xl := World.block_lt_of_cell? _ _ x0
   have hk0 : (0 : Int) ≤ (k : Int) := by omega
   have hk1 : (k : Int) < (n : Int) := by omega
   have hkw : IntKind.i64.wrap ((k : Int) + 1) = ((k + 1 : Nat) : Int) := by have := HN.out; rw [IntWalk.i64_in _ (by omega)]; omega
   have KA := qh (RoK.new q K.out HL.out)
   clear hqe hlt
   unfold tkC at KA
   obtain ⟨⟨id, addr, rg, lo, hi, hits, misses, firm⟩, ⟨aL, nL, cL, aH, nH, cH⟩⟩ := q
   simp only [] at x0 x1 x2 x3 x4 x5 x6 x7 x8 x9 KA HBd HOk HQ
   have HB2 := qh (HBd.out.below (below_alloc wr (.cells #[.int .i64 id, .int .i64 addr, .int .i64 rg.r, .int .i64 rg.v, .int .i64 rg.n, .slice aL nL cL, .slice aH nH cH, .int .i64 hits, .int .i64 misses, .bool firm] 46)))
   have HSE := qh (show AltMath.stE lo hi p.pull = 0 from by unfold AltMath.stE; rw [if_neg (fun e => e HOk.out.ch), if_neg (by have := HO.out.2.1.2.2.2; omega)])
   obtain ⟨lo', hlo⟩ : ∃ l, AltMath.loK (AltMath.stF lo hi p.pull.toNat) 201 = l := ⟨_, rfl⟩
   obtain ⟨hi', hhi⟩ : ∃ l, AltMath.hiK (AltMath.stF lo hi p.pull.toNat) 201 = l := ⟨_, rfl⟩
   have HLn := qh (show lo'.length = 201 ∧ hi'.length = 201 from ⟨by rw [← hlo]; exact AltMath.loK_len _ _, by rw [← hhi]; exact AltMath.hiK_len _ _⟩)
   have HST := qh (show stpT p ⟨id, addr, rg, lo, hi, hits, misses, firm⟩ = ⟨id, addr, rg, lo', hi', hits, misses, firm⟩ from by unfold stpT; dsimp only; rw [hlo, hhi])
   have HSC := qh (show ∀ W : World, Alt.Ints W aL nL lo → Alt.Ints W aH nH hi → Calls Try.prog 57 #[.agg #[.slice aL nL cL, .slice aH nH cH], .int .i64 p.pull] W (Alt.BOPost 0 lo' hi' W) from fun W h1 h2 => by
    have h := Alt.pStep_call aL aH nL nH cL cH lo hi p.pull W h1 h2
    rw [hlo, hhi, HSE.out] at h
    exact h)
   clear hlo hhi
   go_wp2_with fail
   obtain ⟨T, hTe⟩ : ∃ T, T = wr.heap.size := ⟨_, rfl⟩
   rw [← hTe] at KA ⊢
   generalize wr.alloc (.cells #[.int .i64 id, .int .i64 addr, .int .i64 rg.r, .int .i64 rg.v, .int .i64 rg.n, .slice aL nL cL, .slice aH nH cH, .int .i64 hits, .int .i64 misses, .bool firm] 46) = wa at *
   clear hTe x0 x1 x2 x3 x4 x5 x6 x7 x8 x9 xl K HL HBd
   have KD := qh (show Below wa.heap.size wa wa.drew from below_drewN (Below.refl _ _) 1)
   replace KA := qh (KA.out.below KD.out)
   replace HB2 := qh (HB2.out.below KD.out)
   have HLs := qh KA.out.lts
   have KBs := qh (show w0.heap.size ≤ wa.drew.heap.size from KA.out.K.B.size)
   have HY := qh (show wa.drew.cell? ⟨T, 5, none⟩ = some (.slice aL nL cL) ∧ wa.drew.cell? ⟨T, 6, none⟩ = some (.slice aH nH cH) ∧ wa.drew.cell? ⟨r, 3, none⟩ = some (.int .i64 p.pull) from ⟨cell_of_block KA.out.X rfl, cell_of_block KA.out.X rfl, KA.out.K.R.cells.2.2.2.1⟩)
   refine MyHeldE.start (fun W => W.cell? ⟨T, 5, none⟩ = some (.slice aL nL cL) ∧ W.cell? ⟨T, 6, none⟩ = some (.slice aH nH cH) ∧ W.cell? ⟨r, 3, none⟩ = some (.int .i64 p.pull)) [11, 13] (by kernel_rfl) ?_
   have hHeld := HY.out
   refine MyHeldE.tk 0 ?_
   refine MyHeldE.tk 1 ?_
   refine MyHeldE.tk 2 ?_
   refine MyHeldE.tk 3 ?_
   refine MyHeldE.tk 4 ?_
   refine MyHeldE.tk 5 ?_
   refine MyHeldE.tk 6 ?_
   refine MyHeldE.tk 7 ?_
   refine MyHeldE.ready (rs := [8]) (by kernel_rfl) (by simp) ?_
   refine (MyHeldE.next 8 (MyHeld.at_rfl rfl) (fun Kq hKq => ?_) MyHeldE.All.nil)
   go_simp
   go_at_call 57
   refine (HSC.out _ HB2.out.L HB2.out.H).mono ?_; rintro e w2 ⟨vL, vH, rfl, hT2, -, hb⟩
   replace hT2 := hT2 rfl
   obtain ⟨aP, cP, rfl⟩ := row_slice (HLn.out.1 ▸ hT2.L)
   obtain ⟨aQ, cQ, rfl⟩ := row_slice (HLn.out.2 ▸ hT2.H)
   have HT2 := qh hT2
   have HS2 := qh hb.size
   replace KA := qh (KA.out.below hb)
   replace HY := qh (show w2.cell? ⟨T, 5, none⟩ = some (.slice aL nL cL) ∧ w2.cell? ⟨T, 6, none⟩ = some (.slice aH nH cH) ∧ w2.cell? ⟨r, 3, none⟩ = some (.int .i64 p.pull) from ⟨keep1 hb HY.out.1, keep1 hb HY.out.2.1, keep1 hb HY.out.2.2⟩)
   clear hb hT2
   refine hKq.out _ _ (fun _ => (HY.out)) ?_
   clear hKq Kq hHeld
   have hHeld := (HY.out)
   try simp only [Act.put, List.setIfInBounds_toArray, List.set_cons_zero, List.set_cons_succ]
   refine MyHeldE.tk 9 ?_
   refine MyHeldE.tk0 11 ?_
   refine MyHeldE.tk2 10 ?_
   refine MyHeldE.tk2 12 ?_
   obtain ⟨f0, f1, f2, f3, f4, f5, f6, f7, f8, f9⟩ := tk_free (q := (⟨id, addr, rg, lo, hi, hits, misses, firm⟩, ⟨aL, nL, cL, aH, nH, cH⟩)) KA.out.X
   obtain ⟨y5, y6, -⟩ := HY.out
   have tl := lt_of_block KA.out.X
   refine MyHeldE.ready (rs := [13]) (by kernel_rfl) (by simp) ?_
   refine (MyHeldE.next 13 (MyHeld.at_rfl rfl) (fun Kq hKq => ?_) MyHeldE.All.nil)
   go_simp
   refine hKq.out _ _ (fun e => by cases e) ?_
   clear hKq Kq
   try simp only [Act.put, List.setIfInBounds_toArray, List.set_cons_zero, List.set_cons_succ]
   refine MyHeldE.done (by kernel_rfl) ?_ _
   clear f0 f1 f2 f3 f4 f5 f6 f7 f8 f9 y5 y6 tl hHeld HY
   have KW := qh (tk_two (t := ⟨id, addr, rg, lo, hi, hits, misses, firm⟩) KA.out.X lo' hi' aP aQ 201 cP 201 cQ)
   have HBn := qh ((me_own (t := ⟨id, addr, rg, lo, hi, hits, misses, firm⟩) HT2.out (Nat.le_refl _) HLn.out.1 HLn.out.2 w0.heap.size _ KBs.out HLs.out).outs (Outs.of_only KW.out.2 (by simp)))
   replace KA := qh (KA.out.store KW.out.2 KW.out.1)
   clear KW HT2 HLs KBs HS2
   generalize (w2.setCell ⟨T, 5, none⟩ (.slice aP 201 cP)).setCell ⟨T, 6, none⟩ (.slice aQ 201 cQ) = w3 at *
   have z5 : w3.cell? ⟨T, 5, none⟩ = some (.slice aP 201 cP) := cell_of_block KA.out.X rfl
   have z6 : w3.cell? ⟨T, 6, none⟩ = some (.slice aQ 201 cQ) := cell_of_block KA.out.X rfl
   have zl := lt_of_block KA.out.X
   go_wp2_with fail
   refine (Alt.pEmpty_call _ _ 201 201 _ _ lo' hi' _ HBn.out.L HBn.out.H).mono ?_; rintro e w4 ⟨rfl, hb⟩
   replace KA := qh (KA.out.below hb)
   replace HBn := qh (HBn.out.outs (Outs.of_below hb))
   clear hb z5 z6 zl
   obtain ⟨EB, hEB⟩ : ∃ b, Alt.emB lo' hi' = b := ⟨_, rfl⟩
   have HEB := qh (show emptyB lo' hi' = EB from hEB)
   obtain ⟨EE, hEE⟩ : ∃ b, Alt.emE lo' hi' = b := ⟨_, rfl⟩
   rw [hEB, hEE]
   clear hEB hEE
   have z0 : w4.cell? ⟨T, 0, none⟩ = some (.int .i64 id) := cell_of_block KA.out.X rfl
   have zl := lt_of_block KA.out.X
   cases EB with
   | true =>
    have HSt := qh (stpA_none (p := p) (L := fsts L) (k := k) (by rw [HQ.out, HST.out]; exact HEB.out))
    rw [HQ.out] at HSt
    have HLe := qh (show (E ++ (stpA p (fsts L) k).2).length ≤ 1000 from by have := stpA_evs (p := p) (L := fsts L) k; have := HO.out.2.2; have := HLt.out; have := HN.out.1; rw [List.length_append]; omega)
    go_wp2_with fail
    refine (note_call r w0.heap.size p now next _ pV lV _ _ ⟨4, id, -1⟩ _ KA.out.K.R KA.out.K.E KA.out.K.er (Nat.le_trans KA.out.K.bb KA.out.K.B.size) HLe.out).mono ?_; intro e w5 hn
    obtain ⟨eX, rfl, KB, -, -, -⟩ := KA.out.note hn
    have KC := qh KB.drop
    clear hn KB KA z0 zl
    go_wp2_with fail
    refine ⟨⟨k + 1, M, eX, HLt.out, by go_num, ?_, KC.out.2, ?_⟩, by simp [intOf]; have := HLt.out; omega⟩
    ·rw [HSt.out]
     have h := KC.out.1
     rw [List.append_assoc] at h
     exact h
    rw [HSt.out]
    exact HM.out
   | false =>
    have HSt := qh (stpA_some (p := p) (L := fsts L) (k := k) (by rw [HQ.out, HST.out]; exact HEB.out))
    rw [HQ.out, HST.out] at HSt
    obtain ⟨z0, z1, z2, z3, z4, z5, z6, z7, z8, z9⟩ := TkAt.block' (q := (⟨id, addr, rg, lo', hi', hits, misses, firm⟩, ⟨aP, 201, cP, aQ, 201, cQ⟩)) KA.out.X
    simp only [] at z0 z1 z2 z3 z4 z5 z6 z7 z8 z9
    have KB := qh (KA.out.below (below_alloc w4 (.cells (tkC (⟨id, addr, rg, lo', hi', hits, misses, firm⟩, ⟨aP, 201, cP, aQ, 201, cQ⟩)) 46)))
    have HBm := qh (HBn.out.outs (Outs.of_below (below_alloc w4 (.cells (tkC (⟨id, addr, rg, lo', hi', hits, misses, firm⟩, ⟨aP, 201, cP, aQ, 201, cQ⟩)) 46))))
    have HMl := qh (show M.length ≤ 1000 from by
     have h1 := stpA_len (p := p) (L := fsts L) k
     rw [← HM.out, fsts_len] at h1
     have := HN.out.1
     have := HLt.out
     omega)
    clear KA HBn
    unfold tkC at KB HBm
    simp only [] at KB HBm
    go_wp2_with (at_builtin; refine wpList_append_own_at _ rfl _ _ 24 rfl w0.heap.size 46 i0 _ 10 112 Try.underlying24 HF.out.1 HF.out.2.1 HF.out.2.2.1 HF.out.2.2.2 rfl (by decide) _ M.length _ rfl KB.out.L.row ⟨w4.heap.size, 0, none⟩ 1 1 [.int .i64 id, .int .i64 addr, .int .i64 rg.r, .int .i64 rg.v, .int .i64 rg.n, .slice aP 201 cP, .slice aQ 201 cQ, .int .i64 hits, .int .i64 misses, .bool firm] rfl rfl (cells_new rfl) (by intro u hu; simp at hu; rcases hu with rfl | rfl | rfl | rfl | rfl | rfl | rfl | rfl | rfl | rfl <;> rfl) (by have := HMl.out; unfold maxLen; omega) (by have := HMl.out; omega) (by have := KB.out.K.B.size; exact this) ?_; intro v9 w9 hown9 hg9 _ hat9; have KC := qh (RoK.app (q := (⟨id, addr, rg, lo', hi', hits, misses, firm⟩, ⟨aP, 201, cP, aQ, 201, cQ⟩)) KB.out HBm.out hown9 hg9 hat9); clear hown9 hg9 hat9)
    refine ⟨⟨k + 1, _, eW, HLt.out, by go_num, ?_, KC.out.2, ?_⟩, by simp [intOf]; have := HLt.out; omega⟩
    ·rw [HSt.out]
     exact KC.out.1
    rw [HSt.out, fsts_snoc, HM.out]
  obtain rfl : n = k := by omega
  obtain ⟨r0, r1, r2, r3, r4, r5, r6, r7, r8, r9⟩ := K.out.R.cells
  have rl := K.out.R.lt
  have f6 : wr.frozen? ⟨r, 6, none⟩ = false := K.out.R.free
  go_wp2_with fail
  have hO : Only r wr (wr.setCell ⟨r, 6, none⟩ (.slice aV M.length cV)) := (Only.refl _ _).setCell _ _
  refine bodyPost_ret (v := .tuple #[]) (by simp [results, Try.f25, go_sem]) rfl ⟨rfl, .slice aV M.length cV, eW, M, ?_, ?_, HM.out⟩
  ·exact K.out.setT _ hO
  exact HL.out.outs (Outs.of_only hO (by unfold XR; simp))
end Go.Proofs.Ytikjjpjekchcjaa
end
