/-
  TrkM
-/
import Derived.Test.YtikjjpjekchcjaaGreatPm24
set_option linter.all false
set_option maxRecDepth 100000
set_option maxHeartbeats 64000000
namespace Go.Proofs.YtikjjpjekchcjaaGreat
open Go.RowKit TrkMath MyHeap MyOwn
def noteV (r : Nat) : Value := .func (.func 25) #[.pointer (some ⟨r, 0, none⟩)] #[]
def StPost (base r g : Nat) (p : Par) (now next : Int) (pV lV : Value) (LV : List Lv) (R : List Tk) (E : List Ev) (w0 : World) (e : Ending) (w' : World) : Prop :=
 e = .returned (.tuple #[]) ∧ ∃ tV eV M, RnK base r g p now next tV pV lV eV LV E w0 w' ∧ Lf base (XR r g eV) tV M w' ∧ fsts M = R
theorem bK (M : List TB) (q : TB) : fsts (M ++ [q]) = fsts M ++ [q.1] := by simp [fsts]
theorem fX (L : List TB) (k : Nat) : gk (fsts L) k = (gt L k).1 := eT L k
theorem iJ {w : World} {T : Nat} {t : Tk} {s : Bs} (h : w.heap[T]? = some (.cells (tkC (t, s)) 55 (0, 0))) (lo hi : List Int) (aL aH : Option Addr) (nL cL nH cH : Nat) :
    ((w.setCell ⟨T, 5, none⟩ (.slice aL nL cL)).setCell ⟨T, 6, none⟩ (.slice aH nH cH)).heap[T]? = some (.cells (tkC ({ t with lo := lo, hi := hi }, ⟨aL, nL, cL, aH, nH, cH⟩)) 55 (0, 0)) ∧ Only T w ((w.setCell ⟨T, 5, none⟩ (.slice aL nL cL)).setCell ⟨T, 6, none⟩ (.slice aH nH cH)) := by
 refine ⟨?_, ((Only.refl _ _).setCell _ _).setCell _ _⟩
 have := aD (i := 6) (v := .slice aH nH cH) (aD (i := 5) (v := .slice aL nL cL) h)
 simpa [tkC] using this
theorem aX {w : World} {T : Nat} {q : TB} (h : w.heap[T]? = some (.cells (tkC q) 55 (0, 0))) : w.frozen? ⟨T, 0, none⟩ = false ∧ w.frozen? ⟨T, 1, none⟩ = false ∧ w.frozen? ⟨T, 2, none⟩ = false ∧ w.frozen? ⟨T, 3, none⟩ = false ∧ w.frozen? ⟨T, 4, none⟩ = false ∧ w.frozen? ⟨T, 5, none⟩ = false ∧ w.frozen? ⟨T, 6, none⟩ = false ∧ w.frozen? ⟨T, 7, none⟩ = false ∧ w.frozen? ⟨T, 8, none⟩ = false ∧ w.frozen? ⟨T, 9, none⟩ = false :=
 ⟨aF h, aF h, aF h, aF h, aF h, aF h, aF h, aF h, aF h, aF h⟩
theorem step_call (r g : Nat) (p : Par) (now next : Int) (a : Option Addr) (n c : Nat) (pV lV eV : Value) (LV : List Lv) (E : List Ev) (L : List TB) (w0 w : World)
    (hK : RnK w0.heap.size r g p now next (.slice a n c) pV lV eV LV E w0 w) (hT : Trs w0 a n L) (hI : ∀ k, k < n → BdI w0 (gt L k)) (hok : ∀ k, k < n → TkOk p (gt L k).1) (hpar : ParOk p) (n16 : n ≤ 16) (hE : E.length ≤ 100) :
    Calls Tryz.prog 26 #[.pointer (some ⟨r, 0, none⟩), noteV r] w (StPost w0.heap.size r g p now next pV lV LV (stpA p (fsts L) n).1 (E ++ (stpA p (fsts L) n).2) w0) := by
 have K := qh hK
 have HT := qh hT
 have HI := qh hI
 have HO := qh (And.intro hok (And.intro hpar hE))
 have HN := qh (And.intro n16 hT.bound)
 obtain ⟨r0, r1, r2, r3, r4, r5, r6, r7, r8, r9⟩ := hK.R.cells
 have rl := hK.R.lt
 obtain ⟨i0, hi0, hz0, hs0, hb0⟩ := b6 kB
 have HF := qh (And.intro hi0 (And.intro hz0 (And.intro hs0 hb0)))
 clear hK hT hI hok hpar hE hi0 hz0 hs0 hb0
 unfold noteV
 go_enter Tryz.func26, Tryz.ntmps26
 go_wp2_with fail
 clear r0 r1 r2 r3 r4 r5 r6 r7 r8 r9 rl
 go_loopw [4, 15] (fun lv kv wr => ∃ (k : Nat) (M : List TB) (eW : Value), k ≤ n ∧ kv = .int .i64 k ∧ RnK w0.heap.size r g p now next (.slice a n c) pV lV eW LV (E ++ (stpA p (fsts L) k).2) w0 wr ∧ Lf w0.heap.size (XR r g eW) lv M wr ∧ fsts M = (stpA p (fsts L) k).1) (fun _ kv _ => n - (intOf kv).toNat)
 case atStart => exact ⟨0, [], eV, by omega, rfl, by rw [show E ++ (stpA p (fsts L) 0).2 = E from List.append_nil E]; exact K.out, Lf.nil _ _ _, rfl⟩
 case round =>
  clear K
  obtain ⟨k, M, eW, hk, rfl, hK, hL, hM⟩ := hrel
  obtain ⟨aV, cV, rfl⟩ := aU hL.row
  have K := qh hK
  have HL := qh hL
  have HM := qh hM
  clear hK hL hM
  by_cases hlt : k < n
  ·obtain ⟨b, off, rfl, hq⟩ := eO (HT.out.below K.out.B) hlt
   have HLt := qh hlt
   have HQ := qh (fX L k)
   have HBd := qh ((HI.out k hlt).below K.out.B)
   have HOk := qh (HO.out.1 k hlt)
   obtain ⟨q, hqe⟩ : ∃ q, gt L k = q := ⟨_, rfl⟩
   rw [hqe] at hq HQ HBd HOk
   obtain ⟨x0, x1, x2, x3, x4, x5, x6, x7, x8, x9⟩ := hq
   have xl := World.block_lt_of_cell? _ _ x0
   have hk0 : (0 : Int) ≤ (k : Int) := by omega
   have hk1 : (k : Int) < (n : Int) := by omega
   have hkw : IntKind.i64.wrap ((k : Int) + 1) = ((k + 1 : Nat) : Int) := by have := HN.out; rw [IntWalk.i64_in _ (by omega)]; omega
   have KA := qh (RoK.new q K.out HL.out)
   clear hqe hlt
   unfold tkC at KA
   obtain ⟨⟨id, addr, rg, lo, hi, hits, misses, firm⟩, ⟨aL, nL, cL, aH, nH, cH⟩⟩ := q
   simp only [] at x0 x1 x2 x3 x4 x5 x6 x7 x8 x9 KA HBd HOk HQ
   have HB2 := qh (HBd.out.below (aC wr (.cells #[.int .i64 id, .int .i64 addr, .int .i64 rg.r, .int .i64 rg.v, .int .i64 rg.n, .slice aL nL cL, .slice aH nH cH, .int .i64 hits, .int .i64 misses, .bool firm] 55)))
   have HSE := qh (show AltMath.stE lo hi p.pull = 0 from by unfold AltMath.stE; rw [if_neg (fun e => e HOk.out.ch), if_neg (by have := HO.out.2.1.2.2.2; omega)])
   obtain ⟨lo', hlo⟩ : ∃ l, AltMath.loK (AltMath.stF lo hi p.pull.toNat) 201 = l := ⟨_, rfl⟩
   obtain ⟨hi', hhi⟩ : ∃ l, AltMath.hiK (AltMath.stF lo hi p.pull.toNat) 201 = l := ⟨_, rfl⟩
   have HLn := qh (show lo'.length = 201 ∧ hi'.length = 201 from ⟨by rw [← hlo]; exact AltMath.loK_len _ _, by rw [← hhi]; exact AltMath.hiK_len _ _⟩)
   have HST := qh (show stpT p ⟨id, addr, rg, lo, hi, hits, misses, firm⟩ = ⟨id, addr, rg, lo', hi', hits, misses, firm⟩ from by unfold stpT; dsimp only; rw [hlo, hhi])
   have HSC := qh (show ∀ W : World, Alt.Ints W aL nL lo → Alt.Ints W aH nH hi → Calls Tryz.prog 54 #[.agg #[.slice aL nL cL, .slice aH nH cH], .int .i64 p.pull] W (Alt.BOPost 0 lo' hi' W) from fun W h1 h2 => by
    have h := Alt.pStep_call aL aH nL nH cL cH lo hi p.pull W h1 h2
    rw [hlo, hhi, HSE.out] at h
    exact h)
   clear hlo hhi
   go_wp2_with fail
   obtain ⟨T, hTe⟩ : ∃ T, T = wr.heap.size := ⟨_, rfl⟩
   rw [← hTe] at KA ⊢
   generalize wr.alloc (.cells #[.int .i64 id, .int .i64 addr, .int .i64 rg.r, .int .i64 rg.v, .int .i64 rg.n, .slice aL nL cL, .slice aH nH cH, .int .i64 hits, .int .i64 misses, .bool firm] 55) = wa at *
   clear hTe x0 x1 x2 x3 x4 x5 x6 x7 x8 x9 xl K HL HBd
   have KD := qh (show Below wa.heap.size wa wa.drew from aM (Below.refl _ _) 1)
   replace KA := qh (KA.out.below KD.out)
   replace HB2 := qh (HB2.out.below KD.out)
   have HLs := qh KA.out.lts
   have KBs := qh (show w0.heap.size ≤ wa.drew.heap.size from KA.out.K.B.size)
   have HY := qh (show wa.drew.cell? ⟨T, 5, none⟩ = some (.slice aL nL cL) ∧ wa.drew.cell? ⟨T, 6, none⟩ = some (.slice aH nH cH) ∧ wa.drew.cell? ⟨r, 3, none⟩ = some (.int .i64 p.pull) from ⟨aA KA.out.X rfl, aA KA.out.X rfl, KA.out.K.R.cells.2.2.2.1⟩)
   refine MyHeldE.start (fun W => W.cell? ⟨T, 5, none⟩ = some (.slice aL nL cL) ∧ W.cell? ⟨T, 6, none⟩ = some (.slice aH nH cH) ∧ W.cell? ⟨r, 3, none⟩ = some (.int .i64 p.pull)) [11, 13] (by kernel_rfl) ?_
   have hHeld := HY.out
   refine MyHeldE.tk 0 ?_
   refine MyHeldE.tk 1 ?_
   refine MyHeldE.tk 2 ?_
   refine MyHeldE.tk 3 ?_
   refine MyHeldE.tk 4 ?_
   refine MyHeldE.tk 5 ?_
   refine MyHeldE.tk 6 ?_
   refine MyHeldE.tk 7 ?_
   refine MyHeldE.ready (rs := [8]) (by kernel_rfl) (by simp) ?_
   refine (MyHeldE.next 8 (MyHeld.at_rfl rfl) (fun Kq hKq => ?_) MyHeldE.All.nil)
   go_simp
   go_at_call 54
   refine (HSC.out _ HB2.out.L HB2.out.H).mono ?_; rintro e w2 ⟨vL, vH, rfl, hT2, -, hb⟩
   replace hT2 := hT2 rfl
   obtain ⟨aP, cP, rfl⟩ := aU (HLn.out.1 ▸ hT2.L)
   obtain ⟨aQ, cQ, rfl⟩ := aU (HLn.out.2 ▸ hT2.H)
   have HT2 := qh hT2
   have HS2 := qh hb.size
   replace KA := qh (KA.out.below hb)
   replace HY := qh (show w2.cell? ⟨T, 5, none⟩ = some (.slice aL nL cL) ∧ w2.cell? ⟨T, 6, none⟩ = some (.slice aH nH cH) ∧ w2.cell? ⟨r, 3, none⟩ = some (.int .i64 p.pull) from ⟨aS hb HY.out.1, aS hb HY.out.2.1, aS hb HY.out.2.2⟩)
   clear hb hT2
   refine hKq.out _ _ (fun _ => (HY.out)) ?_
   clear hKq Kq hHeld
   have hHeld := (HY.out)
   try simp only [Act.put, List.setIfInBounds_toArray, List.set_cons_zero, List.set_cons_succ]
   refine MyHeldE.tk 9 ?_
   refine MyHeldE.tk0 11 ?_
   refine MyHeldE.tk2 10 ?_
   refine MyHeldE.tk2 12 ?_
   obtain ⟨f0, f1, f2, f3, f4, f5, f6, f7, f8, f9⟩ := aX (q := (⟨id, addr, rg, lo, hi, hits, misses, firm⟩, ⟨aL, nL, cL, aH, nH, cH⟩)) KA.out.X
   obtain ⟨y5, y6, -⟩ := HY.out
   have tl := aB KA.out.X
   refine MyHeldE.ready (rs := [13]) (by kernel_rfl) (by simp) ?_
   refine (MyHeldE.next 13 (MyHeld.at_rfl rfl) (fun Kq hKq => ?_) MyHeldE.All.nil)
   go_simp
   refine hKq.out _ _ (fun e => by cases e) ?_
   clear hKq Kq
   try simp only [Act.put, List.setIfInBounds_toArray, List.set_cons_zero, List.set_cons_succ]
   refine MyHeldE.done (by kernel_rfl) ?_ _
   clear f0 f1 f2 f3 f4 f5 f6 f7 f8 f9 y5 y6 tl hHeld HY
   have KW := qh (iJ (t := ⟨id, addr, rg, lo, hi, hits, misses, firm⟩) KA.out.X lo' hi' aP aQ 201 cP 201 cQ)
   have HBn := qh ((kA (t := ⟨id, addr, rg, lo, hi, hits, misses, firm⟩) HT2.out (Nat.le_refl _) HLn.out.1 HLn.out.2 w0.heap.size _ KBs.out HLs.out).outs (Outs.of_only KW.out.2 (by simp)))
   replace KA := qh (KA.out.store KW.out.2 KW.out.1)
   clear KW HT2 HLs KBs HS2
   generalize (w2.setCell ⟨T, 5, none⟩ (.slice aP 201 cP)).setCell ⟨T, 6, none⟩ (.slice aQ 201 cQ) = w3 at *
   have z5 : w3.cell? ⟨T, 5, none⟩ = some (.slice aP 201 cP) := aA KA.out.X rfl
   have z6 : w3.cell? ⟨T, 6, none⟩ = some (.slice aQ 201 cQ) := aA KA.out.X rfl
   have zl := aB KA.out.X
   go_wp2_with fail
   refine (Alt.pEmpty_call _ _ 201 201 _ _ lo' hi' _ HBn.out.L HBn.out.H).mono ?_; rintro e w4 ⟨rfl, hb⟩
   replace KA := qh (KA.out.below hb)
   replace HBn := qh (HBn.out.outs (Outs.of_below hb))
   clear hb z5 z6 zl
   obtain ⟨EB, hEB⟩ : ∃ b, Alt.emB lo' hi' = b := ⟨_, rfl⟩
   have HEB := qh (show emptyB lo' hi' = EB from hEB)
   obtain ⟨EE, hEE⟩ : ∃ b, Alt.emE lo' hi' = b := ⟨_, rfl⟩
   rw [hEB, hEE]
   clear hEB hEE
   have z0 : w4.cell? ⟨T, 0, none⟩ = some (.int .i64 id) := aA KA.out.X rfl
   have zl := aB KA.out.X
   cases EB with
   | true =>
    have HSt := qh (fY (p := p) (L := fsts L) (k := k) (by rw [HQ.out, HST.out]; exact HEB.out))
    rw [HQ.out] at HSt
    have HLe := qh (show (E ++ (stpA p (fsts L) k).2).length ≤ 1000 from by have := iP (p := p) (L := fsts L) k; have := HO.out.2.2; have := HLt.out; have := HN.out.1; rw [List.length_append]; omega)
    go_wp2_with fail
    refine (cG r w0.heap.size p now next _ pV lV _ _ ⟨4, id, -1⟩ _ KA.out.K.R KA.out.K.E KA.out.K.er (Nat.le_trans KA.out.K.bb KA.out.K.B.size) HLe.out).mono ?_; intro e w5 hn
    obtain ⟨eX, rfl, KB, -, -, -⟩ := KA.out.note hn
    have KC := qh KB.drop
    clear hn KB KA z0 zl
    go_wp2_with fail
    refine ⟨⟨k + 1, M, eX, HLt.out, by go_num, ?_, KC.out.2, ?_⟩, by simp [intOf]; have := HLt.out; omega⟩
    ·rw [HSt.out]
     have h := KC.out.1
     rw [List.append_assoc] at h
     exact h
    rw [HSt.out]
    exact HM.out
   | false =>
    have HSt := qh (eU (p := p) (L := fsts L) (k := k) (by rw [HQ.out, HST.out]; exact HEB.out))
    rw [HQ.out, HST.out] at HSt
    obtain ⟨z0, z1, z2, z3, z4, z5, z6, z7, z8, z9⟩ := TkAt.block' (q := (⟨id, addr, rg, lo', hi', hits, misses, firm⟩, ⟨aP, 201, cP, aQ, 201, cQ⟩)) KA.out.X
    simp only [] at z0 z1 z2 z3 z4 z5 z6 z7 z8 z9
    have KB := qh (KA.out.below (aC w4 (.cells (tkC (⟨id, addr, rg, lo', hi', hits, misses, firm⟩, ⟨aP, 201, cP, aQ, 201, cQ⟩)) 55)))
    have HBm := qh (HBn.out.outs (Outs.of_below (aC w4 (.cells (tkC (⟨id, addr, rg, lo', hi', hits, misses, firm⟩, ⟨aP, 201, cP, aQ, 201, cQ⟩)) 55))))
    have HMl := qh (show M.length ≤ 1000 from by
     have h1 := gG (p := p) (L := fsts L) k
     rw [← HM.out, aY] at h1
     have := HN.out.1
     have := HLt.out
     omega)
    clear KA HBn
    unfold tkC at KB HBm
    simp only [] at KB HBm
    go_wp2_with (at_builtin; refine wpList_append_own_at _ rfl _ _ 24 rfl w0.heap.size 55 i0 _ 10 112 Tryz.underlying24 HF.out.1 HF.out.2.1 HF.out.2.2.1 HF.out.2.2.2 rfl (by decide) _ M.length _ rfl KB.out.L.row ⟨w4.heap.size, 0, none⟩ 1 1 [.int .i64 id, .int .i64 addr, .int .i64 rg.r, .int .i64 rg.v, .int .i64 rg.n, .slice aP 201 cP, .slice aQ 201 cQ, .int .i64 hits, .int .i64 misses, .bool firm] rfl rfl (bA rfl) (by intro u hu; simp at hu; rcases hu with rfl | rfl | rfl | rfl | rfl | rfl | rfl | rfl | rfl | rfl <;> rfl) (by have := HMl.out; unfold maxLen; omega) (by have := HMl.out; omega) (by have := KB.out.K.B.size; exact this) ?_; intro v9 w9 hown9 hg9 _ hat9; have KC := qh (RoK.app (q := (⟨id, addr, rg, lo', hi', hits, misses, firm⟩, ⟨aP, 201, cP, aQ, 201, cQ⟩)) KB.out HBm.out hown9 hg9 hat9); clear hown9 hg9 hat9)
    refine ⟨⟨k + 1, _, eW, HLt.out, by go_num, ?_, KC.out.2, ?_⟩, by simp [intOf]; have := HLt.out; omega⟩
    ·rw [HSt.out]
     exact KC.out.1
    rw [HSt.out, bK, HM.out]
  obtain rfl : n = k := by omega
  obtain ⟨r0, r1, r2, r3, r4, r5, r6, r7, r8, r9⟩ := K.out.R.cells
  have rl := K.out.R.lt
  have f6 : wr.frozen? ⟨r, 6, none⟩ = false := K.out.R.free
  go_wp2_with fail
  have hO : Only r wr (wr.setCell ⟨r, 6, none⟩ (.slice aV M.length cV)) := (Only.refl _ _).setCell _ _
  refine bodyPost_ret (v := .tuple #[]) (by simp [results, Tryz.f26, go_sem]) rfl ⟨rfl, .slice aV M.length cV, eW, M, ?_, ?_, HM.out⟩
  ·exact K.out.setT _ hO
  exact HL.out.outs (Outs.of_only hO (by unfold XR; simp))
end Go.Proofs.YtikjjpjekchcjaaGreat
