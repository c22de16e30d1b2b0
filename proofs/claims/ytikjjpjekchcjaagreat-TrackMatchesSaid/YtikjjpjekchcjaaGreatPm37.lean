/-
  TrkO
-/
import Derived.Test.YtikjjpjekchcjaaGreatPm36
set_option linter.all false
set_option maxRecDepth 100000
set_option maxHeartbeats 64000000
namespace Go.Proofs.YtikjjpjekchcjaaGreat
open Go.RowKit TrkMath MyHeap MyOwn MyCopy
def UpPost (base r g mb : Nat) (p : Par) (now next : Int) (pV lV : Value) (LV : List Lv) (R : List Tk) (E : List Ev) (l : List (Nat × Nat)) (w0 : World) (e : Ending) (w' : World) : Prop :=
 e = .returned (.tuple #[]) ∧ ∃ tV eV M, RnK base r g p now next tV pV lV eV LV E w0 w' ∧ Lf base (XR r g eV) tV M w' ∧ fsts M = R ∧ MapI mb l w'
theorem updT1_none {p : Par} {P : List Pl} {t : Tk} (h : p.most ≤ t.misses + 1) : updT1 p P t none = [] ∧ updE1 p t none = [⟨4, t.id, -1⟩] := ⟨if_pos h, if_pos h⟩
theorem updT1_mis {p : Par} {P : List Pl} {t : Tk} (h : ¬ p.most ≤ t.misses + 1) : updT1 p P t none = [misT t] ∧ updE1 p t none = [⟨3, t.id, -1⟩] := ⟨if_neg h, if_neg h⟩
theorem gM {p : Par} {t : Tk} {k : Nat} (h : t.firm = false) (h2 : p.need ≤ hit1 t) : updE1 p t (some k) = [⟨1, t.id, k⟩, ⟨2, t.id, k⟩] := if_pos ⟨h, h2⟩
theorem d5 {p : Par} {t : Tk} {k : Nat} (h : ¬ (t.firm = false ∧ p.need ≤ hit1 t)) : updE1 p t (some k) = [⟨1, t.id, k⟩] := if_neg h
theorem iM {p : Par} {P : List Pl} {of : Nat → Option Nat} {L : List Tk} : ∀ k, (updA p P of L k).2.length ≤ 2 * k := by
 intro k
 induction k with
 | zero => exact Nat.le_refl _
 | succ k ih =>
  rw [iU]
  have : (updE1 p (gk L k) (of k)).length ≤ 2 := by
   cases of k with
   | none => unfold updE1; dsimp only; split <;> simp
   | some j => unfold updE1; dsimp only; split <;> simp
  show ((updA p P of L k).2 ++ updE1 p (gk L k) (of k)).length ≤ 2 * (k + 1)
  rw [List.length_append]
  omega
theorem j4 {p : Par} {P : List Pl} {of : Nat → Option Nat} {L : List Tk} : ∀ k, (updA p P of L k).1.length ≤ k := by
 intro k
 induction k with
 | zero => exact Nat.le_refl _
 | succ k ih =>
  rw [iU]
  have : (updT1 p P (gk L k) (of k)).length ≤ 1 := by
   cases of k with
   | none => unfold updT1; dsimp only; split <;> simp
   | some j => unfold updT1; dsimp only; simp
  show ((updA p P of L k).1 ++ updT1 p P (gk L k) (of k)).length ≤ k + 1
  rw [List.length_append]
  omega
theorem pE (r g mb : Nat) (p : Par) (now next : Int) (a : Option Addr) (n c : Nat) (pa : Option Addr) (pn pc gc : Nat) (eV : Value) (P : List Pl) (E : List Ev) (L : List TB) (l : List (Nat × Nat)) (w0 w : World)
    (hK : RnK w0.heap.size r g p now next (.slice a n c) (.slice pa pn pc) (.slice (some ⟨g, 0, none⟩) pn gc) eV (P.map lvOf) E w0 w) (hS : Lf w0.heap.size (XR r g eV) (.slice a n c) L w) (hM : MapI mb l w) (hP : Pls w0 pa pn P)
    (hl : PrOk p (fsts L) P l) (hok : ∀ k, k < n → TkOk p (gt L k).1) (hpar : ParOk p) (n16 : n ≤ 16) (p16 : pn ≤ 16) (hpl : ∀ k, k < pn → plE (gp P k) = 0) (hE : E.length ≤ 200) (hn : L.length = n) :
    Calls Tryz.prog 28 #[.pointer (some ⟨r, 0, none⟩), .map (some mb), noteV r] w (UpPost w0.heap.size r g mb p now next (.slice pa pn pc) (.slice (some ⟨g, 0, none⟩) pn gc) (P.map lvOf) (updA p P (ofF l) (fsts L) n).1 (E ++ (updA p P (ofF l) (fsts L) n).2) l w0) := by
 have K := qh (show UpK w0.heap.size r g mb p now next (.slice a n c) (.slice pa pn pc) (.slice (some ⟨g, 0, none⟩) pn gc) eV (P.map lvOf) E L l (.slice none 0 0) [] w0 w from ⟨hK, Lf.nil _ _ _, hS.turn fun k hk => by
  rcases List.mem_cons.1 hk with e | e
  ·cases e
  exact Or.inl e, hM⟩)
 have HP := qh hP
 have HO := qh (And.intro hok (And.intro hpar (And.intro hpl (And.intro hE hl))))
 have HN := qh (And.intro n16 p16)
 have HLn := qh (And.intro hn hP.len)
 have HT0 := qh (show ∀ W, Lf w0.heap.size [] (.slice a n c) L W → Trs W a n L from fun W h => by
  obtain ⟨a', c', e, hT⟩ := lU h.row (by omega)
  rw [hn] at e hT
  cases e
  exact hT)
 obtain ⟨r0, r1, r2, r3, r4, r5, r6, r7, r8, r9⟩ := hK.R.cells
 have rl := hK.R.lt
 obtain ⟨i0, hi0, hz0, hs0, hb0⟩ := b6 kB
 have HF := qh (And.intro hi0 (And.intro hz0 (And.intro hs0 hb0)))
 clear hK hS hM hP hl hok hpar hpl hE hn hi0 hz0 hs0 hb0
 unfold noteV
 go_enter Tryz.func28, Tryz.ntmps28
 go_wp2_with fail
 clear r0 r1 r2 r3 r4 r5 r6 r7 r8 r9 rl
 go_loopw [6, 17] (fun lv kv wr => ∃ (k : Nat) (M : List TB) (eW : Value), k ≤ n ∧ kv = .int .i64 k ∧ UpK w0.heap.size r g mb p now next (.slice a n c) (.slice pa pn pc) (.slice (some ⟨g, 0, none⟩) pn gc) eW (P.map lvOf) (E ++ (updA p P (ofF l) (fsts L) k).2) L l lv M w0 wr ∧ fsts M = (updA p P (ofF l) (fsts L) k).1) (fun _ kv _ => n - (intOf kv).toNat)
 case atStart => exact ⟨0, [], eV, by omega, rfl, by rw [show E ++ (updA p P (ofF l) (fsts L) 0).2 = E from List.append_nil E]; exact K.out, rfl⟩
 case round =>
  clear K
  obtain ⟨k, M, eW, hk, rfl, hK, hM⟩ := hrel
  obtain ⟨aV, cV, rfl⟩ := aU hK.F.row
  have K := qh hK
  have HM := qh hM
  clear hK hM
  by_cases hlt : k < n
  ·obtain ⟨b, off, rfl, hq⟩ := eO (HT0.out _ (K.out.S.turn fun k e => by cases e)) hlt
   have HLt := qh hlt
   have HQ := qh (fX L k)
   have HBd := qh (K.out.band (q := gt L k) (k := k) (by rw [HLn.out.1]; exact hlt))
   have HOk := qh (HO.out.1 k hlt)
   have HU := qh (iU p P (ofF l) (fsts L) k)
   obtain ⟨q, hqe⟩ : ∃ q, gt L k = q := ⟨_, rfl⟩
   rw [HQ.out] at HU
   rw [hqe] at hq HQ HBd HOk HU
   obtain ⟨x0, x1, x2, x3, x4, x5, x6, x7, x8, x9⟩ := hq
   have xl := World.block_lt_of_cell? _ _ x0
   have hk0 : (0 : Int) ≤ (k : Int) := by omega
   have hk1 : (k : Int) < (n : Int) := by omega
   have hkw : IntKind.i64.wrap ((k : Int) + 1) = ((k + 1 : Nat) : Int) := by have := HN.out.1; rw [IntWalk.i64_in _ (by omega)]; omega
   have hmw : IntKind.i64.wrap (q.1.misses + 1) = q.1.misses + 1 := by have := HOk.out.mis; have := HO.out.2.1.2.2.1; exact IntWalk.i64_in _ (by omega)
   have KA := qh (UpR.new q K.out)
   have HLe := qh (show (E ++ (updA p P (ofF l) (fsts L) k).2).length ≤ 500 from by have := iM (p := p) (P := P) (of := ofF l) (L := fsts L) k; have := HO.out.2.2.2.1; have := HLt.out; have := HN.out.1; rw [List.length_append]; omega)
   have HMl := qh (show M.length ≤ 1000 from by
    have h1 := j4 (p := p) (P := P) (of := ofF l) (L := fsts L) k
    rw [← HM.out, aY] at h1
    have := HN.out.1
    have := HLt.out
    omega)
   have hlk := KA.out.P.look (i := k) (by have := HN.out.1; omega)
   have HQ0 := qh hqe
   clear hqe hlt
   unfold tkC at KA hlk
   obtain ⟨⟨id, addr, rg, lo, hi, hits, misses, firm⟩, ⟨aL, nL, cL, aH, nH, cH⟩⟩ := q
   simp only [] at x0 x1 x2 x3 x4 x5 x6 x7 x8 x9 KA HBd HOk HQ HQ0 hmw hlk HU
   unfold tkC at HBd
   simp only [] at HBd
   cases hof : ofF l k with
   | none =>
    rw [hof] at hlk HU
    simp only [Option.getD_none, Option.isSome_none] at hlk
    clear hof
    have KM := qh (UpR.new (⟨id, addr, rg, lo, hi, hits, misses + 1, firm⟩, ⟨aL, nL, cL, aH, nH, cH⟩) K.out)
    have HBm0 := qh (K.out.band (q := (⟨id, addr, rg, lo, hi, hits, misses + 1, firm⟩, ⟨aL, nL, cL, aH, nH, cH⟩)) (k := k) (by rw [HLn.out.1]; exact HLt.out))
    rw [HQ0.out] at HBm0
    have HBm := qh (show BdX _ _ _ (⟨id, addr, rg, lo, hi, hits, misses + 1, firm⟩, ⟨aL, nL, cL, aH, nH, cH⟩) from ⟨HBm0.out.L, HBm0.out.H, HBm0.out.gL, HBm0.out.gH⟩)
    clear KA HBd HBm0
    unfold tkC at KM HBm
    simp only [] at KM HBm
    go_wp2_with fail
    obtain ⟨T, hTe⟩ : ∃ T, T = wr.heap.size := ⟨_, rfl⟩
    rw [← hTe] at KM HBm ⊢
    generalize wr.alloc (.cells #[.int .i64 id, .int .i64 addr, .int .i64 rg.r, .int .i64 rg.v, .int .i64 rg.n, .slice aL nL cL, .slice aH nH cH, .int .i64 hits, .int .i64 (misses + 1), .bool firm] 55) = wa at *
    clear hTe x0 x1 x2 x3 x4 x5 x6 x7 x8 x9 xl K hlk
    have KA := qh KM.out
    have HBd := qh HBm.out
    clear KM HBm
    obtain ⟨z0, z1, z2, z3, z4, z5, z6, z7, z8, z9⟩ := TkAt.block' (q := (⟨id, addr, rg, lo, hi, hits, misses + 1, firm⟩, ⟨aL, nL, cL, aH, nH, cH⟩)) KA.out.K.X
    simp only [] at z0 z1 z2 z3 z4 z5 z6 z7 z8 z9
    obtain ⟨f0, f1, f2, f3, f4, f5, f6, f7, f8, f9⟩ := aX (q := (⟨id, addr, rg, lo, hi, hits, misses + 1, firm⟩, ⟨aL, nL, cL, aH, nH, cH⟩)) KA.out.K.X
    have zl := aB KA.out.K.X
    obtain ⟨r0, r1, r2, r3, r4, r5, r6, r7, r8, r9⟩ := KA.out.K.K.R.cells
    have rl := KA.out.K.K.R.lt
    by_cases hm : p.most ≤ misses + 1
    ·obtain ⟨hT1, hE1⟩ := updT1_none (P := P) (t := ⟨id, addr, rg, lo, hi, hits, misses, firm⟩) hm
     have HT1 := qh hT1
     have HE1 := qh hE1
     clear hT1 hE1
     go_quiet (fail)
     replace KA := qh (KA.out.below (aM (Below.refl _ _) nq))
     replace HBd := qh (HBd.out.outs (Outs.of_below (aM (Below.refl _ _) nq)))
     clear z0 z1 z2 z3 z4 z5 z6 z7 z8 z9 f0 f1 f2 f3 f4 f5 f6 f7 f8 f9 zl r0 r1 r2 r3 r4 r5 r6 r7 r8 r9 rl
     generalize wa.drewN nq = wb at *
     obtain ⟨z0, z1, z2, z3, z4, z5, z6, z7, z8, z9⟩ := TkAt.block' (q := (⟨id, addr, rg, lo, hi, hits, misses + 1, firm⟩, ⟨aL, nL, cL, aH, nH, cH⟩)) KA.out.K.X
     simp only [] at z0 z1 z2 z3 z4 z5 z6 z7 z8 z9
     obtain ⟨f0, f1, f2, f3, f4, f5, f6, f7, f8, f9⟩ := aX (q := (⟨id, addr, rg, lo, hi, hits, misses + 1, firm⟩, ⟨aL, nL, cL, aH, nH, cH⟩)) KA.out.K.X
     have zl := aB KA.out.K.X
     obtain ⟨r0, r1, r2, r3, r4, r5, r6, r7, r8, r9⟩ := KA.out.K.K.R.cells
     have rl := KA.out.K.K.R.lt
     go_wp2_with fail
     refine (cG r w0.heap.size p now next _ _ _ _ _ ⟨4, id, -1⟩ _ KA.out.K.K.R KA.out.K.K.E KA.out.K.K.er KA.out.K.K.B.size (by have := HLe.out; omega)).mono ?_; intro e w5 hn
     obtain ⟨eX, rfl, KB, HB5⟩ := KA.out.note hn
     replace HBd := qh (HB5 _ HBd.out)
     clear z0 z1 z2 z3 z4 z5 z6 z7 z8 z9 f0 f1 f2 f3 f4 f5 f6 f7 f8 f9 zl r0 r1 r2 r3 r4 r5 r6 r7 r8 r9 rl
     replace KA := qh KB
     clear hn HB5 KB
     have KC := qh KA.out.drop
     clear KA HBd
     go_wp2_with fail
     refine ⟨⟨k + 1, M, eX, HLt.out, by go_num, ?_, ?_⟩, by simp [intOf]; have := HLt.out; omega⟩
     ·rw [HU.out, HE1.out]
      have h := KC.out
      try simp only [List.append_assoc] at h ⊢; try simp only [List.singleton_append] at h ⊢; try simp only [List.cons_append] at h ⊢; try simp only [List.nil_append] at h ⊢
      exact h
     rw [HU.out, HT1.out]
     try rw [bK]
     rw [HM.out]
     try rw [List.append_nil]
     try rfl
    obtain ⟨hT1, hE1⟩ := updT1_mis (P := P) (t := ⟨id, addr, rg, lo, hi, hits, misses, firm⟩) hm
    have HT1 := qh hT1
    have HE1 := qh hE1
    clear hT1 hE1
    go_quiet (fail)
    replace KA := qh (KA.out.below (aM (Below.refl _ _) nq))
    replace HBd := qh (HBd.out.outs (Outs.of_below (aM (Below.refl _ _) nq)))
    clear z0 z1 z2 z3 z4 z5 z6 z7 z8 z9 f0 f1 f2 f3 f4 f5 f6 f7 f8 f9 zl r0 r1 r2 r3 r4 r5 r6 r7 r8 r9 rl
    generalize wa.drewN nq = wb at *
    obtain ⟨z0, z1, z2, z3, z4, z5, z6, z7, z8, z9⟩ := TkAt.block' (q := (⟨id, addr, rg, lo, hi, hits, misses + 1, firm⟩, ⟨aL, nL, cL, aH, nH, cH⟩)) KA.out.K.X
    simp only [] at z0 z1 z2 z3 z4 z5 z6 z7 z8 z9
    obtain ⟨f0, f1, f2, f3, f4, f5, f6, f7, f8, f9⟩ := aX (q := (⟨id, addr, rg, lo, hi, hits, misses + 1, firm⟩, ⟨aL, nL, cL, aH, nH, cH⟩)) KA.out.K.X
    have zl := aB KA.out.K.X
    obtain ⟨r0, r1, r2, r3, r4, r5, r6, r7, r8, r9⟩ := KA.out.K.K.R.cells
    have rl := KA.out.K.K.R.lt
    go_wp2_with fail
    refine (cG r w0.heap.size p now next _ _ _ _ _ ⟨3, id, -1⟩ _ KA.out.K.K.R KA.out.K.K.E KA.out.K.K.er KA.out.K.K.B.size (by have := HLe.out; omega)).mono ?_; intro e w5 hn
    obtain ⟨eX, rfl, KB, HB5⟩ := KA.out.note hn
    replace HBd := qh (HB5 _ HBd.out)
    clear z0 z1 z2 z3 z4 z5 z6 z7 z8 z9 f0 f1 f2 f3 f4 f5 f6 f7 f8 f9 zl r0 r1 r2 r3 r4 r5 r6 r7 r8 r9 rl
    replace KA := qh KB
    clear hn HB5 KB
    obtain ⟨z0, z1, z2, z3, z4, z5, z6, z7, z8, z9⟩ := TkAt.block' (q := (⟨id, addr, rg, lo, hi, hits, misses + 1, firm⟩, ⟨aL, nL, cL, aH, nH, cH⟩)) KA.out.K.X
    simp only [] at z0 z1 z2 z3 z4 z5 z6 z7 z8 z9
    obtain ⟨f0, f1, f2, f3, f4, f5, f6, f7, f8, f9⟩ := aX (q := (⟨id, addr, rg, lo, hi, hits, misses + 1, firm⟩, ⟨aL, nL, cL, aH, nH, cH⟩)) KA.out.K.X
    have zl := aB KA.out.K.X
    obtain ⟨r0, r1, r2, r3, r4, r5, r6, r7, r8, r9⟩ := KA.out.K.K.R.cells
    have rl := KA.out.K.K.R.lt
    have KB := qh (KA.out.below (aC w5 (.cells (tkC (⟨id, addr, rg, lo, hi, hits, misses + 1, firm⟩, ⟨aL, nL, cL, aH, nH, cH⟩)) 55)))
    have HBm := qh (HBd.out.outs (Outs.of_below (aC w5 (.cells (tkC (⟨id, addr, rg, lo, hi, hits, misses + 1, firm⟩, ⟨aL, nL, cL, aH, nH, cH⟩)) 55))))
    clear KA HBd
    unfold tkC at KB HBm
    simp only [] at KB HBm
    go_wp2_with (at_builtin; refine wpList_append_own_at _ rfl _ _ 24 rfl w0.heap.size 55 i0 _ 10 112 Tryz.underlying24 HF.out.1 HF.out.2.1 HF.out.2.2.1 HF.out.2.2.2 rfl (by decide) _ M.length _ rfl KB.out.K.L.row ⟨w5.heap.size, 0, none⟩ 1 1 [.int .i64 id, .int .i64 addr, .int .i64 rg.r, .int .i64 rg.v, .int .i64 rg.n, .slice aL nL cL, .slice aH nH cH, .int .i64 hits, .int .i64 (misses + 1), .bool firm] rfl rfl (bA rfl) (by intro u hu; simp at hu; rcases hu with rfl | rfl | rfl | rfl | rfl | rfl | rfl | rfl | rfl | rfl <;> rfl) (by have := HMl.out; unfold maxLen; omega) (by have := HMl.out; omega) (by have := KB.out.K.K.B.size; exact this) ?_; intro v9 w9 hown9 hg9 _ hat9; have KC := qh (UpR.app (q := (⟨id, addr, rg, lo, hi, hits, misses + 1, firm⟩, ⟨aL, nL, cL, aH, nH, cH⟩)) KB.out HBm.out hown9 hg9 hat9); clear hown9 hg9 hat9)
    refine ⟨⟨k + 1, M ++ [(⟨id, addr, rg, lo, hi, hits, misses + 1, firm⟩, ⟨aL, nL, cL, aH, nH, cH⟩)], eX, HLt.out, by go_num, ?_, ?_⟩, by simp [intOf]; have := HLt.out; omega⟩
    ·rw [HU.out, HE1.out]
     have h := KC.out
     try simp only [List.append_assoc] at h ⊢; try simp only [List.singleton_append] at h ⊢; try simp only [List.cons_append] at h ⊢; try simp only [List.nil_append] at h ⊢
     exact h
    rw [HU.out, HT1.out]
    try rw [bK]
    rw [HM.out]
    try rw [List.append_nil]
    try rfl
   | some j =>
    rw [hof] at hlk HU
    simp only [Option.getD_some, Option.isSome_some] at hlk
    have HIn := qh (iR hof)
    have HJ := qh (show j < pn from by have := HO.out.2.2.2.2.col _ HIn.out; rw [HLn.out.2] at this; exact this)
    clear hof
    have hj0 : (0 : Int) ≤ (j : Int) := by omega
    have hj1 : (j : Int) < (pn : Int) := by have := HJ.out; omega
    have HGl := qh (gl_map P (k := j) (by rw [HLn.out.2]; exact HJ.out))
    obtain ⟨b2, off2, rfl, p0, p1, p2⟩ := fS HP.out HJ.out
    obtain ⟨⟨yr, yc, ya⟩, hY⟩ : ∃ y, gp P j = y := ⟨_, rfl⟩
    rw [hY] at p0 p1 p2
    simp only [] at p0 p1 p2
    have HY := qh hY
    have HPc := qh (And.intro p0 (And.intro p1 p2))
    clear p0 p1 p2 hY
    obtain ⟨⟨g1, g2, g3⟩, hg⟩ : ∃ x, upX rg yr (misses + 1) = x := ⟨_, rfl⟩
    have HG := qh hg
    obtain ⟨EU, hEU⟩ : ∃ x, upE rg yr (misses + 1) = x := ⟨_, rfl⟩
    have HUC := qh (show ∀ W : World, Calls Tryz.prog 57 #[.agg #[.int .i64 rg.r, .int .i64 rg.v, .int .i64 rg.n], .int .i64 yr, .int .i64 (misses + 1)] W (fun e w' => e = .returned (.tuple #[.agg #[.int .i64 g1, .int .i64 g2, .int .i64 g3], .int .i64 EU]) ∧ Below W.heap.size W w') from fun W => by
     have h := oM rg yr (misses + 1) W
     rw [hg, hEU] at h
     exact h)
    clear hg hEU
    go_wp2_with fail
    obtain ⟨T, hTe⟩ : ∃ T, T = wr.heap.size := ⟨_, rfl⟩
    rw [← hTe] at KA HBd ⊢
    generalize wr.alloc (.cells #[.int .i64 id, .int .i64 addr, .int .i64 rg.r, .int .i64 rg.v, .int .i64 rg.n, .slice aL nL cL, .slice aH nH cH, .int .i64 hits, .int .i64 misses, .bool firm] 55) = wa at *
    clear hTe x0 x1 x2 x3 x4 x5 x6 x7 x8 x9 xl K hlk
    have KD := qh (show Below wa.heap.size wa wa.drew from aM (Below.refl _ _) 1)
    replace KA := qh (KA.out.below KD.out)
    replace HBd := qh (HBd.out.outs (Outs.of_below KD.out))
    have HPw := qh (show wa.drew.cell? ⟨b2, off2 + j * 3, none⟩ = some (.int .i64 yr) ∧ wa.drew.cell? ⟨b2, off2 + j * 3 + 2, none⟩ = some (.int .i64 ya) from ⟨aS KA.out.K.K.B HPc.out.1, aS KA.out.K.K.B HPc.out.2.2⟩)
    have HS := qh (show wa.drew.cell? ⟨T, 2, none⟩ = some (.int .i64 rg.r) ∧ wa.drew.cell? ⟨T, 3, none⟩ = some (.int .i64 rg.v) ∧ wa.drew.cell? ⟨T, 4, none⟩ = some (.int .i64 rg.n) ∧ wa.drew.cell? ⟨T, 8, none⟩ = some (.int .i64 misses) ∧ wa.drew.cell? ⟨r, 7, none⟩ = some (.slice (some ⟨b2, off2, none⟩) pn pc) ∧ wa.drew.cell? ⟨b2, off2 + j * 3, none⟩ = some (.int .i64 yr) from ⟨aA KA.out.K.X rfl, aA KA.out.K.X rfl, aA KA.out.K.X rfl, aA KA.out.K.X rfl, KA.out.K.K.R.cells.2.2.2.2.2.2.2.1, HPw.out.1⟩)
    refine MyHeldE.start (fun W => W.cell? ⟨T, 2, none⟩ = some (.int .i64 rg.r) ∧ W.cell? ⟨T, 3, none⟩ = some (.int .i64 rg.v) ∧ W.cell? ⟨T, 4, none⟩ = some (.int .i64 rg.n) ∧ W.cell? ⟨T, 8, none⟩ = some (.int .i64 misses) ∧ W.cell? ⟨r, 7, none⟩ = some (.slice (some ⟨b2, off2, none⟩) pn pc) ∧ W.cell? ⟨b2, off2 + j * 3, none⟩ = some (.int .i64 yr)) [16, 18] (by kernel_rfl) ?_
    have hHeld := HS.out
    refine MyHeldE.tk 0 ?_
    refine MyHeldE.tk 1 ?_
    refine MyHeldE.tk 2 ?_
    refine MyHeldE.tk 3 ?_
    refine MyHeldE.tk 4 ?_
    refine MyHeldE.tk 5 ?_
    refine MyHeldE.tk 6 ?_
    refine MyHeldE.tk 7 ?_
    refine MyHeldE.tk 8 ?_
    refine MyHeldE.tk 9 ?_
    refine MyHeldE.tk 10 ?_
    refine MyHeldE.tk 11 ?_
    refine MyHeldE.tk 12 ?_
    refine MyHeldE.ready (rs := [13]) (by kernel_rfl) (by simp) ?_
    refine (MyHeldE.next 13 (MyHeld.at_rfl rfl) (fun Kq hKq => ?_) MyHeldE.All.nil)
    go_simp
    go_at_call 57
    refine (HUC.out _).mono ?_; rintro e w2 ⟨rfl, hb⟩
    replace KA := qh (KA.out.below hb)
    replace HBd := qh (HBd.out.outs (Outs.of_below hb))
    replace HPw := qh (And.intro (aS hb HPw.out.1) (aS hb HPw.out.2))
    replace HS := qh (And.intro (aS hb HS.out.1) (And.intro (aS hb HS.out.2.1) (And.intro (aS hb HS.out.2.2.1) (And.intro (aS hb HS.out.2.2.2.1) (And.intro (aS hb HS.out.2.2.2.2.1) (aS hb HS.out.2.2.2.2.2))))))
    clear hb
    refine hKq.out _ _ (fun _ => (HS.out)) ?_
    clear hKq Kq hHeld
    have hHeld := (HS.out)
    try simp only [Act.put, List.setIfInBounds_toArray, List.set_cons_zero, List.set_cons_succ]
    refine MyHeldE.tk 14 ?_
    refine MyHeldE.tk0 16 ?_
    refine MyHeldE.tk2 15 ?_
    refine MyHeldE.tk2 17 ?_
    obtain ⟨y2, y3, y4, y8, -, -⟩ := HS.out
    obtain ⟨f0, f1, f2, f3, f4, f5, f6, f7, f8, f9⟩ := aX (q := (⟨id, addr, rg, lo, hi, hits, misses, firm⟩, ⟨aL, nL, cL, aH, nH, cH⟩)) KA.out.K.X
    have tl := aB KA.out.K.X
    refine MyHeldE.ready (rs := [18]) (by kernel_rfl) (by simp) ?_
    refine (MyHeldE.next 18 (MyHeld.at_rfl rfl) (fun Kq hKq => ?_) MyHeldE.All.nil)
    go_simp
    refine hKq.out _ _ (fun e => by cases e) ?_
    clear hKq Kq
    try simp only [Act.put, List.setIfInBounds_toArray, List.set_cons_zero, List.set_cons_succ]
    refine MyHeldE.done (by kernel_rfl) ?_ _
    have KW := qh (j5 KA.out.K.X g1 g2 g3)
    have HPx := qh (And.intro (bQ KW.out.2 HPw.out.1 (KA.out.K.off_arg HPc.out.1)) (bQ KW.out.2 HPw.out.2 (KA.out.K.off_arg HPc.out.1)))
    replace HBd := qh (show BdX _ _ _ (⟨id, addr, ⟨g1, g2, g3⟩, lo, hi, hits, misses, firm⟩, ⟨aL, nL, cL, aH, nH, cH⟩) from (fun h => ⟨h.L, h.H, h.gL, h.gH⟩) (KA.out.bstore HBd.out KW.out.2))
    replace KA := qh (KA.out.store KW.out.2 KW.out.1)
    clear f0 f1 f2 f3 f4 f5 f6 f7 f8 f9 y2 y3 y4 y8 tl hHeld HS HPw KW KD
    generalize ((w2.setCell ⟨T, 2, none⟩ (.int .i64 g1)).setCell ⟨T, 3, none⟩ (.int .i64 g2)).setCell ⟨T, 4, none⟩ (.int .i64 g3) = w3 at *
    obtain ⟨z0, z1, z2, z3, z4, z5, z6, z7, z8, z9⟩ := TkAt.block' (q := (⟨id, addr, ⟨g1, g2, g3⟩, lo, hi, hits, misses, firm⟩, ⟨aL, nL, cL, aH, nH, cH⟩)) KA.out.K.X
    simp only [] at z0 z1 z2 z3 z4 z5 z6 z7 z8 z9
    obtain ⟨f0, f1, f2, f3, f4, f5, f6, f7, f8, f9⟩ := aX (q := (⟨id, addr, ⟨g1, g2, g3⟩, lo, hi, hits, misses, firm⟩, ⟨aL, nL, cL, aH, nH, cH⟩)) KA.out.K.X
    have zl := aB KA.out.K.X
    obtain ⟨r0, r1, r2, r3, r4, r5, r6, r7, r8, r9⟩ := KA.out.K.K.R.cells
    have rl := KA.out.K.K.R.lt
    go_wp2_with fail
    refine (bN r g pn gc p now next _ _ _ (P.map lvOf) ⟨id, addr, ⟨g1, g2, g3⟩, lo, hi, hits, misses, firm⟩ ⟨aL, nL, cL, aH, nH, cH⟩ j _ KA.out.K.K.R KA.out.K.K.V (by rw [List.length_map]; exact HLn.out.2) HJ.out (by rw [HGl.out]; exact jH (HO.out.2.2.1 j HJ.out)) HOk.out.ch HBd.out.I).mono ?_; rintro e w6 ⟨⟨a1, n1, c1, a2, n2, c2⟩, rfl, hb, hbd⟩
    rw [HGl.out, HY.out] at hbd
    simp only [] at hbd
    obtain ⟨lo', hlo⟩ : ∃ x, meaL lo hi (lvOf ⟨yr, yc, ya⟩) = x := ⟨_, rfl⟩
    obtain ⟨hi', hhi⟩ : ∃ x, meaH lo hi (lvOf ⟨yr, yc, ya⟩) = x := ⟨_, rfl⟩
    rw [hlo, hhi] at hbd
    have HLH := qh (And.intro hlo hhi)
    replace HBd := qh (hbd _ _ KA.out.K.K.B.size KA.out.K.lts HBd.out)
    replace KA := qh (KA.out.below hb)
    replace HPx := qh (And.intro (aS hb HPx.out.1) (aS hb HPx.out.2))
    obtain ⟨EM, hEM⟩ : ∃ x, (!emptyB (meaL lo hi (gl (P.map lvOf) j)) (meaH lo hi (gl (P.map lvOf) j))) = x := ⟨_, rfl⟩
    rw [hEM]
    clear hbd hb hlo hhi hEM
    unfold bdV'
    simp only []
    clear z0 z1 z2 z3 z4 z5 z6 z7 z8 z9 f0 f1 f2 f3 f4 f5 f6 f7 f8 f9 zl r0 r1 r2 r3 r4 r5 r6 r7 r8 r9 rl
    obtain ⟨z0, z1, z2, z3, z4, z5, z6, z7, z8, z9⟩ := TkAt.block' (q := (⟨id, addr, ⟨g1, g2, g3⟩, lo, hi, hits, misses, firm⟩, ⟨aL, nL, cL, aH, nH, cH⟩)) KA.out.K.X
    simp only [] at z0 z1 z2 z3 z4 z5 z6 z7 z8 z9
    obtain ⟨f0, f1, f2, f3, f4, f5, f6, f7, f8, f9⟩ := aX (q := (⟨id, addr, ⟨g1, g2, g3⟩, lo, hi, hits, misses, firm⟩, ⟨aL, nL, cL, aH, nH, cH⟩)) KA.out.K.X
    have zl := aB KA.out.K.X
    obtain ⟨r0, r1, r2, r3, r4, r5, r6, r7, r8, r9⟩ := KA.out.K.K.R.cells
    have rl := KA.out.K.K.R.lt
    have KW := qh (iJ (t := ⟨id, addr, ⟨g1, g2, g3⟩, lo, hi, hits, misses, firm⟩) KA.out.K.X lo' hi' a1 a2 n1 c1 n2 c2)
    have HPz := qh (And.intro (bQ KW.out.2 HPx.out.1 (KA.out.K.off_arg HPc.out.1)) (bQ KW.out.2 HPx.out.2 (KA.out.K.off_arg HPc.out.1)))
    go_upto_region 13 with fail
    clear HPz
    replace KW := qh (And.intro KW.out.2 KW.out.1)
    replace HBd := qh (show BdX _ _ _ (⟨id, addr, ⟨g1, g2, g3⟩, lo', hi', hits, misses, firm⟩, ⟨a1, n1, c1, a2, n2, c2⟩) from (fun h => ⟨h.L, h.H, h.gL, h.gH⟩) (KA.out.bstore HBd.out KW.out.1))
    have HPv := qh (And.intro (bQ KW.out.1 HPx.out.1 (KA.out.K.off_arg HPc.out.1)) (bQ KW.out.1 HPx.out.2 (KA.out.K.off_arg HPc.out.1)))
    replace KA := qh (KA.out.store KW.out.1 KW.out.2)
    replace HPx := qh HPv.out
    clear KW HPv
    clear z0 z1 z2 z3 z4 z5 z6 z7 z8 z9 f0 f1 f2 f3 f4 f5 f6 f7 f8 f9 zl r0 r1 r2 r3 r4 r5 r6 r7 r8 r9 rl
    generalize (w6.setCell ⟨T, 5, none⟩ (.slice a1 n1 c1)).setCell ⟨T, 6, none⟩ (.slice a2 n2 c2) = w7 at *
    obtain ⟨z0, z1, z2, z3, z4, z5, z6, z7, z8, z9⟩ := TkAt.block' (q := (⟨id, addr, ⟨g1, g2, g3⟩, lo', hi', hits, misses, firm⟩, ⟨a1, n1, c1, a2, n2, c2⟩)) KA.out.K.X
    simp only [] at z0 z1 z2 z3 z4 z5 z6 z7 z8 z9
    obtain ⟨f0, f1, f2, f3, f4, f5, f6, f7, f8, f9⟩ := aX (q := (⟨id, addr, ⟨g1, g2, g3⟩, lo', hi', hits, misses, firm⟩, ⟨a1, n1, c1, a2, n2, c2⟩)) KA.out.K.X
    have zl := aB KA.out.K.X
    obtain ⟨r0, r1, r2, r3, r4, r5, r6, r7, r8, r9⟩ := KA.out.K.K.R.cells
    have rl := KA.out.K.K.R.lt
    obtain ⟨p0, p2⟩ := HPx.out
    have pl := World.block_lt_of_cell? _ _ p0
    have hhw : IntKind.i64.wrap (hits + 1) = hits + 1 := by have h : 1 ≤ hits ∧ hits ≤ 1073741824 := HOk.out.hits; exact IntWalk.i64_in _ (by omega)
    by_cases ha : addr < 0
    ·have HA := qh (show (⟨id, addr, rg, lo, hi, hits, misses, firm⟩ : Tk).addr < 0 from ha)
     go_upto_region 15 with fail
     have KW := qh (k8 (q' := (⟨id, ya, ⟨g1, g2, g3⟩, lo', hi', hits, misses, firm⟩, ⟨a1, n1, c1, a2, n2, c2⟩)) (i := 1) (v := .int .i64 ya) KA.out.K.X rfl)
     replace HBd := qh (show BdX _ _ _ (⟨id, ya, ⟨g1, g2, g3⟩, lo', hi', hits, misses, firm⟩, ⟨a1, n1, c1, a2, n2, c2⟩) from (fun h => ⟨h.L, h.H, h.gL, h.gH⟩) (KA.out.bstore HBd.out KW.out.1))
     have HPv := qh (And.intro (bQ KW.out.1 HPx.out.1 (KA.out.K.off_arg HPc.out.1)) (bQ KW.out.1 HPx.out.2 (KA.out.K.off_arg HPc.out.1)))
     replace KA := qh (KA.out.store KW.out.1 KW.out.2)
     replace HPx := qh HPv.out
     clear KW HPv
     clear z0 z1 z2 z3 z4 z5 z6 z7 z8 z9 f0 f1 f2 f3 f4 f5 f6 f7 f8 f9 zl r0 r1 r2 r3 r4 r5 r6 r7 r8 r9 rl
     generalize w7.setCell ⟨T, 1, none⟩ (.int .i64 ya) = w8 at *
     obtain ⟨z0, z1, z2, z3, z4, z5, z6, z7, z8, z9⟩ := TkAt.block' (q := (⟨id, ya, ⟨g1, g2, g3⟩, lo', hi', hits, misses, firm⟩, ⟨a1, n1, c1, a2, n2, c2⟩)) KA.out.K.X
     simp only [] at z0 z1 z2 z3 z4 z5 z6 z7 z8 z9
     obtain ⟨f0, f1, f2, f3, f4, f5, f6, f7, f8, f9⟩ := aX (q := (⟨id, ya, ⟨g1, g2, g3⟩, lo', hi', hits, misses, firm⟩, ⟨a1, n1, c1, a2, n2, c2⟩)) KA.out.K.X
     have zl := aB KA.out.K.X
     obtain ⟨r0, r1, r2, r3, r4, r5, r6, r7, r8, r9⟩ := KA.out.K.K.R.cells
     have rl := KA.out.K.K.R.lt
     obtain ⟨p0, p2⟩ := HPx.out
     have pl := World.block_lt_of_cell? _ _ p0
     by_cases hh : hits + 1 ≤ 1073741824
     ·have HH := qh (show hit1 ⟨id, addr, rg, lo, hi, hits, misses, firm⟩ = hits + 1 from by have h : 1 ≤ hits ∧ hits ≤ 1073741824 := HOk.out.hits; unfold hit1; dsimp only; omega)
      go_upto_region 16 with fail
      have KW := qh (lY (q' := (⟨id, ya, ⟨g1, g2, g3⟩, lo', hi', hits + 1, 0, firm⟩, ⟨a1, n1, c1, a2, n2, c2⟩)) KA.out.K.X rfl)
      replace HBd := qh (show BdX _ _ _ (⟨id, ya, ⟨g1, g2, g3⟩, lo', hi', hits + 1, 0, firm⟩, ⟨a1, n1, c1, a2, n2, c2⟩) from (fun h => ⟨h.L, h.H, h.gL, h.gH⟩) (KA.out.bstore HBd.out KW.out.1))
      have HPv := qh (And.intro (bQ KW.out.1 HPx.out.1 (KA.out.K.off_arg HPc.out.1)) (bQ KW.out.1 HPx.out.2 (KA.out.K.off_arg HPc.out.1)))
      replace KA := qh (KA.out.store KW.out.1 KW.out.2)
      replace HPx := qh HPv.out
      clear KW HPv
      clear z0 z1 z2 z3 z4 z5 z6 z7 z8 z9 f0 f1 f2 f3 f4 f5 f6 f7 f8 f9 zl r0 r1 r2 r3 r4 r5 r6 r7 r8 r9 rl
      generalize (w8.setCell ⟨T, 7, none⟩ (.int .i64 (hits + 1))).setCell ⟨T, 8, none⟩ (.int .i64 0) = w9 at *
      obtain ⟨z0, z1, z2, z3, z4, z5, z6, z7, z8, z9⟩ := TkAt.block' (q := (⟨id, ya, ⟨g1, g2, g3⟩, lo', hi', hits + 1, 0, firm⟩, ⟨a1, n1, c1, a2, n2, c2⟩)) KA.out.K.X
      simp only [] at z0 z1 z2 z3 z4 z5 z6 z7 z8 z9
      obtain ⟨f0, f1, f2, f3, f4, f5, f6, f7, f8, f9⟩ := aX (q := (⟨id, ya, ⟨g1, g2, g3⟩, lo', hi', hits + 1, 0, firm⟩, ⟨a1, n1, c1, a2, n2, c2⟩)) KA.out.K.X
      have zl := aB KA.out.K.X
      obtain ⟨r0, r1, r2, r3, r4, r5, r6, r7, r8, r9⟩ := KA.out.K.K.R.cells
      have rl := KA.out.K.K.R.lt
      obtain ⟨p0, p2⟩ := HPx.out
      have pl := World.block_lt_of_cell? _ _ p0
      go_wp2_with fail
      refine (cG r w0.heap.size p now next _ _ _ _ _ ⟨1, id, j⟩ _ KA.out.K.K.R KA.out.K.K.E KA.out.K.K.er KA.out.K.K.B.size (by have := HLe.out; omega)).mono ?_; intro e w10 hn
      obtain ⟨e1, rfl, KB, HB5⟩ := KA.out.note hn
      replace HBd := qh (HB5 _ HBd.out)
      clear z0 z1 z2 z3 z4 z5 z6 z7 z8 z9 f0 f1 f2 f3 f4 f5 f6 f7 f8 f9 zl r0 r1 r2 r3 r4 r5 r6 r7 r8 r9 rl
      replace KA := qh KB
      clear hn HB5 KB
      clear p0 p2 pl HPx
      cases firm with
      | true =>
       have HE1 := qh (d5 (p := p) (t := ⟨id, addr, rg, lo, hi, hits, misses, true⟩) (k := j) (fun e => by cases e.1))
       have HT1 := qh (show updT1 p P ⟨id, addr, rg, lo, hi, hits, misses, true⟩ (some j) = [((⟨id, ya, ⟨g1, g2, g3⟩, lo', hi', hits + 1, 0, true⟩, ⟨a1, n1, c1, a2, n2, c2⟩) : TB).1] from by
        unfold updT1 updT
        dsimp only
        rw [HY.out]
        dsimp only
        rw [if_pos (show addr < 0 from by have h := HA.out; (try dsimp only at h); omega), HG.out, HLH.out.1, HLH.out.2, HH.out]
        first
         | rfl
         | (congr 1; congr 1; simp))
       obtain ⟨z0, z1, z2, z3, z4, z5, z6, z7, z8, z9⟩ := TkAt.block' (q := (⟨id, ya, ⟨g1, g2, g3⟩, lo', hi', hits + 1, 0, true⟩, ⟨a1, n1, c1, a2, n2, c2⟩)) KA.out.K.X
       simp only [] at z0 z1 z2 z3 z4 z5 z6 z7 z8 z9
       obtain ⟨f0, f1, f2, f3, f4, f5, f6, f7, f8, f9⟩ := aX (q := (⟨id, ya, ⟨g1, g2, g3⟩, lo', hi', hits + 1, 0, true⟩, ⟨a1, n1, c1, a2, n2, c2⟩)) KA.out.K.X
       have zl := aB KA.out.K.X
       obtain ⟨r0, r1, r2, r3, r4, r5, r6, r7, r8, r9⟩ := KA.out.K.K.R.cells
       have rl := KA.out.K.K.R.lt
       go_wp2_with fail
       go_quiet (fail)
       replace KA := qh (KA.out.below (aM (Below.refl _ _) nq))
       replace HBd := qh (HBd.out.outs (Outs.of_below (aM (Below.refl _ _) nq)))
       clear z0 z1 z2 z3 z4 z5 z6 z7 z8 z9 f0 f1 f2 f3 f4 f5 f6 f7 f8 f9 zl r0 r1 r2 r3 r4 r5 r6 r7 r8 r9 rl
       generalize w10.drewN nq = wb at *
       obtain ⟨z0, z1, z2, z3, z4, z5, z6, z7, z8, z9⟩ := TkAt.block' (q := (⟨id, ya, ⟨g1, g2, g3⟩, lo', hi', hits + 1, 0, true⟩, ⟨a1, n1, c1, a2, n2, c2⟩)) KA.out.K.X
       simp only [] at z0 z1 z2 z3 z4 z5 z6 z7 z8 z9
       obtain ⟨f0, f1, f2, f3, f4, f5, f6, f7, f8, f9⟩ := aX (q := (⟨id, ya, ⟨g1, g2, g3⟩, lo', hi', hits + 1, 0, true⟩, ⟨a1, n1, c1, a2, n2, c2⟩)) KA.out.K.X
       have zl := aB KA.out.K.X
       obtain ⟨r0, r1, r2, r3, r4, r5, r6, r7, r8, r9⟩ := KA.out.K.K.R.cells
       have rl := KA.out.K.K.R.lt
       have KB := qh (KA.out.below (aC wb (.cells (tkC (⟨id, ya, ⟨g1, g2, g3⟩, lo', hi', hits + 1, 0, true⟩, ⟨a1, n1, c1, a2, n2, c2⟩)) 55)))
       have HBm := qh (HBd.out.outs (Outs.of_below (aC wb (.cells (tkC (⟨id, ya, ⟨g1, g2, g3⟩, lo', hi', hits + 1, 0, true⟩, ⟨a1, n1, c1, a2, n2, c2⟩)) 55))))
       clear KA HBd
       unfold tkC at KB HBm
       simp only [] at KB HBm
       go_wp2_with (at_builtin; refine wpList_append_own_at _ rfl _ _ 24 rfl w0.heap.size 55 i0 _ 10 112 Tryz.underlying24 HF.out.1 HF.out.2.1 HF.out.2.2.1 HF.out.2.2.2 rfl (by decide) _ M.length _ rfl KB.out.K.L.row ⟨wb.heap.size, 0, none⟩ 1 1 [.int .i64 id, .int .i64 ya, .int .i64 g1, .int .i64 g2, .int .i64 g3, .slice a1 n1 c1, .slice a2 n2 c2, .int .i64 (hits + 1), .int .i64 0, .bool true] rfl rfl (bA rfl) (by intro u hu; simp at hu; rcases hu with rfl | rfl | rfl | rfl | rfl | rfl | rfl | rfl | rfl | rfl <;> rfl) (by have := HMl.out; unfold maxLen; omega) (by have := HMl.out; omega) (by have := KB.out.K.K.B.size; exact this) ?_; intro v9 w9 hown9 hg9 _ hat9; have KC := qh (UpR.app (q := (⟨id, ya, ⟨g1, g2, g3⟩, lo', hi', hits + 1, 0, true⟩, ⟨a1, n1, c1, a2, n2, c2⟩)) KB.out HBm.out hown9 hg9 hat9); clear hown9 hg9 hat9)
       refine ⟨⟨k + 1, M ++ [(⟨id, ya, ⟨g1, g2, g3⟩, lo', hi', hits + 1, 0, true⟩, ⟨a1, n1, c1, a2, n2, c2⟩)], e1, HLt.out, by go_num, ?_, ?_⟩, by simp [intOf]; have := HLt.out; omega⟩
       ·rw [HU.out, HE1.out]
        have h := KC.out
        try simp only [List.append_assoc] at h ⊢; try simp only [List.singleton_append] at h ⊢; try simp only [List.cons_append] at h ⊢; try simp only [List.nil_append] at h ⊢
        exact h
       rw [HU.out, HT1.out]
       try rw [bK]
       rw [HM.out]
       try rw [List.append_nil]
       try rfl
      | false =>
       by_cases hne : p.need ≤ hits + 1
       ·have HE1 := qh (gM (p := p) (t := ⟨id, addr, rg, lo, hi, hits, misses, false⟩) (k := j) rfl (by rw [HH.out]; exact hne))
        have HT1 := qh (show updT1 p P ⟨id, addr, rg, lo, hi, hits, misses, false⟩ (some j) = [((⟨id, ya, ⟨g1, g2, g3⟩, lo', hi', hits + 1, 0, true⟩, ⟨a1, n1, c1, a2, n2, c2⟩) : TB).1] from by
         unfold updT1 updT
         dsimp only
         rw [HY.out]
         dsimp only
         rw [if_pos (show addr < 0 from by have h := HA.out; (try dsimp only at h); omega), HG.out, HLH.out.1, HLH.out.2, HH.out]
         first
          | rfl
          | (congr 1; congr 1; simp [hne]))
        obtain ⟨z0, z1, z2, z3, z4, z5, z6, z7, z8, z9⟩ := TkAt.block' (q := (⟨id, ya, ⟨g1, g2, g3⟩, lo', hi', hits + 1, 0, false⟩, ⟨a1, n1, c1, a2, n2, c2⟩)) KA.out.K.X
        simp only [] at z0 z1 z2 z3 z4 z5 z6 z7 z8 z9
        obtain ⟨f0, f1, f2, f3, f4, f5, f6, f7, f8, f9⟩ := aX (q := (⟨id, ya, ⟨g1, g2, g3⟩, lo', hi', hits + 1, 0, false⟩, ⟨a1, n1, c1, a2, n2, c2⟩)) KA.out.K.X
        have zl := aB KA.out.K.X
        obtain ⟨r0, r1, r2, r3, r4, r5, r6, r7, r8, r9⟩ := KA.out.K.K.R.cells
        have rl := KA.out.K.K.R.lt
        go_wp2_with fail
        go_quiet (fail)
        replace KA := qh (KA.out.below (aM (Below.refl _ _) nq))
        replace HBd := qh (HBd.out.outs (Outs.of_below (aM (Below.refl _ _) nq)))
        clear z0 z1 z2 z3 z4 z5 z6 z7 z8 z9 f0 f1 f2 f3 f4 f5 f6 f7 f8 f9 zl r0 r1 r2 r3 r4 r5 r6 r7 r8 r9 rl
        generalize w10.drewN nq = wb at *
        obtain ⟨z0, z1, z2, z3, z4, z5, z6, z7, z8, z9⟩ := TkAt.block' (q := (⟨id, ya, ⟨g1, g2, g3⟩, lo', hi', hits + 1, 0, false⟩, ⟨a1, n1, c1, a2, n2, c2⟩)) KA.out.K.X
        simp only [] at z0 z1 z2 z3 z4 z5 z6 z7 z8 z9
        obtain ⟨f0, f1, f2, f3, f4, f5, f6, f7, f8, f9⟩ := aX (q := (⟨id, ya, ⟨g1, g2, g3⟩, lo', hi', hits + 1, 0, false⟩, ⟨a1, n1, c1, a2, n2, c2⟩)) KA.out.K.X
        have zl := aB KA.out.K.X
        obtain ⟨r0, r1, r2, r3, r4, r5, r6, r7, r8, r9⟩ := KA.out.K.K.R.cells
        have rl := KA.out.K.K.R.lt
        go_upto_region 19 with fail
        have KW := qh (k8 (q' := (⟨id, ya, ⟨g1, g2, g3⟩, lo', hi', hits + 1, 0, true⟩, ⟨a1, n1, c1, a2, n2, c2⟩)) (i := 9) (v := .bool true) KA.out.K.X rfl)
        replace HBd := qh (show BdX _ _ _ (⟨id, ya, ⟨g1, g2, g3⟩, lo', hi', hits + 1, 0, true⟩, ⟨a1, n1, c1, a2, n2, c2⟩) from (fun h => ⟨h.L, h.H, h.gL, h.gH⟩) (KA.out.bstore HBd.out KW.out.1))
        replace KA := qh (KA.out.store KW.out.1 KW.out.2)
        clear KW
        clear z0 z1 z2 z3 z4 z5 z6 z7 z8 z9 f0 f1 f2 f3 f4 f5 f6 f7 f8 f9 zl r0 r1 r2 r3 r4 r5 r6 r7 r8 r9 rl
        generalize wb.setCell ⟨T, 9, none⟩ (.bool true) = wc at *
        obtain ⟨z0, z1, z2, z3, z4, z5, z6, z7, z8, z9⟩ := TkAt.block' (q := (⟨id, ya, ⟨g1, g2, g3⟩, lo', hi', hits + 1, 0, true⟩, ⟨a1, n1, c1, a2, n2, c2⟩)) KA.out.K.X
        simp only [] at z0 z1 z2 z3 z4 z5 z6 z7 z8 z9
        obtain ⟨f0, f1, f2, f3, f4, f5, f6, f7, f8, f9⟩ := aX (q := (⟨id, ya, ⟨g1, g2, g3⟩, lo', hi', hits + 1, 0, true⟩, ⟨a1, n1, c1, a2, n2, c2⟩)) KA.out.K.X
        have zl := aB KA.out.K.X
        obtain ⟨r0, r1, r2, r3, r4, r5, r6, r7, r8, r9⟩ := KA.out.K.K.R.cells
        have rl := KA.out.K.K.R.lt
        go_wp2_with fail
        refine (cG r w0.heap.size p now next _ _ _ _ (E ++ (updA p P (ofF l) (fsts L) k).2 ++ [⟨1, id, (j : Int)⟩]) ⟨2, id, j⟩ _ KA.out.K.K.R KA.out.K.K.E KA.out.K.K.er KA.out.K.K.B.size (by have := HLe.out; try rw [List.length_append]; simp only [List.length_singleton] at *; omega)).mono ?_; intro e w11 hn
        obtain ⟨e2, rfl, KB, HB5⟩ := KA.out.note hn
        replace HBd := qh (HB5 _ HBd.out)
        clear z0 z1 z2 z3 z4 z5 z6 z7 z8 z9 f0 f1 f2 f3 f4 f5 f6 f7 f8 f9 zl r0 r1 r2 r3 r4 r5 r6 r7 r8 r9 rl
        replace KA := qh KB
        clear hn HB5 KB
        obtain ⟨z0, z1, z2, z3, z4, z5, z6, z7, z8, z9⟩ := TkAt.block' (q := (⟨id, ya, ⟨g1, g2, g3⟩, lo', hi', hits + 1, 0, true⟩, ⟨a1, n1, c1, a2, n2, c2⟩)) KA.out.K.X
        simp only [] at z0 z1 z2 z3 z4 z5 z6 z7 z8 z9
        obtain ⟨f0, f1, f2, f3, f4, f5, f6, f7, f8, f9⟩ := aX (q := (⟨id, ya, ⟨g1, g2, g3⟩, lo', hi', hits + 1, 0, true⟩, ⟨a1, n1, c1, a2, n2, c2⟩)) KA.out.K.X
        have zl := aB KA.out.K.X
        obtain ⟨r0, r1, r2, r3, r4, r5, r6, r7, r8, r9⟩ := KA.out.K.K.R.cells
        have rl := KA.out.K.K.R.lt
        have KB := qh (KA.out.below (aC w11 (.cells (tkC (⟨id, ya, ⟨g1, g2, g3⟩, lo', hi', hits + 1, 0, true⟩, ⟨a1, n1, c1, a2, n2, c2⟩)) 55)))
        have HBm := qh (HBd.out.outs (Outs.of_below (aC w11 (.cells (tkC (⟨id, ya, ⟨g1, g2, g3⟩, lo', hi', hits + 1, 0, true⟩, ⟨a1, n1, c1, a2, n2, c2⟩)) 55))))
        clear KA HBd
        unfold tkC at KB HBm
        simp only [] at KB HBm
        go_wp2_with (at_builtin; refine wpList_append_own_at _ rfl _ _ 24 rfl w0.heap.size 55 i0 _ 10 112 Tryz.underlying24 HF.out.1 HF.out.2.1 HF.out.2.2.1 HF.out.2.2.2 rfl (by decide) _ M.length _ rfl KB.out.K.L.row ⟨w11.heap.size, 0, none⟩ 1 1 [.int .i64 id, .int .i64 ya, .int .i64 g1, .int .i64 g2, .int .i64 g3, .slice a1 n1 c1, .slice a2 n2 c2, .int .i64 (hits + 1), .int .i64 0, .bool true] rfl rfl (bA rfl) (by intro u hu; simp at hu; rcases hu with rfl | rfl | rfl | rfl | rfl | rfl | rfl | rfl | rfl | rfl <;> rfl) (by have := HMl.out; unfold maxLen; omega) (by have := HMl.out; omega) (by have := KB.out.K.K.B.size; exact this) ?_; intro v9 w9 hown9 hg9 _ hat9; have KC := qh (UpR.app (q := (⟨id, ya, ⟨g1, g2, g3⟩, lo', hi', hits + 1, 0, true⟩, ⟨a1, n1, c1, a2, n2, c2⟩)) KB.out HBm.out hown9 hg9 hat9); clear hown9 hg9 hat9)
        refine ⟨⟨k + 1, M ++ [(⟨id, ya, ⟨g1, g2, g3⟩, lo', hi', hits + 1, 0, true⟩, ⟨a1, n1, c1, a2, n2, c2⟩)], e2, HLt.out, by go_num, ?_, ?_⟩, by simp [intOf]; have := HLt.out; omega⟩
        ·rw [HU.out, HE1.out]
         have h := KC.out
         try simp only [List.append_assoc] at h ⊢; try simp only [List.singleton_append] at h ⊢; try simp only [List.cons_append] at h ⊢; try simp only [List.nil_append] at h ⊢
         exact h
        rw [HU.out, HT1.out]
        try rw [bK]
        rw [HM.out]
        try rw [List.append_nil]
        try rfl
       have HE1 := qh (d5 (p := p) (t := ⟨id, addr, rg, lo, hi, hits, misses, false⟩) (k := j) (fun e => hne (by have h := e.2; rw [HH.out] at h; exact h)))
       have HT1 := qh (show updT1 p P ⟨id, addr, rg, lo, hi, hits, misses, false⟩ (some j) = [((⟨id, ya, ⟨g1, g2, g3⟩, lo', hi', hits + 1, 0, false⟩, ⟨a1, n1, c1, a2, n2, c2⟩) : TB).1] from by
        unfold updT1 updT
        dsimp only
        rw [HY.out]
        dsimp only
        rw [if_pos (show addr < 0 from by have h := HA.out; (try dsimp only at h); omega), HG.out, HLH.out.1, HLH.out.2, HH.out]
        first
         | rfl
         | (congr 1; congr 1; simp [hne]))
       obtain ⟨z0, z1, z2, z3, z4, z5, z6, z7, z8, z9⟩ := TkAt.block' (q := (⟨id, ya, ⟨g1, g2, g3⟩, lo', hi', hits + 1, 0, false⟩, ⟨a1, n1, c1, a2, n2, c2⟩)) KA.out.K.X
       simp only [] at z0 z1 z2 z3 z4 z5 z6 z7 z8 z9
       obtain ⟨f0, f1, f2, f3, f4, f5, f6, f7, f8, f9⟩ := aX (q := (⟨id, ya, ⟨g1, g2, g3⟩, lo', hi', hits + 1, 0, false⟩, ⟨a1, n1, c1, a2, n2, c2⟩)) KA.out.K.X
       have zl := aB KA.out.K.X
       obtain ⟨r0, r1, r2, r3, r4, r5, r6, r7, r8, r9⟩ := KA.out.K.K.R.cells
       have rl := KA.out.K.K.R.lt
       go_wp2_with fail
       go_quiet (fail)
       replace KA := qh (KA.out.below (aM (Below.refl _ _) nq))
       replace HBd := qh (HBd.out.outs (Outs.of_below (aM (Below.refl _ _) nq)))
       clear z0 z1 z2 z3 z4 z5 z6 z7 z8 z9 f0 f1 f2 f3 f4 f5 f6 f7 f8 f9 zl r0 r1 r2 r3 r4 r5 r6 r7 r8 r9 rl
       generalize w10.drewN nq = wb at *
       obtain ⟨z0, z1, z2, z3, z4, z5, z6, z7, z8, z9⟩ := TkAt.block' (q := (⟨id, ya, ⟨g1, g2, g3⟩, lo', hi', hits + 1, 0, false⟩, ⟨a1, n1, c1, a2, n2, c2⟩)) KA.out.K.X
       simp only [] at z0 z1 z2 z3 z4 z5 z6 z7 z8 z9
       obtain ⟨f0, f1, f2, f3, f4, f5, f6, f7, f8, f9⟩ := aX (q := (⟨id, ya, ⟨g1, g2, g3⟩, lo', hi', hits + 1, 0, false⟩, ⟨a1, n1, c1, a2, n2, c2⟩)) KA.out.K.X
       have zl := aB KA.out.K.X
       obtain ⟨r0, r1, r2, r3, r4, r5, r6, r7, r8, r9⟩ := KA.out.K.K.R.cells
       have rl := KA.out.K.K.R.lt
       have KB := qh (KA.out.below (aC wb (.cells (tkC (⟨id, ya, ⟨g1, g2, g3⟩, lo', hi', hits + 1, 0, false⟩, ⟨a1, n1, c1, a2, n2, c2⟩)) 55)))
       have HBm := qh (HBd.out.outs (Outs.of_below (aC wb (.cells (tkC (⟨id, ya, ⟨g1, g2, g3⟩, lo', hi', hits + 1, 0, false⟩, ⟨a1, n1, c1, a2, n2, c2⟩)) 55))))
       clear KA HBd
       unfold tkC at KB HBm
       simp only [] at KB HBm
       go_wp2_with (at_builtin; refine wpList_append_own_at _ rfl _ _ 24 rfl w0.heap.size 55 i0 _ 10 112 Tryz.underlying24 HF.out.1 HF.out.2.1 HF.out.2.2.1 HF.out.2.2.2 rfl (by decide) _ M.length _ rfl KB.out.K.L.row ⟨wb.heap.size, 0, none⟩ 1 1 [.int .i64 id, .int .i64 ya, .int .i64 g1, .int .i64 g2, .int .i64 g3, .slice a1 n1 c1, .slice a2 n2 c2, .int .i64 (hits + 1), .int .i64 0, .bool false] rfl rfl (bA rfl) (by intro u hu; simp at hu; rcases hu with rfl | rfl | rfl | rfl | rfl | rfl | rfl | rfl | rfl | rfl <;> rfl) (by have := HMl.out; unfold maxLen; omega) (by have := HMl.out; omega) (by have := KB.out.K.K.B.size; exact this) ?_; intro v9 w9 hown9 hg9 _ hat9; have KC := qh (UpR.app (q := (⟨id, ya, ⟨g1, g2, g3⟩, lo', hi', hits + 1, 0, false⟩, ⟨a1, n1, c1, a2, n2, c2⟩)) KB.out HBm.out hown9 hg9 hat9); clear hown9 hg9 hat9)
       refine ⟨⟨k + 1, M ++ [(⟨id, ya, ⟨g1, g2, g3⟩, lo', hi', hits + 1, 0, false⟩, ⟨a1, n1, c1, a2, n2, c2⟩)], e1, HLt.out, by go_num, ?_, ?_⟩, by simp [intOf]; have := HLt.out; omega⟩
       ·rw [HU.out, HE1.out]
        have h := KC.out
        try simp only [List.append_assoc] at h ⊢; try simp only [List.singleton_append] at h ⊢; try simp only [List.cons_append] at h ⊢; try simp only [List.nil_append] at h ⊢
        exact h
       rw [HU.out, HT1.out]
       try rw [bK]
       rw [HM.out]
       try rw [List.append_nil]
       try rfl
     have HH := qh (show hit1 ⟨id, addr, rg, lo, hi, hits, misses, firm⟩ = 1073741824 from by have h : 1 ≤ hits ∧ hits ≤ 1073741824 := HOk.out.hits; unfold hit1; dsimp only; omega)
     go_upto_region 16 with fail
     have KW := qh (lY (q' := (⟨id, ya, ⟨g1, g2, g3⟩, lo', hi', 1073741824, 0, firm⟩, ⟨a1, n1, c1, a2, n2, c2⟩)) KA.out.K.X rfl)
     replace HBd := qh (show BdX _ _ _ (⟨id, ya, ⟨g1, g2, g3⟩, lo', hi', 1073741824, 0, firm⟩, ⟨a1, n1, c1, a2, n2, c2⟩) from (fun h => ⟨h.L, h.H, h.gL, h.gH⟩) (KA.out.bstore HBd.out KW.out.1))
     have HPv := qh (And.intro (bQ KW.out.1 HPx.out.1 (KA.out.K.off_arg HPc.out.1)) (bQ KW.out.1 HPx.out.2 (KA.out.K.off_arg HPc.out.1)))
     replace KA := qh (KA.out.store KW.out.1 KW.out.2)
     replace HPx := qh HPv.out
     clear KW HPv
     clear z0 z1 z2 z3 z4 z5 z6 z7 z8 z9 f0 f1 f2 f3 f4 f5 f6 f7 f8 f9 zl r0 r1 r2 r3 r4 r5 r6 r7 r8 r9 rl
     generalize (w8.setCell ⟨T, 7, none⟩ (.int .i64 1073741824)).setCell ⟨T, 8, none⟩ (.int .i64 0) = w9 at *
     obtain ⟨z0, z1, z2, z3, z4, z5, z6, z7, z8, z9⟩ := TkAt.block' (q := (⟨id, ya, ⟨g1, g2, g3⟩, lo', hi', 1073741824, 0, firm⟩, ⟨a1, n1, c1, a2, n2, c2⟩)) KA.out.K.X
     simp only [] at z0 z1 z2 z3 z4 z5 z6 z7 z8 z9
     obtain ⟨f0, f1, f2, f3, f4, f5, f6, f7, f8, f9⟩ := aX (q := (⟨id, ya, ⟨g1, g2, g3⟩, lo', hi', 1073741824, 0, firm⟩, ⟨a1, n1, c1, a2, n2, c2⟩)) KA.out.K.X
     have zl := aB KA.out.K.X
     obtain ⟨r0, r1, r2, r3, r4, r5, r6, r7, r8, r9⟩ := KA.out.K.K.R.cells
     have rl := KA.out.K.K.R.lt
     obtain ⟨p0, p2⟩ := HPx.out
     have pl := World.block_lt_of_cell? _ _ p0
     go_wp2_with fail
     refine (cG r w0.heap.size p now next _ _ _ _ _ ⟨1, id, j⟩ _ KA.out.K.K.R KA.out.K.K.E KA.out.K.K.er KA.out.K.K.B.size (by have := HLe.out; omega)).mono ?_; intro e w10 hn
     obtain ⟨e1, rfl, KB, HB5⟩ := KA.out.note hn
     replace HBd := qh (HB5 _ HBd.out)
     clear z0 z1 z2 z3 z4 z5 z6 z7 z8 z9 f0 f1 f2 f3 f4 f5 f6 f7 f8 f9 zl r0 r1 r2 r3 r4 r5 r6 r7 r8 r9 rl
     replace KA := qh KB
     clear hn HB5 KB
     clear p0 p2 pl HPx
     cases firm with
     | true =>
      have HE1 := qh (d5 (p := p) (t := ⟨id, addr, rg, lo, hi, hits, misses, true⟩) (k := j) (fun e => by cases e.1))
      have HT1 := qh (show updT1 p P ⟨id, addr, rg, lo, hi, hits, misses, true⟩ (some j) = [((⟨id, ya, ⟨g1, g2, g3⟩, lo', hi', 1073741824, 0, true⟩, ⟨a1, n1, c1, a2, n2, c2⟩) : TB).1] from by
       unfold updT1 updT
       dsimp only
       rw [HY.out]
       dsimp only
       rw [if_pos (show addr < 0 from by have h := HA.out; (try dsimp only at h); omega), HG.out, HLH.out.1, HLH.out.2, HH.out]
       first
        | rfl
        | (congr 1; congr 1; simp))
      obtain ⟨z0, z1, z2, z3, z4, z5, z6, z7, z8, z9⟩ := TkAt.block' (q := (⟨id, ya, ⟨g1, g2, g3⟩, lo', hi', 1073741824, 0, true⟩, ⟨a1, n1, c1, a2, n2, c2⟩)) KA.out.K.X
      simp only [] at z0 z1 z2 z3 z4 z5 z6 z7 z8 z9
      obtain ⟨f0, f1, f2, f3, f4, f5, f6, f7, f8, f9⟩ := aX (q := (⟨id, ya, ⟨g1, g2, g3⟩, lo', hi', 1073741824, 0, true⟩, ⟨a1, n1, c1, a2, n2, c2⟩)) KA.out.K.X
      have zl := aB KA.out.K.X
      obtain ⟨r0, r1, r2, r3, r4, r5, r6, r7, r8, r9⟩ := KA.out.K.K.R.cells
      have rl := KA.out.K.K.R.lt
      go_wp2_with fail
      go_quiet (fail)
      replace KA := qh (KA.out.below (aM (Below.refl _ _) nq))
      replace HBd := qh (HBd.out.outs (Outs.of_below (aM (Below.refl _ _) nq)))
      clear z0 z1 z2 z3 z4 z5 z6 z7 z8 z9 f0 f1 f2 f3 f4 f5 f6 f7 f8 f9 zl r0 r1 r2 r3 r4 r5 r6 r7 r8 r9 rl
      generalize w10.drewN nq = wb at *
      obtain ⟨z0, z1, z2, z3, z4, z5, z6, z7, z8, z9⟩ := TkAt.block' (q := (⟨id, ya, ⟨g1, g2, g3⟩, lo', hi', 1073741824, 0, true⟩, ⟨a1, n1, c1, a2, n2, c2⟩)) KA.out.K.X
      simp only [] at z0 z1 z2 z3 z4 z5 z6 z7 z8 z9
      obtain ⟨f0, f1, f2, f3, f4, f5, f6, f7, f8, f9⟩ := aX (q := (⟨id, ya, ⟨g1, g2, g3⟩, lo', hi', 1073741824, 0, true⟩, ⟨a1, n1, c1, a2, n2, c2⟩)) KA.out.K.X
      have zl := aB KA.out.K.X
      obtain ⟨r0, r1, r2, r3, r4, r5, r6, r7, r8, r9⟩ := KA.out.K.K.R.cells
      have rl := KA.out.K.K.R.lt
      have KB := qh (KA.out.below (aC wb (.cells (tkC (⟨id, ya, ⟨g1, g2, g3⟩, lo', hi', 1073741824, 0, true⟩, ⟨a1, n1, c1, a2, n2, c2⟩)) 55)))
      have HBm := qh (HBd.out.outs (Outs.of_below (aC wb (.cells (tkC (⟨id, ya, ⟨g1, g2, g3⟩, lo', hi', 1073741824, 0, true⟩, ⟨a1, n1, c1, a2, n2, c2⟩)) 55))))
      clear KA HBd
      unfold tkC at KB HBm
      simp only [] at KB HBm
      go_wp2_with (at_builtin; refine wpList_append_own_at _ rfl _ _ 24 rfl w0.heap.size 55 i0 _ 10 112 Tryz.underlying24 HF.out.1 HF.out.2.1 HF.out.2.2.1 HF.out.2.2.2 rfl (by decide) _ M.length _ rfl KB.out.K.L.row ⟨wb.heap.size, 0, none⟩ 1 1 [.int .i64 id, .int .i64 ya, .int .i64 g1, .int .i64 g2, .int .i64 g3, .slice a1 n1 c1, .slice a2 n2 c2, .int .i64 1073741824, .int .i64 0, .bool true] rfl rfl (bA rfl) (by intro u hu; simp at hu; rcases hu with rfl | rfl | rfl | rfl | rfl | rfl | rfl | rfl | rfl | rfl <;> rfl) (by have := HMl.out; unfold maxLen; omega) (by have := HMl.out; omega) (by have := KB.out.K.K.B.size; exact this) ?_; intro v9 w9 hown9 hg9 _ hat9; have KC := qh (UpR.app (q := (⟨id, ya, ⟨g1, g2, g3⟩, lo', hi', 1073741824, 0, true⟩, ⟨a1, n1, c1, a2, n2, c2⟩)) KB.out HBm.out hown9 hg9 hat9); clear hown9 hg9 hat9)
      refine ⟨⟨k + 1, M ++ [(⟨id, ya, ⟨g1, g2, g3⟩, lo', hi', 1073741824, 0, true⟩, ⟨a1, n1, c1, a2, n2, c2⟩)], e1, HLt.out, by go_num, ?_, ?_⟩, by simp [intOf]; have := HLt.out; omega⟩
      ·rw [HU.out, HE1.out]
       have h := KC.out
       try simp only [List.append_assoc] at h ⊢; try simp only [List.singleton_append] at h ⊢; try simp only [List.cons_append] at h ⊢; try simp only [List.nil_append] at h ⊢
       exact h
      rw [HU.out, HT1.out]
      try rw [bK]
      rw [HM.out]
      try rw [List.append_nil]
      try rfl
     | false =>
      by_cases hne : p.need ≤ 1073741824
      ·have HE1 := qh (gM (p := p) (t := ⟨id, addr, rg, lo, hi, hits, misses, false⟩) (k := j) rfl (by rw [HH.out]; exact hne))
       have HT1 := qh (show updT1 p P ⟨id, addr, rg, lo, hi, hits, misses, false⟩ (some j) = [((⟨id, ya, ⟨g1, g2, g3⟩, lo', hi', 1073741824, 0, true⟩, ⟨a1, n1, c1, a2, n2, c2⟩) : TB).1] from by
        unfold updT1 updT
        dsimp only
        rw [HY.out]
        dsimp only
        rw [if_pos (show addr < 0 from by have h := HA.out; (try dsimp only at h); omega), HG.out, HLH.out.1, HLH.out.2, HH.out]
        first
         | rfl
         | (congr 1; congr 1; simp [hne]))
       obtain ⟨z0, z1, z2, z3, z4, z5, z6, z7, z8, z9⟩ := TkAt.block' (q := (⟨id, ya, ⟨g1, g2, g3⟩, lo', hi', 1073741824, 0, false⟩, ⟨a1, n1, c1, a2, n2, c2⟩)) KA.out.K.X
       simp only [] at z0 z1 z2 z3 z4 z5 z6 z7 z8 z9
       obtain ⟨f0, f1, f2, f3, f4, f5, f6, f7, f8, f9⟩ := aX (q := (⟨id, ya, ⟨g1, g2, g3⟩, lo', hi', 1073741824, 0, false⟩, ⟨a1, n1, c1, a2, n2, c2⟩)) KA.out.K.X
       have zl := aB KA.out.K.X
       obtain ⟨r0, r1, r2, r3, r4, r5, r6, r7, r8, r9⟩ := KA.out.K.K.R.cells
       have rl := KA.out.K.K.R.lt
       go_wp2_with fail
       go_quiet (fail)
       replace KA := qh (KA.out.below (aM (Below.refl _ _) nq))
       replace HBd := qh (HBd.out.outs (Outs.of_below (aM (Below.refl _ _) nq)))
       clear z0 z1 z2 z3 z4 z5 z6 z7 z8 z9 f0 f1 f2 f3 f4 f5 f6 f7 f8 f9 zl r0 r1 r2 r3 r4 r5 r6 r7 r8 r9 rl
       generalize w10.drewN nq = wb at *
       obtain ⟨z0, z1, z2, z3, z4, z5, z6, z7, z8, z9⟩ := TkAt.block' (q := (⟨id, ya, ⟨g1, g2, g3⟩, lo', hi', 1073741824, 0, false⟩, ⟨a1, n1, c1, a2, n2, c2⟩)) KA.out.K.X
       simp only [] at z0 z1 z2 z3 z4 z5 z6 z7 z8 z9
       obtain ⟨f0, f1, f2, f3, f4, f5, f6, f7, f8, f9⟩ := aX (q := (⟨id, ya, ⟨g1, g2, g3⟩, lo', hi', 1073741824, 0, false⟩, ⟨a1, n1, c1, a2, n2, c2⟩)) KA.out.K.X
       have zl := aB KA.out.K.X
       obtain ⟨r0, r1, r2, r3, r4, r5, r6, r7, r8, r9⟩ := KA.out.K.K.R.cells
       have rl := KA.out.K.K.R.lt
       go_upto_region 19 with fail
       have KW := qh (k8 (q' := (⟨id, ya, ⟨g1, g2, g3⟩, lo', hi', 1073741824, 0, true⟩, ⟨a1, n1, c1, a2, n2, c2⟩)) (i := 9) (v := .bool true) KA.out.K.X rfl)
       replace HBd := qh (show BdX _ _ _ (⟨id, ya, ⟨g1, g2, g3⟩, lo', hi', 1073741824, 0, true⟩, ⟨a1, n1, c1, a2, n2, c2⟩) from (fun h => ⟨h.L, h.H, h.gL, h.gH⟩) (KA.out.bstore HBd.out KW.out.1))
       replace KA := qh (KA.out.store KW.out.1 KW.out.2)
       clear KW
       clear z0 z1 z2 z3 z4 z5 z6 z7 z8 z9 f0 f1 f2 f3 f4 f5 f6 f7 f8 f9 zl r0 r1 r2 r3 r4 r5 r6 r7 r8 r9 rl
       generalize wb.setCell ⟨T, 9, none⟩ (.bool true) = wc at *
       obtain ⟨z0, z1, z2, z3, z4, z5, z6, z7, z8, z9⟩ := TkAt.block' (q := (⟨id, ya, ⟨g1, g2, g3⟩, lo', hi', 1073741824, 0, true⟩, ⟨a1, n1, c1, a2, n2, c2⟩)) KA.out.K.X
       simp only [] at z0 z1 z2 z3 z4 z5 z6 z7 z8 z9
       obtain ⟨f0, f1, f2, f3, f4, f5, f6, f7, f8, f9⟩ := aX (q := (⟨id, ya, ⟨g1, g2, g3⟩, lo', hi', 1073741824, 0, true⟩, ⟨a1, n1, c1, a2, n2, c2⟩)) KA.out.K.X
       have zl := aB KA.out.K.X
       obtain ⟨r0, r1, r2, r3, r4, r5, r6, r7, r8, r9⟩ := KA.out.K.K.R.cells
       have rl := KA.out.K.K.R.lt
       go_wp2_with fail
       refine (cG r w0.heap.size p now next _ _ _ _ (E ++ (updA p P (ofF l) (fsts L) k).2 ++ [⟨1, id, (j : Int)⟩]) ⟨2, id, j⟩ _ KA.out.K.K.R KA.out.K.K.E KA.out.K.K.er KA.out.K.K.B.size (by have := HLe.out; try rw [List.length_append]; simp only [List.length_singleton] at *; omega)).mono ?_; intro e w11 hn
       obtain ⟨e2, rfl, KB, HB5⟩ := KA.out.note hn
       replace HBd := qh (HB5 _ HBd.out)
       clear z0 z1 z2 z3 z4 z5 z6 z7 z8 z9 f0 f1 f2 f3 f4 f5 f6 f7 f8 f9 zl r0 r1 r2 r3 r4 r5 r6 r7 r8 r9 rl
       replace KA := qh KB
       clear hn HB5 KB
       obtain ⟨z0, z1, z2, z3, z4, z5, z6, z7, z8, z9⟩ := TkAt.block' (q := (⟨id, ya, ⟨g1, g2, g3⟩, lo', hi', 1073741824, 0, true⟩, ⟨a1, n1, c1, a2, n2, c2⟩)) KA.out.K.X
       simp only [] at z0 z1 z2 z3 z4 z5 z6 z7 z8 z9
       obtain ⟨f0, f1, f2, f3, f4, f5, f6, f7, f8, f9⟩ := aX (q := (⟨id, ya, ⟨g1, g2, g3⟩, lo', hi', 1073741824, 0, true⟩, ⟨a1, n1, c1, a2, n2, c2⟩)) KA.out.K.X
       have zl := aB KA.out.K.X
       obtain ⟨r0, r1, r2, r3, r4, r5, r6, r7, r8, r9⟩ := KA.out.K.K.R.cells
       have rl := KA.out.K.K.R.lt
       have KB := qh (KA.out.below (aC w11 (.cells (tkC (⟨id, ya, ⟨g1, g2, g3⟩, lo', hi', 1073741824, 0, true⟩, ⟨a1, n1, c1, a2, n2, c2⟩)) 55)))
       have HBm := qh (HBd.out.outs (Outs.of_below (aC w11 (.cells (tkC (⟨id, ya, ⟨g1, g2, g3⟩, lo', hi', 1073741824, 0, true⟩, ⟨a1, n1, c1, a2, n2, c2⟩)) 55))))
       clear KA HBd
       unfold tkC at KB HBm
       simp only [] at KB HBm
       go_wp2_with (at_builtin; refine wpList_append_own_at _ rfl _ _ 24 rfl w0.heap.size 55 i0 _ 10 112 Tryz.underlying24 HF.out.1 HF.out.2.1 HF.out.2.2.1 HF.out.2.2.2 rfl (by decide) _ M.length _ rfl KB.out.K.L.row ⟨w11.heap.size, 0, none⟩ 1 1 [.int .i64 id, .int .i64 ya, .int .i64 g1, .int .i64 g2, .int .i64 g3, .slice a1 n1 c1, .slice a2 n2 c2, .int .i64 1073741824, .int .i64 0, .bool true] rfl rfl (bA rfl) (by intro u hu; simp at hu; rcases hu with rfl | rfl | rfl | rfl | rfl | rfl | rfl | rfl | rfl | rfl <;> rfl) (by have := HMl.out; unfold maxLen; omega) (by have := HMl.out; omega) (by have := KB.out.K.K.B.size; exact this) ?_; intro v9 w9 hown9 hg9 _ hat9; have KC := qh (UpR.app (q := (⟨id, ya, ⟨g1, g2, g3⟩, lo', hi', 1073741824, 0, true⟩, ⟨a1, n1, c1, a2, n2, c2⟩)) KB.out HBm.out hown9 hg9 hat9); clear hown9 hg9 hat9)
       refine ⟨⟨k + 1, M ++ [(⟨id, ya, ⟨g1, g2, g3⟩, lo', hi', 1073741824, 0, true⟩, ⟨a1, n1, c1, a2, n2, c2⟩)], e2, HLt.out, by go_num, ?_, ?_⟩, by simp [intOf]; have := HLt.out; omega⟩
       ·rw [HU.out, HE1.out]
        have h := KC.out
        try simp only [List.append_assoc] at h ⊢; try simp only [List.singleton_append] at h ⊢; try simp only [List.cons_append] at h ⊢; try simp only [List.nil_append] at h ⊢
        exact h
       rw [HU.out, HT1.out]
       try rw [bK]
       rw [HM.out]
       try rw [List.append_nil]
       try rfl
      have HE1 := qh (d5 (p := p) (t := ⟨id, addr, rg, lo, hi, hits, misses, false⟩) (k := j) (fun e => hne (by have h := e.2; rw [HH.out] at h; exact h)))
      have HT1 := qh (show updT1 p P ⟨id, addr, rg, lo, hi, hits, misses, false⟩ (some j) = [((⟨id, ya, ⟨g1, g2, g3⟩, lo', hi', 1073741824, 0, false⟩, ⟨a1, n1, c1, a2, n2, c2⟩) : TB).1] from by
       unfold updT1 updT
       dsimp only
       rw [HY.out]
       dsimp only
       rw [if_pos (show addr < 0 from by have h := HA.out; (try dsimp only at h); omega), HG.out, HLH.out.1, HLH.out.2, HH.out]
       first
        | rfl
        | (congr 1; congr 1; simp [hne]))
      obtain ⟨z0, z1, z2, z3, z4, z5, z6, z7, z8, z9⟩ := TkAt.block' (q := (⟨id, ya, ⟨g1, g2, g3⟩, lo', hi', 1073741824, 0, false⟩, ⟨a1, n1, c1, a2, n2, c2⟩)) KA.out.K.X
      simp only [] at z0 z1 z2 z3 z4 z5 z6 z7 z8 z9
      obtain ⟨f0, f1, f2, f3, f4, f5, f6, f7, f8, f9⟩ := aX (q := (⟨id, ya, ⟨g1, g2, g3⟩, lo', hi', 1073741824, 0, false⟩, ⟨a1, n1, c1, a2, n2, c2⟩)) KA.out.K.X
      have zl := aB KA.out.K.X
      obtain ⟨r0, r1, r2, r3, r4, r5, r6, r7, r8, r9⟩ := KA.out.K.K.R.cells
      have rl := KA.out.K.K.R.lt
      go_wp2_with fail
      go_quiet (fail)
      replace KA := qh (KA.out.below (aM (Below.refl _ _) nq))
      replace HBd := qh (HBd.out.outs (Outs.of_below (aM (Below.refl _ _) nq)))
      clear z0 z1 z2 z3 z4 z5 z6 z7 z8 z9 f0 f1 f2 f3 f4 f5 f6 f7 f8 f9 zl r0 r1 r2 r3 r4 r5 r6 r7 r8 r9 rl
      generalize w10.drewN nq = wb at *
      obtain ⟨z0, z1, z2, z3, z4, z5, z6, z7, z8, z9⟩ := TkAt.block' (q := (⟨id, ya, ⟨g1, g2, g3⟩, lo', hi', 1073741824, 0, false⟩, ⟨a1, n1, c1, a2, n2, c2⟩)) KA.out.K.X
      simp only [] at z0 z1 z2 z3 z4 z5 z6 z7 z8 z9
      obtain ⟨f0, f1, f2, f3, f4, f5, f6, f7, f8, f9⟩ := aX (q := (⟨id, ya, ⟨g1, g2, g3⟩, lo', hi', 1073741824, 0, false⟩, ⟨a1, n1, c1, a2, n2, c2⟩)) KA.out.K.X
      have zl := aB KA.out.K.X
      obtain ⟨r0, r1, r2, r3, r4, r5, r6, r7, r8, r9⟩ := KA.out.K.K.R.cells
      have rl := KA.out.K.K.R.lt
      have KB := qh (KA.out.below (aC wb (.cells (tkC (⟨id, ya, ⟨g1, g2, g3⟩, lo', hi', 1073741824, 0, false⟩, ⟨a1, n1, c1, a2, n2, c2⟩)) 55)))
      have HBm := qh (HBd.out.outs (Outs.of_below (aC wb (.cells (tkC (⟨id, ya, ⟨g1, g2, g3⟩, lo', hi', 1073741824, 0, false⟩, ⟨a1, n1, c1, a2, n2, c2⟩)) 55))))
      clear KA HBd
      unfold tkC at KB HBm
      simp only [] at KB HBm
      go_wp2_with (at_builtin; refine wpList_append_own_at _ rfl _ _ 24 rfl w0.heap.size 55 i0 _ 10 112 Tryz.underlying24 HF.out.1 HF.out.2.1 HF.out.2.2.1 HF.out.2.2.2 rfl (by decide) _ M.length _ rfl KB.out.K.L.row ⟨wb.heap.size, 0, none⟩ 1 1 [.int .i64 id, .int .i64 ya, .int .i64 g1, .int .i64 g2, .int .i64 g3, .slice a1 n1 c1, .slice a2 n2 c2, .int .i64 1073741824, .int .i64 0, .bool false] rfl rfl (bA rfl) (by intro u hu; simp at hu; rcases hu with rfl | rfl | rfl | rfl | rfl | rfl | rfl | rfl | rfl | rfl <;> rfl) (by have := HMl.out; unfold maxLen; omega) (by have := HMl.out; omega) (by have := KB.out.K.K.B.size; exact this) ?_; intro v9 w9 hown9 hg9 _ hat9; have KC := qh (UpR.app (q := (⟨id, ya, ⟨g1, g2, g3⟩, lo', hi', 1073741824, 0, false⟩, ⟨a1, n1, c1, a2, n2, c2⟩)) KB.out HBm.out hown9 hg9 hat9); clear hown9 hg9 hat9)
      refine ⟨⟨k + 1, M ++ [(⟨id, ya, ⟨g1, g2, g3⟩, lo', hi', 1073741824, 0, false⟩, ⟨a1, n1, c1, a2, n2, c2⟩)], e1, HLt.out, by go_num, ?_, ?_⟩, by simp [intOf]; have := HLt.out; omega⟩
      ·rw [HU.out, HE1.out]
       have h := KC.out
       try simp only [List.append_assoc] at h ⊢; try simp only [List.singleton_append] at h ⊢; try simp only [List.cons_append] at h ⊢; try simp only [List.nil_append] at h ⊢
       exact h
      rw [HU.out, HT1.out]
      try rw [bK]
      rw [HM.out]
      try rw [List.append_nil]
      try rfl
    have HA := qh (show ¬ (⟨id, addr, rg, lo, hi, hits, misses, firm⟩ : Tk).addr < 0 from ha)
    by_cases hh : hits + 1 ≤ 1073741824
    ·have HH := qh (show hit1 ⟨id, addr, rg, lo, hi, hits, misses, firm⟩ = hits + 1 from by have h : 1 ≤ hits ∧ hits ≤ 1073741824 := HOk.out.hits; unfold hit1; dsimp only; omega)
     go_upto_region 16 with fail
     have KW := qh (lY (q' := (⟨id, addr, ⟨g1, g2, g3⟩, lo', hi', hits + 1, 0, firm⟩, ⟨a1, n1, c1, a2, n2, c2⟩)) KA.out.K.X rfl)
     replace HBd := qh (show BdX _ _ _ (⟨id, addr, ⟨g1, g2, g3⟩, lo', hi', hits + 1, 0, firm⟩, ⟨a1, n1, c1, a2, n2, c2⟩) from (fun h => ⟨h.L, h.H, h.gL, h.gH⟩) (KA.out.bstore HBd.out KW.out.1))
     have HPv := qh (And.intro (bQ KW.out.1 HPx.out.1 (KA.out.K.off_arg HPc.out.1)) (bQ KW.out.1 HPx.out.2 (KA.out.K.off_arg HPc.out.1)))
     replace KA := qh (KA.out.store KW.out.1 KW.out.2)
     replace HPx := qh HPv.out
     clear KW HPv
     clear z0 z1 z2 z3 z4 z5 z6 z7 z8 z9 f0 f1 f2 f3 f4 f5 f6 f7 f8 f9 zl r0 r1 r2 r3 r4 r5 r6 r7 r8 r9 rl
     generalize (w7.setCell ⟨T, 7, none⟩ (.int .i64 (hits + 1))).setCell ⟨T, 8, none⟩ (.int .i64 0) = w9 at *
     obtain ⟨z0, z1, z2, z3, z4, z5, z6, z7, z8, z9⟩ := TkAt.block' (q := (⟨id, addr, ⟨g1, g2, g3⟩, lo', hi', hits + 1, 0, firm⟩, ⟨a1, n1, c1, a2, n2, c2⟩)) KA.out.K.X
     simp only [] at z0 z1 z2 z3 z4 z5 z6 z7 z8 z9
     obtain ⟨f0, f1, f2, f3, f4, f5, f6, f7, f8, f9⟩ := aX (q := (⟨id, addr, ⟨g1, g2, g3⟩, lo', hi', hits + 1, 0, firm⟩, ⟨a1, n1, c1, a2, n2, c2⟩)) KA.out.K.X
     have zl := aB KA.out.K.X
     obtain ⟨r0, r1, r2, r3, r4, r5, r6, r7, r8, r9⟩ := KA.out.K.K.R.cells
     have rl := KA.out.K.K.R.lt
     obtain ⟨p0, p2⟩ := HPx.out
     have pl := World.block_lt_of_cell? _ _ p0
     go_wp2_with fail
     refine (cG r w0.heap.size p now next _ _ _ _ _ ⟨1, id, j⟩ _ KA.out.K.K.R KA.out.K.K.E KA.out.K.K.er KA.out.K.K.B.size (by have := HLe.out; omega)).mono ?_; intro e w10 hn
     obtain ⟨e1, rfl, KB, HB5⟩ := KA.out.note hn
     replace HBd := qh (HB5 _ HBd.out)
     clear z0 z1 z2 z3 z4 z5 z6 z7 z8 z9 f0 f1 f2 f3 f4 f5 f6 f7 f8 f9 zl r0 r1 r2 r3 r4 r5 r6 r7 r8 r9 rl
     replace KA := qh KB
     clear hn HB5 KB
     clear p0 p2 pl HPx
     cases firm with
     | true =>
      have HE1 := qh (d5 (p := p) (t := ⟨id, addr, rg, lo, hi, hits, misses, true⟩) (k := j) (fun e => by cases e.1))
      have HT1 := qh (show updT1 p P ⟨id, addr, rg, lo, hi, hits, misses, true⟩ (some j) = [((⟨id, addr, ⟨g1, g2, g3⟩, lo', hi', hits + 1, 0, true⟩, ⟨a1, n1, c1, a2, n2, c2⟩) : TB).1] from by
       unfold updT1 updT
       dsimp only
       rw [HY.out]
       dsimp only
       rw [if_neg (show ¬ addr < 0 from by have h := HA.out; (try dsimp only at h); omega), HG.out, HLH.out.1, HLH.out.2, HH.out]
       first
        | rfl
        | (congr 1; congr 1; simp))
      obtain ⟨z0, z1, z2, z3, z4, z5, z6, z7, z8, z9⟩ := TkAt.block' (q := (⟨id, addr, ⟨g1, g2, g3⟩, lo', hi', hits + 1, 0, true⟩, ⟨a1, n1, c1, a2, n2, c2⟩)) KA.out.K.X
      simp only [] at z0 z1 z2 z3 z4 z5 z6 z7 z8 z9
      obtain ⟨f0, f1, f2, f3, f4, f5, f6, f7, f8, f9⟩ := aX (q := (⟨id, addr, ⟨g1, g2, g3⟩, lo', hi', hits + 1, 0, true⟩, ⟨a1, n1, c1, a2, n2, c2⟩)) KA.out.K.X
      have zl := aB KA.out.K.X
      obtain ⟨r0, r1, r2, r3, r4, r5, r6, r7, r8, r9⟩ := KA.out.K.K.R.cells
      have rl := KA.out.K.K.R.lt
      go_wp2_with fail
      go_quiet (fail)
      replace KA := qh (KA.out.below (aM (Below.refl _ _) nq))
      replace HBd := qh (HBd.out.outs (Outs.of_below (aM (Below.refl _ _) nq)))
      clear z0 z1 z2 z3 z4 z5 z6 z7 z8 z9 f0 f1 f2 f3 f4 f5 f6 f7 f8 f9 zl r0 r1 r2 r3 r4 r5 r6 r7 r8 r9 rl
      generalize w10.drewN nq = wb at *
      obtain ⟨z0, z1, z2, z3, z4, z5, z6, z7, z8, z9⟩ := TkAt.block' (q := (⟨id, addr, ⟨g1, g2, g3⟩, lo', hi', hits + 1, 0, true⟩, ⟨a1, n1, c1, a2, n2, c2⟩)) KA.out.K.X
      simp only [] at z0 z1 z2 z3 z4 z5 z6 z7 z8 z9
      obtain ⟨f0, f1, f2, f3, f4, f5, f6, f7, f8, f9⟩ := aX (q := (⟨id, addr, ⟨g1, g2, g3⟩, lo', hi', hits + 1, 0, true⟩, ⟨a1, n1, c1, a2, n2, c2⟩)) KA.out.K.X
      have zl := aB KA.out.K.X
      obtain ⟨r0, r1, r2, r3, r4, r5, r6, r7, r8, r9⟩ := KA.out.K.K.R.cells
      have rl := KA.out.K.K.R.lt
      have KB := qh (KA.out.below (aC wb (.cells (tkC (⟨id, addr, ⟨g1, g2, g3⟩, lo', hi', hits + 1, 0, true⟩, ⟨a1, n1, c1, a2, n2, c2⟩)) 55)))
      have HBm := qh (HBd.out.outs (Outs.of_below (aC wb (.cells (tkC (⟨id, addr, ⟨g1, g2, g3⟩, lo', hi', hits + 1, 0, true⟩, ⟨a1, n1, c1, a2, n2, c2⟩)) 55))))
      clear KA HBd
      unfold tkC at KB HBm
      simp only [] at KB HBm
      go_wp2_with (at_builtin; refine wpList_append_own_at _ rfl _ _ 24 rfl w0.heap.size 55 i0 _ 10 112 Tryz.underlying24 HF.out.1 HF.out.2.1 HF.out.2.2.1 HF.out.2.2.2 rfl (by decide) _ M.length _ rfl KB.out.K.L.row ⟨wb.heap.size, 0, none⟩ 1 1 [.int .i64 id, .int .i64 addr, .int .i64 g1, .int .i64 g2, .int .i64 g3, .slice a1 n1 c1, .slice a2 n2 c2, .int .i64 (hits + 1), .int .i64 0, .bool true] rfl rfl (bA rfl) (by intro u hu; simp at hu; rcases hu with rfl | rfl | rfl | rfl | rfl | rfl | rfl | rfl | rfl | rfl <;> rfl) (by have := HMl.out; unfold maxLen; omega) (by have := HMl.out; omega) (by have := KB.out.K.K.B.size; exact this) ?_; intro v9 w9 hown9 hg9 _ hat9; have KC := qh (UpR.app (q := (⟨id, addr, ⟨g1, g2, g3⟩, lo', hi', hits + 1, 0, true⟩, ⟨a1, n1, c1, a2, n2, c2⟩)) KB.out HBm.out hown9 hg9 hat9); clear hown9 hg9 hat9)
      refine ⟨⟨k + 1, M ++ [(⟨id, addr, ⟨g1, g2, g3⟩, lo', hi', hits + 1, 0, true⟩, ⟨a1, n1, c1, a2, n2, c2⟩)], e1, HLt.out, by go_num, ?_, ?_⟩, by simp [intOf]; have := HLt.out; omega⟩
      ·rw [HU.out, HE1.out]
       have h := KC.out
       try simp only [List.append_assoc] at h ⊢; try simp only [List.singleton_append] at h ⊢; try simp only [List.cons_append] at h ⊢; try simp only [List.nil_append] at h ⊢
       exact h
      rw [HU.out, HT1.out]
      try rw [bK]
      rw [HM.out]
      try rw [List.append_nil]
      try rfl
     | false =>
      by_cases hne : p.need ≤ hits + 1
      ·have HE1 := qh (gM (p := p) (t := ⟨id, addr, rg, lo, hi, hits, misses, false⟩) (k := j) rfl (by rw [HH.out]; exact hne))
       have HT1 := qh (show updT1 p P ⟨id, addr, rg, lo, hi, hits, misses, false⟩ (some j) = [((⟨id, addr, ⟨g1, g2, g3⟩, lo', hi', hits + 1, 0, true⟩, ⟨a1, n1, c1, a2, n2, c2⟩) : TB).1] from by
        unfold updT1 updT
        dsimp only
        rw [HY.out]
        dsimp only
        rw [if_neg (show ¬ addr < 0 from by have h := HA.out; (try dsimp only at h); omega), HG.out, HLH.out.1, HLH.out.2, HH.out]
        first
         | rfl
         | (congr 1; congr 1; simp [hne]))
       obtain ⟨z0, z1, z2, z3, z4, z5, z6, z7, z8, z9⟩ := TkAt.block' (q := (⟨id, addr, ⟨g1, g2, g3⟩, lo', hi', hits + 1, 0, false⟩, ⟨a1, n1, c1, a2, n2, c2⟩)) KA.out.K.X
       simp only [] at z0 z1 z2 z3 z4 z5 z6 z7 z8 z9
       obtain ⟨f0, f1, f2, f3, f4, f5, f6, f7, f8, f9⟩ := aX (q := (⟨id, addr, ⟨g1, g2, g3⟩, lo', hi', hits + 1, 0, false⟩, ⟨a1, n1, c1, a2, n2, c2⟩)) KA.out.K.X
       have zl := aB KA.out.K.X
       obtain ⟨r0, r1, r2, r3, r4, r5, r6, r7, r8, r9⟩ := KA.out.K.K.R.cells
       have rl := KA.out.K.K.R.lt
       go_wp2_with fail
       go_quiet (fail)
       replace KA := qh (KA.out.below (aM (Below.refl _ _) nq))
       replace HBd := qh (HBd.out.outs (Outs.of_below (aM (Below.refl _ _) nq)))
       clear z0 z1 z2 z3 z4 z5 z6 z7 z8 z9 f0 f1 f2 f3 f4 f5 f6 f7 f8 f9 zl r0 r1 r2 r3 r4 r5 r6 r7 r8 r9 rl
       generalize w10.drewN nq = wb at *
       obtain ⟨z0, z1, z2, z3, z4, z5, z6, z7, z8, z9⟩ := TkAt.block' (q := (⟨id, addr, ⟨g1, g2, g3⟩, lo', hi', hits + 1, 0, false⟩, ⟨a1, n1, c1, a2, n2, c2⟩)) KA.out.K.X
       simp only [] at z0 z1 z2 z3 z4 z5 z6 z7 z8 z9
       obtain ⟨f0, f1, f2, f3, f4, f5, f6, f7, f8, f9⟩ := aX (q := (⟨id, addr, ⟨g1, g2, g3⟩, lo', hi', hits + 1, 0, false⟩, ⟨a1, n1, c1, a2, n2, c2⟩)) KA.out.K.X
       have zl := aB KA.out.K.X
       obtain ⟨r0, r1, r2, r3, r4, r5, r6, r7, r8, r9⟩ := KA.out.K.K.R.cells
       have rl := KA.out.K.K.R.lt
       go_upto_region 19 with fail
       have KW := qh (k8 (q' := (⟨id, addr, ⟨g1, g2, g3⟩, lo', hi', hits + 1, 0, true⟩, ⟨a1, n1, c1, a2, n2, c2⟩)) (i := 9) (v := .bool true) KA.out.K.X rfl)
       replace HBd := qh (show BdX _ _ _ (⟨id, addr, ⟨g1, g2, g3⟩, lo', hi', hits + 1, 0, true⟩, ⟨a1, n1, c1, a2, n2, c2⟩) from (fun h => ⟨h.L, h.H, h.gL, h.gH⟩) (KA.out.bstore HBd.out KW.out.1))
       replace KA := qh (KA.out.store KW.out.1 KW.out.2)
       clear KW
       clear z0 z1 z2 z3 z4 z5 z6 z7 z8 z9 f0 f1 f2 f3 f4 f5 f6 f7 f8 f9 zl r0 r1 r2 r3 r4 r5 r6 r7 r8 r9 rl
       generalize wb.setCell ⟨T, 9, none⟩ (.bool true) = wc at *
       obtain ⟨z0, z1, z2, z3, z4, z5, z6, z7, z8, z9⟩ := TkAt.block' (q := (⟨id, addr, ⟨g1, g2, g3⟩, lo', hi', hits + 1, 0, true⟩, ⟨a1, n1, c1, a2, n2, c2⟩)) KA.out.K.X
       simp only [] at z0 z1 z2 z3 z4 z5 z6 z7 z8 z9
       obtain ⟨f0, f1, f2, f3, f4, f5, f6, f7, f8, f9⟩ := aX (q := (⟨id, addr, ⟨g1, g2, g3⟩, lo', hi', hits + 1, 0, true⟩, ⟨a1, n1, c1, a2, n2, c2⟩)) KA.out.K.X
       have zl := aB KA.out.K.X
       obtain ⟨r0, r1, r2, r3, r4, r5, r6, r7, r8, r9⟩ := KA.out.K.K.R.cells
       have rl := KA.out.K.K.R.lt
       go_wp2_with fail
       refine (cG r w0.heap.size p now next _ _ _ _ (E ++ (updA p P (ofF l) (fsts L) k).2 ++ [⟨1, id, (j : Int)⟩]) ⟨2, id, j⟩ _ KA.out.K.K.R KA.out.K.K.E KA.out.K.K.er KA.out.K.K.B.size (by have := HLe.out; try rw [List.length_append]; simp only [List.length_singleton] at *; omega)).mono ?_; intro e w11 hn
       obtain ⟨e2, rfl, KB, HB5⟩ := KA.out.note hn
       replace HBd := qh (HB5 _ HBd.out)
       clear z0 z1 z2 z3 z4 z5 z6 z7 z8 z9 f0 f1 f2 f3 f4 f5 f6 f7 f8 f9 zl r0 r1 r2 r3 r4 r5 r6 r7 r8 r9 rl
       replace KA := qh KB
       clear hn HB5 KB
       obtain ⟨z0, z1, z2, z3, z4, z5, z6, z7, z8, z9⟩ := TkAt.block' (q := (⟨id, addr, ⟨g1, g2, g3⟩, lo', hi', hits + 1, 0, true⟩, ⟨a1, n1, c1, a2, n2, c2⟩)) KA.out.K.X
       simp only [] at z0 z1 z2 z3 z4 z5 z6 z7 z8 z9
       obtain ⟨f0, f1, f2, f3, f4, f5, f6, f7, f8, f9⟩ := aX (q := (⟨id, addr, ⟨g1, g2, g3⟩, lo', hi', hits + 1, 0, true⟩, ⟨a1, n1, c1, a2, n2, c2⟩)) KA.out.K.X
       have zl := aB KA.out.K.X
       obtain ⟨r0, r1, r2, r3, r4, r5, r6, r7, r8, r9⟩ := KA.out.K.K.R.cells
       have rl := KA.out.K.K.R.lt
       have KB := qh (KA.out.below (aC w11 (.cells (tkC (⟨id, addr, ⟨g1, g2, g3⟩, lo', hi', hits + 1, 0, true⟩, ⟨a1, n1, c1, a2, n2, c2⟩)) 55)))
       have HBm := qh (HBd.out.outs (Outs.of_below (aC w11 (.cells (tkC (⟨id, addr, ⟨g1, g2, g3⟩, lo', hi', hits + 1, 0, true⟩, ⟨a1, n1, c1, a2, n2, c2⟩)) 55))))
       clear KA HBd
       unfold tkC at KB HBm
       simp only [] at KB HBm
       go_wp2_with (at_builtin; refine wpList_append_own_at _ rfl _ _ 24 rfl w0.heap.size 55 i0 _ 10 112 Tryz.underlying24 HF.out.1 HF.out.2.1 HF.out.2.2.1 HF.out.2.2.2 rfl (by decide) _ M.length _ rfl KB.out.K.L.row ⟨w11.heap.size, 0, none⟩ 1 1 [.int .i64 id, .int .i64 addr, .int .i64 g1, .int .i64 g2, .int .i64 g3, .slice a1 n1 c1, .slice a2 n2 c2, .int .i64 (hits + 1), .int .i64 0, .bool true] rfl rfl (bA rfl) (by intro u hu; simp at hu; rcases hu with rfl | rfl | rfl | rfl | rfl | rfl | rfl | rfl | rfl | rfl <;> rfl) (by have := HMl.out; unfold maxLen; omega) (by have := HMl.out; omega) (by have := KB.out.K.K.B.size; exact this) ?_; intro v9 w9 hown9 hg9 _ hat9; have KC := qh (UpR.app (q := (⟨id, addr, ⟨g1, g2, g3⟩, lo', hi', hits + 1, 0, true⟩, ⟨a1, n1, c1, a2, n2, c2⟩)) KB.out HBm.out hown9 hg9 hat9); clear hown9 hg9 hat9)
       refine ⟨⟨k + 1, M ++ [(⟨id, addr, ⟨g1, g2, g3⟩, lo', hi', hits + 1, 0, true⟩, ⟨a1, n1, c1, a2, n2, c2⟩)], e2, HLt.out, by go_num, ?_, ?_⟩, by simp [intOf]; have := HLt.out; omega⟩
       ·rw [HU.out, HE1.out]
        have h := KC.out
        try simp only [List.append_assoc] at h ⊢; try simp only [List.singleton_append] at h ⊢; try simp only [List.cons_append] at h ⊢; try simp only [List.nil_append] at h ⊢
        exact h
       rw [HU.out, HT1.out]
       try rw [bK]
       rw [HM.out]
       try rw [List.append_nil]
       try rfl
      have HE1 := qh (d5 (p := p) (t := ⟨id, addr, rg, lo, hi, hits, misses, false⟩) (k := j) (fun e => hne (by have h := e.2; rw [HH.out] at h; exact h)))
      have HT1 := qh (show updT1 p P ⟨id, addr, rg, lo, hi, hits, misses, false⟩ (some j) = [((⟨id, addr, ⟨g1, g2, g3⟩, lo', hi', hits + 1, 0, false⟩, ⟨a1, n1, c1, a2, n2, c2⟩) : TB).1] from by
       unfold updT1 updT
       dsimp only
       rw [HY.out]
       dsimp only
       rw [if_neg (show ¬ addr < 0 from by have h := HA.out; (try dsimp only at h); omega), HG.out, HLH.out.1, HLH.out.2, HH.out]
       first
        | rfl
        | (congr 1; congr 1; simp [hne]))
      obtain ⟨z0, z1, z2, z3, z4, z5, z6, z7, z8, z9⟩ := TkAt.block' (q := (⟨id, addr, ⟨g1, g2, g3⟩, lo', hi', hits + 1, 0, false⟩, ⟨a1, n1, c1, a2, n2, c2⟩)) KA.out.K.X
      simp only [] at z0 z1 z2 z3 z4 z5 z6 z7 z8 z9
      obtain ⟨f0, f1, f2, f3, f4, f5, f6, f7, f8, f9⟩ := aX (q := (⟨id, addr, ⟨g1, g2, g3⟩, lo', hi', hits + 1, 0, false⟩, ⟨a1, n1, c1, a2, n2, c2⟩)) KA.out.K.X
      have zl := aB KA.out.K.X
      obtain ⟨r0, r1, r2, r3, r4, r5, r6, r7, r8, r9⟩ := KA.out.K.K.R.cells
      have rl := KA.out.K.K.R.lt
      go_wp2_with fail
      go_quiet (fail)
      replace KA := qh (KA.out.below (aM (Below.refl _ _) nq))
      replace HBd := qh (HBd.out.outs (Outs.of_below (aM (Below.refl _ _) nq)))
      clear z0 z1 z2 z3 z4 z5 z6 z7 z8 z9 f0 f1 f2 f3 f4 f5 f6 f7 f8 f9 zl r0 r1 r2 r3 r4 r5 r6 r7 r8 r9 rl
      generalize w10.drewN nq = wb at *
      obtain ⟨z0, z1, z2, z3, z4, z5, z6, z7, z8, z9⟩ := TkAt.block' (q := (⟨id, addr, ⟨g1, g2, g3⟩, lo', hi', hits + 1, 0, false⟩, ⟨a1, n1, c1, a2, n2, c2⟩)) KA.out.K.X
      simp only [] at z0 z1 z2 z3 z4 z5 z6 z7 z8 z9
      obtain ⟨f0, f1, f2, f3, f4, f5, f6, f7, f8, f9⟩ := aX (q := (⟨id, addr, ⟨g1, g2, g3⟩, lo', hi', hits + 1, 0, false⟩, ⟨a1, n1, c1, a2, n2, c2⟩)) KA.out.K.X
      have zl := aB KA.out.K.X
      obtain ⟨r0, r1, r2, r3, r4, r5, r6, r7, r8, r9⟩ := KA.out.K.K.R.cells
      have rl := KA.out.K.K.R.lt
      have KB := qh (KA.out.below (aC wb (.cells (tkC (⟨id, addr, ⟨g1, g2, g3⟩, lo', hi', hits + 1, 0, false⟩, ⟨a1, n1, c1, a2, n2, c2⟩)) 55)))
      have HBm := qh (HBd.out.outs (Outs.of_below (aC wb (.cells (tkC (⟨id, addr, ⟨g1, g2, g3⟩, lo', hi', hits + 1, 0, false⟩, ⟨a1, n1, c1, a2, n2, c2⟩)) 55))))
      clear KA HBd
      unfold tkC at KB HBm
      simp only [] at KB HBm
      go_wp2_with (at_builtin; refine wpList_append_own_at _ rfl _ _ 24 rfl w0.heap.size 55 i0 _ 10 112 Tryz.underlying24 HF.out.1 HF.out.2.1 HF.out.2.2.1 HF.out.2.2.2 rfl (by decide) _ M.length _ rfl KB.out.K.L.row ⟨wb.heap.size, 0, none⟩ 1 1 [.int .i64 id, .int .i64 addr, .int .i64 g1, .int .i64 g2, .int .i64 g3, .slice a1 n1 c1, .slice a2 n2 c2, .int .i64 (hits + 1), .int .i64 0, .bool false] rfl rfl (bA rfl) (by intro u hu; simp at hu; rcases hu with rfl | rfl | rfl | rfl | rfl | rfl | rfl | rfl | rfl | rfl <;> rfl) (by have := HMl.out; unfold maxLen; omega) (by have := HMl.out; omega) (by have := KB.out.K.K.B.size; exact this) ?_; intro v9 w9 hown9 hg9 _ hat9; have KC := qh (UpR.app (q := (⟨id, addr, ⟨g1, g2, g3⟩, lo', hi', hits + 1, 0, false⟩, ⟨a1, n1, c1, a2, n2, c2⟩)) KB.out HBm.out hown9 hg9 hat9); clear hown9 hg9 hat9)
      refine ⟨⟨k + 1, M ++ [(⟨id, addr, ⟨g1, g2, g3⟩, lo', hi', hits + 1, 0, false⟩, ⟨a1, n1, c1, a2, n2, c2⟩)], e1, HLt.out, by go_num, ?_, ?_⟩, by simp [intOf]; have := HLt.out; omega⟩
      ·rw [HU.out, HE1.out]
       have h := KC.out
       try simp only [List.append_assoc] at h ⊢; try simp only [List.singleton_append] at h ⊢; try simp only [List.cons_append] at h ⊢; try simp only [List.nil_append] at h ⊢
       exact h
      rw [HU.out, HT1.out]
      try rw [bK]
      rw [HM.out]
      try rw [List.append_nil]
      try rfl
    have HH := qh (show hit1 ⟨id, addr, rg, lo, hi, hits, misses, firm⟩ = 1073741824 from by have h : 1 ≤ hits ∧ hits ≤ 1073741824 := HOk.out.hits; unfold hit1; dsimp only; omega)
    go_upto_region 16 with fail
    have KW := qh (lY (q' := (⟨id, addr, ⟨g1, g2, g3⟩, lo', hi', 1073741824, 0, firm⟩, ⟨a1, n1, c1, a2, n2, c2⟩)) KA.out.K.X rfl)
    replace HBd := qh (show BdX _ _ _ (⟨id, addr, ⟨g1, g2, g3⟩, lo', hi', 1073741824, 0, firm⟩, ⟨a1, n1, c1, a2, n2, c2⟩) from (fun h => ⟨h.L, h.H, h.gL, h.gH⟩) (KA.out.bstore HBd.out KW.out.1))
    have HPv := qh (And.intro (bQ KW.out.1 HPx.out.1 (KA.out.K.off_arg HPc.out.1)) (bQ KW.out.1 HPx.out.2 (KA.out.K.off_arg HPc.out.1)))
    replace KA := qh (KA.out.store KW.out.1 KW.out.2)
    replace HPx := qh HPv.out
    clear KW HPv
    clear z0 z1 z2 z3 z4 z5 z6 z7 z8 z9 f0 f1 f2 f3 f4 f5 f6 f7 f8 f9 zl r0 r1 r2 r3 r4 r5 r6 r7 r8 r9 rl
    generalize (w7.setCell ⟨T, 7, none⟩ (.int .i64 1073741824)).setCell ⟨T, 8, none⟩ (.int .i64 0) = w9 at *
    obtain ⟨z0, z1, z2, z3, z4, z5, z6, z7, z8, z9⟩ := TkAt.block' (q := (⟨id, addr, ⟨g1, g2, g3⟩, lo', hi', 1073741824, 0, firm⟩, ⟨a1, n1, c1, a2, n2, c2⟩)) KA.out.K.X
    simp only [] at z0 z1 z2 z3 z4 z5 z6 z7 z8 z9
    obtain ⟨f0, f1, f2, f3, f4, f5, f6, f7, f8, f9⟩ := aX (q := (⟨id, addr, ⟨g1, g2, g3⟩, lo', hi', 1073741824, 0, firm⟩, ⟨a1, n1, c1, a2, n2, c2⟩)) KA.out.K.X
    have zl := aB KA.out.K.X
    obtain ⟨r0, r1, r2, r3, r4, r5, r6, r7, r8, r9⟩ := KA.out.K.K.R.cells
    have rl := KA.out.K.K.R.lt
    obtain ⟨p0, p2⟩ := HPx.out
    have pl := World.block_lt_of_cell? _ _ p0
    go_wp2_with fail
    refine (cG r w0.heap.size p now next _ _ _ _ _ ⟨1, id, j⟩ _ KA.out.K.K.R KA.out.K.K.E KA.out.K.K.er KA.out.K.K.B.size (by have := HLe.out; omega)).mono ?_; intro e w10 hn
    obtain ⟨e1, rfl, KB, HB5⟩ := KA.out.note hn
    replace HBd := qh (HB5 _ HBd.out)
    clear z0 z1 z2 z3 z4 z5 z6 z7 z8 z9 f0 f1 f2 f3 f4 f5 f6 f7 f8 f9 zl r0 r1 r2 r3 r4 r5 r6 r7 r8 r9 rl
    replace KA := qh KB
    clear hn HB5 KB
    clear p0 p2 pl HPx
    cases firm with
    | true =>
     have HE1 := qh (d5 (p := p) (t := ⟨id, addr, rg, lo, hi, hits, misses, true⟩) (k := j) (fun e => by cases e.1))
     have HT1 := qh (show updT1 p P ⟨id, addr, rg, lo, hi, hits, misses, true⟩ (some j) = [((⟨id, addr, ⟨g1, g2, g3⟩, lo', hi', 1073741824, 0, true⟩, ⟨a1, n1, c1, a2, n2, c2⟩) : TB).1] from by
      unfold updT1 updT
      dsimp only
      rw [HY.out]
      dsimp only
      rw [if_neg (show ¬ addr < 0 from by have h := HA.out; (try dsimp only at h); omega), HG.out, HLH.out.1, HLH.out.2, HH.out]
      first
       | rfl
       | (congr 1; congr 1; simp))
     obtain ⟨z0, z1, z2, z3, z4, z5, z6, z7, z8, z9⟩ := TkAt.block' (q := (⟨id, addr, ⟨g1, g2, g3⟩, lo', hi', 1073741824, 0, true⟩, ⟨a1, n1, c1, a2, n2, c2⟩)) KA.out.K.X
     simp only [] at z0 z1 z2 z3 z4 z5 z6 z7 z8 z9
     obtain ⟨f0, f1, f2, f3, f4, f5, f6, f7, f8, f9⟩ := aX (q := (⟨id, addr, ⟨g1, g2, g3⟩, lo', hi', 1073741824, 0, true⟩, ⟨a1, n1, c1, a2, n2, c2⟩)) KA.out.K.X
     have zl := aB KA.out.K.X
     obtain ⟨r0, r1, r2, r3, r4, r5, r6, r7, r8, r9⟩ := KA.out.K.K.R.cells
     have rl := KA.out.K.K.R.lt
     go_wp2_with fail
     go_quiet (fail)
     replace KA := qh (KA.out.below (aM (Below.refl _ _) nq))
     replace HBd := qh (HBd.out.outs (Outs.of_below (aM (Below.refl _ _) nq)))
     clear z0 z1 z2 z3 z4 z5 z6 z7 z8 z9 f0 f1 f2 f3 f4 f5 f6 f7 f8 f9 zl r0 r1 r2 r3 r4 r5 r6 r7 r8 r9 rl
     generalize w10.drewN nq = wb at *
     obtain ⟨z0, z1, z2, z3, z4, z5, z6, z7, z8, z9⟩ := TkAt.block' (q := (⟨id, addr, ⟨g1, g2, g3⟩, lo', hi', 1073741824, 0, true⟩, ⟨a1, n1, c1, a2, n2, c2⟩)) KA.out.K.X
     simp only [] at z0 z1 z2 z3 z4 z5 z6 z7 z8 z9
     obtain ⟨f0, f1, f2, f3, f4, f5, f6, f7, f8, f9⟩ := aX (q := (⟨id, addr, ⟨g1, g2, g3⟩, lo', hi', 1073741824, 0, true⟩, ⟨a1, n1, c1, a2, n2, c2⟩)) KA.out.K.X
     have zl := aB KA.out.K.X
     obtain ⟨r0, r1, r2, r3, r4, r5, r6, r7, r8, r9⟩ := KA.out.K.K.R.cells
     have rl := KA.out.K.K.R.lt
     have KB := qh (KA.out.below (aC wb (.cells (tkC (⟨id, addr, ⟨g1, g2, g3⟩, lo', hi', 1073741824, 0, true⟩, ⟨a1, n1, c1, a2, n2, c2⟩)) 55)))
     have HBm := qh (HBd.out.outs (Outs.of_below (aC wb (.cells (tkC (⟨id, addr, ⟨g1, g2, g3⟩, lo', hi', 1073741824, 0, true⟩, ⟨a1, n1, c1, a2, n2, c2⟩)) 55))))
     clear KA HBd
     unfold tkC at KB HBm
     simp only [] at KB HBm
     go_wp2_with (at_builtin; refine wpList_append_own_at _ rfl _ _ 24 rfl w0.heap.size 55 i0 _ 10 112 Tryz.underlying24 HF.out.1 HF.out.2.1 HF.out.2.2.1 HF.out.2.2.2 rfl (by decide) _ M.length _ rfl KB.out.K.L.row ⟨wb.heap.size, 0, none⟩ 1 1 [.int .i64 id, .int .i64 addr, .int .i64 g1, .int .i64 g2, .int .i64 g3, .slice a1 n1 c1, .slice a2 n2 c2, .int .i64 1073741824, .int .i64 0, .bool true] rfl rfl (bA rfl) (by intro u hu; simp at hu; rcases hu with rfl | rfl | rfl | rfl | rfl | rfl | rfl | rfl | rfl | rfl <;> rfl) (by have := HMl.out; unfold maxLen; omega) (by have := HMl.out; omega) (by have := KB.out.K.K.B.size; exact this) ?_; intro v9 w9 hown9 hg9 _ hat9; have KC := qh (UpR.app (q := (⟨id, addr, ⟨g1, g2, g3⟩, lo', hi', 1073741824, 0, true⟩, ⟨a1, n1, c1, a2, n2, c2⟩)) KB.out HBm.out hown9 hg9 hat9); clear hown9 hg9 hat9)
     refine ⟨⟨k + 1, M ++ [(⟨id, addr, ⟨g1, g2, g3⟩, lo', hi', 1073741824, 0, true⟩, ⟨a1, n1, c1, a2, n2, c2⟩)], e1, HLt.out, by go_num, ?_, ?_⟩, by simp [intOf]; have := HLt.out; omega⟩
     ·rw [HU.out, HE1.out]
      have h := KC.out
      try simp only [List.append_assoc] at h ⊢; try simp only [List.singleton_append] at h ⊢; try simp only [List.cons_append] at h ⊢; try simp only [List.nil_append] at h ⊢
      exact h
     rw [HU.out, HT1.out]
     try rw [bK]
     rw [HM.out]
     try rw [List.append_nil]
     try rfl
    | false =>
     by_cases hne : p.need ≤ 1073741824
     ·have HE1 := qh (gM (p := p) (t := ⟨id, addr, rg, lo, hi, hits, misses, false⟩) (k := j) rfl (by rw [HH.out]; exact hne))
      have HT1 := qh (show updT1 p P ⟨id, addr, rg, lo, hi, hits, misses, false⟩ (some j) = [((⟨id, addr, ⟨g1, g2, g3⟩, lo', hi', 1073741824, 0, true⟩, ⟨a1, n1, c1, a2, n2, c2⟩) : TB).1] from by
       unfold updT1 updT
       dsimp only
       rw [HY.out]
       dsimp only
       rw [if_neg (show ¬ addr < 0 from by have h := HA.out; (try dsimp only at h); omega), HG.out, HLH.out.1, HLH.out.2, HH.out]
       first
        | rfl
        | (congr 1; congr 1; simp [hne]))
      obtain ⟨z0, z1, z2, z3, z4, z5, z6, z7, z8, z9⟩ := TkAt.block' (q := (⟨id, addr, ⟨g1, g2, g3⟩, lo', hi', 1073741824, 0, false⟩, ⟨a1, n1, c1, a2, n2, c2⟩)) KA.out.K.X
      simp only [] at z0 z1 z2 z3 z4 z5 z6 z7 z8 z9
      obtain ⟨f0, f1, f2, f3, f4, f5, f6, f7, f8, f9⟩ := aX (q := (⟨id, addr, ⟨g1, g2, g3⟩, lo', hi', 1073741824, 0, false⟩, ⟨a1, n1, c1, a2, n2, c2⟩)) KA.out.K.X
      have zl := aB KA.out.K.X
      obtain ⟨r0, r1, r2, r3, r4, r5, r6, r7, r8, r9⟩ := KA.out.K.K.R.cells
      have rl := KA.out.K.K.R.lt
      go_wp2_with fail
      go_quiet (fail)
      replace KA := qh (KA.out.below (aM (Below.refl _ _) nq))
      replace HBd := qh (HBd.out.outs (Outs.of_below (aM (Below.refl _ _) nq)))
      clear z0 z1 z2 z3 z4 z5 z6 z7 z8 z9 f0 f1 f2 f3 f4 f5 f6 f7 f8 f9 zl r0 r1 r2 r3 r4 r5 r6 r7 r8 r9 rl
      generalize w10.drewN nq = wb at *
      obtain ⟨z0, z1, z2, z3, z4, z5, z6, z7, z8, z9⟩ := TkAt.block' (q := (⟨id, addr, ⟨g1, g2, g3⟩, lo', hi', 1073741824, 0, false⟩, ⟨a1, n1, c1, a2, n2, c2⟩)) KA.out.K.X
      simp only [] at z0 z1 z2 z3 z4 z5 z6 z7 z8 z9
      obtain ⟨f0, f1, f2, f3, f4, f5, f6, f7, f8, f9⟩ := aX (q := (⟨id, addr, ⟨g1, g2, g3⟩, lo', hi', 1073741824, 0, false⟩, ⟨a1, n1, c1, a2, n2, c2⟩)) KA.out.K.X
      have zl := aB KA.out.K.X
      obtain ⟨r0, r1, r2, r3, r4, r5, r6, r7, r8, r9⟩ := KA.out.K.K.R.cells
      have rl := KA.out.K.K.R.lt
      go_upto_region 19 with fail
      have KW := qh (k8 (q' := (⟨id, addr, ⟨g1, g2, g3⟩, lo', hi', 1073741824, 0, true⟩, ⟨a1, n1, c1, a2, n2, c2⟩)) (i := 9) (v := .bool true) KA.out.K.X rfl)
      replace HBd := qh (show BdX _ _ _ (⟨id, addr, ⟨g1, g2, g3⟩, lo', hi', 1073741824, 0, true⟩, ⟨a1, n1, c1, a2, n2, c2⟩) from (fun h => ⟨h.L, h.H, h.gL, h.gH⟩) (KA.out.bstore HBd.out KW.out.1))
      replace KA := qh (KA.out.store KW.out.1 KW.out.2)
      clear KW
      clear z0 z1 z2 z3 z4 z5 z6 z7 z8 z9 f0 f1 f2 f3 f4 f5 f6 f7 f8 f9 zl r0 r1 r2 r3 r4 r5 r6 r7 r8 r9 rl
      generalize wb.setCell ⟨T, 9, none⟩ (.bool true) = wc at *
      obtain ⟨z0, z1, z2, z3, z4, z5, z6, z7, z8, z9⟩ := TkAt.block' (q := (⟨id, addr, ⟨g1, g2, g3⟩, lo', hi', 1073741824, 0, true⟩, ⟨a1, n1, c1, a2, n2, c2⟩)) KA.out.K.X
      simp only [] at z0 z1 z2 z3 z4 z5 z6 z7 z8 z9
      obtain ⟨f0, f1, f2, f3, f4, f5, f6, f7, f8, f9⟩ := aX (q := (⟨id, addr, ⟨g1, g2, g3⟩, lo', hi', 1073741824, 0, true⟩, ⟨a1, n1, c1, a2, n2, c2⟩)) KA.out.K.X
      have zl := aB KA.out.K.X
      obtain ⟨r0, r1, r2, r3, r4, r5, r6, r7, r8, r9⟩ := KA.out.K.K.R.cells
      have rl := KA.out.K.K.R.lt
      go_wp2_with fail
      refine (cG r w0.heap.size p now next _ _ _ _ (E ++ (updA p P (ofF l) (fsts L) k).2 ++ [⟨1, id, (j : Int)⟩]) ⟨2, id, j⟩ _ KA.out.K.K.R KA.out.K.K.E KA.out.K.K.er KA.out.K.K.B.size (by have := HLe.out; try rw [List.length_append]; simp only [List.length_singleton] at *; omega)).mono ?_; intro e w11 hn
      obtain ⟨e2, rfl, KB, HB5⟩ := KA.out.note hn
      replace HBd := qh (HB5 _ HBd.out)
      clear z0 z1 z2 z3 z4 z5 z6 z7 z8 z9 f0 f1 f2 f3 f4 f5 f6 f7 f8 f9 zl r0 r1 r2 r3 r4 r5 r6 r7 r8 r9 rl
      replace KA := qh KB
      clear hn HB5 KB
      obtain ⟨z0, z1, z2, z3, z4, z5, z6, z7, z8, z9⟩ := TkAt.block' (q := (⟨id, addr, ⟨g1, g2, g3⟩, lo', hi', 1073741824, 0, true⟩, ⟨a1, n1, c1, a2, n2, c2⟩)) KA.out.K.X
      simp only [] at z0 z1 z2 z3 z4 z5 z6 z7 z8 z9
      obtain ⟨f0, f1, f2, f3, f4, f5, f6, f7, f8, f9⟩ := aX (q := (⟨id, addr, ⟨g1, g2, g3⟩, lo', hi', 1073741824, 0, true⟩, ⟨a1, n1, c1, a2, n2, c2⟩)) KA.out.K.X
      have zl := aB KA.out.K.X
      obtain ⟨r0, r1, r2, r3, r4, r5, r6, r7, r8, r9⟩ := KA.out.K.K.R.cells
      have rl := KA.out.K.K.R.lt
      have KB := qh (KA.out.below (aC w11 (.cells (tkC (⟨id, addr, ⟨g1, g2, g3⟩, lo', hi', 1073741824, 0, true⟩, ⟨a1, n1, c1, a2, n2, c2⟩)) 55)))
      have HBm := qh (HBd.out.outs (Outs.of_below (aC w11 (.cells (tkC (⟨id, addr, ⟨g1, g2, g3⟩, lo', hi', 1073741824, 0, true⟩, ⟨a1, n1, c1, a2, n2, c2⟩)) 55))))
      clear KA HBd
      unfold tkC at KB HBm
      simp only [] at KB HBm
      go_wp2_with (at_builtin; refine wpList_append_own_at _ rfl _ _ 24 rfl w0.heap.size 55 i0 _ 10 112 Tryz.underlying24 HF.out.1 HF.out.2.1 HF.out.2.2.1 HF.out.2.2.2 rfl (by decide) _ M.length _ rfl KB.out.K.L.row ⟨w11.heap.size, 0, none⟩ 1 1 [.int .i64 id, .int .i64 addr, .int .i64 g1, .int .i64 g2, .int .i64 g3, .slice a1 n1 c1, .slice a2 n2 c2, .int .i64 1073741824, .int .i64 0, .bool true] rfl rfl (bA rfl) (by intro u hu; simp at hu; rcases hu with rfl | rfl | rfl | rfl | rfl | rfl | rfl | rfl | rfl | rfl <;> rfl) (by have := HMl.out; unfold maxLen; omega) (by have := HMl.out; omega) (by have := KB.out.K.K.B.size; exact this) ?_; intro v9 w9 hown9 hg9 _ hat9; have KC := qh (UpR.app (q := (⟨id, addr, ⟨g1, g2, g3⟩, lo', hi', 1073741824, 0, true⟩, ⟨a1, n1, c1, a2, n2, c2⟩)) KB.out HBm.out hown9 hg9 hat9); clear hown9 hg9 hat9)
      refine ⟨⟨k + 1, M ++ [(⟨id, addr, ⟨g1, g2, g3⟩, lo', hi', 1073741824, 0, true⟩, ⟨a1, n1, c1, a2, n2, c2⟩)], e2, HLt.out, by go_num, ?_, ?_⟩, by simp [intOf]; have := HLt.out; omega⟩
      ·rw [HU.out, HE1.out]
       have h := KC.out
       try simp only [List.append_assoc] at h ⊢; try simp only [List.singleton_append] at h ⊢; try simp only [List.cons_append] at h ⊢; try simp only [List.nil_append] at h ⊢
       exact h
      rw [HU.out, HT1.out]
      try rw [bK]
      rw [HM.out]
      try rw [List.append_nil]
      try rfl
     have HE1 := qh (d5 (p := p) (t := ⟨id, addr, rg, lo, hi, hits, misses, false⟩) (k := j) (fun e => hne (by have h := e.2; rw [HH.out] at h; exact h)))
     have HT1 := qh (show updT1 p P ⟨id, addr, rg, lo, hi, hits, misses, false⟩ (some j) = [((⟨id, addr, ⟨g1, g2, g3⟩, lo', hi', 1073741824, 0, false⟩, ⟨a1, n1, c1, a2, n2, c2⟩) : TB).1] from by
      unfold updT1 updT
      dsimp only
      rw [HY.out]
      dsimp only
      rw [if_neg (show ¬ addr < 0 from by have h := HA.out; (try dsimp only at h); omega), HG.out, HLH.out.1, HLH.out.2, HH.out]
      first
       | rfl
       | (congr 1; congr 1; simp [hne]))
     obtain ⟨z0, z1, z2, z3, z4, z5, z6, z7, z8, z9⟩ := TkAt.block' (q := (⟨id, addr, ⟨g1, g2, g3⟩, lo', hi', 1073741824, 0, false⟩, ⟨a1, n1, c1, a2, n2, c2⟩)) KA.out.K.X
     simp only [] at z0 z1 z2 z3 z4 z5 z6 z7 z8 z9
     obtain ⟨f0, f1, f2, f3, f4, f5, f6, f7, f8, f9⟩ := aX (q := (⟨id, addr, ⟨g1, g2, g3⟩, lo', hi', 1073741824, 0, false⟩, ⟨a1, n1, c1, a2, n2, c2⟩)) KA.out.K.X
     have zl := aB KA.out.K.X
     obtain ⟨r0, r1, r2, r3, r4, r5, r6, r7, r8, r9⟩ := KA.out.K.K.R.cells
     have rl := KA.out.K.K.R.lt
     go_wp2_with fail
     go_quiet (fail)
     replace KA := qh (KA.out.below (aM (Below.refl _ _) nq))
     replace HBd := qh (HBd.out.outs (Outs.of_below (aM (Below.refl _ _) nq)))
     clear z0 z1 z2 z3 z4 z5 z6 z7 z8 z9 f0 f1 f2 f3 f4 f5 f6 f7 f8 f9 zl r0 r1 r2 r3 r4 r5 r6 r7 r8 r9 rl
     generalize w10.drewN nq = wb at *
     obtain ⟨z0, z1, z2, z3, z4, z5, z6, z7, z8, z9⟩ := TkAt.block' (q := (⟨id, addr, ⟨g1, g2, g3⟩, lo', hi', 1073741824, 0, false⟩, ⟨a1, n1, c1, a2, n2, c2⟩)) KA.out.K.X
     simp only [] at z0 z1 z2 z3 z4 z5 z6 z7 z8 z9
     obtain ⟨f0, f1, f2, f3, f4, f5, f6, f7, f8, f9⟩ := aX (q := (⟨id, addr, ⟨g1, g2, g3⟩, lo', hi', 1073741824, 0, false⟩, ⟨a1, n1, c1, a2, n2, c2⟩)) KA.out.K.X
     have zl := aB KA.out.K.X
     obtain ⟨r0, r1, r2, r3, r4, r5, r6, r7, r8, r9⟩ := KA.out.K.K.R.cells
     have rl := KA.out.K.K.R.lt
     have KB := qh (KA.out.below (aC wb (.cells (tkC (⟨id, addr, ⟨g1, g2, g3⟩, lo', hi', 1073741824, 0, false⟩, ⟨a1, n1, c1, a2, n2, c2⟩)) 55)))
     have HBm := qh (HBd.out.outs (Outs.of_below (aC wb (.cells (tkC (⟨id, addr, ⟨g1, g2, g3⟩, lo', hi', 1073741824, 0, false⟩, ⟨a1, n1, c1, a2, n2, c2⟩)) 55))))
     clear KA HBd
     unfold tkC at KB HBm
     simp only [] at KB HBm
     go_wp2_with (at_builtin; refine wpList_append_own_at _ rfl _ _ 24 rfl w0.heap.size 55 i0 _ 10 112 Tryz.underlying24 HF.out.1 HF.out.2.1 HF.out.2.2.1 HF.out.2.2.2 rfl (by decide) _ M.length _ rfl KB.out.K.L.row ⟨wb.heap.size, 0, none⟩ 1 1 [.int .i64 id, .int .i64 addr, .int .i64 g1, .int .i64 g2, .int .i64 g3, .slice a1 n1 c1, .slice a2 n2 c2, .int .i64 1073741824, .int .i64 0, .bool false] rfl rfl (bA rfl) (by intro u hu; simp at hu; rcases hu with rfl | rfl | rfl | rfl | rfl | rfl | rfl | rfl | rfl | rfl <;> rfl) (by have := HMl.out; unfold maxLen; omega) (by have := HMl.out; omega) (by have := KB.out.K.K.B.size; exact this) ?_; intro v9 w9 hown9 hg9 _ hat9; have KC := qh (UpR.app (q := (⟨id, addr, ⟨g1, g2, g3⟩, lo', hi', 1073741824, 0, false⟩, ⟨a1, n1, c1, a2, n2, c2⟩)) KB.out HBm.out hown9 hg9 hat9); clear hown9 hg9 hat9)
     refine ⟨⟨k + 1, M ++ [(⟨id, addr, ⟨g1, g2, g3⟩, lo', hi', 1073741824, 0, false⟩, ⟨a1, n1, c1, a2, n2, c2⟩)], e1, HLt.out, by go_num, ?_, ?_⟩, by simp [intOf]; have := HLt.out; omega⟩
     ·rw [HU.out, HE1.out]
      have h := KC.out
      try simp only [List.append_assoc] at h ⊢; try simp only [List.singleton_append] at h ⊢; try simp only [List.cons_append] at h ⊢; try simp only [List.nil_append] at h ⊢
      exact h
     rw [HU.out, HT1.out]
     try rw [bK]
     rw [HM.out]
     try rw [List.append_nil]
     try rfl
  obtain rfl : n = k := by omega
  obtain ⟨r0, r1, r2, r3, r4, r5, r6, r7, r8, r9⟩ := K.out.K.R.cells
  have rl := K.out.K.R.lt
  have f6 : wr.frozen? ⟨r, 6, none⟩ = false := K.out.K.R.free
  go_wp2_with fail
  have hO : Only r wr (wr.setCell ⟨r, 6, none⟩ (.slice aV M.length cV)) := (Only.refl _ _).setCell _ _
  refine bodyPost_ret (v := .tuple #[]) (by simp [results, Tryz.f28, go_sem]) rfl ⟨rfl, .slice aV M.length cV, eW, M, ?_, ?_, HM.out, ?_⟩
  ·exact K.out.K.setT _ hO
  ·exact K.out.F.outs (Outs.of_only hO (by unfold XR; simp))
  exact K.out.P.outs (Outs.of_only (X := [some r]) hO (List.mem_singleton.2 rfl)) (fun e => K.out.P.off K.out.K.R (Option.some.inj (List.mem_singleton.1 e)))
end Go.Proofs.YtikjjpjekchcjaaGreat
