/-
  TrkI
-/
import Derived.Test.YtikjjpjekchcjaaPr12
import Derived.Test.YtikjjpjekchcjaaPr8
import Derived.Test.YtikjjpjekchcjaaPr1
set_option linter.all false
set_option maxRecDepth 100000
set_option maxHeartbeats 64000000
namespace Go.Proofs.Ytikjjpjekchcjaa
open Go.RowKit TrkMath MyHeap MyOwn
def LvAt (g : Nat) (LV : List Lv) (w : World) : Prop := ∃ cs : Array Value, w.heap[g]? = some (.cells cs 84 (0, 0)) ∧ cs.toList = flat2 LV
theorem LvAt.below {g : Nat} {LV : List Lv} {w w' : World} (h : LvAt g LV w) (hb : Below w.heap.size w w') : LvAt g LV w' := by
 obtain ⟨cs, h1, h2⟩ := h
 exact ⟨cs, keepO hb h1, h2⟩
theorem LvAt.outs {X : List (Option Nat)} {g : Nat} {LV : List Lv} {w w' : World} (h : LvAt g LV w) (hb : Outs X w w') (hn : some g ∉ X) : LvAt g LV w' := by
 obtain ⟨cs, h1, h2⟩ := h
 exact ⟨cs, hb.keeps h1 hn, h2⟩
theorem LvAt.at {g : Nat} {LV : List Lv} {w : World} (h : LvAt g LV w) {k : Nat} (hk : k < LV.length) : w.cell? ⟨g, k * 2, none⟩ = some (.int .i64 (gl LV k).1) ∧ w.cell? ⟨g, k * 2 + 1, none⟩ = some (.int .i64 (gl LV k).2) := by
 obtain ⟨cs, h1, h2⟩ := h
 have hx := flat2_get LV k hk
 rw [← h2] at hx
 exact ⟨cell_of_block h1 (by simpa [gl] using hx.1), cell_of_block h1 (by simpa [gl] using hx.2)⟩
def bdV' (s : Bs) : Value := .agg #[.slice s.aL s.nL s.cL, .slice s.aH s.nH s.cH]
def MePost (t : Tk) (s : Bs) (lo' hi' : List Int) (w : World) (e : Ending) (w' : World) : Prop :=
 ∃ s' : Bs, e = .returned (.tuple #[bdV' s', .bool (!emptyB lo' hi')]) ∧ Below w.heap.size w w' ∧
  ∀ (B : Nat) (X : List (Option Nat)), B ≤ w.heap.size → (∀ g, some g ∈ X → g < w.heap.size) → BdX B X w (t, s) → BdX B X w' ({ t with lo := lo', hi := hi' }, s')
theorem two_stored {W : World} {b : Nat} {T : TypeId} {c0 c1 : Value} (h : W.heap[b]? = some (.cells #[c0, c1] T (0, 0))) (x y : Value) : ((W.setCell ⟨b, 0, none⟩ x).setCell ⟨b, 1, none⟩ y).heap[b]? = some (.cells #[x, y] T (0, 0)) := by
 have := block_setCell (i := 1) (v := y) (block_setCell (i := 0) (v := x) h)
 simpa using this
theorem two_only (W : World) (b : Nat) (x y : Value) : Only b W ((W.setCell ⟨b, 0, none⟩ x).setCell ⟨b, 1, none⟩ y) := ((Only.refl _ W).setCell 0 x).setCell 1 y
theorem me_own {w W : World} {b0 : Nat} {t : Tk} {lo' hi' : List Int} {aP aQ : Option Addr} {cP cQ : Nat} (h : Alt.TwoOwn b0 (.slice aP 201 cP) (.slice aQ 201 cQ) lo' hi' W) (hb : w.heap.size ≤ b0) (l1 : lo'.length = 201) (l2 : hi'.length = 201) :
    ∀ (B : Nat) (X : List (Option Nat)), B ≤ w.heap.size → (∀ g, some g ∈ X → g < w.heap.size) → BdX B X W ({ t with lo := lo', hi := hi' }, ⟨aP, 201, cP, aQ, 201, cQ⟩) := by
 intro B X hB hX
 obtain ⟨⟨a1, n1, d1, a2, n2, d2⟩, e1, e2, hb1⟩ := BdX.of_own (X := X) (t := { t with lo := lo', hi := hi' }) h (Nat.le_of_eq l1) (Nat.le_of_eq l2) (fun g hg => Nat.lt_of_lt_of_le (hX g hg) hb)
 simp only [Value.slice.injEq] at e1 e2
 obtain ⟨rfl, rfl, rfl⟩ := e1
 obtain ⟨rfl, rfl, rfl⟩ := e2
 exact hb1.base (Nat.le_trans hB hb)
theorem mePost_of {t : Tk} {s s' : Bs} {lo' hi' : List Int} {b : Bool} {w w' : World} (h0 : b = !emptyB lo' hi') (h1 : Below w.heap.size w w') (h2 : ∀ (B : Nat) (X : List (Option Nat)), B ≤ w.heap.size → (∀ g, some g ∈ X → g < w.heap.size) → BdX B X w (t, s) → BdX B X w' ({ t with lo := lo', hi := hi' }, s')) :
    MePost t s lo' hi' w (.returned (.tuple #[bdV' s', .bool b])) w' := by subst h0; exact ⟨s', rfl, h1, h2⟩
theorem measure_call (r g n c : Nat) (p : Par) (now next : Int) (tV pV eV : Value) (LV : List Lv) (t : Tk) (s : Bs) (k : Nat) (w : World) (hR : RunAt r p now next tV pV (.slice (some ⟨g, 0, none⟩) n c) eV w) (hL : LvAt g LV w) (hn : LV.length = n) (hk : k < n) (hl : LvOk (gl LV k)) (hC : AltMath.chB t.lo t.hi = 0) (hI : BdI w (t, s)) :
    Calls Try.prog 61 #[.pointer (some ⟨r, 0, none⟩), bdV' s, .int .i64 (k : Int)] w (MePost t s (meaL t.lo t.hi (gl LV k)) (meaH t.lo t.hi (gl LV k)) w) := by
 obtain ⟨c0, c1⟩ := hL.at (k := k) (by omega)
 obtain ⟨⟨A, S⟩, hA⟩ : ∃ l, gl LV k = l := ⟨_, rfl⟩
 rw [hA] at c0 c1 hl ⊢
 obtain ⟨aL, nL, cL, aH, nH, cH⟩ := s
 obtain ⟨-, -, -, -, -, -, -, -, r8, -⟩ := hR.cells
 have HI := qh hI
 have HC := qh (And.intro hC hl)
 have rl := hR.lt
 have gq := World.block_lt_of_cell? _ _ c0
 have hk0 : (0 : Int) ≤ (k : Int) := by omega
 have hk1 : (k : Int) < (n : Int) := by omega
 have HB := qh (((below_alloc w (.cells #[.slice aL nL cL, .slice aH nH cH] 44)).alloc (by simp) (.cells #[.slice none 0 0, .slice none 0 0] 44)).alloc (by simp; omega) (.cells #[.int .i64 A, .int .i64 S] 84))
 have HX := qh (show (((w.alloc (.cells #[.slice aL nL cL, .slice aH nH cH] 44)).alloc (.cells #[.slice none 0 0, .slice none 0 0] 44)).alloc (.cells #[.int .i64 A, .int .i64 S] 84)).heap[w.heap.size]? = some (.cells #[.slice aL nL cL, .slice aH nH cH] 44 (0, 0)) ∧
     (((w.alloc (.cells #[.slice aL nL cL, .slice aH nH cH] 44)).alloc (.cells #[.slice none 0 0, .slice none 0 0] 44)).alloc (.cells #[.int .i64 A, .int .i64 S] 84)).heap[w.heap.size + 1]? = some (.cells #[.slice none 0 0, .slice none 0 0] 44 (0, 0)) ∧
     (((w.alloc (.cells #[.slice aL nL cL, .slice aH nH cH] 44)).alloc (.cells #[.slice none 0 0, .slice none 0 0] 44)).alloc (.cells #[.int .i64 A, .int .i64 S] 84)).heap[w.heap.size + 1 + 1]? = some (.cells #[.int .i64 A, .int .i64 S] 84 (0, 0))
  from ⟨block_alloc (block_alloc (block_new _ _ rfl)), block_alloc (block_new _ _ (by simp)), block_new _ _ (by simp)⟩)
 clear hR hL hI hC hl hA
 unfold bdV'
 simp only []
 by_cases hs : 0 < S
 ·have HS := qh hs
  have HM := qh (show meaL t.lo t.hi (A, S) = AltMath.loK (AltMath.maF t.lo t.hi A S) 201 ∧ meaH t.lo t.hi (A, S) = AltMath.hiK (AltMath.maF t.lo t.hi A S) 201 from mea_yes (l := (A, S)) hs)
  go_enter Try.func61, Try.ntmps61
  go_wp2_with fail
  obtain ⟨lo', hlo⟩ : ∃ l, AltMath.loK (AltMath.maF t.lo t.hi A S) 201 = l := ⟨_, rfl⟩
  obtain ⟨hi', hhi⟩ : ∃ l, AltMath.hiK (AltMath.maF t.lo t.hi A S) 201 = l := ⟨_, rfl⟩
  have l1 : lo'.length = 201 := by rw [← hlo]; exact AltMath.loK_len _ _
  have l2 : hi'.length = 201 := by rw [← hhi]; exact AltMath.hiK_len _ _
  have HE0 := qh (show AltMath.maE t.lo t.hi A S = 0 from AltMath.maE_ok HC.out.1 (HC.out.2 HS.out))
  rw [hlo, hhi] at HM
  have hcall := Alt.pMea_call aL aH nL nH cL cH t.lo t.hi A S _ (HI.out.L.below HB.out) (HI.out.H.below HB.out)
  rw [hlo, hhi, HE0.out] at hcall
  have HCh := qh (show AltMath.chB lo' hi' = 0 from by rw [← hlo, ← hhi]; exact AltMath.ch_ma HC.out.1 (HC.out.2 HS.out))
  clear hlo hhi
  refine hcall.mono ?_; rintro e w1 ⟨vL, vH, rfl, hT, -, hb⟩
  clear hcall
  replace hT := hT rfl
  obtain ⟨aP, cP, rfl⟩ := row_slice (l1 ▸ hT.L)
  obtain ⟨aQ, cQ, rfl⟩ := row_slice (l2 ▸ hT.H)
  have HLn := qh (And.intro l1 l2)
  clear l1 l2
  have HT := qh hT
  have HZ := qh hb.size
  have K := qh (And.intro (HB.out.trans (hb.mono HB.out.size)) (And.intro (keepO hb HX.out.1) (keepO hb HX.out.2.1)))
  obtain ⟨x0, x1, f0, f1⟩ := Alt.two_facts K.out.2.1
  have xl := lt_of_block K.out.2.1
  clear hb hT r8 rl gq c0 c1 hk0 hk1
  go_wp2_with fail
  have hO := two_only w1 w.heap.size (.slice aP 201 cP) (.slice aQ 201 cQ)
  have hsz : ∀ W : World, (((w.alloc (.cells #[.slice aL nL cL, .slice aH nH cH] 44)).alloc (.cells #[.slice none 0 0, .slice none 0 0] 44)).alloc (.cells #[.int .i64 A, .int .i64 S] 84)).heap.size ≤ W.heap.size → w.heap.size + 1 + 1 < W.heap.size := fun W h => by simp at h; omega
  have K2 := qh (And.intro (K.out.1.trans (hO.below (Nat.le_refl _) K.out.1.size)) (And.intro (two_stored K.out.2.1 (.slice aP 201 cP) (.slice aQ 201 cQ)) (hO.keeps K.out.2.2 (Nat.succ_ne_self _))))
  have HT2 := qh (show Alt.TwoOwn (((w.alloc (.cells #[.slice aL nL cL, .slice aH nH cH] 44)).alloc (.cells #[.slice none 0 0, .slice none 0 0] 44)).alloc (.cells #[.int .i64 A, .int .i64 S] 84)).heap.size (.slice aP 201 cP) (.slice aQ 201 cQ) lo' hi' _ from
   ⟨Outs.row (Outs.of_only (X := [some w.heap.size]) hO (List.mem_singleton.2 rfl)) HT.out.L (fun g e h => by have h1 := (HT.out.L.lt g e).1; have h2 := Option.some.inj (List.mem_singleton.1 h); simp at h1; omega), Outs.row (Outs.of_only (X := [some w.heap.size]) hO (List.mem_singleton.2 rfl)) HT.out.H (fun g e h => by have h1 := (HT.out.H.lt g e).1; have h2 := Option.some.inj (List.mem_singleton.1 h); simp at h1; omega), HT.out.A⟩)
  clear x0 x1 f0 f1 xl hO
  obtain ⟨a1, d1, e1, hI1⟩ := ints_own HT2.out.L (by rw [HLn.out.1]; decide)
  obtain ⟨a2, d2, e2, hI2⟩ := ints_own HT2.out.H (by rw [HLn.out.2]; decide)
  rw [HLn.out.1] at e1 hI1
  rw [HLn.out.2] at e2 hI2
  cases e1
  cases e2
  generalize (w1.setCell ⟨w.heap.size, 0, none⟩ (.slice aP 201 cP)).setCell ⟨w.heap.size, 1, none⟩ (.slice aQ 201 cQ) = w2 at *
  refine (Alt.pEmpty_call _ _ 201 201 _ _ lo' hi' _ hI1 hI2).mono ?_; rintro e w3 ⟨rfl, hb⟩
  replace K2 := qh (And.intro (K2.out.1.trans (hb.mono K2.out.1.size)) (And.intro (keepO hb K2.out.2.1) (keepO hb K2.out.2.2)))
  replace HT2 := qh (HT2.out.below hb)
  obtain ⟨x0, x1, f0, f1⟩ := Alt.two_facts K2.out.2.1
  have xl := lt_of_block K2.out.2.1
  obtain ⟨z0, z1, g0, g1⟩ := Alt.two_facts K2.out.2.2
  have zl := lt_of_block K2.out.2.2
  obtain ⟨EB, hEB⟩ : ∃ b, Alt.emB lo' hi' = b := ⟨_, rfl⟩
  have HEB := qh (show emptyB lo' hi' = EB from hEB)
  rw [hEB]
  clear hb hEB
  go_wp2_with fail
  have hO := two_only w3 (w.heap.size + 1) (.slice aP 201 cP) (.slice aQ 201 cQ)
  have hx := two_stored K2.out.2.2 (.slice aP 201 cP) (.slice aQ 201 cQ)
  have s0 := cell_of_block (i := 0) (v := .slice aP 201 cP) hx rfl
  have s1 := cell_of_block (i := 1) (v := .slice aQ 201 cQ) hx rfl
  refine bodyPost_ret (v := .tuple #[.agg #[.slice aP 201 cP, .slice aQ 201 cQ], .bool (!EB)]) ?_ rfl ?_
  ·simp [results, Try.f61, go_sem, s0, s1]
  rw [HM.out.1, HM.out.2]
  refine mePost_of (s' := ⟨aP, 201, cP, aQ, 201, cQ⟩) (by rw [HEB.out]) (K2.out.1.trans (hO.below (Nat.le_succ _) K2.out.1.size)) ?_
  have hT9 : Alt.TwoOwn _ _ _ lo' hi' _ := ⟨Outs.row (Outs.of_only (X := [some (w.heap.size + 1)]) hO (List.mem_singleton.2 rfl)) HT2.out.L (fun g e h => by have h1 := (HT2.out.L.lt g e).1; have h2 := Option.some.inj (List.mem_singleton.1 h); simp at h1; omega), Outs.row (Outs.of_only (X := [some (w.heap.size + 1)]) hO (List.mem_singleton.2 rfl)) HT2.out.H (fun g e h => by have h1 := (HT2.out.H.lt g e).1; have h2 := Option.some.inj (List.mem_singleton.1 h); simp at h1; omega), HT2.out.A⟩
  exact fun B X hB hX _ => me_own (t := t) hT9 (by simp; omega) HLn.out.1 HLn.out.2 B X hB hX
 have HM := qh (show meaL t.lo t.hi (A, S) = t.lo ∧ meaH t.lo t.hi (A, S) = t.hi from mea_no (l := (A, S)) hs)
 have HI2 := qh (And.intro (HI.out.L.below HB.out) (HI.out.H.below HB.out))
 go_enter Try.func61, Try.ntmps61
 go_wp2_with fail
 refine (Alt.pEmpty_call aL aH nL nH cL cH t.lo t.hi _ HI2.out.1 HI2.out.2).mono ?_; rintro e w3 ⟨rfl, hb⟩
 have K2 := qh (And.intro HB.out (And.intro HX.out.1 HX.out.2.1))
 replace K2 := qh (And.intro (K2.out.1.trans (hb.mono K2.out.1.size)) (And.intro (keepO hb K2.out.2.1) (keepO hb K2.out.2.2)))
 clear r8 rl gq c0 c1 hk0 hk1
 obtain ⟨x0, x1, f0, f1⟩ := Alt.two_facts K2.out.2.1
 have xl := lt_of_block K2.out.2.1
 obtain ⟨z0, z1, g0, g1⟩ := Alt.two_facts K2.out.2.2
 have zl := lt_of_block K2.out.2.2
 obtain ⟨EB, hEB⟩ : ∃ b, Alt.emB t.lo t.hi = b := ⟨_, rfl⟩
 have HEB := qh (show emptyB t.lo t.hi = EB from hEB)
 rw [hEB]
 clear hb hEB
 go_wp2_with fail
 have hO := two_only w3 (w.heap.size + 1) (.slice aL nL cL) (.slice aH nH cH)
 have hx := two_stored K2.out.2.2 (.slice aL nL cL) (.slice aH nH cH)
 have s0 := cell_of_block (i := 0) (v := .slice aL nL cL) hx rfl
 have s1 := cell_of_block (i := 1) (v := .slice aH nH cH) hx rfl
 refine bodyPost_ret (v := .tuple #[.agg #[.slice aL nL cL, .slice aH nH cH], .bool (!EB)]) ?_ rfl ?_
 ·simp [results, Try.f61, go_sem, s0, s1]
 rw [HM.out.1, HM.out.2]
 refine mePost_of (s' := ⟨aL, nL, cL, aH, nH, cH⟩) (by rw [HEB.out]) (K2.out.1.trans (hO.below (Nat.le_succ _) K2.out.1.size)) ?_
 intro B X hB hX hbd
 exact hbd.outs (Outs.of_below (K2.out.1.trans (hO.below (Nat.le_succ _) K2.out.1.size)))
end Go.Proofs.Ytikjjpjekchcjaa
