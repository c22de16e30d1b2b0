/-
  Altitude in seat 36: Step (printed by genBand.py)
-/
import Derived.Test.YthaokofhepngbaaBdK
namespace Go.Proofs.Ythaokofhepngbaa.Alt
open Go.RowKit Go.Shelf AltMath MyHeap MyCopy MyOwn

/-- What Step has laid when it begins: the band, the pull, the result. -/
def SeW (w : World) (aL : Option Addr) (nL cL : Nat) (aH : Option Addr) (nH cH : Nat) (pl : Int) : World := ((w.alloc (.cells #[.slice aL nL cL, .slice aH nH cH] 50)).alloc (.cells #[.int .i64 pl] 3)).alloc (.cells #[.slice none 0 0, .slice none 0 0] 50)
structure SeK (w : World) (aL : Option Addr) (nL cL : Nat) (aH : Option Addr) (nH cH : Nat) (pl : Int) (W : World) : Prop where
  B : Below w.heap.size w W
  X : W.heap[w.heap.size]? = some (.cells (bdC aL nL cL aH nH cH) 50 (0, 0))
  a : W.heap[w.heap.size + 1]? = some (.cells #[.int .i64 pl] 3 (0, 0))
  R : W.heap[w.heap.size + 1 + 1]? = some (.cells #[.slice none 0 0, .slice none 0 0] 50 (0, 0))
theorem SeK.new (w : World) (aL : Option Addr) (nL cL : Nat) (aH : Option Addr) (nH cH : Nat) (pl : Int) : SeK w aL nL cL aH nH cH pl (SeW w aL nL cL aH nH cH pl) :=
  ⟨((below_alloc w _).alloc (by simp) _).alloc (by simp; omega) _, block_alloc (block_alloc (block_new _ _ rfl)), block_alloc (block_new _ _ (by simp)), block_new _ _ (by simp)⟩
theorem SeK.keep {w W W' : World} {aL : Option Addr} {nL cL : Nat} {aH : Option Addr} {nH cH : Nat} {pl : Int} (h : SeK w aL nL cL aH nH cH pl W) (hb : Below W.heap.size W W') : SeK w aL nL cL aH nH cH pl W' := ⟨h.B.trans (hb.mono h.B.size), keepO hb h.X, keepO hb h.a, keepO hb h.R⟩

set_option maxRecDepth 100000 in
set_option maxHeartbeats 4000000 in
theorem pStep_call (aL aH : Option Addr) (nL nH cL cH : Nat) (lo hi : List Int) (pl : Int) (w : World) (hL : Ints w aL nL lo) (hH : Ints w aH nH hi) :
    Calls Try.prog 25 #[bdV aL nL cL aH nH cH, .int .i64 pl] w (BOPost (stE lo hi pl) (loK (stF lo hi pl.toNat) 201) (hiK (stF lo hi pl.toNat) 201) w) := by
  have H := Lib.hid (And.intro hL hH)
  have K := Lib.hid (SeK.new w aL nL cL aH nH cH pl)
  clear hL hH
  unfold SeW at K
  unfold bdV
  by_cases hE : chB lo hi = 0
  · by_cases hp : pl < 0 ∨ 32 < pl
    · have HE := Lib.hid (And.intro hE hp)
      clear hE
      by_cases hp0 : pl < 0
      all_goals
        have hp1 : pl < 0 ∨ 32 < pl := hp
        clear hp
        try (replace hp1 : 32 < pl := by omega)
        go_enter Try.func25, Try.ntmps25
        go_wp2_with fail
        refine (pCheck_call aL aH nL nH cL cH lo hi _ (H.out.1.below K.out.B) (H.out.2.below K.out.B)).mono ?_; rintro e w1 ⟨rfl, hb⟩
        replace K := Lib.hid (K.out.keep hb)
        rw [HE.out.1]
        have p0 := cell_of_block (i := 0) K.out.a rfl
        obtain ⟨d0, d1, g0, g1⟩ := two_facts K.out.R
        clear hb
        go_wp2_with fail
        have hx := block_setCell (i := 1) (v := .slice none 0 0) (block_setCell (i := 0) (v := .slice none 0 0) K.out.R)
        have hO : Only (w.heap.size + 1 + 1) w1 ((w1.setCell ⟨w.heap.size + 1 + 1, 0, none⟩ (.slice none 0 0)).setCell ⟨w.heap.size + 1 + 1, 1, none⟩ (.slice none 0 0)) := ((Only.refl _ _).setCell 0 _).setCell 1 _
        have r0 := cell_of_block (i := 0) (v := .slice none 0 0) hx rfl
        have r1 := cell_of_block (i := 1) (v := .slice none 0 0) hx rfl
        refine bodyPost_ret (v := .tuple #[.agg #[.slice none 0 0, .slice none 0 0], .int .i64 1]) ?_ rfl (bo_err (stE_no HE.out.1 HE.out.2) (by decide) (K.out.B.trans (hO.below (by omega) K.out.B.size)))
        simp [results, Try.f25, go_sem, r0, r1]
    · obtain ⟨P, rfl⟩ : ∃ P : Nat, pl = (P : Int) := ⟨pl.toNat, by omega⟩
      have hP0 : (0 : Int) ≤ (P : Int) := by omega
      have hP1 : (P : Int) ≤ 32 := by omega
      obtain ⟨e1, e2, e3⟩ := chB_ok hE
      obtain rfl : nL = 201 := by rw [← H.out.1.len]; exact e1
      obtain rfl : nH = 201 := by rw [← H.out.2.len]; exact e2
      obtain ⟨b1, o1, rfl, -⟩ := ints_at H.out.1 (k := 0) (by decide)
      obtain ⟨b2, o2, rfl, -⟩ := ints_at H.out.2 (k := 0) (by decide)
      have HE := Lib.hid (And.intro hE e3)
      clear hE hp e1 e2 e3
      go_enter Try.func25, Try.ntmps25
      go_wp2_with fail
      refine (pCheck_call (some ⟨b1, o1, none⟩) (some ⟨b2, o2, none⟩) 201 201 cL cH lo hi _ (H.out.1.below K.out.B) (H.out.2.below K.out.B)).mono ?_; rintro e w1 ⟨rfl, hb⟩
      replace K := Lib.hid (K.out.keep hb)
      rw [HE.out.1]
      have p0 := cell_of_block (i := 0) K.out.a rfl
      clear hb
      go_wp2_with fail
      refine (made_call (stF lo hi P) 37 #[.pointer (some ⟨w.heap.size, 0, none⟩), .pointer (some ⟨w.heap.size + 1, 0, none⟩)] w1 (enters_of Try.func37 (by kernel_rfl) rfl)
        (fun V hV i hi1 => step1_call b1 o1 b2 o2 cL cH lo hi P w.heap.size (w.heap.size + 1) i V hi1 (by omega) HE.out.2 (H.out.1.below (K.out.keep hV).B) (H.out.2.below (K.out.keep hV).B) (K.out.keep hV).X (cell_of_block (K.out.keep hV).a rfl))).mono ?_
      rintro e w3 ⟨vL, vH, rfl, hT, hB⟩
      obtain ⟨aP, nP, cP, rfl⟩ := own_slice3 hT.L
      obtain ⟨aQ, nQ, cQ, rfl⟩ := own_slice3 hT.H
      obtain ⟨d0, d1, g0, g1⟩ := two_facts (keepO hB K.out.R)
      have HT := Lib.hid (And.intro hT hB)
      clear hT hB p0
      go_wp2_with fail
      obtain ⟨hT9, hB9, r0, r1⟩ := pt_store (R := w.heap.size + 1 + 1) (by omega) K.out.R K.out.B HT.out.1 HT.out.2
      have hE0 : stE lo hi (P : Int) = 0 := stE_ok HE.out.1 (by omega)
      refine bodyPost_ret (v := .tuple #[.agg #[.slice aP nP cP, .slice aQ nQ cQ], .int .i64 0]) ?_ rfl ⟨_, _, by rw [hE0], fun _ => hT9, fun e => absurd hE0 e, hB9⟩
      simp [results, Try.f25, go_sem, r0, r1]
  · have d1 : (chB lo hi != 0) = true := bne_iff_ne.2 hE
    have HE := Lib.hid hE
    clear hE
    go_enter Try.func25, Try.ntmps25
    go_wp2_with fail
    refine (pCheck_call aL aH nL nH cL cH lo hi _ (H.out.1.below K.out.B) (H.out.2.below K.out.B)).mono ?_; rintro e w1 ⟨rfl, hb⟩
    replace K := Lib.hid (K.out.keep hb)
    obtain ⟨c0, c1, g0, g1⟩ := two_facts K.out.R
    clear hb
    go_wp2_with fail
    have hx := block_setCell (i := 1) (v := .slice none 0 0) (block_setCell (i := 0) (v := .slice none 0 0) K.out.R)
    have hO : Only (w.heap.size + 1 + 1) w1 ((w1.setCell ⟨w.heap.size + 1 + 1, 0, none⟩ (.slice none 0 0)).setCell ⟨w.heap.size + 1 + 1, 1, none⟩ (.slice none 0 0)) := ((Only.refl _ _).setCell 0 _).setCell 1 _
    have r0 := cell_of_block (i := 0) (v := .slice none 0 0) hx rfl
    have r1 := cell_of_block (i := 1) (v := .slice none 0 0) hx rfl
    refine bodyPost_ret (v := .tuple #[.agg #[.slice none 0 0, .slice none 0 0], .int .i64 (chB lo hi)]) ?_ rfl (bo_err (stE_ch HE.out) HE.out (K.out.B.trans (hO.below (by omega) K.out.B.size)))
    simp [results, Try.f25, go_sem, r0, r1]
end Go.Proofs.Ythaokofhepngbaa.Alt
