/-
  Layer 18 (altitude): bands copied.
-/
import Derived.Test.YtojjhkahigdkoaaAltU
import Derived.Test.YtojjhkahigdkoaaHeldBy
namespace Go.Proofs.Ytojjhkahigdkoaa
open Go.RowKit AltMath MyHeap MyOwn MyCopy

theorem own_apart2 {W W' : World} {b1 b2 : Nat} {e e' : TypeId} {s s' : Nat} {v v' : Value} {n n' : Nat} {xs xs' : List Value} (h : W.ownsRow b1 e s v n xs) (h' : W'.ownsRow b2 e' s' v' n' xs') (hb : W.heap.size ≤ b2) : ∀ g, v.ownBlock = some g → v'.ownBlock ≠ some g := fun g e1 e2 => by
  have h1 := (h.lt g e1).2
  have h2 := (h'.lt g e2).1
  omega
set_option maxRecDepth 100000 in
set_option maxHeartbeats 4000000 in
theorem copyBand_call (aL aH : Option Addr) (nL nH cL cH : Nat) (lo hi : List Int) (w : World) (hL : Ints w aL nL lo) (hH : Ints w aH nH hi) (n1 : nL ≤ 1000) (n2 : nH ≤ 1000) :
    Calls Try.prog 11 #[bdV aL nL cL aH nH cH] w (PtPost w.heap.size lo hi w) := by
  have H := Lib.hid (And.intro (And.intro hL hH) (And.intro hL.len hH.len))
  have B := Lib.hid (show Below w.heap.size w ((w.alloc (.cells (bdC aL nL cL aH nH cH) 24)).alloc (.cells #[.slice none 0 0, .slice none 0 0] 24)).drew ∧ ((w.alloc (.cells (bdC aL nL cL aH nH cH) 24)).alloc (.cells #[.slice none 0 0, .slice none 0 0] 24)).drew.heap[w.heap.size]? = some (.cells (bdC aL nL cL aH nH cH) 24 (0, 0)) ∧ ((w.alloc (.cells (bdC aL nL cL aH nH cH) 24)).alloc (.cells #[.slice none 0 0, .slice none 0 0] 24)).drew.heap[w.heap.size + 1]? = some (.cells #[.slice none 0 0, .slice none 0 0] 24 (0, 0)) from
    ⟨((below_alloc w _).alloc (by simp) _).drew, block_alloc (block_new _ _ rfl), block_new _ _ (by simp)⟩)
  clear hL hH
  unfold bdV
  unfold bdC at *
  go_enter Try.func11, Try.ntmps11
  go_wp2_with fail
  obtain ⟨k0, k1, -, -⟩ := two_facts B.out.2.1
  refine wp_region_held_drew (S := (fun w' => w'.cell? ⟨w.heap.size, 0, none⟩ = some (.slice aL nL cL) ∧ w'.cell? ⟨w.heap.size, 1, none⟩ = some (.slice aH nH cH))) (by kernel_rfl) (by (try dsimp only); (first | exact ⟨k0, k1⟩ | exact ⟨(((Only.refl (w.heap.size + 1) _).setCell 0 _).setCell 1 _).cell k0 (show w.heap.size ≠ w.heap.size + 1 by omega), (((Only.refl (w.heap.size + 1) _).setCell 0 _).setCell 1 _).cell k1 (show w.heap.size ≠ w.heap.size + 1 by omega)⟩)) (fun hHeld => ?_)
  refine MyHeld.take 0 (v := ?_) .z (by kernel_rfl) (by kernel_rfl) (by kernel_rfl) (fun _ _ _ h => h) (by rfl) (by assumption) ?_ ?_
  rotate_left
  · intro w hSw; (try dsimp only at hSw); go_simp; (try with_reducible rfl)
  try simp only [Act.put, List.setIfInBounds_toArray, List.set_cons_zero, List.set_cons_succ]
  refine MyHeld.take 1 (v := ?_) (.s .z) (by kernel_rfl) (by kernel_rfl) (by kernel_rfl) (fun _ _ _ h => h) (by rfl) (by assumption) ?_ ?_
  rotate_left
  · intro w hSw; (try dsimp only at hSw); go_simp; (try with_reducible rfl)
  try simp only [Act.put, List.setIfInBounds_toArray, List.set_cons_zero, List.set_cons_succ]
  refine MyHeld.take 3 (v := ?_) (.s (.s (.s .z))) (by kernel_rfl) (by kernel_rfl) (by kernel_rfl) (fun _ _ _ h => h) (by rfl) (by assumption) ?_ ?_
  rotate_left
  · intro w hSw; (try dsimp only at hSw); go_simp; (try with_reducible rfl)
  try simp only [Act.put, List.setIfInBounds_toArray, List.set_cons_zero, List.set_cons_succ]
  refine MyHeld.take 4 (v := ?_) (.s (.s (.s (.s .z)))) (by kernel_rfl) (by kernel_rfl) (by kernel_rfl) (fun _ _ _ h => h) (by rfl) (by assumption) ?_ ?_
  rotate_left
  · intro w hSw; (try dsimp only at hSw); go_simp; (try with_reducible rfl)
  try simp only [Act.put, List.setIfInBounds_toArray, List.set_cons_zero, List.set_cons_succ]
  refine wpAnyH_ready (rs := [2]) (by kernel_rfl) (by simp) ?_
  refine (MyHeld.next 2 (.s (.s .z)) (fun Kq hKq => ?_) AllReadyH.nil)
  go_simp
  ((first | (have hchk := HO1.out; go_at_call 34; refine (copyInts_call aH nH cH hi _ (H.out.1.2.below B.out.1) n2).mono ?_; rintro e w4 ⟨vq, rfl, hO, hb⟩; obtain ⟨aH2, cH2, rfl⟩ := own_slice hO; have HA := Lib.hid (own_apart2 hchk hO (Nat.le_refl _)); have HT := Lib.hid (And.intro (ownsRow_below hchk hb (Nat.le_refl _)) hO); replace k0 := keep1 hb k0; replace k1 := keep1 hb k1; have h1 := B.out.1.size; have h2 := lt_of_block B.out.2.2; have HA3 := Lib.hid h2; replace B := Lib.hid (And.intro (B.out.1.trans (hb.mono h1)) (And.intro (keepO hb B.out.2.1) (keepO hb B.out.2.2))); obtain ⟨d0, d1, g0, g1⟩ := two_facts B.out.2.2; have HS := Lib.hid h1; clear hchk hO hb HO1 h1 h2) | (go_at_call 34; refine (copyInts_call aL nL cL lo _ (H.out.1.1.below B.out.1) n1).mono ?_; rintro e w3 ⟨vq, rfl, hO, hb⟩; obtain ⟨aL2, cL2, rfl⟩ := own_slice hO; have HO1 := Lib.hid hO; replace k0 := keep1 hb k0; replace k1 := keep1 hb k1; have h0 := B.out.1.size; have HZ := Lib.hid h0; replace B := Lib.hid (And.intro (B.out.1.trans (hb.mono h0)) (And.intro (keepO hb B.out.2.1) (keepO hb B.out.2.2))); clear hO hb h0)))
  go_wp2_with fail
  refine hKq.out _ _ (by (try dsimp only); (first | exact ⟨k0, k1⟩ | exact ⟨(((Only.refl (w.heap.size + 1) _).setCell 0 _).setCell 1 _).cell k0 (show w.heap.size ≠ w.heap.size + 1 by omega), (((Only.refl (w.heap.size + 1) _).setCell 0 _).setCell 1 _).cell k1 (show w.heap.size ≠ w.heap.size + 1 by omega)⟩)) (fun hHeld' => ?_)
  clear hKq Kq hHeld; have hHeld := hHeld'; clear hHeld'
  try simp only [Act.put, List.setIfInBounds_toArray, List.set_cons_zero, List.set_cons_succ]
  refine wpAnyH_ready (rs := [5]) (by kernel_rfl) (by simp) ?_
  refine (MyHeld.next 5 (.s (.s (.s (.s (.s .z))))) (fun Kq hKq => ?_) AllReadyH.nil)
  go_simp
  ((first | (have hchk := HO1.out; go_at_call 34; refine (copyInts_call aH nH cH hi _ (H.out.1.2.below B.out.1) n2).mono ?_; rintro e w4 ⟨vq, rfl, hO, hb⟩; obtain ⟨aH2, cH2, rfl⟩ := own_slice hO; have HA := Lib.hid (own_apart2 hchk hO (Nat.le_refl _)); have HT := Lib.hid (And.intro (ownsRow_below hchk hb (Nat.le_refl _)) hO); replace k0 := keep1 hb k0; replace k1 := keep1 hb k1; have h1 := B.out.1.size; have h2 := lt_of_block B.out.2.2; have HA3 := Lib.hid h2; replace B := Lib.hid (And.intro (B.out.1.trans (hb.mono h1)) (And.intro (keepO hb B.out.2.1) (keepO hb B.out.2.2))); obtain ⟨d0, d1, g0, g1⟩ := two_facts B.out.2.2; have HS := Lib.hid h1; clear hchk hO hb HO1 h1 h2) | (go_at_call 34; refine (copyInts_call aL nL cL lo _ (H.out.1.1.below B.out.1) n1).mono ?_; rintro e w3 ⟨vq, rfl, hO, hb⟩; obtain ⟨aL2, cL2, rfl⟩ := own_slice hO; have HO1 := Lib.hid hO; replace k0 := keep1 hb k0; replace k1 := keep1 hb k1; have h0 := B.out.1.size; have HZ := Lib.hid h0; replace B := Lib.hid (And.intro (B.out.1.trans (hb.mono h0)) (And.intro (keepO hb B.out.2.1) (keepO hb B.out.2.2))); clear hO hb h0)))
  go_wp2_with fail
  refine hKq.out _ _ (by (try dsimp only); (first | exact ⟨k0, k1⟩ | exact ⟨(((Only.refl (w.heap.size + 1) _).setCell 0 _).setCell 1 _).cell k0 (show w.heap.size ≠ w.heap.size + 1 by omega), (((Only.refl (w.heap.size + 1) _).setCell 0 _).setCell 1 _).cell k1 (show w.heap.size ≠ w.heap.size + 1 by omega)⟩)) (fun hHeld' => ?_)
  clear hKq Kq hHeld; have hHeld := hHeld'; clear hHeld'
  try simp only [Act.put, List.setIfInBounds_toArray, List.set_cons_zero, List.set_cons_succ]
  refine MyHeld.take 6 (v := ?_) (.s (.s (.s (.s (.s (.s .z)))))) (by kernel_rfl) (by kernel_rfl) (by kernel_rfl) (fun _ _ _ h => h) (by rfl) (by assumption) ?_ ?_
  rotate_left
  · intro w hSw; (try dsimp only at hSw); go_simp; (try with_reducible rfl)
  try simp only [Act.put, List.setIfInBounds_toArray, List.set_cons_zero, List.set_cons_succ]
  refine wpAnyH_ready (rs := [7]) (by kernel_rfl) (by simp) ?_
  refine (MyHeld.next 7 (.s (.s (.s (.s (.s (.s (.s .z))))))) (fun Kq hKq => ?_) AllReadyH.nil)
  go_simp
  refine hKq.out _ _ (by (try dsimp only); (first | exact ⟨k0, k1⟩ | exact ⟨(((Only.refl (w.heap.size + 1) _).setCell 0 _).setCell 1 _).cell k0 (show w.heap.size ≠ w.heap.size + 1 by omega), (((Only.refl (w.heap.size + 1) _).setCell 0 _).setCell 1 _).cell k1 (show w.heap.size ≠ w.heap.size + 1 by omega)⟩)) (fun hHeld' => ?_)
  clear hKq Kq hHeld; have hHeld := hHeld'; clear hHeld'
  try simp only [Act.put, List.setIfInBounds_toArray, List.set_cons_zero, List.set_cons_succ]
  refine wpAnyH_done (by kernel_rfl) ?_ _
  all_goals
    go_wp2_with fail
    have hx := block_setCell (i := 1) (v := .slice aH2 nH cH2) (block_setCell (i := 0) (v := .slice aL2 nL cL2) B.out.2.2)
    have hO : Only (w.heap.size + 1) w4 ((w4.setCell ⟨w.heap.size + 1, 0, none⟩ (.slice aL2 nL cL2)).setCell ⟨w.heap.size + 1, 1, none⟩ (.slice aH2 nH cH2)) := ((Only.refl _ _).setCell 0 _).setCell 1 _
    have r0 := cell_of_block (i := 0) (v := .slice aL2 nL cL2) hx rfl
    have r1 := cell_of_block (i := 1) (v := .slice aH2 nH cH2) hx rfl
    have hz1 : w.heap.size + 2 ≤ ((w.alloc (.cells #[.slice aL nL cL, .slice aH nH cH] 24)).alloc (.cells #[.slice none 0 0, .slice none 0 0] 24)).drew.heap.size := by show _ ≤ ((w.alloc (.cells #[.slice aL nL cL, .slice aH nH cH] 24)).alloc (.cells #[.slice none 0 0, .slice none 0 0] 24)).heap.size; simp
    have hz2 := HA3.out
    have l1 := own_keep HT.out.1 hO (Or.inr fun e => by have := (HT.out.1.lt _ e).1; omega)
    have l2 := own_keep HT.out.2 hO (Or.inr fun e => by have := (HT.out.2.lt _ e).1; omega)
    refine bodyPost_ret (v := .agg #[.slice aL2 nL cL2, .slice aH2 nH cH2]) ?_ rfl ⟨_, _, rfl, ⟨by rw [H.out.2.1]; exact ownsRow_base l1 HZ.out, by rw [H.out.2.2]; exact ownsRow_base l2 HS.out, HA.out⟩, B.out.1.trans (hO.below (by omega) B.out.1.size)⟩
    simp [results, Try.f11, go_sem, r0, r1]
end Go.Proofs.Ytojjhkahigdkoaa
