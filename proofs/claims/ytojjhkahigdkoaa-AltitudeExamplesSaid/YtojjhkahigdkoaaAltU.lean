/-
  Layer 18 (altitude): bands overwritten.
-/
import Derived.Test.YtojjhkahigdkoaaAltT
import Derived.Test.YtojjhkahigdkoaaAltD
namespace Go.Proofs.Ytojjhkahigdkoaa
open Go.RowKit AltMath MyHeap MyOwn MyCopy

def OvK (g n : Nat) (w W : World) : Prop := Only g w W ∧ ∃ cs T, W.heap[g]? = some (.cells cs T (0, 0)) ∧ n ≤ cs.size
set_option maxRecDepth 100000 in
theorem overInts_some (g n c : Nat) (w : World) (cs : Array Value) (T : TypeId) (h : w.heap[g]? = some (.cells cs T (0, 0))) (hn : n ≤ cs.size) (hm : n ≤ 1000000) :
    Calls Try.prog 46 #[.slice (some ⟨g, 0, none⟩) n c] w fun e w' => e = .returned (.tuple #[]) ∧ Only g w w' := by
  have K := Lib.hid (show OvK g n w w from ⟨Only.refl _ _, cs, T, h, hn⟩)
  clear h hn
  go_enter Try.func46, Try.ntmps46
  go_wp2
  go_loopw [2] (fun kv wr => ∃ k : Nat, k ≤ n ∧ kv = .int .i64 k ∧ OvK g n w wr) (fun kv _ => n - (intOf kv).toNat)
  case atStart => exact ⟨0, Nat.zero_le _, rfl, K.out⟩
  case round =>
    clear K
    obtain ⟨k, hk, rfl, hK⟩ := hrel
    have HK := Lib.hid hK
    by_cases hlt : k < n
    · obtain ⟨hO, ds, T', hd, hds⟩ := hK
      have hk0 : (0 : Int) ≤ (k : Int) := by omega
      have hk1 : (k : Int) < (n : Int) := by omega
      obtain ⟨u0, hu0⟩ : ∃ u0, ds[k]? = some u0 := ⟨_, Array.getElem?_eq_getElem (by omega)⟩
      have x0 : wr.cell? ⟨g, k, none⟩ = some u0 := cell_of_block hd hu0
      have f0 : wr.frozen? ⟨g, k, none⟩ = false := free_of_block hd
      have HD := Lib.hid (And.intro hO (And.intro hd hds))
      clear hO hd hds hu0
      go_wp2
      go_roundw
      case rel => exact ⟨k + 1, by omega, by go_num, HD.out.1.setCell k _, _, _, block_setCell HD.out.2.1, by simpa using HD.out.2.2⟩
      case measure => simp [intOf]; omega
    · obtain rfl : k = n := by omega
      clear hK
      go_wp2
      go_end0
      exact ⟨rfl, HK.out.1⟩
theorem overInts_nil (w : World) : Calls Try.prog 46 #[.slice none 0 0] w fun e w' => e = .returned (.tuple #[]) ∧ w = w' := by
  go_enter Try.func46, Try.ntmps46
  go_wp2
  refine wp_loop_rounds 1 ?_
  rw [rounds_succ]
  go_wp2
  go_end0
  exact ⟨rfl, rfl⟩
theorem overInts_call (base : Nat) (v : Value) (n : Nat) (xs : List Value) (w : World) (h : w.ownsRow base 3 1 v n xs) (hm : n ≤ 1000000) : Calls Try.prog 46 #[v] w fun e w' => e = .returned (.tuple #[]) ∧ w.grownBy w' v.ownBlock := by
  rcases h.2 with ⟨rfl, rfl⟩ | ⟨g, cap, cur, rfl, hg, hh, hc, hcm, hcs, ht⟩
  · exact (overInts_nil w).mono fun e w' ⟨he, hw⟩ => ⟨he, by subst hw; exact ⟨rfl, rfl, rfl, Nat.le_refl _, fun _ _ _ => rfl⟩⟩
  · exact (overInts_some g n cap w cur _ hh (by omega) hm).mono fun e w' ⟨he, hO⟩ => ⟨he, hO⟩
/-- Nothing but the two rows is written. -/
def Only2 (vL vH : Value) (w w' : World) : Prop := ∃ wm, w.grownBy wm vL.ownBlock ∧ wm.grownBy w' vH.ownBlock
set_option maxRecDepth 100000 in
set_option maxHeartbeats 2000000 in
theorem overBand_call (base : Nat) (aL aH : Option Addr) (nL nH cL cH : Nat) (lo hi : List Int) (w : World) (h : TwoOwn base (.slice aL nL cL) (.slice aH nH cH) lo hi w) (n1 : lo.length ≤ 1000) (n2 : hi.length ≤ 1000) :
    Calls Try.prog 19 #[bdV aL nL cL aH nH cH] w fun e w' => e = .returned (.tuple #[]) ∧ Only2 (.slice aL nL cL) (.slice aH nH cH) w w' := by
  have H := Lib.hid (h.alloc (.cells (bdC aL nL cL aH nH cH) 24))
  have hne1 : (Value.slice aL nL cL).ownBlock ≠ some w.heap.size := fun e => by have := (h.L.lt _ e).2; omega
  have hX := block_new w (.cells (bdC aL nL cL aH nH cH) 24) rfl
  have HX := Lib.hid (And.intro hX hne1)
  clear h hX hne1
  unfold bdV
  unfold bdC at *
  go_enter Try.func19, Try.ntmps19
  go_wp2_with fail
  refine (overInts_call base _ _ _ _ H.out.L (by omega)).mono ?_; rintro e w1 ⟨rfl, hg⟩
  have hX1 : w1.heap[w.heap.size]? = some (.cells #[.slice aL nL cL, .slice aH nH cH] 24 (0, 0)) := (hg.block _ (lt_of_block HX.out.1) (fun e => HX.out.2 e.symm)).trans HX.out.1
  obtain ⟨k0, k1⟩ := two_facts hX1
  have hH : w1.ownsRow base 3 1 (.slice aH nH cH) hi.length (flatI hi) := own_keep H.out.H hg (by
    cases hv : (Value.slice aL nL cL).ownBlock with
    | none => exact Or.inl rfl
    | some g => exact Or.inr (H.out.A g hv))
  have HH := Lib.hid (And.intro hH hg)
  clear hH hg hX1
  go_wp2_with fail
  refine (overInts_call base _ _ _ _ HH.out.1 (by omega)).mono ?_; rintro e w2 ⟨rfl, hg⟩
  have HG := Lib.hid hg
  clear hg
  go_wp2_with fail
  go_end0
  exact ⟨rfl, w1, (World.grownBy_alloc w _ _).trans HH.out.2, HG.out⟩
end Go.Proofs.Ytojjhkahigdkoaa
