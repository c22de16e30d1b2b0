/-
  Layer 1 (bits): results overwritten.
-/
import Derived.Test.YthabecfajponfaaBtN
namespace Go.Proofs.Ythabecfajponfaa
open Go.RowKit BitsMath ParityMath MyHeap MyCopy MyOwn

def VPost (B : Nat) (v : Value) (w : World) (e : Ending) (w' : World) : Prop := e = .returned (.tuple #[]) ∧ Below B w w' ∧ w.grownBy w' v.ownBlock
def OvK (g n : Nat) (w W : World) : Prop := Only g w W ∧ ∃ cs T, W.heap[g]? = some (.cells cs T (0, 0)) ∧ n ≤ cs.size
set_option maxRecDepth 100000 in
theorem overBytes_some (g n c : Nat) (w : World) (cs : Array Value) (T : TypeId) (h : w.heap[g]? = some (.cells cs T (0, 0))) (hn : n ≤ cs.size) (hm : n ≤ 1000000) :
    Calls Try.prog 41 #[.slice (some ⟨g, 0, none⟩) n c] w fun e w' => e = .returned (.tuple #[]) ∧ Only g w w' := by
  have K := Lib.hid (show OvK g n w w from ⟨Only.refl _ _, cs, T, h, hn⟩)
  clear h hn
  go_enter Try.func41, Try.ntmps41
  go_wp2
  go_loopw [2] (fun kv wr => ∃ k : Nat, k ≤ n ∧ kv = .int .i64 k ∧ OvK g n w wr) (fun kv _ => n - (intOf kv).toNat)
  case atStart => exact ⟨0, Nat.zero_le _, rfl, K.out⟩
  case round =>
    clear K
    obtain ⟨k, hk, rfl, hK⟩ := hrel
    have HK := Lib.hid hK
    by_cases hlt : k < n
    · obtain ⟨hO, ds, T', hd, hds⟩ := hK
      have hk0 : (0 : Int) ≤ (k : Int) := by omega
      have hk1 : (k : Int) < (n : Int) := by omega
      obtain ⟨u0, hu0⟩ : ∃ u0, ds[k]? = some u0 := ⟨_, Array.getElem?_eq_getElem (by omega)⟩
      have x0 : wr.cell? ⟨g, k, none⟩ = some u0 := cell_of_block hd hu0
      have f0 : wr.frozen? ⟨g, k, none⟩ = false := free_of_block hd
      have HD := Lib.hid (And.intro hO (And.intro hd hds))
      clear hO hd hds hu0
      go_wp2
      go_roundw
      case rel => exact ⟨k + 1, by omega, by go_num, HD.out.1.setCell k _, _, _, block_setCell HD.out.2.1, by simpa using HD.out.2.2⟩
      case measure => simp [intOf]; omega
    · obtain rfl : k = n := by omega
      clear hK
      go_wp2
      go_end0
      exact ⟨rfl, HK.out.1⟩
theorem overBytes_nil (w : World) : Calls Try.prog 41 #[.slice none 0 0] w fun e w' => e = .returned (.tuple #[]) ∧ w = w' := by
  go_enter Try.func41, Try.ntmps41
  go_wp2
  refine wp_loop_rounds 1 ?_
  rw [rounds_succ]
  go_wp2
  go_end0
  exact ⟨rfl, rfl⟩
theorem over_call (base : Nat) (v : Value) (n : Nat) (xs : List Value) (w : World) (h : w.ownsRow base 5 1 v n xs) (hb : base ≤ w.heap.size) (hm : n ≤ 1000000) : Calls Try.prog 25 #[v] w (VPost base v w) := by
  rcases h.2 with ⟨rfl, rfl⟩ | ⟨g, cap, cur, rfl, hg, hh, hc, hcm, hcs, ht⟩
  · clear h
    go_enter Try.func25, Try.ntmps25
    go_wp2_with fail
    refine (overBytes_nil _).mono ?_; rintro e w1 ⟨rfl, rfl⟩
    go_wp2_with fail
    go_end0
    exact ⟨rfl, Below.refl _ _, ⟨rfl, rfl, rfl, Nat.le_refl _, fun _ _ _ => rfl⟩⟩
  · have H := Lib.hid (And.intro hh (show n ≤ cur.size by omega))
    clear h hh ht hcs
    go_enter Try.func25, Try.ntmps25
    go_wp2_with fail
    refine (overBytes_some g n cap _ cur _ H.out.1 H.out.2 hm).mono ?_; rintro e w1 ⟨rfl, hO⟩
    have HO := Lib.hid hO
    clear hO
    go_wp2_with fail
    go_end0
    exact ⟨rfl, HO.out.below hg hb, HO.out⟩
theorem own_apart {W W' : World} {b1 b2 : Nat} {e e' : TypeId} {s s' : Nat} {v v' : Value} {n n' : Nat} {xs xs' : List Value} (h : W.ownsRow b1 e s v n xs) (h' : W'.ownsRow b2 e' s' v' n' xs') (hb : W.heap.size ≤ b2) : v.ownBlock = none ∨ v'.ownBlock ≠ v.ownBlock := by
  cases hv : v.ownBlock with
  | none => exact Or.inl rfl
  | some g =>
    refine Or.inr (fun e => ?_)
    have h1 := (h.lt g hv).2
    have h2 := (h'.lt g e).1
    omega
/-- A result, as it reads: nothing where there is an error. -/
theorem ownR_u8s {base : Nat} {E : Int} {ys : List Nat} {v : Value} {w : World} (h : OwnR base E ys v w) (hm : ys.length ≤ 1000) : ∃ a n c, v = .slice a n c ∧ U8s w a n (if E = 0 then ys else []) ∧ w.ownsRow base 5 1 v n (flatU (if E = 0 then ys else [])) ∧ n ≤ 1000 := by
  by_cases hE : E = 0
  · have hO := h.1 hE
    obtain ⟨a, c, hv, hU, _⟩ := own_u8s hO rfl (by omega)
    rw [if_pos hE]
    exact ⟨a, _, c, hv, hU, hO, hm⟩
  · have hv := h.2 hE
    subst hv
    rw [if_neg hE]
    exact ⟨none, 0, 0, rfl, ⟨rfl, by decide, Or.inl rfl⟩, own_nil _ _ _ _, by decide⟩
end Go.Proofs.Ythabecfajponfaa
