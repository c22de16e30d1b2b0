/-
  Layer 18 (altitude): the reference's rates, distance and Empty.
-/
import Derived.Test.YtojjhkahigdkoaaAltM
import Derived.Test.YtojjhkahigdkoaaAltO
import Derived.Test.YtojjhkahigdkoaaAltS
namespace Go.Proofs.Ytojjhkahigdkoaa
open Go.RowKit AltMath MyHeap MyCopy MyOwn

/-- The rates with altitudes, as numbers. -/
def rL (lo hi : List Int) (k : Nat) : List Int := (ofL lo hi 0 k).map fun (i : Nat) => (i : Int)
theorem rL_len (lo hi : List Int) (k : Nat) : (rL lo hi k).length = (ofL lo hi 0 k).length := by simp [rL]
theorem rL_le (lo hi : List Int) (k : Nat) : (rL lo hi k).length ≤ k := by rw [rL_len]; exact ofL_len lo hi 0 k
theorem rL_yes {lo hi : List Int} {k : Nat} (h : ¬ nonAt lo hi k) : rL lo hi (k + 1) = rL lo hi k ++ [(k : Int)] := by
  unfold rL
  rw [show ofL lo hi 0 (k + 1) = ofL lo hi 0 k ++ [k] from by rw [ofL, Nat.zero_add, if_neg h], List.map_append]
  rfl
theorem rL_no {lo hi : List Int} {k : Nat} (h : nonAt lo hi k) : rL lo hi (k + 1) = rL lo hi k := by
  unfold rL
  rw [show ofL lo hi 0 (k + 1) = ofL lo hi 0 k from by rw [ofL, Nat.zero_add, if_pos h]]
/-- Between two rounds. -/
def RtK (w0 : World) (aL : Option Addr) (cL : Nat) (aH : Option Addr) (cH : Nat) (lo hi : List Int) (k : Nat) (v : Value) (W : World) : Prop :=
  (Below w0.heap.size w0 W ∧ W.heap[w0.heap.size]? = some (.cells #[.slice aL 201 cL, .slice aH 201 cH] 24 (0, 0))) ∧ (Ints W aL 201 lo ∧ Ints W aH 201 hi) ∧ W.ownsRow (w0.heap.size + 1) 3 1 v (rL lo hi k).length (flatI (rL lo hi k))
def RtPost (lo hi : List Int) (w : World) (e : Ending) (w' : World) : Prop := ∃ a c, e = .returned (.slice a (rL lo hi 201).length c) ∧ Ints w' a (rL lo hi 201).length (rL lo hi 201) ∧ Below w.heap.size w w'
theorem RtK.grow {w0 W W' : World} {aL aH : Option Addr} {cL cH : Nat} {lo hi : List Int} {k : Nat} {v v' : Value} (h : RtK w0 aL cL aH cH lo hi k v W) (hn : ¬ nonAt lo hi k) (hg : W.grownBy W' v.ownBlock) (ho : W'.ownsRow (w0.heap.size + 1) 3 1 v' ((rL lo hi k).length + 1) (flatI (rL lo hi k) ++ [.int .i64 (k : Int)])) (hL : Ints W' aL 201 lo) (hH : Ints W' aH 201 hi) : RtK w0 aL cL aH cH lo hi (k + 1) v' W' := by
  have hb : Below (w0.heap.size + 1) W W' := ⟨hg.os, hg.tape, hg.output, hg.size, fun i hi' => hg.block i (Nat.lt_of_lt_of_le hi' (lt_of_block h.1.2)) (fun e => by have := (h.2.2.lt i e.symm).1; omega)⟩
  refine ⟨⟨h.1.1.trans (hb.mono (by omega)), (hb.block _ (by omega)).trans h.1.2⟩, ⟨hL, hH⟩, ?_⟩
  rw [rL_yes hn, flatI_snoc, List.length_append]
  exact ho
theorem ints_base {W0 W W' : World} {a : Option Addr} {n : Nat} {l : List Int} (h : Ints W0 a n l) (hb : Below W0.heap.size W0 W) (hc : Below W0.heap.size W W') : Ints W' a n l := h.below (hb.trans hc)

set_option maxRecDepth 100000 in
set_option maxHeartbeats 8000000 in
theorem rates_call (aL aH : Option Addr) (cL cH : Nat) (lo hi : List Int) (w : World) (hE : chB lo hi = 0) (hL : Ints w aL 201 lo) (hH : Ints w aH 201 hi) :
    Calls Try.prog 48 #[bdV aL 201 cL aH 201 cH] w (RtPost lo hi w) := by
  obtain ⟨i0, hi0, hz0, hs0, hb0⟩ := info_parts' infoI
  have HI := Lib.hid (And.intro hi0 (And.intro hz0 (And.intro hs0 hb0)))
  have K := Lib.hid (show RtK w aL cL aH cH lo hi 0 (.slice none 0 0) (w.alloc (.cells #[.slice aL 201 cL, .slice aH 201 cH] 24)) from ⟨⟨below_alloc _ _, block_new _ _ rfl⟩, ⟨hL.below (below_alloc _ _), hH.below (below_alloc _ _)⟩, ⟨rfl, Or.inl ⟨rfl, rfl⟩⟩⟩)
  have H0 := Lib.hid (And.intro hE (And.intro hL hH))
  clear hi0 hz0 hs0 hb0 hE hL hH
  unfold bdV
  go_enter Try.func48, Try.ntmps48
  go_wp2_with fail
  go_loopw [3, 4] (fun s kv wr => ∃ k : Nat, k ≤ 201 ∧ kv = .int .i64 k ∧ RtK w aL cL aH cH lo hi k s wr) (fun _ kv _ => 201 - (intOf kv).toNat)
  case atStart => exact ⟨0, Nat.zero_le _, rfl, K.out⟩
  case round =>
    clear K
    obtain ⟨k, hk, rfl, hK⟩ := hrel
    have K := Lib.hid hK
    clear hK
    obtain ⟨aR, cR, rfl⟩ := own_slice K.out.2.2
    by_cases hlt : k < 201
    · have hk1 : (k : Int) < 201 := by omega
      obtain ⟨k0, k1, -, -⟩ := two_facts K.out.1.2
      by_cases hn : nonAt lo hi k
      · have e1 : decide (gi lo k ≤ gi hi k) = false := decide_eq_false (fun e => (has_iff (chB_ok H0.out.1).2.2 hlt).1 e hn)
        have HN := Lib.hid hn
        clear hn
        go_wp2_with fail
        refine (has_call aL aH 201 201 cL cH lo hi k _ K.out.2.1.1 K.out.2.1.2 hlt hlt).mono ?_; rintro e w2 ⟨rfl, hb⟩
        rw [e1]
        replace K := Lib.hid (show RtK w aL cL aH cH lo hi (k + 1) (.slice aR (rL lo hi k).length cR) w2 from ⟨⟨K.out.1.1.trans (hb.mono K.out.1.1.size), keepO hb K.out.1.2⟩, ⟨K.out.2.1.1.below hb, K.out.2.1.2.below hb⟩, by rw [rL_no HN.out]; exact ownsRow_below K.out.2.2 hb (Nat.le_refl _)⟩)
        clear hb k0 k1
        go_wp2_with fail
        go_roundw
        case rel => exact ⟨k + 1, by omega, by go_num, K.out⟩
        case measure => simp [intOf]; omega
      · have e1 : decide (gi lo k ≤ gi hi k) = true := decide_eq_true ((has_iff (chB_ok H0.out.1).2.2 hlt).2 hn)
        have HN := Lib.hid hn
        clear hn
        go_wp2_with fail
        refine (has_call aL aH 201 201 cL cH lo hi k _ K.out.2.1.1 K.out.2.1.2 hlt hlt).mono ?_; rintro e w2 ⟨rfl, hb⟩
        rw [e1]
        replace K := Lib.hid (show RtK w aL cL aH cH lo hi k (.slice aR (rL lo hi k).length cR) (w2.alloc (.cells #[.int .i64 (k : Int)] 3)) from ⟨⟨(K.out.1.1.trans (hb.mono K.out.1.1.size)).alloc (Nat.le_trans K.out.1.1.size hb.size) _, block_alloc (keepO hb K.out.1.2)⟩, ⟨(K.out.2.1.1.below hb).below (below_alloc _ _), (K.out.2.1.2.below hb).below (below_alloc _ _)⟩, (ownsRow_below K.out.2.2 hb (Nat.le_refl _)).alloc _⟩)
        have hr := Lib.hid (rL_le lo hi k)
        clear hb k0 k1
        go_wp2_with (at_builtin; refine wpList_append_own _ rfl _ _ 22 rfl (w.heap.size + 1) 3 i0 _ 1 8 Try.underlying22 HI.out.1 HI.out.2.1 HI.out.2.2.1 HI.out.2.2.2 rfl (by decide) _ (rL lo hi k).length _ rfl K.out.2.2 ⟨w2.heap.size, 0, none⟩ 1 1 [.int .i64 (k : Int)] rfl rfl ?c1 ?c2 ?c3 ?c4 ?c5 ?_; rotate_right; intro v7 w7 hown7 hgrow _)
        case c1 => exact cells_one rfl
        case c2 => intro u hu; simp at hu; subst hu; rfl
        case c3 => have := hr.out; unfold maxLen; omega
        case c4 => have := hr.out; omega
        case c5 => exact lt_of_block K.out.1.2
        have hb : Below w.heap.size (w2.alloc (.cells #[.int .i64 (k : Int)] 3)) w7 := ⟨hgrow.os, hgrow.tape, hgrow.output, hgrow.size, fun i hi' => hgrow.block i (Nat.lt_of_lt_of_le hi' K.out.1.1.size) (fun e => by have := (K.out.2.2.lt i e.symm).1; omega)⟩
        have K2 := Lib.hid (K.out.grow HN.out hgrow hown7 (ints_base H0.out.2.1 K.out.1.1 hb) (ints_base H0.out.2.2 K.out.1.1 hb))
        clear hgrow hown7 hb K
        go_wp2_with fail
        go_roundw
        case rel => exact ⟨k + 1, by omega, by go_num, K2.out⟩
        case measure => simp [intOf]; omega
    · obtain rfl : k = 201 := by omega
      go_wp2
      go_ret
      obtain ⟨a, c, e, hI⟩ := ints_own rfl K.out.2.2 (Nat.le_trans (rL_le lo hi 201) (by decide))
      exact ⟨a, c, congrArg _ e, hI, K.out.1.1⟩

set_option maxRecDepth 100000 in
set_option maxHeartbeats 4000000 in
theorem dist_call (l h s f : Int) (i : Nat) (w : World) (hi : i < 201) (s0 : -1000 ≤ s) (s1 : s ≤ 1000) (f0 : -1000 ≤ f) (f1 : f ≤ 1000) :
    Calls Try.prog 50 #[.int .i64 (i : Int), .agg #[.int .i64 l, .int .i64 h, .int .i64 s, .int .i64 f]] w fun e w' => e = .returned (.int .i64 (farV s f ((i : Int) - 100))) ∧ Below w.heap.size w w' := by
  have B := Lib.hid (below_alloc w (.cells #[.int .i64 l, .int .i64 h, .int .i64 s, .int .i64 f] 53))
  have i0 : (0 : Int) ≤ (i : Int) := by omega
  have i1 : (i : Int) < 201 := by omega
  clear hi
  go_enter Try.func50, Try.ntmps50
  go_wp2_with fail
  all_goals
    go_ret
    exact ⟨congrArg (fun q => Ending.returned (.int .i64 q)) (by unfold farV; omega), B.out⟩
end Go.Proofs.Ytojjhkahigdkoaa
