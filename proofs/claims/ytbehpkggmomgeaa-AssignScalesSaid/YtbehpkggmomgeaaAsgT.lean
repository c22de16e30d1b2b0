/-
  Layer 19 (assign): the law's own changed.
-/
import Derived.Test.YtbehpkggmomgeaaAsgS
import Derived.Test.YtbehpkggmomgeaaAsgD
import Derived.Test.YtbehpkggmomgeaaAsgSc
namespace Go.Proofs.Ytbehpkggmomgeaa
open Go.RowKit AsgRows AsgMath MyHeap MyOwn MyCopy

/-- The entries ahead of row i, column k are changed. -/
structure Ch (L Lc : List (List Int)) (n m : Nat) (t p : Int) (i k : Nat) : Prop where
  len : Lc.length = n
  row : ∀ r, r < n → (rowL Lc r).length = m
  new : ∀ r j, r < n → j < m → r < i ∨ (r = i ∧ j < k) → AsgRows.ent Lc r j = chg t p (AsgRows.ent L r j)
  old : ∀ r j, r < n → j < m → ¬ (r < i ∨ (r = i ∧ j < k)) → AsgRows.ent Lc r j = AsgRows.ent L r j
theorem Ch.next {L Lc : List (List Int)} {n m : Nat} {t p : Int} {i : Nat} (h : Ch L Lc n m t p i m) : Ch L Lc n m t p (i + 1) 0 :=
  ⟨h.len, h.row, fun r j hr hj q => h.new r j hr hj (by omega), fun r j hr hj q => h.old r j hr hj (by omega)⟩
theorem Ch.pass {L Lc : List (List Int)} {n m : Nat} {t p : Int} {i k : Nat} (h : Ch L Lc n m t p i k) (hx : ¬ 0 ≤ AsgRows.ent L i k) : Ch L Lc n m t p i (k + 1) := by
  refine ⟨h.len, h.row, fun r j hr hj q => ?_, fun r j hr hj q => h.old r j hr hj (by omega)⟩
  by_cases e : r = i ∧ j = k
  · obtain ⟨rfl, rfl⟩ := e
    rw [h.old r j hr hj (by omega)]
    unfold chg
    rw [if_neg hx]
  · exact h.new r j hr hj (by omega)
theorem Ch.set {L Lc : List (List Int)} {n m : Nat} {t p : Int} {i k : Nat} (h : Ch L Lc n m t p i k) (hi : i < n) (hk : k < m) (hx : 0 ≤ AsgRows.ent L i k) : Ch L (setR Lc i k (AsgRows.ent L i k * t + p)) n m t p i (k + 1) := by
  have h1 : i < Lc.length := by rw [h.len]; exact hi
  have h2 : k < (rowL Lc i).length := by rw [h.row i hi]; exact hk
  refine ⟨by rw [setR_len]; exact h.len, fun r hr => by rw [setR_rlen h1]; exact h.row r hr, fun r j hr hj q => ?_, fun r j hr hj q => ?_⟩
  · rw [setR_ent h1 h2]
    by_cases e : i = r ∧ k = j
    · rw [if_pos e]
      obtain ⟨rfl, rfl⟩ := e
      unfold chg
      rw [if_pos hx]
    · rw [if_neg e]; exact h.new r j hr hj (by omega)
  · rw [setR_ent h1 h2, if_neg (by omega)]
    exact h.old r j hr hj (by omega)
def ChPost (L : List (List Int)) (n m : Nat) (t p : Int) (w : World) (e : Ending) (w' : World) : Prop :=
  ∃ v vs Lc, e = .returned v ∧ OwnM w' w.heap.size v vs Lc ∧ Ch L Lc n m t p n 0 ∧ Below w.heap.size w w'

set_option maxRecDepth 100000 in
set_option maxHeartbeats 8000000 in
theorem changed_call (a : Option Addr) (n c m : Nat) (L : List (List Int)) (t p : Int) (w : World) (hM : Ma w a n L m) (ht : 1 ≤ t) (ht2 : t ≤ 256) (hp : 0 ≤ p) (hp2 : p ≤ 255) :
    Calls Try.prog 19 #[.slice a n c, .int .i64 t, .int .i64 p] w (ChPost L n m t p w) := by
  have HM := Lib.hid hM
  have m16 := hM.m16
  have n16 : n ≤ 16 := by have := hM.ok.n16; rw [hM.M.len] at this; exact this
  have HRL := Lib.hid (show ∀ i, i < n → (rowL L i).length = m from fun i hi => by rw [hM.ok.form i (by rw [hM.M.len]; exact hi), hM.wd])
  clear hM
  go_enter Try.func19, Try.ntmps19
  go_wp2_with fail
  refine (copyRows_call a n c L _ HM.out.M (by omega) (fun i hi => by rw [HRL.out i hi]; omega)).mono ?_
  rintro e w1 ⟨v, vs, rfl, hO, hb⟩
  have hln := HM.out.M.len
  obtain ⟨ao, co, rfl, -⟩ := hO.mtx (by rw [hln]; omega) (fun i hi => by rw [hln] at hi; rw [HRL.out i hi]; omega)
  rw [hln] at hO ⊢
  have K := Lib.hid (And.intro hO (And.intro (show Ch L L n m t p 0 0 from ⟨hln, HRL.out, fun r j _ _ q => by omega, fun _ _ _ _ _ => rfl⟩) hb))
  clear hO hb hln
  go_wp2_with fail
  go_loopw [8] (fun iv wr => ∃ (i : Nat) (Lc : List (List Int)), i ≤ n ∧ iv = .int .i64 i ∧ OwnM wr w.heap.size (.slice ao n co) vs Lc ∧ Ch L Lc n m t p i 0 ∧ Below w.heap.size w wr) (fun iv _ => n - (intOf iv).toNat)
  case atStart => exact ⟨0, L, Nat.zero_le _, rfl, K.out.1, K.out.2.1, K.out.2.2⟩
  case round =>
    clear K
    obtain ⟨i, Lc, hi, rfl, hO, hC, hB⟩ := hrel
    have K := Lib.hid (And.intro hO (And.intro hC hB))
    clear hO hC hB
    by_cases hin : i < n
    · have hi0 : (0 : Int) ≤ (i : Int) := by omega
      have hi1 : (i : Int) < (n : Int) := by omega
      go_wp2_with fail
      go_loopw [9] (fun kv wr => ∃ (k : Nat) (Lc : List (List Int)), k ≤ m ∧ kv = .int .i64 k ∧ OwnM wr w.heap.size (.slice ao n co) vs Lc ∧ Ch L Lc n m t p i k ∧ Below w.heap.size w wr) (fun kv _ => m - (intOf kv).toNat)
      case atStart => exact ⟨0, Lc, Nat.zero_le _, rfl, K.out.1, K.out.2.1, K.out.2.2⟩
      case round =>
        clear K
        obtain ⟨k, Lc, hk, rfl, hO, hC, hB⟩ := hrel
        have K := Lib.hid (And.intro hO (And.intro hC hB))
        clear hO hC hB
        obtain ⟨u, hu, huo⟩ := K.out.1.row i (by rw [K.out.2.1.len]; exact hin)
        obtain ⟨g, cg, hv, hc1, hg⟩ := own_top_at K.out.1.top hu
        obtain ⟨ra, rc, rfl, -⟩ := ints_own rfl huo (by rw [K.out.2.1.row i hin]; omega)
        rw [K.out.2.1.row i hin] at hc1
        rw [K.out.2.1.len] at hv
        cases hv
        by_cases hkm : k < m
        · have hk0 : (0 : Int) ≤ (k : Int) := by omega
          have hk1 : (k : Int) < (m : Int) := by omega
          obtain ⟨g2, c2, g', c', hv, hd1, hd2, hd3, hd4, hd5, hd6, hset⟩ := K.out.1.at' (i := i) (k := k) (by rw [K.out.2.1.len]; exact hin) (by rw [K.out.2.1.row i hin]; exact hkm)
          rw [K.out.2.1.len] at hv
          cases hv
          rw [K.out.2.1.row i hin, hc1] at hd1
          cases hd1
          have hold := K.out.2.1.old i k hin hkm (by omega)
          rw [hold] at hd2
          have e1 := HM.out.hi2 i k hin hkm
          have HS := Lib.hid hset
          obtain ⟨X, hX⟩ : ∃ X, AsgRows.ent L i k = X := ⟨_, rfl⟩
          have HX := Lib.hid hX
          rw [hX] at hd2 e1
          clear hset hold hX hu huo
          by_cases hx : 0 ≤ X
          · have hm1 : X * t ≤ 1048576 * 256 := Int.mul_le_mul e1 ht2 (by omega) (by omega)
            have hm0 : 0 ≤ X * t := Int.mul_nonneg hx (by omega)
            have hw1 : IntKind.i64.wrap (X * t) = X * t := IntWalk.i64_in _ (by omega)
            have hw2 : IntKind.i64.wrap (X * t + p) = X * t + p := IntWalk.i64_in _ (by omega)
            have HC := Lib.hid (K.out.2.1.set hin hkm (by rw [HX.out]; exact hx))
            go_wp2_with fail
            go_region
            all_goals
              go_wp2_with fail
              go_roundw
              case rel => exact ⟨k + 1, _, by omega, by go_num, by
                have h := (HS.out (X * t + p)).keep (below_drew _)
                exact h, by
                have h := HC.out
                rw [HX.out] at h
                exact h, below_drewN (below_new K.out.2.2 hd6 _ _) 1⟩
              case measure => simp [intOf]; omega
          · have HC := Lib.hid (K.out.2.1.pass (by rw [HX.out]; exact hx))
            go_wp2_with fail
            go_roundw
            case rel => exact ⟨k + 1, Lc, by omega, by go_num, K.out.1, HC.out, K.out.2.2⟩
            case measure => simp [intOf]; omega
        · obtain rfl : m = k := by omega
          clear hk hkm hu huo
          go_wp2_with fail
          go_roundw
          case rel => exact ⟨i + 1, Lc, by omega, by go_num, K.out.1, K.out.2.1.next, K.out.2.2⟩
          case measure => simp [intOf]; omega
    · obtain rfl : n = i := by omega
      clear hi hin
      go_wp2_with fail
      go_ret
      exact ⟨_, vs, Lc, rfl, K.out.1, K.out.2.1, K.out.2.2⟩
end Go.Proofs.Ytbehpkggmomgeaa
