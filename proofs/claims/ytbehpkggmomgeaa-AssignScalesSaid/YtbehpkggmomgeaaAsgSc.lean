/-
  Layer 19 (assign): costs multiplied and added to: the same best assignment. No program in sight.
-/
import Derived.Test.YtbehpkggmomgeaaAsgMathD
namespace AsgMath

def chg (t p x : Int) : Int := if 0 ≤ x then x * t + p else x
/-- Two values of one number of pairs, the costs related. -/
def Rl (t p : Int) (r : Nat) (v v' : Int) : Prop := ∃ P C D : Int, v = 1073741824 * P - C ∧ v' = 1073741824 * P - D ∧ D = C * t + p * P ∧ 0 ≤ P ∧ P ≤ r ∧ 0 ≤ C ∧ C ≤ 1048576 * P ∧ 0 ≤ D ∧ D ≤ 1048576 * P
theorem mul_lt' {t a b : Int} (ht : 1 ≤ t) (h : a < b) : a * t < b * t := Int.mul_lt_mul_of_pos_right h (by omega)
theorem mul_le' {t a b : Int} (ht : 1 ≤ t) (h : a ≤ b) : a * t ≤ b * t := Int.mul_le_mul_of_nonneg_right h (by omega)
theorem Rl.le {t p : Int} {r s : Nat} {v v' u u' : Int} (ht : 1 ≤ t) (hr : r ≤ 16) (hs : s ≤ 16) (h : Rl t p r v v') (k : Rl t p s u u') : v ≤ u ↔ v' ≤ u' := by
  obtain ⟨P, C, D, e1, e2, e3, a1, a2, a3, a4, a5, a6⟩ := h
  obtain ⟨Q, E, F, f1, f2, f3, b1, b2, b3, b4, b5, b6⟩ := k
  rcases Int.lt_trichotomy P Q with hq | hq | hq
  · constructor <;> intro _ <;> omega
  · subst hq
    constructor
    · intro hle
      have := mul_le' ht (show E ≤ C by omega)
      omega
    · intro hle
      rcases Int.lt_or_le C E with q | q
      · have := mul_lt' ht q
        omega
      · omega
  · constructor <;> intro _ <;> omega
theorem Rl.eq {t p : Int} {r s : Nat} {v v' u u' : Int} (ht : 1 ≤ t) (hr : r ≤ 16) (hs : s ≤ 16) (h : Rl t p r v v') (k : Rl t p s u u') : v = u ↔ v' = u' := by
  have h1 := Rl.le ht hr hs h k
  have h2 := Rl.le ht hs hr k h
  omega
theorem Rl.max {t p : Int} {r : Nat} {v v' u u' : Int} (ht : 1 ≤ t) (hr : r ≤ 16) (h : Rl t p r v v') (k : Rl t p r u u') : Rl t p r (Max.max v u) (Max.max v' u') := by
  have h1 := Rl.le ht hr hr h k
  by_cases hl : v ≤ u
  · rw [Int.max_eq_right hl, Int.max_eq_right (h1.1 hl)]; exact k
  · rw [Int.max_eq_left (by omega), Int.max_eq_left (by omega)]; exact h
theorem Rl.bestK {t p : Int} {r : Nat} {f f' : Nat → Int} {q q' : Nat → Bool} {x x' : Int} (ht : 1 ≤ t) (hr : r ≤ 16) (hx : Rl t p r x x') : ∀ {m : Nat}, (∀ k, k < m → q k = q' k ∧ (q k = true → Rl t p r (f k) (f' k))) → Rl t p r (bestK f q x m) (AsgMath.bestK f' q' x' m)
  | 0, _ => hx
  | m + 1, h => by
    have ih := Rl.bestK ht hr hx (m := m) (fun k hk => h k (by omega))
    obtain ⟨h1, h2⟩ := h m (by omega)
    simp only [AsgMath.bestK]
    rw [← h1]
    by_cases hq : q m = true
    · rw [if_pos hq, if_pos hq]; exact Rl.max ht hr ih (h2 hq)
    · rw [if_neg hq, if_neg hq]; exact ih
theorem chg_ok {c : Nat → Nat → Int} {t p : Int} (ht : 1 ≤ t) (hp : 0 ≤ p) {T : Nat → Bool} {i k : Nat} : okB c T i k = okB (fun i k => chg t p (c i k)) T i k := by
  show (decide (0 ≤ c i k) && !T k) = (decide (0 ≤ chg t p (c i k)) && !T k)
  unfold chg
  by_cases h : 0 ≤ c i k
  · have h2 : 0 ≤ c i k * t + p := by have := Int.mul_nonneg h (show 0 ≤ t by omega); omega
    rw [if_pos h, decide_eq_true h, decide_eq_true h2]
  · rw [if_neg h]
theorem Rl.add {t p : Int} {r : Nat} {v v' x : Int} (ht : 1 ≤ t) (hp : 0 ≤ p) (hx : 0 ≤ x) (hx1 : x ≤ 1048576) (hx2 : x * t + p ≤ 1048576) (h : Rl t p r v v') : Rl t p (r + 1) (1073741824 - x + v) (1073741824 - (x * t + p) + v') := by
  obtain ⟨P, C, D, e1, e2, e3, a1, a2, a3, a4, a5, a6⟩ := h
  have h1 := Int.mul_nonneg hx (show 0 ≤ t by omega)
  refine ⟨P + 1, C + x, D + (x * t + p), by omega, by omega, ?_, by omega, by omega, by omega, by omega, by omega, by omega⟩
  rw [Int.add_mul, Int.mul_add, e3]
  omega
theorem Rl.up {t p : Int} {r : Nat} {v v' : Int} (h : Rl t p r v v') : Rl t p (r + 1) v v' := by
  obtain ⟨P, C, D, e1, e2, e3, a1, a2, a3⟩ := h
  exact ⟨P, C, D, e1, e2, e3, a1, by omega, a3⟩
theorem V_rel {c : Nat → Nat → Int} {n m : Nat} {t p : Int} (ht : 1 ≤ t) (hp : 0 ≤ p) (hn : n ≤ 16) (h1 : ∀ i k, i < n → k < m → c i k ≤ 1048576) (h2 : ∀ i k, i < n → k < m → chg t p (c i k) ≤ 1048576) : ∀ (r : Nat) (T : Nat → Bool), r ≤ n → Rl t p r (V c n m r T) (V (fun i k => chg t p (c i k)) n m r T)
  | 0, _, _ => ⟨0, 0, 0, rfl, rfl, by omega, by omega, by omega, by omega, by omega, by omega, by omega⟩
  | r + 1, T, hr => by
    simp only [V]
    refine Rl.bestK ht (by omega) (V_rel ht hp hn h1 h2 r T (by omega)).up (fun k hk => ⟨chg_ok ht hp, fun hq => ?_⟩)
    obtain ⟨h0, -⟩ := okB_iff.1 hq
    have e : chg t p (c (n - (r + 1)) k) = c (n - (r + 1)) k * t + p := if_pos h0
    have g2 := h2 (n - (r + 1)) k (by omega) hk
    rw [e] at g2
    show Rl t p (r + 1) (1073741824 - c (n - (r + 1)) k + _) (1073741824 - chg t p (c (n - (r + 1)) k) + _)
    rw [e]
    exact Rl.add ht hp h0 (h1 _ k (by omega) hk) g2 (V_rel ht hp hn h1 h2 r (setT T k) (by omega))
theorem bestL_chg {c : Nat → Nat → Int} {n m : Nat} {t p : Int} (ht : 1 ≤ t) (hp : 0 ≤ p) (hn : n ≤ 16) (h1 : ∀ i k, i < n → k < m → c i k ≤ 1048576) (h2 : ∀ i k, i < n → k < m → chg t p (c i k) ≤ 1048576) : ∀ (r : Nat) (T : Nat → Bool), r ≤ n → bestL (fun i k => chg t p (c i k)) n m r T = bestL c n m r T
  | 0, _, _ => rfl
  | r + 1, T, hr => by
    have hf : firstK (takeB (fun i k => chg t p (c i k)) n m r T) m = firstK (takeB c n m r T) m := firstK_congr (fun k hk => by
      unfold takeB
      rw [← chg_ok ht hp]
      by_cases hq : okB c T (n - (r + 1)) k = true
      · rw [hq, Bool.true_and, Bool.true_and]
        obtain ⟨h0, -⟩ := okB_iff.1 hq
        have e : chg t p (c (n - (r + 1)) k) = c (n - (r + 1)) k * t + p := if_pos h0
        have g2 := h2 (n - (r + 1)) k (by omega) hk
        rw [e] at g2
        have ha := Rl.add ht hp h0 (h1 _ k (by omega) hk) g2 (V_rel ht hp hn h1 h2 r (setT T k) (by omega))
        have hb := V_rel ht hp hn h1 h2 (r + 1) T hr
        have hc := Rl.eq ht (by omega) (by omega) ha hb
        rw [← e] at hc
        exact decide_eq_decide.2 hc.symm
      · have : okB c T (n - (r + 1)) k = false := by simpa using hq
        rw [this, Bool.false_and, Bool.false_and])
    cases e : firstK (takeB c n m r T) m with
    | none => rw [(bestL_skip e).1, (bestL_skip (hf.trans e)).1, bestL_chg ht hp hn h1 h2 r T (by omega)]
    | some k => rw [bestL_take e, bestL_take (hf.trans e), bestL_chg ht hp hn h1 h2 r (setT T k) (by omega)]
end AsgMath
