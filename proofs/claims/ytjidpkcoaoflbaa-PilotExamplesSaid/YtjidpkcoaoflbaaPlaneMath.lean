/-
  Plain laws of layer 36 (plane): the motion of a state. No program in sight.
-/
namespace PlaneMath

/-- Is a state one of an aircraft? -/
def stB (z v : Int) : Bool := decide (-1000 ≤ z ∧ z ≤ 50000 ∧ -100 ≤ v ∧ v ≤ 100)
def stE (z v : Int) : Int := if stB z v then 0 else 1
/-- Are bounds in order? -/
def bdB (lo hi : Int) : Bool := decide (-100 ≤ lo ∧ lo ≤ hi ∧ hi ≤ 100)
def inZ (z : Int) : Bool := decide (-1000 ≤ z ∧ z ≤ 50000)
/-- The rate after a cycle, whatever the altitude. -/
def rate (v lo hi pull : Int) : Int := if v < lo then min (v + pull) lo else if hi < v then max (v - pull) hi else v
/-- The altitude, the rate, and whether a limit was reached. -/
def nxtZ (z v : Int) : Int := if inZ (z + v) then z + v else min (max (z + v) (-1000)) 50000
def nxtV (z v lo hi pull : Int) : Int := if inZ (z + v) then rate v lo hi pull else 0
def nxtL (z v : Int) : Bool := !inZ (z + v)

theorem stB_iff {z v : Int} : stB z v = true ↔ -1000 ≤ z ∧ z ≤ 50000 ∧ -100 ≤ v ∧ v ≤ 100 := by simp [stB]
theorem bdB_iff {lo hi : Int} : bdB lo hi = true ↔ -100 ≤ lo ∧ lo ≤ hi ∧ hi ≤ 100 := by simp [bdB]
theorem inZ_iff {z : Int} : inZ z = true ↔ -1000 ≤ z ∧ z ≤ 50000 := by simp [inZ]

theorem rate_bd {v lo hi pull : Int} (h0 : -100 ≤ v) (h1 : v ≤ 100) (hb : bdB lo hi = true) (hp : 0 ≤ pull) : -100 ≤ rate v lo hi pull ∧ rate v lo hi pull ≤ 100 := by
  have hb := bdB_iff.1 hb
  unfold rate
  split
  · omega
  · split <;> omega
theorem nxt_st {z v lo hi pull : Int} (h : stB z v = true) (hb : bdB lo hi = true) (hp : 0 ≤ pull) : stB (nxtZ z v) (nxtV z v lo hi pull) = true := by
  have h := stB_iff.1 h
  have hr := rate_bd h.2.2.1 h.2.2.2 hb hp
  rw [stB_iff]
  unfold nxtZ nxtV
  cases hz : inZ (z + v) with
  | true => have := inZ_iff.1 hz; simp; omega
  | false => simp; omega

/-! ### k cycles under the same bounds -/
/-- The altitude, the rate, and whether a limit was reached within k cycles. -/
def it (lo hi pull : Int) : Nat → Int → Int → Int × Int × Bool
  | 0, z, v => (z, v, false)
  | k + 1, z, v => (nxtZ (it lo hi pull k z v).1 (it lo hi pull k z v).2.1, nxtV (it lo hi pull k z v).1 (it lo hi pull k z v).2.1 lo hi pull, (it lo hi pull k z v).2.2 || nxtL (it lo hi pull k z v).1 (it lo hi pull k z v).2.1)
def itZ (lo hi pull : Int) (k : Nat) (z v : Int) : Int := (it lo hi pull k z v).1
def itV (lo hi pull : Int) (k : Nat) (z v : Int) : Int := (it lo hi pull k z v).2.1
def itL (lo hi pull : Int) (k : Nat) (z v : Int) : Bool := (it lo hi pull k z v).2.2
theorem itZ_succ (lo hi pull : Int) (k : Nat) (z v : Int) : itZ lo hi pull (k + 1) z v = nxtZ (itZ lo hi pull k z v) (itV lo hi pull k z v) := rfl
theorem itV_succ (lo hi pull : Int) (k : Nat) (z v : Int) : itV lo hi pull (k + 1) z v = nxtV (itZ lo hi pull k z v) (itV lo hi pull k z v) lo hi pull := rfl
theorem itL_succ (lo hi pull : Int) (k : Nat) (z v : Int) : itL lo hi pull (k + 1) z v = (itL lo hi pull k z v || nxtL (itZ lo hi pull k z v) (itV lo hi pull k z v)) := rfl
theorem it_st {lo hi pull : Int} (hb : bdB lo hi = true) (hp : 0 ≤ pull) (k : Nat) {z v : Int} (h : stB z v = true) : stB (itZ lo hi pull k z v) (itV lo hi pull k z v) = true := by
  induction k with
  | zero => exact h
  | succ k ih => rw [itZ_succ, itV_succ]; exact nxt_st ih hb hp
theorem itL_mono {lo hi pull : Int} {k n : Nat} (hk : k ≤ n) {z v : Int} (h : itL lo hi pull k z v = true) : itL lo hi pull n z v = true := by
  induction n with
  | zero => obtain rfl : k = 0 := by omega
            exact h
  | succ n ih =>
    by_cases e : k = n + 1
    · subst e; exact h
    · rw [itL_succ, ih (by omega)]; rfl

/-- Are the arguments of Reach good? -/
def rchB (z v pull n : Int) : Bool := stB z v && decide (0 ≤ pull ∧ pull ≤ 32) && decide (0 ≤ n ∧ n ≤ 256)
def rchT (z v pull n : Int) : Int × Int × Int :=
  if rchB z v pull n then
    (if itL (-100) (-100) pull n.toNat z v || itL 100 100 pull n.toNat z v then (0, 0, 7) else (itZ (-100) (-100) pull n.toNat z v, itZ 100 100 pull n.toNat z v, 0))
  else (0, 0, 1)
def rchD (z v pull n : Int) : Int := (rchT z v pull n).1
def rchU (z v pull n : Int) : Int := (rchT z v pull n).2.1
def rchE (z v pull n : Int) : Int := (rchT z v pull n).2.2
theorem rch_no {z v pull n : Int} (h : rchB z v pull n = false) : rchD z v pull n = 0 ∧ rchU z v pull n = 0 ∧ rchE z v pull n = 1 := by
  unfold rchD rchU rchE rchT; rw [h]; exact ⟨rfl, rfl, rfl⟩
theorem rch_lim {z v pull : Int} {n : Nat} (h : rchB z v pull n = true) (hl : (itL (-100) (-100) pull n z v || itL 100 100 pull n z v) = true) : rchD z v pull n = 0 ∧ rchU z v pull n = 0 ∧ rchE z v pull n = 7 := by
  unfold rchD rchU rchE rchT; rw [h, if_pos rfl, Int.toNat_natCast, hl]; exact ⟨rfl, rfl, rfl⟩
theorem rch_ok {z v pull : Int} {n : Nat} (h : rchB z v pull n = true) (hl : (itL (-100) (-100) pull n z v || itL 100 100 pull n z v) = false) : rchD z v pull n = itZ (-100) (-100) pull n z v ∧ rchU z v pull n = itZ 100 100 pull n z v ∧ rchE z v pull n = 0 := by
  unfold rchD rchU rchE rchT; rw [h, if_pos rfl, Int.toNat_natCast, hl]; exact ⟨rfl, rfl, rfl⟩
end PlaneMath
