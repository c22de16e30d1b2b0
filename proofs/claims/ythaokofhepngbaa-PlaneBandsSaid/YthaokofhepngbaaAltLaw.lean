/-
  Layer 18 (altitude): the laws Nested, Truth and Point, of plain lists. No program in sight.
-/
import Derived.Test.YthaokofhepngbaaAltMath
namespace AltMath

theorem nm_ok {p : Int × Int} (h1 : -1000 ≤ p.1) (h2 : p.2 ≤ 50000) : ¬ (¬ ((nm p).1 = 1 ∧ (nm p).2 = 0) ∧ ((nm p).1 < -1000 ∨ (nm p).2 < (nm p).1 ∨ 50000 < (nm p).2)) := by
  by_cases h : p.2 < p.1
  · rw [nm_no h]; simp
  · rw [nm_yes (by omega)]; omega
/-- What is put in bounds is valid. -/
theorem ch_nm {f : Nat → Int × Int} (h : ∀ i, i < 201 → -1000 ≤ (f i).1 ∧ (f i).2 ≤ 50000) : chB (loK f 201) (hiK f 201) = 0 := by
  refine chB_zero (loK_len _ _) (hiK_len _ _) fun i hi => ?_
  unfold badAt nonAt
  rw [loK_get f hi, hiK_get f hi]
  exact nm_ok (h i hi).1 (h i hi).2
theorem meE_zero {alt size : Int} (h : meE alt size = 0) : -1000 ≤ alt ∧ alt ≤ 50000 ∧ (size = 25 ∨ size = 100) := by
  unfold meE at h
  by_cases hh : alt < -1000 ∨ 50000 < alt ∨ (size ≠ 25 ∧ size ≠ 100)
  · rw [if_pos hh] at h; cases h
  · omega
theorem maE_zero {lo hi : List Int} {alt size : Int} (h : maE lo hi alt size = 0) : chB lo hi = 0 ∧ meE alt size = 0 := by
  unfold maE at h
  by_cases hh : chB lo hi ≠ 0
  · rw [if_pos hh] at h; exact absurd h hh
  · rw [if_neg hh] at h; exact ⟨Decidable.not_not.1 hh, h⟩
theorem maE_ok {lo hi : List Int} {alt size : Int} (h1 : chB lo hi = 0) (h2 : meE alt size = 0) : maE lo hi alt size = 0 := by
  unfold maE
  rw [if_neg (fun e => e h1)]
  exact h2
theorem ch_ma {lo hi : List Int} {alt size : Int} (h1 : chB lo hi = 0) (h2 : meE alt size = 0) : chB (loK (maF lo hi alt size) 201) (hiK (maF lo hi alt size) 201) = 0 := by
  obtain ⟨a1, a2, a3⟩ := meE_zero h2
  refine ch_nm fun i hi => ?_
  have := ok_bd (chB_ok h1).2.2 hi
  unfold maF
  split
  · exact ⟨by decide, by decide⟩
  · constructor <;> (simp only []; omega)
theorem ch_st {lo hi : List Int} {p : Nat} : chB (loK (stF lo hi p) 201) (hiK (stF lo hi p) 201) = 0 := by
  refine ch_nm fun i _ => ?_
  unfold stF
  cases stA' lo hi p i (stN p i) with
  | none => exact ⟨by decide, by decide⟩
  | some q => unfold clip; constructor <;> (simp only []; omega)

/-- The altitudes of the first are among those of the second. -/
def amB (lo hi lo' hi' : List Int) : Prop := ∀ i, i < 201 → gi lo i ≤ gi hi i → gi lo' i ≤ gi lo i ∧ gi hi i ≤ gi hi' i
theorem nm_le {p : Int × Int} (h : (nm p).1 ≤ (nm p).2) : nm p = p ∧ p.1 ≤ p.2 := by
  by_cases hh : p.2 < p.1
  · rw [nm_no hh] at h; exact absurd h (by decide)
  · exact ⟨nm_yes (by omega), by omega⟩
theorem am_ma {lo hi : List Int} {alt size : Int} : amB (loK (maF lo hi alt size) 201) (hiK (maF lo hi alt size) 201) lo hi := by
  intro i hi'
  rw [loK_get _ hi', hiK_get _ hi']
  intro h
  obtain ⟨e, h1⟩ := nm_le h
  rw [e]
  unfold maF at h1 ⊢
  by_cases hn : nonAt lo hi i
  · rw [if_pos hn] at h1; exact absurd h1 (by decide)
  · rw [if_neg hn] at h1 ⊢
    simp only [] at h1 ⊢
    omega
/-- What is gathered is the bounds of one that counts. -/
theorem acc_some {on : Nat → Prop} [DecidablePred on] {g : Nat → Int × Int} {a k : Nat} {q : Int × Int} (h : acc on g a k = some q) : (∃ i, i < k ∧ on (a + i) ∧ (g (a + i)).1 = q.1) ∧ (∃ i, i < k ∧ on (a + i) ∧ (g (a + i)).2 = q.2) := by
  induction k generalizing q with
  | zero => cases h
  | succ k ih =>
    unfold acc at h
    by_cases ho : on (a + k)
    · rw [if_pos ho] at h
      cases hq : acc on g a k with
      | none =>
        rw [hq] at h
        have e : g (a + k) = q := by simpa [addO] using h
        exact ⟨⟨k, by omega, ho, by rw [e]⟩, ⟨k, by omega, ho, by rw [e]⟩⟩
      | some r =>
        rw [hq] at h
        have e : (min r.1 (g (a + k)).1, max r.2 (g (a + k)).2) = q := by simpa [addO] using h
        obtain ⟨⟨i, i1, i2, i3⟩, ⟨j, j1, j2, j3⟩⟩ := ih hq
        subst e
        refine ⟨?_, ?_⟩
        · by_cases hm : r.1 ≤ (g (a + k)).1
          · exact ⟨i, by omega, i2, by simp only []; omega⟩
          · exact ⟨k, by omega, ho, by simp only []; omega⟩
        · by_cases hm : (g (a + k)).2 ≤ r.2
          · exact ⟨j, by omega, j2, by simp only []; omega⟩
          · exact ⟨k, by omega, ho, by simp only []; omega⟩
    · rw [if_neg ho] at h
      obtain ⟨⟨i, i1, i2, i3⟩, ⟨j, j1, j2, j3⟩⟩ := ih h
      exact ⟨⟨i, by omega, i2, i3⟩, ⟨j, by omega, j2, j3⟩⟩
/-- What counts lies within what is gathered. -/
theorem acc_in {on : Nat → Prop} [DecidablePred on] {g : Nat → Int × Int} {a k i : Nat} (hi : i < k) (ho : on (a + i)) : ∃ q, acc on g a k = some q ∧ q.1 ≤ (g (a + i)).1 ∧ (g (a + i)).2 ≤ q.2 := by
  induction k with
  | zero => omega
  | succ k ih =>
    unfold acc
    rcases Nat.lt_succ_iff_lt_or_eq.1 hi with h1 | rfl
    · obtain ⟨q, e, q1, q2⟩ := ih h1
      by_cases hk : on (a + k)
      · rw [if_pos hk, e]
        exact ⟨_, rfl, by simp only []; omega, by simp only []; omega⟩
      · rw [if_neg hk, e]
        exact ⟨_, rfl, q1, q2⟩
    · rw [if_pos ho]
      cases acc on g a i with
      | none => exact ⟨_, rfl, Int.le_refl _, Int.le_refl _⟩
      | some r => exact ⟨_, rfl, by simp only []; omega, by simp only []; omega⟩
theorem has_le {lo hi : List Int} (h : chB lo hi = 0) {i : Nat} (hi' : i < 201) : hasB lo hi i ↔ gi lo i ≤ gi hi i := (has_iff (chB_ok h).2.2 hi').symm
/-- A rate's bounds within a step. -/
theorem st_in {lo hi : List Int} (h : chB lo hi = 0) {p v w : Nat} (hv : v < 201) (hw : w < 201) (h1 : w ≤ v + p) (h2 : v ≤ w + p) (hh : gi lo v ≤ gi hi v) :
    ∃ q, stA' lo hi p w (stN p w) = some q ∧ q.1 ≤ gi lo v + ((v : Int) - 100) ∧ gi hi v + ((v : Int) - 100) ≤ q.2 := by
  have e : stA p w + (v - stA p w) = v := by unfold stA; omega
  obtain ⟨q, hq, q1, q2⟩ := acc_in (on := hasB lo hi) (g := shG lo hi) (a := stA p w) (k := stN p w) (i := v - stA p w) (by unfold stN stA; omega) (by rw [e]; exact (has_le h hv).2 hh)
  rw [e] at q1 q2
  exact ⟨q, hq, q1, q2⟩
theorem st_of {lo hi : List Int} (h : chB lo hi = 0) {p w : Nat} {q : Int × Int} (hq : stA' lo hi p w (stN p w) = some q) :
    (∃ v, v < 201 ∧ w ≤ v + p ∧ v ≤ w + p ∧ gi lo v ≤ gi hi v ∧ gi lo v + ((v : Int) - 100) = q.1) ∧ (∃ v, v < 201 ∧ w ≤ v + p ∧ v ≤ w + p ∧ gi lo v ≤ gi hi v ∧ gi hi v + ((v : Int) - 100) = q.2) := by
  obtain ⟨⟨i, i1, i2, i3⟩, ⟨j, j1, j2, j3⟩⟩ := acc_some hq
  unfold stN at i1 j1
  have ei : stA p w + i < 201 ∧ w ≤ stA p w + i + p ∧ stA p w + i ≤ w + p := by unfold stA at *; omega
  have ej : stA p w + j < 201 ∧ w ≤ stA p w + j + p ∧ stA p w + j ≤ w + p := by unfold stA at *; omega
  exact ⟨⟨_, ei.1, ei.2.1, ei.2.2, (has_le h ei.1).1 i2, i3⟩, ⟨_, ej.1, ej.2.1, ej.2.2, (has_le h ej.1).1 j2, j3⟩⟩
theorem am_st {la ha lb hb : List Int} (hA : chB la ha = 0) (hB : chB lb hb = 0) (h : amB la ha lb hb) {p q : Nat} (hpq : p ≤ q) : amB (loK (stF la ha p) 201) (hiK (stF la ha p) 201) (loK (stF lb hb q) 201) (hiK (stF lb hb q) 201) := by
  intro w hw
  rw [loK_get _ hw, hiK_get _ hw, loK_get _ hw, hiK_get _ hw]
  intro hle
  obtain ⟨e, h1⟩ := nm_le hle
  rw [e]
  unfold stF at h1 ⊢
  cases hx : stA' la ha p w (stN p w) with
  | none => rw [hx] at h1; exact absurd h1 (by decide)
  | some r =>
    rw [hx] at h1
    obtain ⟨⟨v, v1, v2, v3, v4, v5⟩, ⟨u, u1, u2, u3, u4, u5⟩⟩ := st_of hA hx
    obtain ⟨b1, b2⟩ := h v v1 v4
    obtain ⟨c1, c2⟩ := h u u1 u4
    obtain ⟨s, es, s1, s2⟩ := st_in hB v1 hw (p := q) (by omega) (by omega) (by omega)
    obtain ⟨s', es', s1', s2'⟩ := st_in hB u1 hw (p := q) (by omega) (by omega) (by omega)
    rw [es] at es'
    cases es'
    rw [es]
    unfold clip at h1 ⊢
    simp only [] at h1 ⊢
    rw [nm_yes (by simp only []; omega)]
    simp only []
    omega
/-- Measured twice. -/
theorem ma_twice {lo hi : List Int} {alt size : Int} : loK (maF (loK (maF lo hi alt size) 201) (hiK (maF lo hi alt size) 201) alt size) 201 = loK (maF lo hi alt size) 201 ∧ hiK (maF (loK (maF lo hi alt size) 201) (hiK (maF lo hi alt size) 201) alt size) 201 = hiK (maF lo hi alt size) 201 := by
  have key : ∀ i, i < 201 → nm (maF (loK (maF lo hi alt size) 201) (hiK (maF lo hi alt size) 201) alt size i) = nm (maF lo hi alt size i) := by
    intro i hi'
    unfold maF
    by_cases hn : nonAt (loK (maF lo hi alt size) 201) (hiK (maF lo hi alt size) 201) i
    · have e1 := hn.1
      have e2 := hn.2
      rw [loK_get _ hi'] at e1
      rw [hiK_get _ hi'] at e2
      have e3 : nm (maF lo hi alt size i) = (1, 0) := Prod.ext e1 e2
      unfold maF at hn e3
      rw [if_pos hn, e3]
      rfl
    · have hp : ¬ (nm (maF lo hi alt size i)).2 < (nm (maF lo hi alt size i)).1 := by
        intro hc
        apply hn
        unfold nonAt
        rw [loK_get _ hi', hiK_get _ hi']
        by_cases h0 : (maF lo hi alt size i).2 < (maF lo hi alt size i).1
        · rw [nm_no h0]; exact ⟨rfl, rfl⟩
        · rw [nm_yes (by omega)] at hc; exact absurd hc h0
      obtain ⟨e, h1⟩ := nm_le (Int.not_lt.1 hp)
      have hz : ¬ nonAt lo hi i := by
        intro hz
        have : maF lo hi alt size i = (1, 0) := if_pos hz
        rw [this] at h1
        exact absurd h1 (by decide)
      have em : maF lo hi alt size i = (max (gi lo i) alt, min (gi hi i) (alt + size - 1)) := if_neg hz
      have g1 : gi (loK (maF lo hi alt size) 201) i = max (gi lo i) alt := by rw [loK_get _ hi', e, em]
      have g2 : gi (hiK (maF lo hi alt size) 201) i = min (gi hi i) (alt + size - 1) := by rw [hiK_get _ hi', e, em]
      unfold maF at hn g1 g2
      rw [if_neg hn, if_neg hz, g1, g2]
      congr 1
      refine Prod.ext ?_ ?_ <;> (simp only []; omega)
  exact ⟨loK_congr key, hiK_congr key⟩

/-- The truth lies in a band. -/
def inB (lo hi : List Int) (z v : Int) : Prop := -100 ≤ v ∧ v ≤ 100 ∧ gi lo (v + 100).toNat ≤ z ∧ z ≤ gi hi (v + 100).toNat
theorem in_new {z v alt : Int} {size : Int} (hv : -100 ≤ v ∧ v ≤ 100) (h1 : alt ≤ z) (h2 : z ≤ alt + size - 1) (h3 : z ≤ 50000) : inB (loK (neF alt size) 201) (hiK (neF alt size) 201) z v := by
  refine ⟨hv.1, hv.2, ?_, ?_⟩
  · rw [loK_get _ (by omega), nm_yes (by unfold neF; simp only []; omega)]
    exact h1
  · rw [hiK_get _ (by omega), nm_yes (by unfold neF; simp only []; omega)]
    unfold neF
    simp only []
    omega
theorem in_step {lo hi : List Int} (h : chB lo hi = 0) {z v z' v' : Int} {p : Nat} (hin : inB lo hi z v) (hz : z' = z + v) (z1 : -1000 ≤ z') (z2 : z' ≤ 50000) (v1 : -100 ≤ v') (v2 : v' ≤ 100) (d1 : v' - v ≤ p) (d2 : v - v' ≤ p) :
    inB (loK (stF lo hi p) 201) (hiK (stF lo hi p) 201) z' v' := by
  obtain ⟨i1, i2, i3, i4⟩ := hin
  obtain ⟨q, hq, q1, q2⟩ := st_in h (p := p) (v := (v + 100).toNat) (w := (v' + 100).toNat) (by omega) (by omega) (by omega) (by omega) (by omega)
  have e1 : (((v + 100).toNat : Nat) : Int) = v + 100 := by omega
  rw [e1] at q1 q2
  refine ⟨v1, v2, ?_, ?_⟩
  · rw [loK_get _ (by omega)]
    unfold stF
    rw [hq]
    unfold clip
    simp only []
    rw [nm_yes (by simp only []; omega)]
    simp only []
    omega
  · rw [hiK_get _ (by omega)]
    unfold stF
    rw [hq]
    unfold clip
    simp only []
    rw [nm_yes (by simp only []; omega)]
    simp only []
    omega
theorem in_mea {lo hi : List Int} (h : chB lo hi = 0) {z v alt size : Int} (hin : inB lo hi z v) (h1 : alt ≤ z) (h2 : z ≤ alt + size - 1) : inB (loK (maF lo hi alt size) 201) (hiK (maF lo hi alt size) 201) z v := by
  obtain ⟨i1, i2, i3, i4⟩ := hin
  have hn : ¬ nonAt lo hi (v + 100).toNat := (has_iff (chB_ok h).2.2 (by omega)).1 (by omega)
  have em : maF lo hi alt size (v + 100).toNat = (max (gi lo (v + 100).toNat) alt, min (gi hi (v + 100).toNat) (alt + size - 1)) := if_neg hn
  refine ⟨i1, i2, ?_, ?_⟩
  · rw [loK_get _ (by omega), em, nm_yes (by simp only []; omega)]
    simp only []
    omega
  · rw [hiK_get _ (by omega), em, nm_yes (by simp only []; omega)]
    simp only []
    omega
theorem in_con {lo hi : List Int} (h : chB lo hi = 0) {z v : Int} (hin : inB lo hi z v) : cnB lo hi z v = true := by
  obtain ⟨i1, i2, i3, i4⟩ := hin
  unfold cnB
  rw [h, decide_eq_true i1, decide_eq_true i2, decide_eq_true i3, decide_eq_true i4]
  rfl
theorem in_spread {lo hi : List Int} (h : chB lo hi = 0) {z v : Int} (hin : inB lo hi z v) : spE lo hi = 0 ∧ (spX lo hi).low ≤ z ∧ z ≤ (spX lo hi).high ∧ (spX lo hi).slow ≤ v ∧ v ≤ (spX lo hi).fast := by
  obtain ⟨i1, i2, i3, i4⟩ := hin
  have ho : hasB lo hi (0 + (v + 100).toNat) := by rw [Nat.zero_add]; exact (has_le h (by omega)).2 (by omega)
  obtain ⟨q, hq, q1, q2⟩ := acc_in (on := hasB lo hi) (g := fun i => (gi lo i, gi hi i)) (a := 0) (k := 201) (by omega) ho
  obtain ⟨r, hr, r1, r2⟩ := acc_in (on := hasB lo hi) (g := fun i => ((i : Int) - 100, (i : Int) - 100)) (a := 0) (k := 201) (by omega) ho
  rw [Nat.zero_add] at q1 q2 r1 r2
  have eZ : spZ lo hi 201 = some q := hq
  have eV : spV lo hi 201 = some r := hr
  have e0 : spE lo hi = 0 := by unfold spE; rw [if_neg (fun e => e h), eZ]; rfl
  refine ⟨e0, ?_⟩
  unfold spX
  rw [if_pos e0, eZ, eV]
  unfold vals
  simp only [Option.getD_some] at *
  omega
/-- The least altitude of a step. -/
def leS (z size : Int) : Int := z - z % size
theorem leS_bd {z size : Int} (hs : 0 < size) : leS z size ≤ z ∧ z ≤ leS z size + size - 1 := by
  unfold leS
  have h1 := Int.emod_nonneg z (show size ≠ 0 by omega)
  have h2 := Int.emod_lt_of_pos z hs
  omega
theorem leS_min {z : Int} (h : -1000 ≤ z) : -1000 ≤ leS z 25 := by unfold leS; omega

/-- A band with a single truth. -/
def onF (z v : Int) (i : Nat) : Int × Int := if (i : Int) - 100 = v then (z, z) else (1, 0)
theorem onF_yes {z v : Int} {i : Nat} (h : (i : Int) - 100 = v) : onF z v i = (z, z) := if_pos h
theorem onF_no {z v : Int} {i : Nat} (h : ¬ (i : Int) - 100 = v) : onF z v i = (1, 0) := if_neg h
theorem nm_onF (z v : Int) (i : Nat) : nm (onF z v i) = onF z v i := by
  by_cases h : (i : Int) - 100 = v
  · rw [onF_yes h]; exact nm_yes (Int.le_refl _)
  · rw [onF_no h]; rfl
def onL (z v : Int) : List Int := loK (onF z v) 201
def onH (z v : Int) : List Int := hiK (onF z v) 201
theorem on_get {z v : Int} {i : Nat} (h : i < 201) : gi (onL z v) i = (onF z v i).1 ∧ gi (onH z v) i = (onF z v i).2 := by
  unfold onL onH
  rw [loK_get _ h, hiK_get _ h, nm_onF]
  exact ⟨rfl, rfl⟩
theorem on_ch {z v : Int} (h1 : -1000 ≤ z) (h2 : z ≤ 50000) : chB (onL z v) (onH z v) = 0 := by
  refine ch_nm fun i _ => ?_
  by_cases h : (i : Int) - 100 = v
  · rw [onF_yes h]; exact ⟨h1, h2⟩
  · rw [onF_no h]; exact ⟨by decide, by decide⟩
theorem on_in {z v : Int} (h1 : -100 ≤ v) (h2 : v ≤ 100) : inB (onL z v) (onH z v) z v := by
  obtain ⟨e1, e2⟩ := on_get (z := z) (v := v) (i := (v + 100).toNat) (by omega)
  rw [onF_yes (by omega)] at e1 e2
  exact ⟨h1, h2, by rw [e1]; exact Int.le_refl _, by rw [e2]; exact Int.le_refl _⟩
theorem on_has {z v : Int} (h1 : -1000 ≤ z) (h2 : z ≤ 50000) {i : Nat} (hi : i < 201) (h : hasB (onL z v) (onH z v) i) : (i : Int) - 100 = v := by
  have hl := (has_le (on_ch h1 h2) hi).1 h
  obtain ⟨e1, e2⟩ := on_get (z := z) (v := v) hi
  by_cases hv : (i : Int) - 100 = v
  · exact hv
  · rw [onF_no hv] at e1 e2
    rw [e1, e2] at hl
    exact absurd hl (by decide)
theorem on_spread {z v : Int} (h1 : -1000 ≤ z) (h2 : z ≤ 50000) (v1 : -100 ≤ v) (v2 : v ≤ 100) : spE (onL z v) (onH z v) = 0 ∧ spX (onL z v) (onH z v) = ⟨z, z, v, v⟩ := by
  obtain ⟨e0, b1, b2, b3, b4⟩ := in_spread (on_ch h1 h2) (on_in (z := z) v1 v2)
  refine ⟨e0, ?_⟩
  have ho : hasB (onL z v) (onH z v) (0 + (v + 100).toNat) := by
    rw [Nat.zero_add]
    have := on_in (z := z) v1 v2
    obtain ⟨_, _, i3, i4⟩ := this
    exact (has_le (on_ch h1 h2) (by omega)).2 (by omega)
  obtain ⟨q, hq, _, _⟩ := acc_in (on := hasB (onL z v) (onH z v)) (g := fun i => (gi (onL z v) i, gi (onH z v) i)) (a := 0) (k := 201) (by omega) ho
  obtain ⟨r, hr, _, _⟩ := acc_in (on := hasB (onL z v) (onH z v)) (g := fun i => ((i : Int) - 100, (i : Int) - 100)) (a := 0) (k := 201) (by omega) ho
  obtain ⟨⟨i, i1, i2, i3⟩, ⟨j, j1, j2, j3⟩⟩ := acc_some hq
  obtain ⟨⟨i', i1', i2', i3'⟩, ⟨j', j1', j2', j3'⟩⟩ := acc_some hr
  rw [Nat.zero_add] at i2 i3 j2 j3 i2' i3' j2' j3'
  have eZ : spZ (onL z v) (onH z v) 201 = some q := hq
  have eV : spV (onL z v) (onH z v) 201 = some r := hr
  have f1 := on_has h1 h2 i1 i2
  have f2 := on_has h1 h2 j1 j2
  have f3 := on_has h1 h2 i1' i2'
  have f4 := on_has h1 h2 j1' j2'
  rw [(on_get i1).1, onF_yes f1] at i3
  rw [(on_get j1).2, onF_yes f2] at j3
  simp only [] at i3 j3 i3' j3'
  unfold spX
  rw [if_pos e0, eZ, eV]
  unfold vals
  simp only [Option.getD_some]
  rw [← i3, ← j3, ← i3', ← j3', f3, f4]
theorem on_best {z v : Int} {k : Nat} : beV (onL z v) (onH z v) v v k = v := by
  induction k with
  | zero => rfl
  | succ k ih =>
    unfold beV
    rw [ih, if_neg]
    rintro ⟨-, h⟩
    unfold farV at h
    omega
/-- One cycle later, without a pull. -/
theorem on_step {z v : Int} (h1 : -1000 ≤ z) (h2 : z ≤ 50000) {w : Nat} (hw : w < 201) : nm (stF (onL z v) (onH z v) 0 w) = if -1000 ≤ z + v ∧ z + v ≤ 50000 then onF (z + v) v w else (1, 0) := by
  unfold stF
  cases hx : stA' (onL z v) (onH z v) 0 w (stN 0 w) with
  | none =>
    have hn : ¬ (w : Int) - 100 = v := by
      intro hv
      obtain ⟨e1, e2⟩ := on_get (z := z) (v := v) hw
      rw [onF_yes hv] at e1 e2
      obtain ⟨q, hq, _⟩ := st_in (on_ch h1 h2 (v := v)) (p := 0) hw hw (by omega) (by omega) (by rw [e1, e2]; exact Int.le_refl _)
      rw [hx] at hq
      cases hq
    rw [onF_no hn]
    split <;> rfl
  | some q =>
    obtain ⟨⟨i, i1, i2, i3, i4, i5⟩, ⟨j, j1, j2, j3, j4, j5⟩⟩ := st_of (on_ch h1 h2 (v := v)) hx
    obtain rfl : i = w := by omega
    obtain rfl : j = i := by omega
    have hv := on_has h1 h2 hw ((has_le (on_ch h1 h2) hw).2 i4)
    obtain ⟨e1, e2⟩ := on_get (z := z) (v := v) hw
    rw [onF_yes hv] at e1 e2
    rw [e1] at i5
    rw [e2] at j5
    simp only [] at i5 j5
    rw [onF_yes hv]
    unfold clip
    simp only []
    by_cases hb : -1000 ≤ z + v ∧ z + v ≤ 50000
    · rw [if_pos hb, nm_yes (by simp only []; omega)]
      refine Prod.ext ?_ ?_ <;> (simp only []; omega)
    · rw [if_neg hb, nm_no (by simp only []; omega)]
theorem on_next {z v : Int} (h1 : -1000 ≤ z) (h2 : z ≤ 50000) (h : -1000 ≤ z + v ∧ z + v ≤ 50000) : loK (stF (onL z v) (onH z v) 0) 201 = onL (z + v) v ∧ hiK (stF (onL z v) (onH z v) 0) 201 = onH (z + v) v := by
  have key : ∀ i, i < 201 → nm (stF (onL z v) (onH z v) 0 i) = nm (onF (z + v) v i) := fun i hi => by rw [on_step h1 h2 hi, if_pos h, nm_onF]
  exact ⟨loK_congr key, hiK_congr key⟩
theorem on_gone {z v : Int} (h1 : -1000 ≤ z) (h2 : z ≤ 50000) (h : ¬ (-1000 ≤ z + v ∧ z + v ≤ 50000)) : spE (loK (stF (onL z v) (onH z v) 0) 201) (hiK (stF (onL z v) (onH z v) 0) 201) = 9 := by
  have hc : chB (loK (stF (onL z v) (onH z v) 0) 201) (hiK (stF (onL z v) (onH z v) 0) 201) = 0 := ch_st
  unfold spE
  rw [if_neg (fun e => e hc)]
  cases hz : spZ (loK (stF (onL z v) (onH z v) 0) 201) (hiK (stF (onL z v) (onH z v) 0) 201) 201 with
  | none => rfl
  | some q =>
    obtain ⟨⟨i, i1, i2, _⟩, _⟩ := acc_some hz
    rw [Nat.zero_add] at i2
    exfalso
    have := (has_le hc i1).1 i2
    rw [loK_get _ i1, hiK_get _ i1, on_step h1 h2 i1, if_neg h] at this
    exact absurd this (by decide)
end AltMath
