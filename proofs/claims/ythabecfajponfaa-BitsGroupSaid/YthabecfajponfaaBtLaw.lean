/-
  Layer 1 (bits): what the laws say of fields, sums and digits. No walk in sight.
-/
import Derived.Test.YthabecfajponfaaBtAw
import Derived.Test.YthabecfajponfaaBtU
import Derived.Test.YthabecfajponfaaBtI
namespace Go.Proofs.Ythabecfajponfaa
open Go.RowKit BitsMath ParityMath TextMath

/-! ### Fields -/
theorem and1_bit (x k : Nat) : (x >>> k) &&& 1 = (x.testBit k).toNat := by
  rw [Nat.and_one_is_mod, Nat.shiftRight_eq_div_pow, Nat.testBit_eq_decide_div_mod_eq]
  have : x / 2 ^ k % 2 = 0 ∨ x / 2 ^ k % 2 = 1 := by omega
  rcases this with h | h <;> rw [h] <;> rfl
theorem small_all1 {xs : List Nat} (h : all1 xs) (m : Nat) : Small xs m := fun i _ => all1_get h i
theorem put_same {xs : List Nat} (h : all1 xs) {p N : Nat} (hp : p + N ≤ xs.length) : putL xs p N (getV xs p N) = xs := by
  apply get_ext (putL_len _ _ _ _)
  intro i hi
  rw [putL_len] at hi
  rw [putL_get _ _ _ _ hp i hi]
  split
  · rename_i hh
    rw [and1_bit, getV, getL_bit xs p N xs.length (small_all1 h _) hp N (Nat.le_refl _)]
    have hx := all1_get h i
    rw [show p + N - 1 - (p + N - 1 - i) = i by omega]
    have : xs[i]?.getD 0 = 0 ∨ xs[i]?.getD 0 = 1 := by omega
    rcases this with e | e
    · rw [e]; simp
    · rw [e]; simp; omega
  · rfl
theorem get_put {xs : List Nat} (h : all1 xs) {p N v : Nat} (hp : p + N ≤ xs.length) (hv : v < 2 ^ N) : getV (putL xs p N v) p N = v := by
  apply Nat.eq_of_testBit_eq
  intro i
  rw [getV, getL_bit (putL xs p N v) p N xs.length (small_all1 (putL_all1 h p N v hp) _) hp N (Nat.le_refl _)]
  by_cases hi : i < N
  · rw [putL_get _ _ _ _ hp _ (by omega), if_pos (by omega), show p + N - 1 - (p + N - 1 - i) = i by omega, and1_bit]
    cases v.testBit i <;> simp [hi]
  · have : v.testBit i = false := Nat.testBit_lt_two_pow (Nat.lt_of_lt_of_le hv (Nat.pow_le_pow_right (by decide) (by omega)))
    rw [this]; simp [hi]
theorem get_other {xs : List Nat} (h : all1 xs) {p N v q M : Nat} (hp : p + N ≤ xs.length) (hq : q + M ≤ xs.length) (hd : p + N ≤ q ∨ q + M ≤ p) : getV (putL xs p N v) q M = getV xs q M := by
  apply Nat.eq_of_testBit_eq
  intro i
  rw [getV, getL_bit (putL xs p N v) q M xs.length (small_all1 (putL_all1 h p N v hp) _) hq M (Nat.le_refl _), getV, getL_bit xs q M xs.length (small_all1 h _) hq M (Nat.le_refl _)]
  by_cases hi : i < M
  · rw [putL_get _ _ _ _ hp _ (by omega), if_neg (by omega)]
  · simp [hi]
theorem fld_len {xs ys : List Nat} (h : chkE xs = chkE ys) (hl : xs.length = ys.length) (p n : Int) : fldE xs p n = fldE ys p n := by unfold fldE; rw [h, hl]
theorem fld_all {xs : List Nat} {p n : Int} (h : fldE xs p n = 0) : all1 xs ∧ xs.length ≤ 128 ∧ p.toNat + n.toNat ≤ xs.length ∧ 0 ≤ n ∧ n ≤ 64 ∧ 0 ≤ p ∧ p + n ≤ xs.length := by
  obtain ⟨h1, h2, h3, h4, h5⟩ := fld_ok h
  obtain ⟨h6, h7⟩ := all1_of h1
  exact ⟨h6, h7, by omega, h2, h3, h4, h5⟩
theorem getR_ok {xs : List Nat} {p n : Int} (h : fldE xs p n = 0) : getR xs p n = (getV xs p.toNat n.toNat : Nat) := if_pos h
theorem getR_no {xs : List Nat} {p n : Int} (h : fldE xs p n ≠ 0) : getR xs p n = 0 := if_neg h
/-- What was read is put back. -/
theorem put_back {xs : List Nat} {p n : Int} (h : fldE xs p n = 0) : putE xs p n (getV xs p.toNat n.toNat) = 0 ∧ putL xs p.toNat n.toNat (getV xs p.toNat n.toNat) = xs ∧ getV xs p.toNat n.toNat < 2 ^ 64 := by
  obtain ⟨h1, h2, h3, h4, h5, h6, h7⟩ := fld_all h
  have hlt := getV_lt xs p.toNat n.toNat xs.length (small_all1 h1 _) h3
  refine ⟨?_, put_same h1 h3, Nat.lt_of_lt_of_le hlt (Nat.pow_le_pow_right (by decide) (by omega))⟩
  unfold putE
  rw [if_neg (by rw [h]; decide), if_neg (by omega)]
theorem putE_ok {xs : List Nat} {p n : Int} {v : Nat} (h : putE xs p n v = 0) (hv : v < 2 ^ 64) : fldE xs p n = 0 ∧ v < 2 ^ n.toNat := by
  unfold putE at h
  by_cases h1 : fldE xs p n = 0
  · rw [if_neg (by rw [h1]; decide)] at h
    by_cases h2 : n < 64 ∧ 2 ^ n.toNat ≤ v
    · rw [if_pos h2] at h; cases h
    · refine ⟨h1, ?_⟩
      by_cases h3 : n < 64
      · omega
      · have := (fld_ok h1).2.2.1
        rw [show n.toNat = 64 by omega]; exact hv
  · rw [if_pos h1] at h; exact absurd h h1
theorem putE_no {xs : List Nat} {p n : Int} {v : Nat} (h : putE xs p n v ≠ 0) (h1 : fldE xs p n = 0) : putE xs p n v = 7 := by
  unfold putE at h ⊢
  rw [if_neg (by rw [h1]; decide)] at h ⊢
  by_cases h2 : n < 64 ∧ 2 ^ n.toNat ≤ v
  · rw [if_pos h2]
  · rw [if_neg h2] at h; exact absurd rfl h
/-- What was written is read. -/
theorem put_get {xs : List Nat} {p n : Int} {v : Nat} (h : putE xs p n v = 0) (hv : v < 2 ^ 64) : chkE (putL xs p.toNat n.toNat v) = 0 ∧ fldE (putL xs p.toNat n.toNat v) p n = 0 ∧ getR (putL xs p.toNat n.toNat v) p n = (v : Int) ∧ (putL xs p.toNat n.toNat v).length = xs.length ∧ (∀ q m, fldE (putL xs p.toNat n.toNat v) q m = fldE xs q m) := by
  obtain ⟨h1, h2⟩ := putE_ok h hv
  obtain ⟨a1, a2, a3, _⟩ := fld_all h1
  have hl := putL_len xs p.toNat n.toNat v
  have hc : chkE (putL xs p.toNat n.toNat v) = 0 := chkE_of (putL_all1 a1 _ _ v a3) (by rw [hl]; exact a2)
  have hf : ∀ q m, fldE (putL xs p.toNat n.toNat v) q m = fldE xs q m := fun q m => fld_len (by rw [hc, (fld_ok h1).1]) hl q m
  have hf0 : fldE (putL xs p.toNat n.toNat v) p n = 0 := by rw [hf]; exact h1
  exact ⟨hc, hf0, by rw [getR_ok hf0, get_put a1 a3 h2], hl, hf⟩
theorem put_other {xs : List Nat} {p n q m : Int} {v : Nat} (h : putE xs p n v = 0) (hv : v < 2 ^ 64) (hq : fldE xs q m = 0) (hd : ¬ (q < p + n ∧ p < q + m)) : getR (putL xs p.toNat n.toNat v) q m = getR xs q m := by
  obtain ⟨_, _, _, _, hf⟩ := put_get h hv
  obtain ⟨h1, h2⟩ := putE_ok h hv
  obtain ⟨a1, a2, a3, b1, b2, b3, b4⟩ := fld_all h1
  obtain ⟨_, _, k3, k4, k5, k6, k7⟩ := fld_all hq
  rw [getR_ok (by rw [hf]; exact hq), getR_ok hq, get_other a1 a3 k3 (by omega)]

/-! ### Sums -/
theorem xor_ok {xs ys : List Nat} (h : xorE xs ys = 0) : chkE xs = 0 ∧ chkE ys = 0 ∧ xs.length = ys.length := by
  unfold xorE at h
  by_cases h1 : chk2E xs ys = 0
  · rw [if_neg (by rw [h1]; decide)] at h
    by_cases h2 : xs.length = ys.length
    · exact ⟨(chk2_zero h1).1, (chk2_zero h1).2, h2⟩
    · rw [if_pos h2] at h; cases h
  · rw [if_pos h1] at h; exact absurd h h1
theorem xor_of {xs ys : List Nat} (h : chkE xs = 0) (h' : chkE ys = 0) (hl : xs.length = ys.length) : xorE xs ys = 0 := by
  have e : chk2E xs ys = 0 := by unfold chk2E; rw [h, if_neg (by decide)]; exact h'
  unfold xorE
  rw [e, if_neg (by decide), if_neg (fun h => h hl)]
theorem xor_comm0 {xs ys : List Nat} (h : xorE xs ys = 0) : xorE ys xs = 0 := by
  obtain ⟨h1, h2, h3⟩ := xor_ok h
  exact xor_of h2 h1 h3.symm
theorem xor_comm1 {xs ys : List Nat} (h : xorE xs ys ≠ 0) : xorE ys xs ≠ 0 := fun e => h (xor_comm0 e)
theorem xr_comm (xs ys : List Nat) : xr xs ys = xr ys xs := by
  unfold xr
  exact List.zipWith_comm_of_comm (fun x y => Nat.xor_comm x y)
theorem xr_chk {xs ys : List Nat} (h : xorE xs ys = 0) : chkE (xr xs ys) = 0 ∧ (xr xs ys).length = xs.length ∧ all1 xs ∧ all1 ys ∧ xs.length = ys.length ∧ xs.length ≤ 128 := by
  obtain ⟨h1, h2, h3⟩ := xor_ok h
  obtain ⟨a1, a2⟩ := all1_of h1
  obtain ⟨b1, _⟩ := all1_of h2
  exact ⟨chkE_of (xr_all1 a1 b1) (by rw [xr_len h3]; exact a2), xr_len h3, a1, b1, h3, a2⟩
theorem xr_back {xs ys : List Nat} (h : xs.length = ys.length) : xr (xr xs ys) ys = xs := by
  have hl := xr_len h
  apply get_ext
  · rw [xr_len (by rw [hl]; exact h), hl]
  · intro i _
    rw [xr_get (by rw [hl]; exact h), xr_get h, Nat.xor_assoc, Nat.xor_self, Nat.xor_zero]
theorem xr_assoc {xs ys zs : List Nat} (h : xs.length = ys.length) (h' : ys.length = zs.length) : xr (xr xs ys) zs = xr xs (xr ys zs) := by
  have h1 := xr_len h
  have h2 := xr_len h'
  apply get_ext
  · have h3 : (xr (xr xs ys) zs).length = (xr xs ys).length := xr_len (by omega)
    have h4 : (xr xs (xr ys zs)).length = xs.length := xr_len (by omega)
    omega
  · intro i _
    rw [xr_get (by omega), xr_get h, xr_get (by omega), xr_get h', Nat.xor_assoc]
/-- At how many of the first k places two strings differ. -/
def dif (xs ys : List Nat) : Nat → Nat
  | 0 => 0
  | k + 1 => dif xs ys k + if xs[k]?.getD 0 = ys[k]?.getD 0 then 0 else 1
theorem dif_succ (xs ys : List Nat) (k : Nat) : dif xs ys (k + 1) = dif xs ys k + if xs[k]?.getD 0 = ys[k]?.getD 0 then 0 else 1 := rfl
theorem dif_le (xs ys : List Nat) (k : Nat) : dif xs ys k ≤ k := by
  induction k with
  | zero => exact Nat.le_refl _
  | succ k ih => unfold dif; split <;> omega
theorem wt_take {xs : List Nat} {k : Nat} (hk : k < xs.length) : wtL (xs.take (k + 1)) = wtL (xs.take k) + xs[k]?.getD 0 := by rw [take_snoc' hk, wtL_snoc]
theorem dif_wt {xs ys : List Nat} (a1 : all1 xs) (b1 : all1 ys) (h : xs.length = ys.length) (k : Nat) (hk : k ≤ xs.length) : dif xs ys k = wtL ((xr xs ys).take k) := by
  induction k with
  | zero => rfl
  | succ k ih =>
    rw [dif_succ, wt_take (by rw [xr_len h]; omega), ← ih (by omega), xr_get h]
    have := all1_get a1 k
    have := all1_get b1 k
    have h1 : xs[k]?.getD 0 = 0 ∨ xs[k]?.getD 0 = 1 := by omega
    have h2 : ys[k]?.getD 0 = 0 ∨ ys[k]?.getD 0 = 1 := by omega
    rcases h1 with e1 | e1 <;> rcases h2 with e2 | e2 <;> rw [e1, e2] <;> rfl
theorem dif_all {xs ys : List Nat} (h : xorE xs ys = 0) : wtR (xr xs ys) = (dif xs ys xs.length : Nat) := by
  obtain ⟨h1, h2, h3, h4, h5, h6⟩ := xr_chk h
  unfold wtR
  rw [if_pos h1, dif_wt h3 h4 h5 _ (Nat.le_refl _), ← h2, List.take_length]

/-! ### One bit -/
theorem fl_ok {xs : List Nat} {i : Int} (h : flE xs i = 0) : chkE xs = 0 ∧ 0 ≤ i ∧ i < xs.length ∧ i.toNat < xs.length := by
  unfold flE at h
  by_cases h1 : chkE xs = 0
  · rw [if_neg (by rw [h1]; decide)] at h
    by_cases hi : i < 0 ∨ (xs.length : Int) ≤ i
    · rw [if_pos hi] at h; cases h
    · exact ⟨h1, by omega, by omega, by omega⟩
  · rw [if_pos h1] at h; exact absurd h h1
theorem fl_no {xs : List Nat} {i : Int} (h : flE xs i ≠ 0) (hc : chkE xs = 0) : flE xs i = 8 ∧ (i < 0 ∨ (xs.length : Int) ≤ i) := by
  unfold flE at h ⊢
  rw [if_neg (by rw [hc]; decide)] at h ⊢
  by_cases hi : i < 0 ∨ (xs.length : Int) ≤ i
  · exact ⟨if_pos hi, hi⟩
  · rw [if_neg hi] at h; exact absurd rfl h
theorem wtL_app (xs ys : List Nat) : wtL (xs ++ ys) = wtL xs + wtL ys := by
  induction ys using snoc_ind with
  | h0 => rw [List.append_nil]; rfl
  | h1 ys y ih => rw [← List.append_assoc, wtL_snoc, wtL_snoc, ih, Nat.add_assoc]
theorem wtL_zeros (k : Nat) : wtL (List.replicate k 0) = 0 := by
  induction k with
  | zero => rfl
  | succ k ih => rw [List.replicate_succ', wtL_snoc, ih]
theorem wtL_unit {n i : Nat} (hi : i < n) : wtL (unitL n i) = 1 := by rw [unit_split hi, wtL_app, wtL_app, wtL_zeros, wtL_zeros]; rfl
theorem fl_one {xs : List Nat} {i : Int} (h : flE xs i = 0) : chkE (flL xs i.toNat) = 0 ∧ (flL xs i.toNat).length = xs.length ∧ xorE (flL xs i.toNat) xs = 0 ∧ xr (flL xs i.toNat) xs = unitL xs.length i.toNat ∧ chkE (unitL xs.length i.toNat) = 0 ∧ wtR (unitL xs.length i.toNat) = 1 ∧ (unitL xs.length i.toNat).length = xs.length ∧ (unitL xs.length i.toNat)[i.toNat]?.getD 0 = 1 := by
  obtain ⟨h1, h2, h3, h4⟩ := fl_ok h
  obtain ⟨a1, a2⟩ := all1_of h1
  have hl := fl_len xs i.toNat
  have hc : chkE (flL xs i.toNat) = 0 := chkE_of (fl_all1 a1 h4) (by rw [hl]; exact a2)
  have hu : chkE (unitL xs.length i.toNat) = 0 := chkE_of (unit_all1 _ _) (by rw [unit_len]; exact a2)
  refine ⟨hc, hl, xor_of hc h1 hl, ?_, hu, ?_, unit_len _ _, by rw [unit_get _ _ _ h4, if_pos rfl]⟩
  · rw [fl_xr h4, xr_comm xs, xr_back (by rw [unit_len])]
  · unfold wtR; rw [if_pos hu, wtL_unit h4]; rfl

/-! ### Digits -/
theorem nib_v4 {xs : List Nat} (h : ∀ k, gx xs k ≤ 1) (j : Nat) : nib (v4 xs j) = [gx xs (4 * j), gx xs (4 * j + 1), gx xs (4 * j + 2), gx xs (4 * j + 3)] := by
  have h0 := h (4 * j); have h1 := h (4 * j + 1); have h2 := h (4 * j + 2); have h3 := h (4 * j + 3)
  unfold nib v4
  congr 1
  · omega
  congr 1
  · omega
  congr 1
  · omega
  congr 1
  omega
theorem take4 {xs : List Nat} {k : Nat} (hk : 4 * (k + 1) ≤ xs.length) : xs.take (4 * (k + 1)) = xs.take (4 * k) ++ [gx xs (4 * k), gx xs (4 * k + 1), gx xs (4 * k + 2), gx xs (4 * k + 3)] := by
  unfold gx
  rw [show 4 * (k + 1) = 4 * k + 1 + 1 + 1 + 1 by omega, take_snoc' (by omega), take_snoc' (by omega), take_snoc' (by omega), take_snoc' (by omega)]
  simp
theorem prs_txt {xs : List Nat} (h : ∀ k, gx xs k ≤ 1) (k : Nat) (hk : 4 * k ≤ xs.length) : prsL (txtK xs k) = xs.take (4 * k) := by
  induction k with
  | zero => rfl
  | succ k ih => rw [txtK_succ, prsL_snoc, ih (by omega), hexV_D _ (v4_lt h k), nib_v4 h, take4 hk]
theorem okT_txt {xs : List Nat} (h : ∀ k, gx xs k ≤ 1) (k : Nat) : okT (txtK xs k) := by
  intro c hc
  unfold txtK at hc
  obtain ⟨j, _, rfl⟩ := List.mem_map.1 hc
  rw [hexV_D _ (v4_lt h j)]
  exact v4_lt h j
theorem txt_ok {xs : List Nat} (h : txtE xs = 0) : chkE xs = 0 ∧ xs.length % 4 = 0 ∧ all1 xs ∧ xs.length ≤ 128 ∧ txtR xs = txtK xs (xs.length / 4) := by
  have hR : txtR xs = txtK xs (xs.length / 4) := if_pos h
  unfold txtE at h
  by_cases h1 : chkE xs = 0
  · rw [if_neg (by rw [h1]; decide)] at h
    by_cases h2 : xs.length % 4 = 0
    · obtain ⟨h3, h4⟩ := all1_of h1
      exact ⟨h1, h2, h3, h4, hR⟩
    · rw [if_pos h2] at h; cases h
  · rw [if_pos h1] at h; exact absurd h h1
/-- A text reads as the string. -/
theorem txt_prs {xs : List Nat} (h : txtE xs = 0) : prsE (txtR xs) = 0 ∧ prsL (txtR xs) = xs ∧ 4 * (txtR xs).length = xs.length ∧ (txtR xs).length ≤ 32 := by
  obtain ⟨_, h2, h3, h4, h5⟩ := txt_ok h
  have hg : ∀ k, gx xs k ≤ 1 := fun k => all1_get h3 k
  have hl := txtK_len xs (xs.length / 4)
  rw [h5, hl]
  refine ⟨?_, ?_, by omega, by omega⟩
  · unfold prsE; rw [hl, if_neg (by omega), if_pos (okT_txt hg _)]
  · rw [prs_txt hg _ (by omega), List.take_of_length_le (by omega)]
theorem txt_no {xs : List Nat} (h : txtE xs ≠ 0) : txtR xs = [] := if_neg h
theorem txt_form {xs : List Nat} (h : txtE xs = 2) : xs.length % 4 ≠ 0 := by
  unfold txtE at h
  by_cases h1 : chkE xs = 0
  · rw [if_neg (by rw [h1]; decide)] at h
    intro h2
    rw [if_neg (fun e => e h2)] at h
    cases h
  · rw [if_pos h1] at h
    unfold chkE at h
    split at h
    · cases h
    · split at h <;> cases h
theorem nib_one (v : Nat) : ∀ x ∈ nib v, x ≤ 1 := by
  intro x hx
  simp only [nib, List.mem_cons, List.not_mem_nil, or_false] at hx
  omega
theorem prs_one (l : List UInt8) : all1 (prsL l) := by
  intro x hx
  obtain ⟨c, _, hc⟩ := List.mem_flatMap.1 hx
  exact nib_one _ x hc
theorem prs_ok {l : List UInt8} (h : prsE l = 0) : okT l ∧ l.length ≤ 32 ∧ chkE (prsL l) = 0 := by
  unfold prsE at h
  by_cases h1 : 32 < l.length
  · rw [if_pos h1] at h; cases h
  · rw [if_neg h1] at h
    by_cases h2 : okT l
    · exact ⟨h2, by omega, chkE_of (prs_one l) (by rw [prsL_len]; omega)⟩
    · rw [if_neg h2] at h; cases h
theorem gx_app_left {xs ys : List Nat} {k : Nat} (h : k < xs.length) : gx (xs ++ ys) k = gx xs k := by unfold gx; rw [List.getElem?_append_left h]
theorem gx_app_right {xs ys : List Nat} {k : Nat} : gx (xs ++ ys) (xs.length + k) = gx ys k := by unfold gx; rw [List.getElem?_append_right (by omega), Nat.add_sub_cancel_left]
theorem txtK_app (xs ys : List Nat) (k : Nat) (hk : 4 * k ≤ xs.length) : txtK (xs ++ ys) k = txtK xs k := by
  unfold txtK
  apply List.map_congr_left
  intro j hj
  have := List.mem_range.1 hj
  unfold v4
  rw [gx_app_left (by omega), gx_app_left (by omega), gx_app_left (by omega), gx_app_left (by omega)]
theorem v4_nib {v : Nat} (hv : v < 16) (xs : List Nat) {j : Nat} (h : xs.length = 4 * j) : v4 (xs ++ nib v) j = v := by
  unfold v4
  rw [← h, gx_app_right, show gx (xs ++ nib v) xs.length = gx (nib v) 0 from gx_app_right (k := 0), gx_app_right, gx_app_right]
  simp only [gx, nib, List.getElem?_cons_zero, List.getElem?_cons_succ, Option.getD_some]
  omega
theorem txt_prsK {l : List UInt8} (h : okT l) : txtK (prsL l) l.length = l := by
  induction l using list_snoc_ind with
  | h0 => rfl
  | h1 l c ih =>
    have hc : hexV c < 16 := h c (by simp)
    have hl : okT l := fun x hx => h x (by simp [hx])
    have hp := prsL_len l
    rw [List.length_append, List.length_singleton, prsL_snoc, txtK_succ, txtK_app _ _ _ (by omega), ih hl, v4_nib hc _ hp, hexD_V hc]
theorem prs_txtR {l : List UInt8} (h : prsE l = 0) : txtE (prsL l) = 0 ∧ txtR (prsL l) = l ∧ chkE (prsL l) = 0 ∧ (prsL l).length ≤ 128 := by
  obtain ⟨h1, h2, h3⟩ := prs_ok h
  have hl := prsL_len l
  have he : txtE (prsL l) = 0 := by
    unfold txtE
    rw [if_neg (by rw [h3]; decide), if_neg (by rw [hl]; omega)]
  refine ⟨he, ?_, h3, by omega⟩
  unfold txtR
  rw [if_pos he, hl, show 4 * l.length / 4 = l.length by omega, txt_prsK h1]
end Go.Proofs.Ythabecfajponfaa
