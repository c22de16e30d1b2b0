/-
  Layer 1 (bits): strings of bits as hexadecimal digits and back. No program in sight.
-/
import Derived.WalkKit
namespace TextMath

def hexT : List UInt8 := [48, 49, 50, 51, 52, 53, 54, 55, 56, 57, 97, 98, 99, 100, 101, 102]
def hexD (v : Nat) : UInt8 := hexT[v]?.getD 0
def gx (xs : List Nat) (k : Nat) : Nat := xs[k]?.getD 0
def v4 (xs : List Nat) (j : Nat) : Nat := 8 * gx xs (4 * j) + 4 * gx xs (4 * j + 1) + 2 * gx xs (4 * j + 2) + gx xs (4 * j + 3)
def txtK (xs : List Nat) (k : Nat) : List UInt8 := (List.range k).map fun j => hexD (v4 xs j)
theorem txtK_succ (xs : List Nat) (k : Nat) : txtK xs (k + 1) = txtK xs k ++ [hexD (v4 xs k)] := by
  unfold txtK
  rw [List.range_succ, List.map_append, List.map_cons, List.map_nil]
theorem txtK_len (xs : List Nat) (k : Nat) : (txtK xs k).length = k := by unfold txtK; rw [List.length_map, List.length_range]
theorem v4_lt {xs : List Nat} (h : ∀ k, gx xs k ≤ 1) (j : Nat) : v4 xs j < 16 := by
  unfold v4
  have h0 := h (4 * j); have h1 := h (4 * j + 1); have h2 := h (4 * j + 2); have h3 := h (4 * j + 3)
  omega
def ch (xs : List Nat) (j : Nat) : List Nat := (xs.drop (4 * j)).take 4
theorem gx_ch (xs : List Nat) (j i : Nat) (hi : i < 4) : gx (ch xs j) i = gx xs (4 * j + i) := by
  unfold gx ch
  rw [List.getElem?_take_of_lt hi, List.getElem?_drop]
theorem ch_len {xs : List Nat} {j : Nat} (h : 4 * j + 4 ≤ xs.length) : (ch xs j).length = 4 := by
  unfold ch
  rw [List.length_take, List.length_drop]
  omega
/-- The number of a digit; 16 if it is none. -/
def hexV (c : UInt8) : Nat := hexT.findIdx (· == c)
theorem hexV_le (c : UInt8) : hexV c ≤ 16 := List.findIdx_le_length
theorem hexD_V {c : UInt8} (h : hexV c < 16) : hexD (hexV c) = c := by
  have h' : hexT.findIdx (· == c) < hexT.length := h
  have := List.findIdx_getElem (w := h')
  unfold hexD hexV
  rw [List.getElem?_eq_getElem h', Option.getD_some]
  exact eq_of_beq this
theorem hexV_D : ∀ v, v < 16 → hexV (hexD v) = v := by decide
/-- The four bits of a digit's number. -/
def nib (v : Nat) : List Nat := [v / 8 % 2, v / 4 % 2, v / 2 % 2, v % 2]
def okT (l : List UInt8) : Prop := ∀ c ∈ l, hexV c < 16
instance (l : List UInt8) : Decidable (okT l) := by unfold okT; infer_instance
def prsE (l : List UInt8) : Int := if 32 < l.length then 4 else if okT l then 0 else 2
def prsL (l : List UInt8) : List Nat := l.flatMap fun c => nib (hexV c)
theorem prsL_snoc (l : List UInt8) (c : UInt8) : prsL (l ++ [c]) = prsL l ++ nib (hexV c) := by unfold prsL; rw [List.flatMap_append, List.flatMap_cons, List.flatMap_nil, List.append_nil]
theorem prsL_len (l : List UInt8) : (prsL l).length = 4 * l.length := by
  induction l with
  | nil => rfl
  | cons c l ih => unfold prsL at ih ⊢; rw [List.flatMap_cons, List.length_append, ih, List.length_cons]; simp only [nib, List.length_cons, List.length_nil]; omega
theorem okT_take {l : List UInt8} {k : Nat} (h : okT (l.take k)) (hk : k < l.length) (hc : hexV (l[k]?.getD 0) < 16) : okT (l.take (k + 1)) := by
  intro c hm
  rw [List.take_succ_eq_append_getElem hk] at hm
  rcases List.mem_append.1 hm with h1 | h1
  · exact h c h1
  · rw [List.mem_singleton] at h1
    rw [h1]
    rwa [List.getElem?_eq_getElem hk] at hc
theorem okT_not {l : List UInt8} {k : Nat} (hk : k < l.length) (hc : hexV (l[k]?.getD 0) = 16) : ¬ okT l := by
  intro h
  have := h _ (List.getElem_mem hk)
  rw [List.getElem?_eq_getElem hk, Option.getD_some] at hc
  omega
end TextMath
