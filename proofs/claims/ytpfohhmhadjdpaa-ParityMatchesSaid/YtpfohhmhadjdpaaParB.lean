/-
  Layer 2 (parity): Check, Remainder, Address, walked.
-/
import Derived.Test.YtpfohhmhadjdpaaParA
namespace Go.Proofs.Ytpfohhmhadjdpaa
open Go.RowKit BitsMath ParityMath MyHeap

theorem all1_of {xs : List Nat} (h : chkE xs = 0) : all1 xs ∧ xs.length ≤ 128 := by
  obtain ⟨h1, h2⟩ := small_of h
  refine ⟨fun x hx => ?_, h1⟩
  obtain ⟨i, hi, rfl⟩ := List.getElem_of_mem hx
  have := h2 i hi
  rwa [List.getElem?_eq_getElem hi] at this
theorem U8s.cut {w : World} {a : Option Addr} {n : Nat} {xs : List Nat} (h : U8s w a n xs) {k : Nat} (hk : k ≤ n) : U8s w a k (xs.take k) := by
  refine ⟨by rw [List.length_take, h.len]; omega, by have := h.bound; omega, ?_⟩
  rcases h.cells with h0 | ⟨b, off, e, hc⟩
  · exact Or.inl (by omega)
  · exact Or.inr ⟨b, off, e, fun i hi => by rw [List.getElem?_take_of_lt hi]; exact hc i (by omega)⟩

set_option maxRecDepth 100000 in
theorem Check_call (a : Option Addr) (n c : Nat) (xs : List Nat) (w : World) (h : U8s w a n xs) : Calls Try.prog 29 #[.slice a n c] w (NPost (chkE xs) w) := by
  have HL := Lib.hid h
  clear h
  go_enter Try.func29, Try.ntmps29
  go_wp2_with fail
  refine (check1_call w.heap.size a n c xs _ (HL.out.below (below_alloc _ _)) (cell_of_block (block_new _ _ rfl) rfl)).mono ?_; rintro e w1 ⟨rfl, rfl⟩
  go_wp2_with fail
  go_ret
  exact ⟨rfl, below_alloc _ _⟩

def TPost (r E : Int) (w : World) (e : Ending) (w' : World) : Prop := e = .returned (.tuple #[.int .i64 r, .int .i64 E]) ∧ Below w.heap.size w w'
def remE (xs : List Nat) : Int := if chkE xs ≠ 0 then chkE xs else if 104 < xs.length then 4 else 0
def remR (xs : List Nat) : Int := if remE xs = 0 then (remN xs : Nat) else 0
theorem tPost_of {r r' E E' : Int} {w w' : World} (h : r = r') (h2 : E = E') (hB : Below w.heap.size w w') : TPost r' E' w (.returned (.tuple #[.int .i64 r, .int .i64 E])) w' := by subst h; subst h2; exact ⟨rfl, hB⟩

set_option maxRecDepth 100000 in
theorem Remainder_call (a : Option Addr) (n c : Nat) (xs : List Nat) (w : World) (h : U8s w a n xs) : Calls Try.prog 21 #[.slice a n c] w (TPost (remR xs) (remE xs) w) := by
  have HL := Lib.hid h
  have hn := h.bound
  have hl := h.len
  clear h
  by_cases hE : chkE xs = 0
  · obtain ⟨h1, h2⟩ := all1_of hE
    have H1 := Lib.hid h1
    rw [hl] at h2
    by_cases h3 : 104 < n
    · have HR := Lib.hid (show remE xs = 4 from by unfold remE; rw [if_neg (by rw [hE]; decide), if_pos (by omega)])
      have d1 : (104 : Int) < (n : Int) := by omega
      clear hl h1
      go_enter Try.func21, Try.ntmps21
      go_wp2_with fail
      refine (Check_call a n c xs _ HL.out).mono ?_; rintro e w1 ⟨rfl, hb1⟩
      rw [hE]
      have HE := Lib.hid hE
      have HB := Lib.hid hb1
      clear hE hb1
      go_wp2_with fail
      go_ret2
      exact tPost_of (by unfold remR; rw [HR.out]; rfl) (by rw [HR.out]) HB.out
    · have HR := Lib.hid (show remE xs = 0 from by unfold remE; rw [if_neg (by rw [hE]; decide), if_neg (by omega)])
      have d1 : ¬ (104 : Int) < (n : Int) := by omega
      clear hl h1
      go_enter Try.func21, Try.ntmps21
      go_wp2_with fail
      refine (Check_call a n c xs _ HL.out).mono ?_; rintro e w1 ⟨rfl, hb1⟩
      rw [hE]
      have HE := Lib.hid hE
      have HB := Lib.hid hb1
      clear hE hb1
      go_wp2_with fail
      refine (remainder_call a n c xs _ (HL.out.below HB.out) H1.out).mono ?_; rintro e w2 ⟨rfl, hb2⟩
      have HB2 := Lib.hid (HB.out.trans (hb2.mono HB.out.size))
      clear hb2
      go_wp2_with fail
      go_ret2
      exact tPost_of (by unfold remR; rw [if_pos HR.out]) (by rw [HR.out]) HB2.out
  · have HR := Lib.hid (show remE xs = chkE xs from if_pos hE)
    have d1 : (chkE xs != 0) = true := by simpa using hE
    have HE := Lib.hid hE
    clear hl hE
    go_enter Try.func21, Try.ntmps21
    go_wp2_with fail
    refine (Check_call a n c xs _ HL.out).mono ?_; rintro e w1 ⟨rfl, hb1⟩
    have HB := Lib.hid hb1
    clear hb1
    go_wp2_with fail
    go_ret2
    exact tPost_of (by unfold remR; rw [HR.out, if_neg HE.out]) (by rw [HR.out]) HB.out

def adrE (xs : List Nat) : Int := if chkE xs ≠ 0 then chkE xs else if xs.length < 24 then 3 else 0
def adrR (xs : List Nat) : Int := if adrE xs = 0 then (adr xs : Nat) else 0
theorem refV_vl (xs : List Nat) (p : Nat) : ∀ k, p + k ≤ xs.length → refV xs p k = vl ((xs.drop p).take k) := by
  intro k
  induction k with
  | zero => intro _; simp [refV, vl]
  | succ k ih =>
    intro h
    have hk : k < (xs.drop p).length := by rw [List.length_drop]; omega
    rw [List.take_succ_eq_append_getElem hk, vl_snoc, ← ih (by omega), List.getElem_drop, ← Option.getD_some (a := xs[p + k]) (b := 0), ← List.getElem?_eq_getElem]
    rfl
theorem fld_last {xs : List Nat} (h : chkE xs = 0) (hl : 24 ≤ xs.length) : fldE xs ((xs.length : Int) - 24) 24 = 0 ∧ getR xs ((xs.length : Int) - 24) 24 = (vl (xs.drop (xs.length - 24)) : Nat) := by
  have e : fldE xs ((xs.length : Int) - 24) 24 = 0 := by
    unfold fldE
    rw [if_neg (by rw [h]; decide), if_neg (by omega), if_neg (by omega)]
  refine ⟨e, ?_⟩
  unfold getR
  rw [if_pos e, show ((xs.length : Int) - 24).toNat = xs.length - 24 by omega, show (24 : Int).toNat = 24 from rfl,
    getV_ref xs (xs.length - 24) 24 xs.length (small_of h).2 (by omega), refV_vl xs _ 24 (by omega), List.take_of_length_le (by rw [List.length_drop]; omega)]
theorem xor_adr (p q : Nat) (hp : p < 16777216) (hq : q < 16777216) : bits .xor .i64 (p : Int) (q : Int) = ((p ^^^ q : Nat) : Int) := MyBits.i64_xor_nat _ _ (by omega) (by omega)

set_option maxRecDepth 100000 in
theorem Address_call (a : Option Addr) (n c : Nat) (xs : List Nat) (w : World) (h : U8s w a n xs) (hc : n ≤ c) : Calls Try.prog 13 #[.slice a n c] w (TPost (adrR xs) (adrE xs) w) := by
  have HL := Lib.hid h
  have hn := h.bound
  have hl := h.len
  clear h
  by_cases hE : chkE xs = 0
  · obtain ⟨h1, h2⟩ := all1_of hE
    have H1 := Lib.hid h1
    rw [hl] at h2
    by_cases h3 : n < 24
    · have HR := Lib.hid (show adrE xs = 3 from by unfold adrE; rw [if_neg (by rw [hE]; decide), if_pos (by omega)])
      have d1 : (n : Int) < 24 := by omega
      clear hl h1
      go_enter Try.func13, Try.ntmps13
      go_wp2_with fail
      refine (Check_call a n c xs _ HL.out).mono ?_; rintro e w1 ⟨rfl, hb1⟩
      rw [hE]
      have HE := Lib.hid hE
      have HB := Lib.hid hb1
      clear hE hb1
      go_wp2_with fail
      go_ret2
      exact tPost_of (by unfold adrR; rw [HR.out]; rfl) (by rw [HR.out]) HB.out
    · have HR := Lib.hid (show adrE xs = 0 from by unfold adrE; rw [if_neg (by rw [hE]; decide), if_neg (by omega)])
      have hf := fld_last hE (by omega)
      have hv : vl (xs.drop (xs.length - 24)) < 16777216 := by
        have := vl_lt (all1_app (xs := xs.take (xs.length - 24)) (ys := xs.drop (xs.length - 24)) (by rw [List.take_append_drop]; exact h1)).2
        rwa [List.length_drop, show xs.length - (xs.length - 24) = 24 by omega] at this
      have hr := remN_lt (xs := xs.take (xs.length - 24)) (fun x hx => h1 x (List.mem_of_mem_take hx))
      have HA := Lib.hid (show adr xs = remN (xs.take (xs.length - 24)) ^^^ vl (xs.drop (xs.length - 24)) from rfl)
      rw [hl] at hf hv hr HA
      generalize vl (xs.drop (n - 24)) = V at *
      have HF := Lib.hid (show fldE xs ((n - 24 : Nat) : Int) 24 = 0 ∧ getR xs ((n - 24 : Nat) : Int) 24 = (V : Int) from by rw [show ((n - 24 : Nat) : Int) = (n : Int) - 24 by omega]; exact hf)
      have d1 : ¬ (n : Int) < 24 := by omega
      obtain ⟨m, rfl⟩ : ∃ m, n = m + 24 := ⟨n - 24, by omega⟩
      have d2 : IntKind.i64.wrap (((m + 24 : Nat) : Int) - 24) = (m : Int) := by rw [IntKind.wrap_i64] <;> omega
      rw [show m + 24 - 24 = m by omega] at hr HA HF
      have HU := Lib.hid (HL.out.cut (k := m) (by omega))
      have HX := Lib.hid (xor_adr _ V hr hv)
      clear hl h1 hf hr
      go_enter Try.func13, Try.ntmps13
      go_wp2_with fail
      refine (Check_call a (m + 24) c xs _ HL.out).mono ?_; rintro e w1 ⟨rfl, hb1⟩
      rw [hE]
      have HE := Lib.hid hE
      have HB := Lib.hid hb1
      clear hE hb1
      go_wp2_with fail
      refine (Get_call a (m + 24) c xs (m : Int) 24 _ (HL.out.below HB.out) (by omega) (by omega)).mono ?_; rintro e w2 ⟨rfl, hb2⟩
      rw [HF.out.1, HF.out.2]
      have HB2 := Lib.hid (HB.out.trans (hb2.mono HB.out.size))
      clear hb2
      have d3 : IntKind.i64.wrap (V : Int) = (V : Int) := by rw [IntKind.wrap_i64] <;> omega
      go_wp2_with fail
      refine (remainder_call a m c (xs.take m) _ (HU.out.below HB2.out) (fun x hx => H1.out x (List.mem_of_mem_take hx))).mono ?_; rintro e w3 ⟨rfl, hb3⟩
      have HB3 := Lib.hid (HB2.out.trans (hb3.mono HB2.out.size))
      clear hb3
      go_wp2_with fail
      go_ret2
      exact tPost_of (by unfold adrR; rw [if_pos HR.out, HX.out, HA.out]) (by rw [HR.out]) HB3.out
  · have HR := Lib.hid (show adrE xs = chkE xs from if_pos hE)
    have d1 : (chkE xs != 0) = true := by simpa using hE
    have HE := Lib.hid hE
    clear hl hE
    go_enter Try.func13, Try.ntmps13
    go_wp2_with fail
    refine (Check_call a n c xs _ HL.out).mono ?_; rintro e w1 ⟨rfl, hb1⟩
    have HB := Lib.hid hb1
    clear hb1
    go_wp2_with fail
    go_ret2
    exact tPost_of (by unfold adrR; rw [HR.out, if_neg HE.out]) (by rw [HR.out]) HB.out
end Go.Proofs.Ytpfohhmhadjdpaa
