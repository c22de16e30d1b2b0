/-
  Layer 2 (parity): Syndrome, walked; strings that a call makes.
-/
import Derived.Test.YtpfohhmhadjdpaaParB
import Derived.Test.YtpfohhmhadjdpaaParLaw
import Derived.Laws.OwnMore
import Derived.Deep.DeepCutAuto
namespace Go.Proofs.Ytpfohhmhadjdpaa
open Go.RowKit BitsMath ParityMath MyHeap

def flatU (xs : List Nat) : List Value := xs.map fun x => .int .u8 ((x : Nat) : Int)
theorem infoU8 : (Try.prog.info? 5).map (fun i => (i.zero, i.size, i.bytes)) = some (some (.int .u8 0), 1, 1) := by kernel_rfl
theorem info_parts' {o : Option TypeInfo} {z : Value} {s b : Nat} (h : o.map (fun i => (i.zero, i.size, i.bytes)) = some (some z, s, b)) : ∃ i, o = some i ∧ i.zero = some z ∧ i.size = s ∧ i.bytes = b := by
  cases o with
  | none => cases h
  | some i => simp only [Option.map_some, Option.some.injEq, Prod.mk.injEq] at h; exact ⟨i, rfl, h.1, h.2.1, h.2.2⟩
theorem flatU_get {xs : List Nat} {i : Nat} (hi : i < xs.length) : (flatU xs)[i]? = some (.int .u8 ((xs[i]?.getD 0 : Nat) : Int)) := by
  unfold flatU
  rw [List.getElem?_map, List.getElem?_eq_getElem hi]
  simp
theorem u8s_block {w : World} {b : Nat} {cs : Array Value} {T : TypeId} {fr : Nat × Nat} {xs : List Nat} (h : w.heap[b]? = some (.cells cs T fr)) (hcs : cs.toList = flatU xs) (hm : xs.length ≤ 9223372036854775807) : U8s w (some ⟨b, 0, none⟩) xs.length xs := by
  refine ⟨rfl, hm, Or.inr ⟨b, 0, rfl, fun i hi => ?_⟩⟩
  have hx := flatU_get hi
  rw [← hcs] at hx
  rw [Nat.zero_add]
  exact cell_of_block h (by simpa using hx)
theorem flatU_set (xs : List Nat) (i x : Nat) : flatU (xs.set i x) = (flatU xs).set i (.int .u8 (x : Int)) := by unfold flatU; rw [List.map_set]
theorem toList_set (cs : Array Value) (i : Nat) (v : Value) : (cs.setIfInBounds i v).toList = cs.toList.set i v := by simp
theorem madeU (n : Nat) : (madeCells #[.int .u8 0] n).toList = flatU (List.replicate n 0) := by
  rw [toList_madeCells_one]
  unfold flatU
  rw [List.map_replicate]
  rfl
theorem hmkU (n : Nat) (hn : n ≤ 1000000) (W : World) : (Instr.makeSlice 28 (.int .i64 (n : Int)) (.int .i64 (n : Int))).run Try.prog W = .ok (.slice (some ⟨W.heap.size, 0, none⟩) n n) (W.alloc (.cells (madeCells #[.int .u8 0] n) 5)) := by
  obtain ⟨i0, hi, hiz, his, hib⟩ := info_parts' infoU8
  have h := run_make W 28 5 i0 _ Try.underlying28 hi hiz .i64 .i64 (n : Int) (n : Int) (by omega) (by omega) (by rw [hib]; omega) (by omega)
  rw [Int.toNat_natCast, his, Nat.mul_one] at h
  exact h

theorem chkE_of {xs : List Nat} (h : all1 xs) (hl : xs.length ≤ 128) : chkE xs = 0 := by
  unfold chkE
  rw [if_neg (by omega), anyBig_false (fun i _ => all1_get h i)]
  rfl
theorem adr_of {xs : List Nat} (h : all1 xs) (hl : xs.length ≤ 128) (h2 : 24 ≤ xs.length) : adrE xs = 0 ∧ adrR xs = (rg xs : Nat) := by
  have e : adrE xs = 0 := by unfold adrE; rw [chkE_of h hl, if_neg (by decide), if_neg (by omega)]
  exact ⟨e, by unfold adrR; rw [if_pos e, adr_rg h h2]⟩
def synE (n i : Int) : Int := if n < 24 ∨ 128 < n then 1 else if i < 0 ∨ n ≤ i then 8 else 0
def synR (n i : Int) : Int := if synE n i = 0 then (rg (unitL n.toNat i.toNat) : Nat) else 0

set_option maxRecDepth 100000 in
theorem Syndrome_call (n i : Int) (w : World) : Calls Try.prog 11 #[.int .i64 n, .int .i64 i] w (TPost (synR n i) (synE n i) w) := by
  by_cases h1 : n < 24
  · have HR := Lib.hid (show synE n i = 1 from if_pos (Or.inl h1))
    have d1 : decide (n < 24) = true := decide_eq_true h1
    clear h1
    go_enter Try.func11, Try.ntmps11
    go_wp2_with fail
    go_ret2
    exact tPost_of (by unfold synR; rw [HR.out]; rfl) (by rw [HR.out]) (Below.refl _ _)
  · have d1 : decide (n < 24) = false := decide_eq_false h1
    by_cases h2 : 128 < n
    · have HR := Lib.hid (show synE n i = 1 from if_pos (Or.inr h2))
      have d2 : decide (128 < n) = true := decide_eq_true h2
      clear h1 h2
      go_enter Try.func11, Try.ntmps11
      go_wp2_with fail
      go_ret2
      exact tPost_of (by unfold synR; rw [HR.out]; rfl) (by rw [HR.out]) (Below.refl _ _)
    · have d2 : decide (128 < n) = false := decide_eq_false h2
      by_cases h3 : i < 0
      · have HR := Lib.hid (show synE n i = 8 from by unfold synE; rw [if_neg (by omega), if_pos (Or.inl h3)])
        have d3 : decide (i < 0) = true := decide_eq_true h3
        clear h1 h2 h3
        go_enter Try.func11, Try.ntmps11
        go_wp2_with fail
        go_ret2
        exact tPost_of (by unfold synR; rw [HR.out]; rfl) (by rw [HR.out]) (Below.refl _ _)
      · have d3 : decide (i < 0) = false := decide_eq_false h3
        by_cases h4 : n ≤ i
        · have HR := Lib.hid (show synE n i = 8 from by unfold synE; rw [if_neg (by omega), if_pos (Or.inr h4)])
          have d4 : decide (n ≤ i) = true := decide_eq_true h4
          clear h1 h2 h3 h4
          go_enter Try.func11, Try.ntmps11
          go_wp2_with fail
          go_ret2
          exact tPost_of (by unfold synR; rw [HR.out]; rfl) (by rw [HR.out]) (Below.refl _ _)
        · have HR := Lib.hid (show synE n i = 0 from by unfold synE; rw [if_neg (by omega), if_neg (by omega)])
          obtain ⟨N, rfl⟩ := Int.eq_ofNat_of_zero_le (show 0 ≤ n by omega)
          obtain ⟨I, rfl⟩ := Int.eq_ofNat_of_zero_le (show 0 ≤ i by omega)
          have d4 : decide ((N : Int) ≤ (I : Int)) = false := decide_eq_false h4
          have d5 : I < N := by omega
          have d7 : decide (N ≤ I) = false := decide_eq_false (by omega)
          have d6 : (0 : Int) ≤ (I : Int) := by omega
          have mk := hmkU N (by omega)
          have HN := Lib.hid (show 24 ≤ N ∧ N ≤ 128 by omega)
          have hI2 : (I : Int) < (N : Int) := by omega
          clear h1 h2 h3 h4
          go_enter Try.func11, Try.ntmps11
          go_upto_region 6 with fail
          have hb := block_new w (.cells (madeCells #[.int .u8 0] N) 5) rfl
          have c0 : (w.alloc (.cells (madeCells #[.int .u8 0] N) 5)).cell? ⟨w.heap.size, I, none⟩ = some (.int .u8 0) := cell_of_block hb (by
            have := congrArg (fun l : List Value => l[I]?) (madeU N)
            simp only [Array.getElem?_toList] at this
            rw [this, flatU_get (by simpa using d5), List.getElem?_replicate, if_pos d5]
            rfl)
          have f0 : (w.alloc (.cells (madeCells #[.int .u8 0] N) 5)).frozen? ⟨w.heap.size, I, none⟩ = false := free_of_block hb
          have HB := Lib.hid (below_alloc w (.cells (madeCells #[.int .u8 0] N) 5))
          have HK := Lib.hid hb
          clear hb
          generalize w.alloc (.cells (madeCells #[.int .u8 0] N) 5) = w1 at *
          clear mk
          go_wp2_with fail
          have hU : U8s (w1.setCell ⟨w.heap.size, I, none⟩ (.int .u8 1)) (some ⟨w.heap.size, 0, none⟩) N (unitL N I) := by
            have := u8s_block (xs := unitL N I) (block_setCell (i := I) (v := .int .u8 1) HK.out) (by rw [toList_set, madeU]; exact (flatU_set _ _ _).symm) (by rw [unit_len]; have := HN.out; omega)
            rwa [unit_len] at this
          have HB2 := Lib.hid (HB.out.setCell (p := ⟨w.heap.size, I, none⟩) (Nat.le_refl _) (.int .u8 1))
          obtain ⟨e1, e2⟩ := adr_of (unit_all1 N I) (by rw [unit_len]; exact HN.out.2) (by rw [unit_len]; exact HN.out.1)
          refine (Address_call (some ⟨w.heap.size, 0, none⟩) N N (unitL N I) _ hU (Nat.le_refl _)).mono ?_; rintro e w2 ⟨rfl, hb2⟩
          rw [e1, e2]
          have HB3 := Lib.hid (HB2.out.trans (hb2.mono HB2.out.size))
          clear hb2 e1 e2 hU c0 f0
          go_wp2_with fail
          go_ret2
          exact tPost_of (by unfold synR; rw [if_pos HR.out]; rfl) (by rw [HR.out]) HB3.out
end Go.Proofs.Ytpfohhmhadjdpaa
