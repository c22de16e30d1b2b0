/-
  Layer 1 (bits): what the walks of this layer share. Printed by gen01.py.
-/
import Derived.Test.YthabecfajponfaaBitsF
import Derived.Test.YthabecfajponfaaBitsLib
import Derived.Test.YthabecfajponfaaParLaw
import Derived.Test.YthabecfajponfaaHeapLib
import Derived.Laws.OwnMore
import Derived.Deep.DeepCutAuto
namespace Go.Proofs.Ythabecfajponfaa
open Go.RowKit BitsMath ParityMath MyHeap

theorem below_alloc (w : World) (o : Obj) : Below w.heap.size w (w.alloc o) := (Below.refl _ _).alloc (Nat.le_refl _) _
theorem u8s_at {w : World} {a : Option Addr} {n : Nat} {xs : List Nat} (h : U8s w a n xs) {k : Nat} (hk : k < n) : ∃ b off, a = some ⟨b, off, none⟩ ∧ w.cell? ⟨b, off + k, none⟩ = some (.int .u8 ((xs[k]?.getD 0 : Nat) : Int)) := by
  rcases h.cells with h0 | ⟨b, off, e, hc⟩
  · omega
  · exact ⟨b, off, e, hc k hk⟩
theorem all1_get {xs : List Nat} (h : all1 xs) (k : Nat) : xs[k]?.getD 0 ≤ 1 := by
  by_cases hk : k < xs.length
  · rw [List.getElem?_eq_getElem hk]; exact h _ (List.getElem_mem hk)
  · rw [List.getElem?_eq_none (by omega)]; decide
theorem take_snoc' {xs : List Nat} {k : Nat} (hk : k < xs.length) : xs.take (k + 1) = xs.take k ++ [xs[k]?.getD 0] := by
  rw [List.take_succ_eq_append_getElem hk, List.getElem?_eq_getElem hk]; rfl

def NPost (r : Int) (w : World) (e : Ending) (w' : World) : Prop := e = .returned (.int .i64 r) ∧ Below w.heap.size w w'
theorem all1_of {xs : List Nat} (h : chkE xs = 0) : all1 xs ∧ xs.length ≤ 128 := by
  obtain ⟨h1, h2⟩ := small_of h
  refine ⟨fun x hx => ?_, h1⟩
  obtain ⟨i, hi, rfl⟩ := List.getElem_of_mem hx
  have := h2 i hi
  rwa [List.getElem?_eq_getElem hi] at this
theorem U8s.cut {w : World} {a : Option Addr} {n : Nat} {xs : List Nat} (h : U8s w a n xs) {k : Nat} (hk : k ≤ n) : U8s w a k (xs.take k) := by
  refine ⟨by rw [List.length_take, h.len]; omega, by have := h.bound; omega, ?_⟩
  rcases h.cells with h0 | ⟨b, off, e, hc⟩
  · exact Or.inl (by omega)
  · exact Or.inr ⟨b, off, e, fun i hi => by rw [List.getElem?_take_of_lt hi]; exact hc i (by omega)⟩

set_option maxRecDepth 100000 in
theorem Check_call (a : Option Addr) (n c : Nat) (xs : List Nat) (w : World) (h : U8s w a n xs) : Calls Try.prog 23 #[.slice a n c] w (NPost (chkE xs) w) := by
  have HL := Lib.hid h
  clear h
  go_enter Try.func23, Try.ntmps23
  go_wp2_with fail
  refine (check1_call w.heap.size a n c xs _ (HL.out.below (below_alloc _ _)) (cell_of_block (block_new _ _ rfl) rfl)).mono ?_; rintro e w1 ⟨rfl, rfl⟩
  go_wp2_with fail
  go_ret
  exact ⟨rfl, below_alloc _ _⟩

def TPost (r E : Int) (w : World) (e : Ending) (w' : World) : Prop := e = .returned (.tuple #[.int .i64 r, .int .i64 E]) ∧ Below w.heap.size w w'
theorem tPost_of {r r' E E' : Int} {w w' : World} (h : r = r') (h2 : E = E') (hB : Below w.heap.size w w') : TPost r' E' w (.returned (.tuple #[.int .i64 r, .int .i64 E])) w' := by subst h; subst h2; exact ⟨rfl, hB⟩

def flatU (xs : List Nat) : List Value := xs.map fun x => .int .u8 ((x : Nat) : Int)
theorem infoU8 : (Try.prog.info? 5).map (fun i => (i.zero, i.size, i.bytes)) = some (some (.int .u8 0), 1, 1) := by kernel_rfl
theorem info_parts' {o : Option TypeInfo} {z : Value} {s b : Nat} (h : o.map (fun i => (i.zero, i.size, i.bytes)) = some (some z, s, b)) : ∃ i, o = some i ∧ i.zero = some z ∧ i.size = s ∧ i.bytes = b := by
  cases o with
  | none => cases h
  | some i => simp only [Option.map_some, Option.some.injEq, Prod.mk.injEq] at h; exact ⟨i, rfl, h.1, h.2.1, h.2.2⟩
theorem flatU_len (xs : List Nat) : (flatU xs).length = xs.length := by simp [flatU]
theorem flatU_get {xs : List Nat} {i : Nat} (hi : i < xs.length) : (flatU xs)[i]? = some (.int .u8 ((xs[i]?.getD 0 : Nat) : Int)) := by
  unfold flatU
  rw [List.getElem?_map, List.getElem?_eq_getElem hi]
  simp
theorem u8s_block {w : World} {b : Nat} {cs : Array Value} {T : TypeId} {fr : Nat × Nat} {xs : List Nat} (h : w.heap[b]? = some (.cells cs T fr)) (hcs : cs.toList = flatU xs) (hm : xs.length ≤ 9223372036854775807) : U8s w (some ⟨b, 0, none⟩) xs.length xs := by
  refine ⟨rfl, hm, Or.inr ⟨b, 0, rfl, fun i hi => ?_⟩⟩
  have hx := flatU_get hi
  rw [← hcs] at hx
  rw [Nat.zero_add]
  exact cell_of_block h (by simpa using hx)
theorem flatU_set (xs : List Nat) (i x : Nat) : flatU (xs.set i x) = (flatU xs).set i (.int .u8 (x : Int)) := by unfold flatU; rw [List.map_set]
theorem toList_set (cs : Array Value) (i : Nat) (v : Value) : (cs.setIfInBounds i v).toList = cs.toList.set i v := by simp
theorem madeU (n : Nat) : (madeCells #[.int .u8 0] n).toList = flatU (List.replicate n 0) := by
  rw [toList_madeCells_one]
  unfold flatU
  rw [List.map_replicate]
  rfl
theorem hmkU (n : Nat) (hn : n ≤ 1000000) (W : World) : (Instr.makeSlice 23 (.int .i64 (n : Int)) (.int .i64 (n : Int))).run Try.prog W = .ok (.slice (some ⟨W.heap.size, 0, none⟩) n n) (W.alloc (.cells (madeCells #[.int .u8 0] n) 5)) := by
  obtain ⟨i0, hi, hiz, his, hib⟩ := info_parts' infoU8
  have h := run_make W 23 5 i0 _ Try.underlying23 hi hiz .i64 .i64 (n : Int) (n : Int) (by omega) (by omega) (by rw [hib]; omega) (by omega)
  rw [Int.toNat_natCast, his, Nat.mul_one] at h
  exact h

theorem chkE_of {xs : List Nat} (h : all1 xs) (hl : xs.length ≤ 128) : chkE xs = 0 := by
  unfold chkE
  rw [if_neg (by omega), anyBig_false (fun i _ => all1_get h i)]
  rfl
theorem own_u8s {w : World} {base : Nat} {T : TypeId} {v : Value} {n : Nat} {ys : List Nat} (h : w.ownsRow base T 1 v n (flatU ys)) (hn : ys.length = n) (hm : n ≤ 9223372036854775807) : ∃ a c, v = .slice a n c ∧ U8s w a n ys ∧ n ≤ c := by
  rcases h.2 with ⟨rfl, h0⟩ | ⟨g, cap, cur, rfl, hg, hh, hc, hcm, hcs, htake⟩
  · exact ⟨none, 0, by rw [h0], ⟨hn, hm, Or.inl h0⟩, by omega⟩
  · refine ⟨some ⟨g, 0, none⟩, cap, rfl, ⟨hn, hm, Or.inr ⟨g, 0, rfl, fun i hi => ?_⟩⟩, hc⟩
    have hx := flatU_get (xs := ys) (i := i) (by omega)
    rw [← htake, List.getElem?_take_of_lt (by omega)] at hx
    rw [Nat.zero_add]
    exact cell_of_block hh (by simpa using hx)
theorem own_lit {w : World} {b base n : Nat} {cs : Array Value} {T : TypeId} {ys : List Nat} (h : w.heap[b]? = some (.cells cs T (0, 0))) (hb : base ≤ b) (hcs : cs.toList = flatU ys) (hn : ys.length = n) (hm : n ≤ 1000) : w.ownsRow base T 1 (.slice (some ⟨b, 0, none⟩) n n) n (flatU ys) := by
  refine ⟨by rw [flatU_len, hn, Nat.mul_one], Or.inr ⟨b, n, cs, rfl, hb, h, Nat.le_refl _, by unfold maxLen; omega, ?_, ?_⟩⟩
  · rw [← Array.length_toList, hcs, flatU_len, hn, Nat.mul_one]
  · rw [hcs, List.take_of_length_le (by rw [flatU_len]; omega)]
end Go.Proofs.Ythabecfajponfaa
