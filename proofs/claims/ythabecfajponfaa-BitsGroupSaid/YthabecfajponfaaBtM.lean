/-
  Layer 1 (bits): Xor, walked.
-/
import Derived.Test.YthabecfajponfaaBtH
namespace Go.Proofs.Ythabecfajponfaa
open Go.RowKit BitsMath ParityMath MyHeap MyCopy MyOwn

def chk2E (xs ys : List Nat) : Int := if chkE xs ≠ 0 then chkE xs else chkE ys
theorem chkE_long {xs : List Nat} (h : 128 < xs.length) : chkE xs = 4 := if_pos h
theorem chkE_big {xs : List Nat} (h : ¬ 128 < xs.length) (hb : anyBig xs = true) : chkE xs = 1 := by unfold chkE; rw [if_neg h, hb]; rfl
theorem chkE_good {xs : List Nat} (h : ¬ 128 < xs.length) (hb : anyBig xs = false) : chkE xs = 0 := by unfold chkE; rw [if_neg h, hb]; rfl

set_option maxRecDepth 100000 in
set_option maxHeartbeats 4000000 in
/-- 'check' at two strings. -/
theorem check2_call (bb : Nat) (a a' : Option Addr) (n n' c c' : Nat) (xs ys : List Nat) (w : World) (h : U8s w a n xs) (h' : U8s w a' n' ys) (hc0 : w.cell? ⟨bb, 0, none⟩ = some (.slice a n c)) (hc1 : w.cell? ⟨bb, 1, none⟩ = some (.slice a' n' c')) :
    Calls Try.prog 33 #[.slice (some ⟨bb, 0, none⟩) 2 2] w fun e w' => e = .returned (.int .i64 (chk2E xs ys)) ∧ w = w' := by
  have hl := h.len
  have hm := h.bound
  have hl' := h'.len
  have hm' := h'.bound
  have H := Lib.hid h
  have H' := Lib.hid h'
  clear h h'
  by_cases h1 : 128 < n
  · have h1' : (128 : Int) < (n : Int) := by omega
    have HR := Lib.hid (show chk2E xs ys = 4 from by unfold chk2E; rw [chkE_long (by omega), if_pos (by decide)])
    clear hl hl'
    go_enter Try.func33, Try.ntmps33
    go_wp2
    refine wp_loop_rounds 3 ?_
    rw [rounds_succ]; go_wp2
    go_ret
    exact ⟨by rw [HR.out]; rfl, rfl⟩
  · have h1' : ¬ (128 : Int) < (n : Int) := by omega
    cases hb : anyBig xs
    · have hE0 := chkE_good (by omega) hb
      by_cases h2 : 128 < n'
      · have h2' : (128 : Int) < (n' : Int) := by omega
        have HR := Lib.hid (show chk2E xs ys = 4 from by unfold chk2E; rw [hE0, if_neg (by decide), chkE_long (by omega)])
        clear hl hl' hE0
        go_enter Try.func33, Try.ntmps33
        go_wp2
        refine wp_loop_rounds 3 ?_
        rw [rounds_succ]; go_wp2_with (go_at_call 45; refine (containsFunc_call _ _ _ _ _ H.out).mono ?_; rintro e w' ⟨rfl, rfl⟩)
        rw [rounds_succ]; go_wp2
        go_ret
        exact ⟨by rw [HR.out]; rfl, rfl⟩
      · have h2' : ¬ (128 : Int) < (n' : Int) := by omega
        cases hb' : anyBig ys
        · have HR := Lib.hid (show chk2E xs ys = 0 from by unfold chk2E; rw [hE0, if_neg (by decide), chkE_good (by omega) hb'])
          clear hl hl' hE0
          go_enter Try.func33, Try.ntmps33
          go_wp2
          refine wp_loop_rounds 3 ?_
          rw [rounds_succ]; go_wp2_with (go_at_call 45; refine (containsFunc_call _ _ _ _ _ H.out).mono ?_; rintro e w' ⟨rfl, rfl⟩)
          rw [rounds_succ]; go_wp2_with (go_at_call 45; refine (containsFunc_call _ _ _ _ _ H'.out).mono ?_; rintro e w' ⟨rfl, rfl⟩)
          rw [rounds_succ]; go_wp2
          go_ret
          exact ⟨by rw [HR.out]; rfl, rfl⟩
        · have HR := Lib.hid (show chk2E xs ys = 1 from by unfold chk2E; rw [hE0, if_neg (by decide), chkE_big (by omega) hb'])
          clear hl hl' hE0
          go_enter Try.func33, Try.ntmps33
          go_wp2
          refine wp_loop_rounds 3 ?_
          rw [rounds_succ]; go_wp2_with (go_at_call 45; refine (containsFunc_call _ _ _ _ _ H.out).mono ?_; rintro e w' ⟨rfl, rfl⟩)
          rw [rounds_succ]; go_wp2_with (go_at_call 45; refine (containsFunc_call _ _ _ _ _ H'.out).mono ?_; rintro e w' ⟨rfl, rfl⟩)
          go_ret
          exact ⟨by rw [HR.out]; rfl, rfl⟩
    · have HR := Lib.hid (show chk2E xs ys = 1 from by unfold chk2E; rw [chkE_big (by omega) hb, if_pos (by decide)])
      clear hl hl'
      go_enter Try.func33, Try.ntmps33
      go_wp2
      refine wp_loop_rounds 3 ?_
      rw [rounds_succ]; go_wp2_with (go_at_call 45; refine (containsFunc_call _ _ _ _ _ H.out).mono ?_; rintro e w' ⟨rfl, rfl⟩)
      go_ret
      exact ⟨by rw [HR.out]; rfl, rfl⟩

theorem xor_u8 (x y : Nat) (h : x ≤ 1) (k : y ≤ 1) : bits .xor .u8 ((x : Nat) : Int) ((y : Nat) : Int) = ((x ^^^ y : Nat) : Int) := by
  have : x = 0 ∨ x = 1 := by omega
  have : y = 0 ∨ y = 1 := by omega
  rcases ‹x = 0 ∨ x = 1› with rfl | rfl <;> rcases ‹y = 0 ∨ y = 1› with rfl | rfl <;> decide

theorem pad_set {L : List Nat} {n k : Nat} (hl : L.length = n) (hk : k < n) : (L.take k ++ List.replicate (n - k) 0).set k (gu L k) = L.take (k + 1) ++ List.replicate (n - (k + 1)) 0 := by
  apply get_ext
  · simp; omega
  · intro i hi
    have hi' : i < n := by simp at hi; omega
    rw [List.getElem?_set]
    by_cases e : k = i
    · subst e
      rw [if_pos rfl, if_pos (by simp; omega), List.getElem?_append_left (by simp; omega), List.getElem?_take_of_lt (by omega)]
      rfl
    · rw [if_neg e]
      by_cases h : i < k
      · rw [List.getElem?_append_left (by simp; omega), List.getElem?_append_left (by simp; omega), List.getElem?_take_of_lt h, List.getElem?_take_of_lt (by omega)]
      · rw [List.getElem?_append_right (by simp; omega), List.getElem?_append_right (by simp; omega), List.getElem?_replicate, List.getElem?_replicate, if_pos (by simp; omega), if_pos (by simp; omega)]
theorem own_litM {w : World} {b base n : Nat} {cs : Array Value} {T : TypeId} {ys : List Nat} (h : w.heap[b]? = some (.cells cs T (0, 0))) (hb : base ≤ b) (hcs : cs.toList = flatU ys) (hn : ys.length = n) (hm : n ≤ 1000) : w.ownsRow base T 1 (.slice (some ⟨b, 0, none⟩) n n) n (flatU ys) := by
  refine ⟨by rw [flatU_len, hn, Nat.mul_one], Or.inr ⟨b, n, cs, rfl, hb, h, Nat.le_refl _, by unfold maxLen; omega, ?_, ?_⟩⟩
  · rw [← Array.length_toList, hcs, flatU_len, hn, Nat.mul_one]
  · rw [hcs, List.take_of_length_le (by rw [flatU_len]; omega)]
/-- The two strings' variables. -/
def XrK (w0 : World) (bA bB : Nat) (a a' : Option Addr) (n c c' : Nat) (xs ys : List Nat) (W : World) : Prop := (W.cell? ⟨bA, 0, none⟩ = some (.slice a n c) ∧ W.cell? ⟨bB, 0, none⟩ = some (.slice a' n c')) ∧ (U8s W a n xs ∧ U8s W a' n ys) ∧ Below w0.heap.size w0 W
theorem XrK.keep {w0 W W' : World} {bA bB : Nat} {a a' : Option Addr} {n c c' : Nat} {xs ys : List Nat} (h : XrK w0 bA bB a a' n c c' xs ys W) (hb : Below W.heap.size W W') : XrK w0 bA bB a a' n c c' xs ys W' := ⟨⟨keep1 hb h.1.1, keep1 hb h.1.2⟩, ⟨h.2.1.1.below hb, h.2.1.2.below hb⟩, h.2.2.trans (hb.mono h.2.2.size)⟩

set_option maxRecDepth 100000 in
set_option maxHeartbeats 1000000 in
theorem xor1_call (w0 : World) (bA bB : Nat) (a a' : Option Addr) (n c c' : Nat) (xs ys : List Nat) (w : World) (h : XrK w0 bA bB a a' n c c' xs ys w) (hs : all1 xs) (hs' : all1 ys) (k : Nat) (hk : k < n) :
    Calls Try.prog 35 #[.int .i64 (k : Int), .pointer (some ⟨bA, 0, none⟩), .pointer (some ⟨bB, 0, none⟩)] w fun e w' => e = .returned (.int .u8 ((gu (xr xs ys) k : Nat) : Int)) ∧ ∃ m, w' = w.drewN m := by
  obtain ⟨b, off, rfl, x0⟩ := gu_at h.2.1.1 hk
  obtain ⟨b', off', rfl, y0⟩ := gu_at h.2.1.2 hk
  have hA := h.1.1
  have hB := h.1.2
  have hk0 : (0 : Int) ≤ (k : Int) := by omega
  have hk1 : (k : Int) < (n : Int) := by omega
  have HX := Lib.hid (show gu (xr xs ys) k = gu xs k ^^^ gu ys k from xr_get (by rw [h.2.1.1.len, h.2.1.2.len]) k)
  have hxor := xor_u8 (gu xs k) (gu ys k) (all1_get hs k) (all1_get hs' k)
  clear h
  go_enter Try.func35, Try.ntmps35
  go_wp2
  go_quiet (fail)
  go_wp2
  go_ret
  exact ⟨by rw [HX.out]; rfl, _, rfl⟩

set_option maxRecDepth 100000 in
set_option maxHeartbeats 2000000 in
theorem combine_call (bA bB : Nat) (a a' : Option Addr) (n c c' : Nat) (xs ys : List Nat) (w : World) (h : XrK w bA bB a a' n c c' xs ys w) (hs : all1 xs) (hs' : all1 ys) (hn : n ≤ 1000) :
    Calls Try.prog 34 #[.int .i64 (n : Int), .func (.func 35) #[] #[.pointer (some ⟨bA, 0, none⟩), .pointer (some ⟨bB, 0, none⟩)]] w (OwnPost (xr xs ys) w) := by
  have HK := Lib.hid h
  have HS := Lib.hid (And.intro hs hs')
  have hl := h.2.1.1.len
  have hl' := h.2.1.2.len
  have hxl := xr_len (xs := xs) (ys := ys) (by rw [hl, hl'])
  rw [hl] at hxl
  have HLn := Lib.hid hxl
  have mk := hmkU n (by omega)
  clear h hs hs' hl hl' hxl
  go_enter Try.func34, Try.ntmps34
  go_wp2_with fail
  have K0 := Lib.hid (show (w.alloc (.cells (madeCells #[.int .u8 0] n) 5)).heap[w.heap.size]? = some (.cells (madeCells #[.int .u8 0] n) 5 (0, 0)) ∧ Below w.heap.size w (w.alloc (.cells (madeCells #[.int .u8 0] n) 5)) from ⟨block_new _ _ rfl, below_alloc _ _⟩)
  go_loopw [11] (fun kv wr => ∃ k : Nat, k ≤ n ∧ kv = .int .i64 k ∧ (∃ cs : Array Value, wr.heap[w.heap.size]? = some (.cells cs 5 (0, 0)) ∧ cs.toList = flatU ((xr xs ys).take k ++ List.replicate (n - k) 0)) ∧ Below w.heap.size w wr) (fun kv _ => n - (intOf kv).toNat)
  case atStart => exact ⟨0, Nat.zero_le _, rfl, ⟨_, K0.out.1, madeU n⟩, K0.out.2⟩
  case round =>
    clear K0 mk
    obtain ⟨k, hk, rfl, ⟨cs, hc, hcs⟩, hB⟩ := hrel
    have HC := Lib.hid (And.intro hc (And.intro hcs hB))
    have hcl : cs.size = n := by
      rw [← Array.length_toList, hcs, flatU_len, List.length_append, List.length_replicate, List.length_take, HLn.out]; omega
    by_cases hlt : k < n
    · have hk0 : (0 : Int) ≤ (k : Int) := by omega
      have hk1 : (k : Int) < (n : Int) := by omega
      obtain ⟨u0, hu0⟩ : ∃ u0, cs[k]? = some u0 := ⟨_, Array.getElem?_eq_getElem (by omega)⟩
      have x0 : wr.cell? ⟨w.heap.size, k, none⟩ = some u0 := cell_of_block hc hu0
      have f0 : wr.frozen? ⟨w.heap.size, k, none⟩ = false := free_of_block hc
      have hKr : XrK w bA bB a a' n c c' xs ys wr := HK.out.keep hB
      have HKr := Lib.hid hKr
      clear hc hcs hB hKr hcl hu0
      go_wp2_with fail
      refine (xor1_call w bA bB a a' n c c' xs ys _ HKr.out HS.out.1 HS.out.2 k hlt).mono ?_; rintro e w3 ⟨rfl, m3, rfl⟩
      have x1 : (wr.drewN m3).cell? ⟨w.heap.size, k, none⟩ = some u0 := x0
      have f1 : (wr.drewN m3).frozen? ⟨w.heap.size, k, none⟩ = false := f0
      clear x0 f0
      go_wp2_with fail
      go_roundw
      case rel =>
        refine ⟨k + 1, by omega, by go_num, ⟨cs.setIfInBounds k (.int .u8 ((gu (xr xs ys) k : Nat) : Int)), block_setCell (show (wr.drewN m3).heap[w.heap.size]? = _ from HC.out.1), ?_⟩, (below_drewN' HC.out.2.2 m3).setCell (p := ⟨w.heap.size, k, none⟩) (Nat.le_refl _) _⟩
        rw [toList_set, HC.out.2.1, ← flatU_set, pad_set HLn.out hlt]
      case measure => simp [intOf]; omega
    · obtain rfl : k = n := by omega
      have HO := Lib.hid (show wr.ownsRow w.heap.size 5 1 (.slice (some ⟨w.heap.size, 0, none⟩) k k) k (flatU (xr xs ys)) ∧ Below w.heap.size w wr from by
        rw [Nat.sub_self, List.replicate_zero, List.append_nil, List.take_of_length_le (by rw [HLn.out]; exact Nat.le_refl _)] at hcs
        exact ⟨own_litM hc (Nat.le_refl _) hcs HLn.out hn, hB⟩)
      clear hc hcs hB hcl
      go_wp2_with fail
      go_ret
      exact ⟨_, rfl, by rw [HLn.out]; exact HO.out.1, HO.out.2⟩
end Go.Proofs.Ythabecfajponfaa
