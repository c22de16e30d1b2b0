/-
  Layer 1 (bits): the reference's Xor and Flip, walked at every input.
-/
import Derived.Test.YthabecfajponfaaBtV
namespace Go.Proofs.Ythabecfajponfaa
open Go.RowKit BitsMath ParityMath MyHeap MyCopy MyOwn

set_option maxRecDepth 100000 in
theorem refXor_call (a a' : Option Addr) (n n' c c' : Nat) (xs ys : List Nat) (w : World) (h : U8s w a n xs) (h' : U8s w a' n' ys) :
    Calls Try.prog 26 #[.slice a n c, .slice a' n' c'] w (OPost (xorE xs ys) (xr xs ys) w) := by
  have hl := h.len
  have hl' := h'.len
  have hm := h.bound
  have hm' := h'.bound
  have HL := Lib.hid h
  have HL' := Lib.hid h'
  by_cases e1 : chkE xs = 0
  · by_cases e2 : chkE ys = 0
    · have hE : chk2E xs ys = 0 := by unfold chk2E; rw [e1, if_neg (by decide), e2]
      by_cases h3 : n = n'
      · subst h3
        have hR : xorE xs ys = 0 := by unfold xorE; rw [hE, if_neg (by decide), if_neg (by rw [hl, hl']; exact fun h => h rfl)]
        rw [hR]
        exact refXor_ok a a' n c c' xs ys w h h' e1 e2
      · have HR := Lib.hid (show xorE xs ys = 16 from by unfold xorE; rw [hE, if_neg (by decide), if_pos (by rw [hl, hl']; exact h3)])
        have d1 : ((n : Int) != (n' : Int)) = true := bne_iff_ne.2 (by omega)
        have HE := Lib.hid (And.intro e1 e2)
        clear hl hl' e1 e2 hE h h' h3
        go_enter Try.func26, Try.ntmps26
        go_wp2_with fail
        refine (refCheck_call a n c xs _ HL.out).mono ?_; rintro e w1 ⟨rfl, rfl⟩
        rw [HE.out.1]
        go_wp2_with fail
        refine (refCheck_call a' n' c' ys _ HL'.out).mono ?_; rintro e w1 ⟨rfl, rfl⟩
        rw [HE.out.2]
        go_wp2_with fail
        go_ret2
        exact oPost_err (by rw [HR.out]; decide) (by rw [HR.out]) (Below.refl _ _)
    · have HR := Lib.hid (show xorE xs ys = chkE ys from by
      have h2 : chk2E xs ys = chkE ys := by unfold chk2E; rw [if_neg (by rw [e1]; decide)]
      unfold xorE; rw [h2, if_pos e2])
      have d1 : (chkE ys != 0) = true := bne_iff_ne.2 e2
      have HE := Lib.hid (And.intro e1 e2)
      clear hl hl' e1 e2 h h'
      go_enter Try.func26, Try.ntmps26
      go_wp2_with fail
      refine (refCheck_call a n c xs _ HL.out).mono ?_; rintro e w1 ⟨rfl, rfl⟩
      rw [HE.out.1]
      go_wp2_with fail
      refine (refCheck_call a' n' c' ys _ HL'.out).mono ?_; rintro e w1 ⟨rfl, rfl⟩
      go_wp2_with fail
      go_ret2
      exact oPost_err (by rw [HR.out]; exact HE.out.2) (by rw [HR.out]) (Below.refl _ _)
  · have HR := Lib.hid (show xorE xs ys = chkE xs from by
      
      have h2 : chk2E xs ys = chkE xs := by unfold chk2E; rw [if_pos e1]
      unfold xorE; rw [h2, if_pos e1])
    have d1 : (chkE xs != 0) = true := bne_iff_ne.2 e1
    have d2 : (chkE xs == 0) = false := beq_eq_false_iff_ne.2 e1
    have HE := Lib.hid e1
    clear hl hl' e1 h h'
    go_enter Try.func26, Try.ntmps26
    go_wp2_with fail
    refine (refCheck_call a n c xs _ HL.out).mono ?_; rintro e w1 ⟨rfl, rfl⟩
    go_wp2_with fail
    go_ret2
    exact oPost_err (by rw [HR.out]; exact HE.out) (by rw [HR.out]) (Below.refl _ _)

theorem one_minus (x : Nat) (h : x ≤ 1) : IntKind.u8.wrap (1 - ((x : Nat) : Int)) = ((x ^^^ 1 : Nat) : Int) ∧ (1 - (x : Int)) % 256 = ((x ^^^ 1 : Nat) : Int) := by
  have : x = 0 ∨ x = 1 := by omega
  rcases this with rfl | rfl <;> exact ⟨rfl, rfl⟩
set_option maxRecDepth 100000 in
set_option maxHeartbeats 1000000 in
theorem refFlip_call (a : Option Addr) (n c : Nat) (xs : List Nat) (i : Int) (w : World) (h : U8s w a n xs) : Calls Try.prog 19 #[.slice a n c, .int .i64 i] w (OPost (flE xs i) (flL xs i.toNat) w) := by
  have HL := Lib.hid h
  have hn := h.bound
  have hl := h.len
  by_cases hE : chkE xs = 0
  · obtain ⟨h1, h2⟩ := all1_of hE
    have HE := Lib.hid hE
    rw [hl] at h2
    by_cases h3 : i < 0
    · have HR := Lib.hid (show flE xs i = 8 from by unfold flE; rw [if_neg (by rw [hE]; decide), if_pos (Or.inl h3)])
      have d1 : decide (i < 0) = true := decide_eq_true h3
      clear hl h1 hE h3 h
      go_enter Try.func19, Try.ntmps19
      go_wp2_with fail
      refine (refCheck_call a n c xs _ HL.out).mono ?_; rintro e w1 ⟨rfl, rfl⟩
      rw [HE.out]
      go_wp2_with fail
      go_ret2
      exact oPost_err (by rw [HR.out]; decide) (by rw [HR.out]) (Below.refl _ _)
    · have d1 : decide (i < 0) = false := decide_eq_false h3
      obtain ⟨I, rfl⟩ := Int.eq_ofNat_of_zero_le (show 0 ≤ i by omega)
      by_cases h4 : n ≤ I
      · have HR := Lib.hid (show flE xs (I : Int) = 8 from by unfold flE; rw [if_neg (by rw [hE]; decide), if_pos (Or.inr (by omega))])
        have d2 : decide ((n : Int) ≤ (I : Int)) = true := decide_eq_true (by omega)
        have d3 : decide (n ≤ I) = true := decide_eq_true h4
        clear hl h1 hE h3 h4 h
        go_enter Try.func19, Try.ntmps19
        go_wp2_with fail
        refine (refCheck_call a n c xs _ HL.out).mono ?_; rintro e w1 ⟨rfl, rfl⟩
        rw [HE.out]
        go_wp2_with fail
        go_ret2
        exact oPost_err (by rw [HR.out]; decide) (by rw [HR.out]) (Below.refl _ _)
      · have HR := Lib.hid (show flE xs (I : Int) = 0 from by unfold flE; rw [if_neg (by rw [hE]; decide), if_neg (by omega)])
        have d2 : decide ((n : Int) ≤ (I : Int)) = false := decide_eq_false (by omega)
        have d3 : decide (n ≤ I) = false := decide_eq_false h4
        have d4 : (0 : Int) ≤ (I : Int) := by omega
        have d5 : (I : Int) < (n : Int) := by omega
        have d6 : I < n := by omega
        have HX := Lib.hid (one_minus _ (all1_get h1 I))
        have HLn := Lib.hid hl
        obtain ⟨b0, off0, rfl, _⟩ := u8s_at h d6
        obtain ⟨i0, hi, hiz, his, hib⟩ := info_parts' infoU8
        have HI := Lib.hid (And.intro hi (And.intro hiz (And.intro his hib)))
        clear hl h1 hE h3 h4 h hi hiz his hib
        go_enter Try.func19, Try.ntmps19
        go_wp2_with fail
        refine (refCheck_call (some ⟨b0, off0, none⟩) n c xs _ HL.out).mono ?_; rintro e w1 ⟨rfl, rfl⟩
        rw [HE.out]
        go_upto_region 6 with fail
        go_wp2_with (refine wpList_append_src rfl _ _ 23 rfl w.heap.size 5 i0 _ 1 1 Try.underlying23 HI.out.1 HI.out.2.1 HI.out.2.2.1 HI.out.2.2.2 rfl (by decide) _ 0 _ rfl (own_nil w _ _ _) (some ⟨b0, off0, none⟩) n c (flatU xs) rfl (fun e => by cases e) ?c1 ?c2 (flatU_cell xs) ?c3 ?c4 ?c5 ?_; rotate_right; intro v1 w1 hown1 hgrow1)
        case c1 => rw [flatU_len, HLn.out]; omega
        case c2 => intro ad' had; cases had; exact u8s_src HL.out
        case c3 => unfold maxLen; omega
        case c4 => omega
        case c5 => exact Nat.le_refl _
        rw [Nat.zero_add, List.nil_append] at hown1
        have hb2 := grownB (B := w.heap.size) (own_nil w w.heap.size 5 1) hgrow1 (Nat.le_refl _) (Nat.le_refl _)
        have hO : w1.ownsRow w.heap.size 5 1 v1 xs.length (flatU xs) := by rw [HLn.out]; exact hown1
        obtain ⟨aC, cC, rfl⟩ := own_slice hO
        obtain ⟨g, rfl, hg, hcell, hfree⟩ := own_at hO (i := I) (by rw [HLn.out]; exact d6)
        have HB := Lib.hid hb2
        have HO := Lib.hid hO
        have E1 := HX.out.1
        have E2 := HX.out.2
        have HLe := HLn.out
        rw [HLe]
        clear hb2 hO HLe hown1 hgrow1
        obtain ⟨x, hx⟩ : ∃ x, xs[I]?.getD 0 = x := ⟨_, rfl⟩
        have HXX := Lib.hid hx
        rw [hx] at hcell E1 E2
        obtain ⟨y, hy⟩ : ∃ y, x ^^^ 1 = y := ⟨_, rfl⟩
        have HY := Lib.hid hy
        rw [hy] at E1 E2
        clear hx hy E1
        go_wp2_with fail
        have hq : (Instr.indexAt 23 (.slice (some ⟨g, 0, none⟩) n cC) (.int .i64 (I : Int))).run Try.prog w1 = .ok (.pointer (some ⟨g, I, none⟩)) w1 := by go_simp
        rw [hq]
        simp only [Result.andThen]
        go_wp2_with fail
        go_ret2
        have hB3 : Below w.heap.size w (w1.setCell ⟨g, I, none⟩ (.int .u8 ((y : Nat) : Int))) := HB.out.setCell (p := ⟨g, I, none⟩) hg _
        have hs := own_set HO.out I y
        have he : flL xs (I : Int).toNat = xs.set I y := by unfold flL; rw [Int.toNat_natCast, HXX.out, HY.out]
        rw [he]
        rw [HLn.out] at hs
        exact oPost_ok (v := .slice (some ⟨g, 0, none⟩) n cC) HR.out hs hB3
  · have HR := Lib.hid (show flE xs i = chkE xs from if_pos hE)
    have d1 : (chkE xs != 0) = true := by simpa using hE
    have HE := Lib.hid hE
    clear hl hE h
    go_enter Try.func19, Try.ntmps19
    go_wp2_with fail
    refine (refCheck_call a n c xs _ HL.out).mono ?_; rintro e w1 ⟨rfl, rfl⟩
    go_wp2_with fail
    go_ret2
    exact oPost_err (by rw [HR.out]; exact HE.out) (by rw [HR.out]) (Below.refl _ _)
end Go.Proofs.Ythabecfajponfaa
