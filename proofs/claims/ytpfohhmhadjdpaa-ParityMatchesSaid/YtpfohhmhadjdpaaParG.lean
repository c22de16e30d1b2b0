/-
  Layer 2 (parity): Seal, walked.
-/
import Derived.Test.YtpfohhmhadjdpaaParF
import Derived.Test.YtpfohhmhadjdpaaCopyWide
import Derived.Test.YtpfohhmhadjdpaaSealMath
namespace Go.Proofs.Ytpfohhmhadjdpaa
open Go.RowKit BitsMath ParityMath MyHeap MyCopyWide

def seaE (xs : List Nat) (ad : Int) : Int := if remE xs ≠ 0 then remE xs else if ad < 0 ∨ 16777215 < ad then 1 else 0
/-- The string, and its remainder xor the address. -/
def seaL (xs : List Nat) (ad : Nat) : List Nat := putL (xs ++ List.replicate 24 0) xs.length 24 (remN xs ^^^ ad)
theorem all1_pad {xs : List Nat} (h : all1 xs) (k : Nat) : all1 (xs ++ List.replicate k 0) := by
  intro x hx
  rcases List.mem_append.1 hx with h1 | h1
  · exact h x h1
  · rw [List.eq_of_mem_replicate h1]; decide
theorem remE_ok {xs : List Nat} (h : remE xs = 0) : chkE xs = 0 ∧ xs.length ≤ 104 ∧ all1 xs := by
  unfold remE at h
  by_cases h1 : chkE xs = 0
  · rw [if_neg (by rw [h1]; decide)] at h
    by_cases h2 : 104 < xs.length
    · rw [if_pos h2] at h; cases h
    · exact ⟨h1, by omega, (all1_of h1).1⟩
  · rw [if_pos h1] at h; exact absurd h h1
theorem oPost_eq {E E' : Int} {ys ys' : List Nat} {w w0 : World} {e : Ending} {w' : World} (h : OPost E ys w e w') (hE : E = E') (hy : ys = ys') (hB : Below w0.heap.size w0 w) : OPost E' ys' w0 e w' := by
  subst hE; subst hy
  obtain ⟨v, rfl, ⟨h1, h2⟩, hb⟩ := h
  exact ⟨v, rfl, ⟨fun e0 => MyOwn.ownsRow_base (h1 e0) hB.size, h2⟩, hB.trans (hb.mono hB.size)⟩
set_option maxRecDepth 100000 in
set_option maxHeartbeats 2000000 in
theorem Seal_call (a : Option Addr) (n c : Nat) (xs : List Nat) (ad : Int) (w : World) (h : U8s w a n xs) : Calls Try.prog 22 #[.slice a n c, .int .i64 ad] w (OPost (seaE xs ad) (seaL xs ad.toNat) w) := by
  have HL := Lib.hid h
  have hn := h.bound
  have hl := h.len
  clear h
  by_cases hE : remE xs = 0
  · obtain ⟨h1, h2, h3⟩ := remE_ok hE
    have hRR := Lib.hid (show remR xs = (remN xs : Nat) from by unfold remR; rw [if_pos hE])
    have hr := remN_lt h3
    have HE := Lib.hid hE
    rw [hl] at h2
    by_cases h4 : ad < 0
    · have HR := Lib.hid (show seaE xs ad = 1 from by unfold seaE; rw [if_neg (by rw [hE]; decide), if_pos (Or.inl h4)])
      have d1 : decide (ad < 0) = true := decide_eq_true h4
      clear hl h1 hE h4
      go_enter Try.func22, Try.ntmps22
      go_wp2_with fail
      refine (Remainder_call a n c xs _ HL.out).mono ?_; rintro e w1 ⟨rfl, hb1⟩
      rw [HE.out]
      have HB := Lib.hid hb1
      clear hb1
      go_wp2_with fail
      go_ret2
      exact oPost_err (by rw [HR.out]; decide) (by rw [HR.out]) HB.out
    · have d1 : decide (ad < 0) = false := decide_eq_false h4
      by_cases h5 : 16777215 < ad
      · have HR := Lib.hid (show seaE xs ad = 1 from by unfold seaE; rw [if_neg (by rw [hE]; decide), if_pos (Or.inr h5)])
        have d2 : decide (16777215 < ad) = true := decide_eq_true h5
        clear hl h1 hE h4 h5
        go_enter Try.func22, Try.ntmps22
        go_wp2_with fail
        refine (Remainder_call a n c xs _ HL.out).mono ?_; rintro e w1 ⟨rfl, hb1⟩
        rw [HE.out]
        have HB := Lib.hid hb1
        clear hb1
        go_wp2_with fail
        go_ret2
        exact oPost_err (by rw [HR.out]; decide) (by rw [HR.out]) HB.out
      · have HR := Lib.hid (show seaE xs ad = 0 from by unfold seaE; rw [if_neg (by rw [hE]; decide), if_neg (by omega)])
        have d2 : decide (16777215 < ad) = false := decide_eq_false h5
        obtain ⟨A, rfl⟩ := Int.eq_ofNat_of_zero_le (show 0 ≤ ad by omega)
        have hA : A < 16777216 := by omega
        have HXA := Lib.hid (xor_adr (remN xs) A hr hA)
        have hx : remN xs ^^^ A < 2 ^ 24 := Nat.xor_lt_two_pow hr hA
        have mk := hmkU (n + 24) (by omega)
        rw [show ((n + 24 : Nat) : Int) = (n : Int) + 24 by omega] at mk
        have H3 := Lib.hid h3
        have HLn := Lib.hid hl
        clear hl h1 hE h4 h5 h3
        go_enter Try.func22, Try.ntmps22
        go_wp2_with fail
        refine (Remainder_call a n c xs _ HL.out).mono ?_; rintro e w1 ⟨rfl, hb1⟩
        rw [HE.out, hRR.out]
        have HB := Lib.hid hb1
        clear hb1
        go_upto_region 7 with fail
        go_wp2_with (refine wpList_copy_fresh rfl _ _ 28 28 rfl 5 1 Try.underlying28 (by kernel_rfl) (by decide) w1.heap.size a (n + 24) (n + 24) n c rfl rfl (madeCells #[.int .u8 0] (n + 24)) 5 rfl (flatU xs) ?c1 ?c2 ?c3 (flatU_cell xs) ?_; rotate_right; intro X HX)
        case c1 => rw [flatU_len, HLn.out, Nat.mul_one]; exact (Nat.min_eq_left (by omega)).symm
        case c2 =>
          intro hpos
          rw [flatU_len, HLn.out] at hpos
          have hU := HL.out.below ((HB.out.alloc HB.out.size (.cells (madeCells #[.int .u8 0] (n + 24)) 5)))
          obtain ⟨b, off, rfl, _⟩ := u8s_at hU (k := 0) hpos
          exact ⟨_, rfl, u8s_src hU⟩
        case c3 => rw [flatU_len, HLn.out, size_madeCells]; omega
        have hX : X.toList = flatU (xs ++ List.replicate 24 0) := by
          rw [HX.out, flatU_len, HLn.out, madeU, flatU, flatU, flatU, List.map_append, List.map_replicate, List.drop_replicate, show n + 24 - n = 24 by omega, List.map_replicate]
        have HXX := Lib.hid hX
        clear hX HX
        have HB2 := Lib.hid (HB.out.alloc HB.out.size (.cells X 5))
        have HBk := Lib.hid (block_new w1 (.cells X 5) rfl)
        generalize w1.alloc (.cells X 5) = w2 at *
        have hXE := HXA.out
        have hV : remN xs ^^^ A < 18446744073709551616 := by omega
        have hW : IntKind.u64.wrap ((remN xs ^^^ A : Nat) : Int) = ((remN xs ^^^ A : Nat) : Int) := by rw [IntKind.wrap_u64]; omega
        go_wp2_with fail
        rw [hXE, hW]
        have hU2 : U8s w2 (some ⟨w1.heap.size, 0, none⟩) (n + 24) (xs ++ List.replicate 24 0) := by
          have h := u8s_block HBk.out HXX.out (by rw [List.length_append, List.length_replicate, HLn.out]; omega)
          rwa [List.length_append, List.length_replicate, HLn.out] at h
        have hpE : putE (xs ++ List.replicate 24 0) (n : Int) 24 (remN xs ^^^ A) = 0 := by
          have hck := chkE_of (all1_pad H3.out 24) (by rw [List.length_append, List.length_replicate, HLn.out]; omega)
          have e : ¬ (((n : Int) < 0) ∨ (((xs ++ List.replicate 24 0).length : Int) - 24 < (n : Int))) := by
            rw [List.length_append, List.length_replicate, HLn.out]; omega
          have hF : fldE (xs ++ List.replicate 24 0) (n : Int) 24 = 0 := by
            unfold fldE
            rw [if_neg (by rw [hck]; decide), if_neg (by decide), if_neg e]
          unfold putE
          rw [if_neg (by rw [hF]; decide), if_neg (fun h => by have h2 := h.2; rw [show (24 : Int).toNat = 24 from rfl] at h2; omega)]
        have HPE := Lib.hid hpE
        clear hpE
        refine (Put_call (some ⟨w1.heap.size, 0, none⟩) (n + 24) (n + 24) (xs ++ List.replicate 24 0) (n : Int) 24 (remN xs ^^^ A) _ hU2 (by omega) (by omega) (by omega)).mono ?_
        rintro e w3 ⟨v3, rfl, hO, hb3⟩
        rw [HPE.out] at hO ⊢
        have H3' := Lib.hid (And.intro hO hb3)
        clear hO hb3 hU2 hXE hW
        go_wp2_with fail
        go_ret2
        have hO := H3'.out.1.1 rfl
        have he : putL (xs ++ List.replicate 24 0) ((n : Int)).toNat (24 : Int).toNat (remN xs ^^^ A) = seaL xs A := by unfold seaL; rw [HLn.out]; rfl
        rw [he] at hO
        have hAA : ((A : Int)).toNat = A := Int.toNat_natCast A
        rw [hAA]
        refine oPost_ok (v := v3) HR.out ?_ (HB2.out.trans (H3'.out.2.mono HB2.out.size))
        exact MyOwn.ownsRow_base hO HB2.out.size
  · have HR := Lib.hid (show seaE xs ad = remE xs from if_pos hE)
    have d1 : (remE xs != 0) = true := by simpa using hE
    have HE := Lib.hid hE
    clear hl hE
    go_enter Try.func22, Try.ntmps22
    go_wp2_with fail
    refine (Remainder_call a n c xs _ HL.out).mono ?_; rintro e w1 ⟨rfl, hb1⟩
    have HB := Lib.hid hb1
    clear hb1
    go_wp2_with fail
    go_ret2
    exact oPost_err (by rw [HR.out]; exact HE.out) (by rw [HR.out]) HB.out
end Go.Proofs.Ytpfohhmhadjdpaa
