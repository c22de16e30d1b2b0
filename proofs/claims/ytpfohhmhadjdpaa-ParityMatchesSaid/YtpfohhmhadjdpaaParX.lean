/-
  Layer 2 (parity): the reference's Correct, walked. Printed by genParX.py.
-/
import Derived.Test.YtpfohhmhadjdpaaParW
namespace Go.Proofs.Ytpfohhmhadjdpaa
open Go.RowKit BitsMath ParityMath MyHeap MyCopy MyOwn

theorem c3_ok {at_ : Int} {ys : List Nat} {v : Value} {w w' : World} (h : w'.ownsRow w.heap.size 5 1 v ys.length (flatU ys)) (hB : Below w.heap.size w w') : C3Post 0 at_ ys w (.returned (.tuple #[v, .int .i64 at_, .int .i64 0])) w' := ⟨v, rfl, ⟨fun _ => h, fun h0 => absurd rfl h0⟩, hB⟩

set_option maxRecDepth 100000 in
set_option maxHeartbeats 8000000 in
theorem rcor_err (a : Option Addr) (n c : Nat) (xs : List Nat) (ad : Int) (ys : List Nat) (w : World) (h : U8s w a n xs) (hc : n ≤ c) (_hcz : a = none → c = 0) (hE : adrE xs ≠ 0) :
    Calls Try.prog 20 #[.slice a n c, .int .i64 ad] w (C3Post (adrE xs) 0 ys w) := by
  have HL := Lib.hid h
  have hl := h.len
  have hlx := h.bound
  have HLn := Lib.hid hl
  obtain ⟨i0, hi, hiz, his, hib⟩ := info_parts' infoU8
  have HI := Lib.hid (And.intro hi (And.intro hiz (And.intro his hib)))
  have d1 : (adrE xs != 0) = true := bne_iff_ne.2 hE
  have HE := Lib.hid hE
  clear hE
  clear h hl hi hiz his hib
  go_enter Try.func20, Try.ntmps20
  go_wp2_with fail
  refine (rAdr_call a n c xs _ HL.out hc).mono ?_; rintro e w0 ⟨rfl, hb0⟩
  have B0 := Lib.hid hb0
  clear hb0
  go_wp2_with fail
  refine bodyPost_ret (v := .tuple #[.slice none 0 0, .int .i64 0, .int .i64 (adrE xs)]) (by simp [results, Try.f20, go_sem]) rfl ?_
  exact c3_err HE.out rfl B0.out

set_option maxRecDepth 100000 in
set_option maxHeartbeats 8000000 in
theorem rcor_bad (a : Option Addr) (n c : Nat) (xs : List Nat) (ad : Int) (ys : List Nat) (w : World) (h : U8s w a n xs) (hc : n ≤ c) (_hcz : a = none → c = 0) (hE : adrE xs = 0) (b1 b2 : Bool) (h1 : decide (ad < 0) = b1) (h2 : decide (16777215 < ad) = b2) (hor : b1 = true ∨ b1 = false ∧ b2 = true) :
    Calls Try.prog 20 #[.slice a n c, .int .i64 ad] w (C3Post 1 0 ys w) := by
  have HL := Lib.hid h
  have hl := h.len
  have hlx := h.bound
  have HLn := Lib.hid hl
  obtain ⟨i0, hi, hiz, his, hib⟩ := info_parts' infoU8
  have HI := Lib.hid (And.intro hi (And.intro hiz (And.intro his hib)))
  have HE := Lib.hid hE
  clear hE
  clear h hl hi hiz his hib
  go_enter Try.func20, Try.ntmps20
  go_wp2_with fail
  refine (rAdr_call a n c xs _ HL.out hc).mono ?_; rintro e w0 ⟨rfl, hb0⟩
  rw [HE.out]
  have B0 := Lib.hid hb0
  clear hb0
  rcases hor with rfl | ⟨rfl, rfl⟩
  all_goals
    go_wp2_with fail
    refine bodyPost_ret (v := .tuple #[.slice none 0 0, .int .i64 0, .int .i64 1]) (by simp [results, Try.f20, go_sem]) rfl ?_
    exact c3_err (by decide) rfl B0.out

set_option maxRecDepth 100000 in
set_option maxHeartbeats 8000000 in
theorem rcor_same (a : Option Addr) (n c : Nat) (xs : List Nat) (A : Nat) (w : World) (h : U8s w a n xs) (hc : n ≤ c) (hcz : a = none → c = 0) (hE : adrE xs = 0) (hA : A < 16777216) (hs : rg xs = A) :
    Calls Try.prog 20 #[.slice a n c, .int .i64 (A : Int)] w (C3Post 0 (-1) xs w) := by
  have HL := Lib.hid h
  have hl := h.len
  have hlx := h.bound
  have HLn := Lib.hid hl
  obtain ⟨i0, hi, hiz, his, hib⟩ := info_parts' infoU8
  have HI := Lib.hid (And.intro hi (And.intro hiz (And.intro his hib)))
  obtain ⟨ha1, h128, h24, hR, hrl⟩ := adr_vals hE
  have HE := Lib.hid (And.intro hE hR)
  rw [hl] at h128 h24
  have hrl2 : rg xs < 16777216 := hrl
  have d1 : decide ((A : Int) < 0) = false := decide_eq_false (by omega)
  have d2 : decide (16777215 < (A : Int)) = false := decide_eq_false (by omega)
  have d3 : (((rg xs : Nat) : Int) == (A : Int)) = true := by rw [hs]; simp
  clear hE hR ha1 hs
  clear h hl hi hiz his hib
  go_enter Try.func20, Try.ntmps20
  go_wp2_with fail
  refine (rAdr_call a n c xs _ HL.out hc).mono ?_; rintro e w0 ⟨rfl, hb0⟩
  rw [HE.out.1, HE.out.2]
  have B0 := Lib.hid hb0
  clear hb0
  go_upto_region 6 with fail
  go_wp2_with (refine wpList_append_src rfl _ _ 28 rfl w0.heap.size 5 i0 _ 1 1 Try.underlying28 HI.out.1 HI.out.2.1 HI.out.2.2.1 HI.out.2.2.2 rfl (by decide) _ 0 _ rfl (own_nil w0 _ _ _) a n c (flatU xs) rfl ?c0 ?c1 ?c2 (flatU_cell xs) ?c3 ?c4 ?c5 ?_; rotate_right; intro v1 w1 hown1 hgrow1)
  case c0 =>
    intro e0
    rcases HL.out.cells with h0 | ⟨b, off, e1, _⟩
    · exact ⟨h0, hcz e0⟩
    · rw [e1] at e0; cases e0
  case c1 => rw [flatU_len, HLn.out, Nat.mul_one]
  case c2 => intro ad' had; subst had; exact u8s_src (HL.out.below B0.out)
  case c3 => unfold maxLen; omega
  case c4 => omega
  case c5 => exact Nat.le_refl _
  have hb1 : Below w0.heap.size w0 w1 := grownB (own_nil w0 w0.heap.size 5 1) hgrow1 (Nat.le_refl _) (Nat.le_refl _)
  have hO1 : w1.ownsRow w.heap.size 5 1 v1 n (flatU xs) := by
    have := hown1
    rw [Nat.zero_add, List.nil_append] at this
    exact ownsRow_base this B0.out.size
  have K := Lib.hid (And.intro hO1 (B0.out.trans (hb1.mono B0.out.size)))
  clear hb1 hown1 hgrow1 B0 hO1
  go_wp2_with fail
  refine bodyPost_ret (v := .tuple #[v1, .int .i64 (-1), .int .i64 0]) (by simp [results, Try.f20, go_sem]) rfl ?_
  exact c3_ok (by rw [HLn.out]; exact K.out.1) K.out.2

set_option maxRecDepth 100000 in
set_option maxHeartbeats 8000000 in
theorem rcor_none (a : Option Addr) (n c : Nat) (xs : List Nat) (A : Nat) (ys : List Nat) (w : World) (h : U8s w a n xs) (hc : n ≤ c) (hcz : a = none → c = 0) (hE : adrE xs = 0) (hA : A < 16777216) (hne : rg xs ≠ A) (hlt : synI n (rg xs ^^^ A) = n) :
    Calls Try.prog 20 #[.slice a n c, .int .i64 (A : Int)] w (C3Post 13 0 ys w) := by
  have HL := Lib.hid h
  have hl := h.len
  have hlx := h.bound
  have HLn := Lib.hid hl
  obtain ⟨i0, hi, hiz, his, hib⟩ := info_parts' infoU8
  have HI := Lib.hid (And.intro hi (And.intro hiz (And.intro his hib)))
  obtain ⟨ha1, h128, h24, hR, hrl⟩ := adr_vals hE
  have HE := Lib.hid (And.intro hE hR)
  rw [hl] at h128 h24
  have hrl2 : rg xs < 16777216 := hrl
  have d1 : decide ((A : Int) < 0) = false := decide_eq_false (by omega)
  have d2 : decide (16777215 < (A : Int)) = false := decide_eq_false (by omega)
  obtain ⟨t, ht⟩ : ∃ t, rg xs ^^^ A = t := ⟨_, rfl⟩
  have hxx := xor_adr (rg xs) A hrl2 hA
  rw [ht] at hxx hlt 
  have d3 : (((rg xs : Nat) : Int) == (A : Int)) = false := by rw [beq_eq_false_iff_ne]; omega
  have hsy : ∀ j, j < n → rg (unitL n j) ≠ t := by
    rcases synI_cases n t with ⟨e, _⟩ | ⟨e, _⟩
    · exact e
    · omega
  have HS := Lib.hid hsy
  clear hE hR ha1 hne ht hlt hsy
  clear h hl hi hiz his hib
  go_enter Try.func20, Try.ntmps20
  go_wp2_with fail
  refine (rAdr_call a n c xs _ HL.out hc).mono ?_; rintro e w0 ⟨rfl, hb0⟩
  rw [HE.out.1, HE.out.2]
  have B0 := Lib.hid hb0
  clear hb0
  go_upto_region 6 with fail
  go_wp2_with (refine wpList_append_src rfl _ _ 28 rfl w0.heap.size 5 i0 _ 1 1 Try.underlying28 HI.out.1 HI.out.2.1 HI.out.2.2.1 HI.out.2.2.2 rfl (by decide) _ 0 _ rfl (own_nil w0 _ _ _) a n c (flatU xs) rfl ?c0 ?c1 ?c2 (flatU_cell xs) ?c3 ?c4 ?c5 ?_; rotate_right; intro v1 w1 hown1 hgrow1)
  case c0 =>
    intro e0
    rcases HL.out.cells with h0 | ⟨b, off, e1, _⟩
    · exact ⟨h0, hcz e0⟩
    · rw [e1] at e0; cases e0
  case c1 => rw [flatU_len, HLn.out, Nat.mul_one]
  case c2 => intro ad' had; subst had; exact u8s_src (HL.out.below B0.out)
  case c3 => unfold maxLen; omega
  case c4 => omega
  case c5 => exact Nat.le_refl _
  have hb1 : Below w0.heap.size w0 w1 := grownB (own_nil w0 w0.heap.size 5 1) hgrow1 (Nat.le_refl _) (Nat.le_refl _)
  have hO1 : w1.ownsRow w.heap.size 5 1 v1 n (flatU xs) := by
    have := hown1
    rw [Nat.zero_add, List.nil_append] at this
    exact ownsRow_base this B0.out.size
  have K := Lib.hid (And.intro hO1 (B0.out.trans (hb1.mono B0.out.size)))
  clear hb1 hown1 hgrow1 B0 hO1
  go_wp2_with fail
  go_loopw [10] (fun kv wr => ∃ k : Nat, k ≤ n ∧ kv = .int .i64 k ∧ wr.ownsRow w.heap.size 5 1 v1 n (flatU xs) ∧ Below w.heap.size w wr) (fun kv _ => n + 1 - (intOf kv).toNat)
  case atStart => exact ⟨0, Nat.zero_le _, rfl, K.out.1, K.out.2⟩
  case round =>
    clear K
    obtain ⟨k, hk, rfl, hO, hB⟩ := hrel
    have HQ := Lib.hid (And.intro hO hB)
    clear hO hB
    have hk0 : (0 : Int) ≤ (k : Int) := by omega
    by_cases hks : k < n
    · have hk1 : (k : Int) < (n : Int) := by omega
      have d4 : (((rg (unitL n k) : Nat) : Int) == (t : Int)) = false := by
        have := HS.out k hks
        rw [beq_eq_false_iff_ne]; omega
      go_wp2_with fail
      refine (rsyndrome_call n k _ h24 h128 (by omega)).mono ?_; rintro e w3 ⟨rfl, hb3⟩
      have H3 := Lib.hid (And.intro (ownsRow_below HQ.out.1 hb3 (Nat.le_refl _)) (HQ.out.2.trans (hb3.mono HQ.out.2.size)))
      clear hb3
      go_wp2_with fail
      go_roundw
      case rel => exact ⟨k + 1, by omega, by go_num, H3.out.1, H3.out.2⟩
      case measure => simp [intOf]; omega
    · obtain rfl : k = n := by omega
      clear hks
      go_wp2_with fail
      refine bodyPost_ret (v := .tuple #[.slice none 0 0, .int .i64 0, .int .i64 13]) (by simp [results, Try.f20, go_sem]) rfl ?_
      exact c3_err (by decide) rfl HQ.out.2

set_option maxRecDepth 100000 in
set_option maxHeartbeats 8000000 in
theorem rcor_fix (a : Option Addr) (n c : Nat) (xs : List Nat) (A : Nat) (w : World) (h : U8s w a n xs) (hc : n ≤ c) (hcz : a = none → c = 0) (hE : adrE xs = 0) (hA : A < 16777216) (hne : rg xs ≠ A) (hlt : synI n (rg xs ^^^ A) < n) :
    Calls Try.prog 20 #[.slice a n c, .int .i64 (A : Int)] w (C3Post 0 (synI n (rg xs ^^^ A) : Nat) (flL xs (synI n (rg xs ^^^ A))) w) := by
  have HL := Lib.hid h
  have hl := h.len
  have hlx := h.bound
  have HLn := Lib.hid hl
  obtain ⟨i0, hi, hiz, his, hib⟩ := info_parts' infoU8
  have HI := Lib.hid (And.intro hi (And.intro hiz (And.intro his hib)))
  obtain ⟨ha1, h128, h24, hR, hrl⟩ := adr_vals hE
  have HE := Lib.hid (And.intro hE hR)
  rw [hl] at h128 h24
  have hrl2 : rg xs < 16777216 := hrl
  have d1 : decide ((A : Int) < 0) = false := decide_eq_false (by omega)
  have d2 : decide (16777215 < (A : Int)) = false := decide_eq_false (by omega)
  obtain ⟨t, ht⟩ : ∃ t, rg xs ^^^ A = t := ⟨_, rfl⟩
  have hxx := xor_adr (rg xs) A hrl2 hA
  rw [ht] at hxx hlt ⊢
  have d3 : (((rg xs : Nat) : Int) == (A : Int)) = false := by rw [beq_eq_false_iff_ne]; omega
  obtain ⟨s, hs⟩ : ∃ s, synI n t = s := ⟨_, rfl⟩
  have hsy : rg (unitL n s) = t ∧ ∀ j, j < s → rg (unitL n j) ≠ t := by
    rcases synI_cases n t with ⟨_, e⟩ | ⟨_, e2, e3⟩
    · omega
    · rw [hs] at e2 e3; exact ⟨e2, e3⟩
  rw [hs] at hlt ⊢
  have HS := Lib.hid hsy
  have HA1 := Lib.hid ha1
  clear hE hR ha1 hne ht hs hsy
  clear h hl hi hiz his hib
  go_enter Try.func20, Try.ntmps20
  go_wp2_with fail
  refine (rAdr_call a n c xs _ HL.out hc).mono ?_; rintro e w0 ⟨rfl, hb0⟩
  rw [HE.out.1, HE.out.2]
  have B0 := Lib.hid hb0
  clear hb0
  go_upto_region 6 with fail
  go_wp2_with (refine wpList_append_src rfl _ _ 28 rfl w0.heap.size 5 i0 _ 1 1 Try.underlying28 HI.out.1 HI.out.2.1 HI.out.2.2.1 HI.out.2.2.2 rfl (by decide) _ 0 _ rfl (own_nil w0 _ _ _) a n c (flatU xs) rfl ?c0 ?c1 ?c2 (flatU_cell xs) ?c3 ?c4 ?c5 ?_; rotate_right; intro v1 w1 hown1 hgrow1)
  case c0 =>
    intro e0
    rcases HL.out.cells with h0 | ⟨b, off, e1, _⟩
    · exact ⟨h0, hcz e0⟩
    · rw [e1] at e0; cases e0
  case c1 => rw [flatU_len, HLn.out, Nat.mul_one]
  case c2 => intro ad' had; subst had; exact u8s_src (HL.out.below B0.out)
  case c3 => unfold maxLen; omega
  case c4 => omega
  case c5 => exact Nat.le_refl _
  have hb1 : Below w0.heap.size w0 w1 := grownB (own_nil w0 w0.heap.size 5 1) hgrow1 (Nat.le_refl _) (Nat.le_refl _)
  have hO1 : w1.ownsRow w.heap.size 5 1 v1 n (flatU xs) := by
    have := hown1
    rw [Nat.zero_add, List.nil_append] at this
    exact ownsRow_base this B0.out.size
  have K := Lib.hid (And.intro hO1 (B0.out.trans (hb1.mono B0.out.size)))
  clear hb1 hown1 hgrow1 B0 hO1
  go_wp2_with fail
  go_loopw [10] (fun kv wr => ∃ k : Nat, k ≤ s ∧ kv = .int .i64 k ∧ wr.ownsRow w.heap.size 5 1 v1 n (flatU xs) ∧ Below w.heap.size w wr) (fun kv _ => s + 1 - (intOf kv).toNat)
  case atStart => exact ⟨0, Nat.zero_le _, rfl, K.out.1, K.out.2⟩
  case round =>
    clear K
    obtain ⟨k, hk, rfl, hO, hB⟩ := hrel
    have HQ := Lib.hid (And.intro hO hB)
    clear hO hB
    have hk0 : (0 : Int) ≤ (k : Int) := by omega
    by_cases hks : k < s
    · have hk1 : (k : Int) < (n : Int) := by omega
      have d4 : (((rg (unitL n k) : Nat) : Int) == (t : Int)) = false := by
        have := HS.out.2 k hks
        rw [beq_eq_false_iff_ne]; omega
      go_wp2_with fail
      refine (rsyndrome_call n k _ h24 h128 (by omega)).mono ?_; rintro e w3 ⟨rfl, hb3⟩
      have H3 := Lib.hid (And.intro (ownsRow_below HQ.out.1 hb3 (Nat.le_refl _)) (HQ.out.2.trans (hb3.mono HQ.out.2.size)))
      clear hb3
      go_wp2_with fail
      go_roundw
      case rel => exact ⟨k + 1, by omega, by go_num, H3.out.1, H3.out.2⟩
      case measure => simp [intOf]; omega
    · obtain rfl : k = s := by omega
      have hk1 : (k : Int) < (n : Int) := by omega
      have d4 : (((rg (unitL n k) : Nat) : Int) == (t : Int)) = true := by rw [HS.out.1]; simp
      go_wp2_with fail
      refine (rsyndrome_call n k _ h24 h128 hlt).mono ?_; rintro e w3 ⟨rfl, hb3⟩
      have hO3 := ownsRow_below HQ.out.1 hb3 (Nat.le_refl _)
      obtain ⟨g, cap, rfl, _, hcap⟩ := own_some hO3 HLn.out (by omega) hlx
      obtain ⟨hg, x0, f0⟩ := own_at' hO3 HLn.out hlt
      have hx := all1_get HA1.out k
      obtain ⟨x, hxx2⟩ : ∃ x, xs[k]?.getD 0 = x := ⟨_, rfl⟩
      have HX := Lib.hid hxx2
      rw [hxx2] at x0 hx
      have H3 := Lib.hid (And.intro hO3 (And.intro (HQ.out.2.trans (hb3.mono HQ.out.2.size)) hg))
      have hsub : (1 : Int) - (x : Int) = ((1 - x : Nat) : Int) := by omega
      clear hb3 hO3 hg hxx2
      go_wp2_with fail
      refine bodyPost_ret (v := .tuple #[.slice (some ⟨g, 0, none⟩) n cap, .int .i64 (k : Int), .int .i64 0]) (by simp [results, Try.f20, go_sem]) rfl ?_
      have he : flL xs k = xs.set k (1 - x) := by unfold flL; rw [HX.out, one_sub hx]
      rw [he]
      exact c3_ok (by rw [List.length_set, HLn.out]; exact own_set' H3.out.1 HLn.out k (1 - x)) (H3.out.2.1.setCell (p := ⟨g, k, none⟩) H3.out.2.2 _)
theorem rCor_call (a : Option Addr) (n c : Nat) (xs : List Nat) (ad : Int) (w : World) (h : U8s w a n xs) (hc : n ≤ c) (hcz : a = none → c = 0) :
    Calls Try.prog 20 #[.slice a n c, .int .i64 ad] w (C3Post (corE xs ad) (corA xs ad) (corL xs ad) w) := by
  have hl := h.len
  by_cases hE : adrE xs = 0
  · by_cases hb : ad < 0 ∨ 16777215 < ad
    · have e : corE xs ad = 1 := by unfold corE; rw [if_neg (by rw [hE]; decide), if_pos hb]
      have e2 : corA xs ad = 0 := by unfold corA; rw [e, if_pos (by decide)]
      rw [e, e2]
      by_cases h1 : ad < 0
      · exact rcor_bad a n c xs ad _ w h hc hcz hE true _ (decide_eq_true h1) rfl (Or.inl rfl)
      · exact rcor_bad a n c xs ad _ w h hc hcz hE false true (decide_eq_false h1) (decide_eq_true (by omega)) (Or.inr ⟨rfl, rfl⟩)
    · obtain ⟨A, rfl⟩ := Int.eq_ofNat_of_zero_le (show 0 ≤ ad by omega)
      by_cases hs : rg xs = A
      · have e : corE xs (A : Int) = 0 := by unfold corE; rw [if_neg (by rw [hE]; decide), if_neg hb, Int.toNat_natCast, if_pos hs]
        have e2 : corA xs (A : Int) = -1 := by unfold corA; rw [e, if_neg (by decide), Int.toNat_natCast, if_pos hs]
        have e3 : corL xs (A : Int) = xs := by unfold corL; rw [Int.toNat_natCast, if_pos hs]
        rw [e, e2, e3]
        exact rcor_same a n c xs A w h hc hcz hE (by omega) hs
      · by_cases hf : synI n (rg xs ^^^ A) < n
        · have e : corE xs (A : Int) = 0 := by unfold corE; rw [if_neg (by rw [hE]; decide), if_neg hb, Int.toNat_natCast, if_neg hs, hl, if_pos hf]
          have e2 : corA xs (A : Int) = (synI n (rg xs ^^^ A) : Nat) := by unfold corA; rw [e, if_neg (by decide), Int.toNat_natCast, if_neg hs, hl]
          have e3 : corL xs (A : Int) = flL xs (synI n (rg xs ^^^ A)) := by unfold corL; rw [Int.toNat_natCast, if_neg hs, hl]
          rw [e, e2, e3]
          exact rcor_fix a n c xs A w h hc hcz hE (by omega) hs hf
        · have e : corE xs (A : Int) = 13 := by unfold corE; rw [if_neg (by rw [hE]; decide), if_neg hb, Int.toNat_natCast, if_neg hs, hl, if_neg hf]
          have e2 : corA xs (A : Int) = 0 := by unfold corA; rw [e, if_pos (by decide)]
          rw [e, e2]
          refine rcor_none a n c xs A _ w h hc hcz hE (by omega) hs ?_
          rcases synI_cases n (rg xs ^^^ A) with ⟨_, e⟩ | ⟨e, _⟩
          · exact e
          · exact absurd e hf
  · have e : corE xs ad = adrE xs := if_pos hE
    have e2 : corA xs ad = 0 := by unfold corA; rw [e, if_pos hE]
    rw [e, e2]
    exact rcor_err a n c xs ad _ w h hc hcz hE
end Go.Proofs.Ytpfohhmhadjdpaa
