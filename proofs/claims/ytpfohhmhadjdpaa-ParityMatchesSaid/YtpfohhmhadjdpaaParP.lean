/-
  Layer 2 (parity): Correct, walked.
-/
import Derived.Test.YtpfohhmhadjdpaaParO
import Derived.Deep.DeepCutAuto
import Derived.WalkMore
import Derived.LoopN
namespace Go.Proofs.Ytpfohhmhadjdpaa
open Go.RowKit BitsMath ParityMath MyHeap MyCopy MyOwn MyCopyWide

/-- The first place whose syndrome is t; n if there is none. -/
def synI (n t : Nat) : Nat := ((List.range n).find? fun i => rg (unitL n i) == t).getD n
theorem find_range (p : Nat → Bool) : ∀ n, ((∀ j, j < n → p j = false) ∧ (List.range n).find? p = none) ∨ ∃ i, i < n ∧ p i = true ∧ (∀ j, j < i → p j = false) ∧ (List.range n).find? p = some i := by
  intro n
  induction n with
  | zero => exact Or.inl ⟨fun j hj => by omega, rfl⟩
  | succ n ih =>
    rw [List.range_succ, List.find?_append]
    rcases ih with ⟨h1, h2⟩ | ⟨i, h1, h2, h3, h4⟩
    · rw [h2]
      cases hp : p n with
      | true => exact Or.inr ⟨n, by omega, hp, h1, by simp [hp]⟩
      | false =>
        refine Or.inl ⟨fun j hj => ?_, by simp [hp]⟩
        by_cases e : j = n
        · subst e; exact hp
        · exact h1 j (by omega)
    · rw [h4]
      exact Or.inr ⟨i, by omega, h2, h3, rfl⟩
theorem synI_cases (n t : Nat) : ((∀ j, j < n → rg (unitL n j) ≠ t) ∧ synI n t = n) ∨ (synI n t < n ∧ rg (unitL n (synI n t)) = t ∧ ∀ j, j < synI n t → rg (unitL n j) ≠ t) := by
  unfold synI
  rcases find_range (fun i => rg (unitL n i) == t) n with ⟨h1, h2⟩ | ⟨i, h1, h2, h3, h4⟩
  · rw [h2]
    exact Or.inl ⟨fun j hj => by simpa using h1 j hj, rfl⟩
  · rw [h4]
    exact Or.inr ⟨h1, by simpa using h2, fun j hj => by simpa using h3 j hj⟩
def C3Post (E at_ : Int) (ys : List Nat) (w : World) (e : Ending) (w' : World) : Prop := ∃ v, e = .returned (.tuple #[v, .int .i64 at_, .int .i64 E]) ∧ OwnR w.heap.size E ys v w' ∧ Below w.heap.size w w'
theorem c3_err {E E' at_ : Int} {ys : List Nat} {w w' : World} (hE : E ≠ 0) (h : E' = E) (hB : Below w.heap.size w w') : C3Post E at_ ys w (.returned (.tuple #[.slice none 0 0, .int .i64 at_, .int .i64 E'])) w' := by
  subst h
  exact ⟨_, rfl, ⟨fun h0 => absurd h0 hE, fun _ => rfl⟩, hB⟩
def corB (ad : Int) : Prop := ad < 0 ∨ 16777215 < ad

set_option maxRecDepth 100000 in
set_option maxHeartbeats 8000000 in
theorem cor_fix (a : Option Addr) (n c : Nat) (xs : List Nat) (A : Nat) (w : World) (h : U8s w a n xs) (hc : n ≤ c) (hE : adrE xs = 0) (hA : A < 16777216) (hne : rg xs ≠ A) (hlt : synI n (rg xs ^^^ A) < n) :
    Calls Try.prog 23 #[.slice a n c, .int .i64 (A : Int)] w (C3Post 0 (synI n (rg xs ^^^ A) : Nat) (flL xs (synI n (rg xs ^^^ A))) w) := by
  have HL := Lib.hid h
  have hl := h.len
  obtain ⟨ha1, h128, h24, hR, hrl⟩ := adr_vals hE
  have HLn := Lib.hid hl
  have HE := Lib.hid (And.intro hE hR)
  rw [hl] at h128 h24
  obtain ⟨t, ht⟩ : ∃ t, rg xs ^^^ A = t := ⟨_, rfl⟩
  have hxx := xor_adr (rg xs) A hrl hA
  rw [ht] at hxx hlt ⊢
  obtain ⟨s, hs⟩ : ∃ s, synI n t = s := ⟨_, rfl⟩
  have hsy : rg (unitL n s) = t ∧ ∀ j, j < s → rg (unitL n j) ≠ t := by
    rcases synI_cases n t with ⟨_, e⟩ | ⟨_, e2, e3⟩
    · omega
    · rw [hs] at e2 e3; exact ⟨e2, e3⟩
  rw [hs] at hlt ⊢
  have HS := Lib.hid hsy
  have d1 : decide ((A : Int) < 0) = false := decide_eq_false (by omega)
  have d2 : decide (16777215 < (A : Int)) = false := decide_eq_false (by omega)
  have d3 : (((rg xs : Nat) : Int) == (A : Int)) = false := by simpa using (show ((rg xs : Nat) : Int) ≠ (A : Int) by omega)
  have hlx := h.bound
  clear h hl hE hR ht hs hsy hne ha1
  go_enter Try.func23, Try.ntmps23
  go_wp2_with fail
  go_step3
  go_wp2_with fail
  refine (Address_call a n c xs _ HL.out hc).mono ?_; rintro e w1 ⟨rfl, hb1⟩
  rw [HE.out.1, HE.out.2]
  have B1 := Lib.hid hb1
  clear hb1
  go_wp2_with fail
  go_step3
  go_wp2_with fail
  go_loopw [5, 29] (fun av kv wr => ∃ k : Nat, k ≤ s ∧ kv = .int .i64 k ∧ av = .int .i64 (-1) ∧ Below w.heap.size w wr) (fun _ kv _ => s + 1 - (intOf kv).toNat)
  case atStart => exact ⟨0, Nat.zero_le _, rfl, rfl, B1.out⟩
  case round =>
    clear B1
    obtain ⟨k, hk, rfl, rfl, hB⟩ := hrel
    have HB := Lib.hid hB
    clear hB
    have hk0 : (0 : Int) ≤ (k : Int) := by omega
    have hk1 : (k : Int) < (n : Int) := by omega
    have hsE := Lib.hid (show synE (n : Int) (k : Int) = 0 ∧ synR (n : Int) (k : Int) = (rg (unitL n k) : Nat) from by
      have e : synE (n : Int) (k : Int) = 0 := by unfold synE; rw [if_neg (by omega), if_neg (by omega)]
      exact ⟨e, by unfold synR; rw [if_pos e, Int.toNat_natCast, Int.toNat_natCast]⟩)
    by_cases hks : k < s
    · have d4 : (((rg (unitL n k) : Nat) : Int) == (t : Int)) = false := by
        have := HS.out.2 k hks
        simpa using (show ((rg (unitL n k) : Nat) : Int) ≠ (t : Int) by omega)
      go_wp2_with fail
      refine (Syndrome_call (n : Int) (k : Int) _).mono ?_; rintro e w3 ⟨rfl, hb3⟩
      rw [hsE.out.1, hsE.out.2]
      have HB3 := Lib.hid (HB.out.trans (hb3.mono HB.out.size))
      clear hb3
      go_wp2_with fail
      go_roundw
      case rel => exact ⟨k + 1, by omega, by go_num, rfl, HB3.out⟩
      case measure => simp [intOf]; omega
    · obtain rfl : k = s := by omega
      have d4 : (((rg (unitL n k) : Nat) : Int) == (t : Int)) = true := by rw [HS.out.1]; simp
      go_wp2_with fail
      refine (Syndrome_call (n : Int) (k : Int) _).mono ?_; rintro e w3 ⟨rfl, hb3⟩
      rw [hsE.out.1, hsE.out.2]
      have HB3 := Lib.hid (HB.out.trans (hb3.mono HB.out.size))
      clear hb3
      go_wp2_with fail
      have hfE : flE xs (k : Int) = 0 := by unfold flE; rw [if_neg (by rw [(adrE_ok HE.out.1).1]; decide), if_neg (by rw [HLn.out]; omega)]
      refine (Flip_call a n c xs (k : Int) _ (HL.out.below HB3.out)).mono ?_; rintro e w4 ⟨v4, rfl, hO, hb4⟩
      rw [hfE] at hO ⊢
      rw [Int.toNat_natCast] at hO
      have H4 := Lib.hid (And.intro hO (HB3.out.trans (hb4.mono HB3.out.size)))
      have hz := Lib.hid HB3.out.size
      clear hfE hO hb4
      go_wp2_with fail
      refine bodyPost_ret (v := .tuple #[v4, .int .i64 (k : Int), .int .i64 0]) (by simp [results, Try.f23, go_sem]) rfl ?_
      exact ⟨v4, rfl, ⟨fun e => ownsRow_base (H4.out.1.1 e) hz.out, fun h0 => absurd rfl h0⟩, H4.out.2⟩

set_option maxRecDepth 100000 in
set_option maxHeartbeats 8000000 in
theorem cor_none (a : Option Addr) (n c : Nat) (xs : List Nat) (A : Nat) (ys : List Nat) (w : World) (h : U8s w a n xs) (hc : n ≤ c) (hE : adrE xs = 0) (hA : A < 16777216) (hne : rg xs ≠ A) (hlt : synI n (rg xs ^^^ A) = n) :
    Calls Try.prog 23 #[.slice a n c, .int .i64 (A : Int)] w (C3Post 13 0 ys w) := by
  have HL := Lib.hid h
  have hl := h.len
  obtain ⟨ha1, h128, h24, hR, hrl⟩ := adr_vals hE
  have HE := Lib.hid (And.intro hE hR)
  rw [hl] at h128 h24
  obtain ⟨t, ht⟩ : ∃ t, rg xs ^^^ A = t := ⟨_, rfl⟩
  have hxx := xor_adr (rg xs) A hrl hA
  rw [ht] at hxx hlt
  have hsy : ∀ j, j < n → rg (unitL n j) ≠ t := by
    rcases synI_cases n t with ⟨e, _⟩ | ⟨e, _⟩
    · exact e
    · omega
  have HS := Lib.hid hsy
  have d1 : decide ((A : Int) < 0) = false := decide_eq_false (by omega)
  have d2 : decide (16777215 < (A : Int)) = false := decide_eq_false (by omega)
  have d3 : (((rg xs : Nat) : Int) == (A : Int)) = false := by simpa using (show ((rg xs : Nat) : Int) ≠ (A : Int) by omega)
  have d5 : (((rg xs : Nat) : Int) != (A : Int)) = true := bne_iff_ne.2 (by omega)
  have hlx := h.bound
  clear h hl hE hR ht hlt hsy hne ha1
  go_enter Try.func23, Try.ntmps23
  go_wp2_with fail
  go_step3
  go_wp2_with fail
  refine (Address_call a n c xs _ HL.out hc).mono ?_; rintro e w1 ⟨rfl, hb1⟩
  rw [HE.out.1, HE.out.2]
  have B1 := Lib.hid hb1
  clear hb1
  go_wp2_with fail
  go_step3
  go_wp2_with fail
  go_loopw [5, 29] (fun av kv wr => ∃ k : Nat, k ≤ n ∧ kv = .int .i64 k ∧ av = .int .i64 (-1) ∧ Below w.heap.size w wr) (fun _ kv _ => n - (intOf kv).toNat)
  case atStart => exact ⟨0, Nat.zero_le _, rfl, rfl, B1.out⟩
  case round =>
    clear B1
    obtain ⟨k, hk, rfl, rfl, hB⟩ := hrel
    have HB := Lib.hid hB
    clear hB
    by_cases hks : k < n
    · have hk0 : (0 : Int) ≤ (k : Int) := by omega
      have hk1 : (k : Int) < (n : Int) := by omega
      have hsE := Lib.hid (show synE (n : Int) (k : Int) = 0 ∧ synR (n : Int) (k : Int) = (rg (unitL n k) : Nat) from by
        have e : synE (n : Int) (k : Int) = 0 := by unfold synE; rw [if_neg (by omega), if_neg (by omega)]
        exact ⟨e, by unfold synR; rw [if_pos e, Int.toNat_natCast, Int.toNat_natCast]⟩)
      have d4 : (((rg (unitL n k) : Nat) : Int) == (t : Int)) = false := by
        have := HS.out k hks
        simpa using (show ((rg (unitL n k) : Nat) : Int) ≠ (t : Int) by omega)
      go_wp2_with fail
      refine (Syndrome_call (n : Int) (k : Int) _).mono ?_; rintro e w3 ⟨rfl, hb3⟩
      rw [hsE.out.1, hsE.out.2]
      have HB3 := Lib.hid (HB.out.trans (hb3.mono HB.out.size))
      clear hb3
      go_wp2_with fail
      go_roundw
      case rel => exact ⟨k + 1, by omega, by go_num, rfl, HB3.out⟩
      case measure => simp [intOf]; omega
    · obtain rfl : k = n := by omega
      clear hks
      go_wp2_with fail
      refine bodyPost_ret (v := .tuple #[.slice none 0 0, .int .i64 0, .int .i64 13]) (by simp [results, Try.f23, go_sem]) rfl ?_
      exact c3_err (by decide) rfl HB.out

set_option maxRecDepth 100000 in
set_option maxHeartbeats 8000000 in
theorem cor_same (a : Option Addr) (n c : Nat) (xs : List Nat) (w : World) (h : U8s w a n xs) (hc : n ≤ c) (hE : adrE xs = 0) :
    Calls Try.prog 23 #[.slice a n c, .int .i64 ((rg xs : Nat) : Int)] w (C3Post 0 (-1) xs w) := by
  have HL := Lib.hid h
  have hl := h.len
  obtain ⟨ha1, h128, h24, hR, hrl⟩ := adr_vals hE
  have HLn := Lib.hid hl
  have HE := Lib.hid (And.intro hE hR)
  rw [hl] at h128 h24
  obtain ⟨A, hA0⟩ : ∃ A, rg xs = A := ⟨_, rfl⟩
  rw [hA0] at hrl HE ⊢
  have hrl2 : A < 16777216 := hrl
  have d1 : decide ((A : Int) < 0) = false := decide_eq_false (by omega)
  have d2 : decide (16777215 < (A : Int)) = false := decide_eq_false (by omega)
  have d3 : (((A : Nat) : Int) == (A : Int)) = true := by simp
  have d5 : (((A : Nat) : Int) != (A : Int)) = false := by simp
  have mk := hmkU n (by omega)
  have hlx := h.bound
  have hsE := Lib.hid (show synE (n : Int) 0 = 0 ∧ synR (n : Int) 0 = (rg (unitL n 0) : Nat) from by
    have e : synE (n : Int) 0 = 0 := by unfold synE; rw [if_neg (by omega), if_neg (by omega)]
    exact ⟨e, by unfold synR; rw [if_pos e, Int.toNat_natCast]; rfl⟩)
  have hn0 : (0 : Int) < (n : Int) := by omega
  clear h hl hE hR ha1 hA0 hrl
  go_enter Try.func23, Try.ntmps23
  go_wp2_with fail
  go_step3
  go_wp2_with fail
  refine (Address_call a n c xs _ HL.out hc).mono ?_; rintro e w1 ⟨rfl, hb1⟩
  rw [HE.out.1, HE.out.2]
  have B1 := Lib.hid hb1
  clear hb1
  go_wp2_with fail
  go_step3
  go_wp2_with fail
  refine wp_loop_rounds 1 ?_
  rw [rounds_succ]
  go_wp2_with fail
  refine (Syndrome_call (n : Int) 0 _).mono ?_; rintro e w3 ⟨rfl, hb3⟩
  rw [hsE.out.1, hsE.out.2]
  have HB := Lib.hid (B1.out.trans (hb3.mono B1.out.size))
  clear hb3 B1
  go_upto_region 21 with fail
  go_wp2_with (refine wpList_copy_fresh rfl _ _ 28 28 rfl 5 1 Try.underlying28 (by kernel_rfl) (by decide) w3.heap.size a n n n c rfl rfl (madeCells #[.int .u8 0] n) 5 rfl (flatU xs) ?c1 ?c2 ?c3 (flatU_cell xs) ?_; rotate_right; intro X HX)
  case c1 => rw [flatU_len, HLn.out, Nat.mul_one]; exact (Nat.min_self n).symm
  case c2 =>
    intro _
    have hU := HL.out.below ((HB.out.alloc HB.out.size (.cells (madeCells #[.int .u8 0] n) 5)))
    obtain ⟨b, off, rfl, _⟩ := u8s_at hU (k := 0) (by omega)
    exact ⟨_, rfl, u8s_src hU⟩
  case c3 => rw [flatU_len, HLn.out, size_madeCells]; exact Nat.le_refl _
  have hX : X.toList = flatU xs := by
    rw [HX.out, flatU_len, HLn.out, List.drop_eq_nil_of_le (by rw [Array.length_toList, size_madeCells]; exact Nat.le_refl _), List.append_nil]
  have HXX := Lib.hid hX
  clear hX HX mk
  have HB2 := Lib.hid (HB.out.alloc HB.out.size (.cells X 5))
  have HBk := Lib.hid (block_new w3 (.cells X 5) rfl)
  have hz := Lib.hid HB.out.size
  generalize w3.alloc (.cells X 5) = w4 at *
  go_wp2_with fail
  refine bodyPost_ret (v := .tuple #[.slice (some ⟨w3.heap.size, 0, none⟩) n n, .int .i64 (-1), .int .i64 0]) (by simp [results, Try.f23, go_sem]) rfl ?_
  exact ⟨_, rfl, ⟨fun _ => by rw [HLn.out]; exact own_lit HBk.out hz.out HXX.out HLn.out (by omega), fun h0 => absurd rfl h0⟩, HB2.out⟩

set_option maxRecDepth 100000 in
set_option maxHeartbeats 4000000 in
theorem cor_err (a : Option Addr) (n c : Nat) (xs : List Nat) (ad : Int) (ys : List Nat) (w : World) (h : U8s w a n xs) (hc : n ≤ c) (hE : adrE xs ≠ 0) :
    Calls Try.prog 23 #[.slice a n c, .int .i64 ad] w (C3Post (adrE xs) 0 ys w) := by
  have HL := Lib.hid h
  have d1 : (adrE xs != 0) = true := bne_iff_ne.2 hE
  have HE := Lib.hid hE
  clear h hE
  go_enter Try.func23, Try.ntmps23
  go_wp2_with fail
  go_step3
  go_wp2_with fail
  refine (Address_call a n c xs _ HL.out hc).mono ?_; rintro e w1 ⟨rfl, hb1⟩
  have B1 := Lib.hid hb1
  clear hb1
  go_wp2_with fail
  refine bodyPost_ret (v := .tuple #[.slice none 0 0, .int .i64 0, .int .i64 (adrE xs)]) (by simp [results, Try.f23, go_sem]) rfl ?_
  exact c3_err HE.out rfl B1.out

set_option maxRecDepth 100000 in
set_option maxHeartbeats 4000000 in
theorem cor_bad (a : Option Addr) (n c : Nat) (xs : List Nat) (ad : Int) (ys : List Nat) (w : World) (h : U8s w a n xs) (hc : n ≤ c) (hE : adrE xs = 0) (b1 b2 : Bool) (h1 : decide (ad < 0) = b1) (h2 : decide (16777215 < ad) = b2) (hor : b1 = true ∨ b1 = false ∧ b2 = true) :
    Calls Try.prog 23 #[.slice a n c, .int .i64 ad] w (C3Post 1 0 ys w) := by
  have HL := Lib.hid h
  have HE := Lib.hid hE
  clear h hE
  rcases hor with rfl | ⟨rfl, rfl⟩
  all_goals
    go_enter Try.func23, Try.ntmps23
    go_wp2_with fail
    go_step3
    go_wp2_with fail
    refine (Address_call a n c xs _ HL.out hc).mono ?_; rintro e w1 ⟨rfl, hb1⟩
    rw [HE.out]
    have B1 := Lib.hid hb1
    clear hb1
    go_wp2_with fail
    refine bodyPost_ret (v := .tuple #[.slice none 0 0, .int .i64 0, .int .i64 1]) (by simp [results, Try.f23, go_sem]) rfl ?_
    exact c3_err (by decide) rfl B1.out
def corE (xs : List Nat) (ad : Int) : Int :=
  if adrE xs ≠ 0 then adrE xs else if ad < 0 ∨ 16777215 < ad then 1 else if rg xs = ad.toNat then 0 else if synI xs.length (rg xs ^^^ ad.toNat) < xs.length then 0 else 13
def corA (xs : List Nat) (ad : Int) : Int := if corE xs ad ≠ 0 then 0 else if rg xs = ad.toNat then -1 else (synI xs.length (rg xs ^^^ ad.toNat) : Nat)
def corL (xs : List Nat) (ad : Int) : List Nat := if rg xs = ad.toNat then xs else flL xs (synI xs.length (rg xs ^^^ ad.toNat))
theorem Correct_call (a : Option Addr) (n c : Nat) (xs : List Nat) (ad : Int) (w : World) (h : U8s w a n xs) (hc : n ≤ c) :
    Calls Try.prog 23 #[.slice a n c, .int .i64 ad] w (C3Post (corE xs ad) (corA xs ad) (corL xs ad) w) := by
  have hl := h.len
  by_cases hE : adrE xs = 0
  · by_cases hb : ad < 0 ∨ 16777215 < ad
    · have e : corE xs ad = 1 := by unfold corE; rw [if_neg (by rw [hE]; decide), if_pos hb]
      have e2 : corA xs ad = 0 := by unfold corA; rw [e, if_pos (by decide)]
      rw [e, e2]
      by_cases h1 : ad < 0
      · exact cor_bad a n c xs ad _ w h hc hE true _ (decide_eq_true h1) rfl (Or.inl rfl)
      · exact cor_bad a n c xs ad _ w h hc hE false true (decide_eq_false h1) (decide_eq_true (by omega)) (Or.inr ⟨rfl, rfl⟩)
    · obtain ⟨A, rfl⟩ := Int.eq_ofNat_of_zero_le (show 0 ≤ ad by omega)
      by_cases hs : rg xs = A
      · have e : corE xs (A : Int) = 0 := by unfold corE; rw [if_neg (by rw [hE]; decide), if_neg hb, Int.toNat_natCast, if_pos hs]
        have e2 : corA xs (A : Int) = -1 := by unfold corA; rw [e, if_neg (by decide), Int.toNat_natCast, if_pos hs]
        have e3 : corL xs (A : Int) = xs := by unfold corL; rw [Int.toNat_natCast, if_pos hs]
        rw [e, e2, e3]
        subst hs
        exact cor_same a n c xs w h hc hE
      · by_cases hf : synI n (rg xs ^^^ A) < n
        · have e : corE xs (A : Int) = 0 := by unfold corE; rw [if_neg (by rw [hE]; decide), if_neg hb, Int.toNat_natCast, if_neg hs, hl, if_pos hf]
          have e2 : corA xs (A : Int) = (synI n (rg xs ^^^ A) : Nat) := by unfold corA; rw [e, if_neg (by decide), Int.toNat_natCast, if_neg hs, hl]
          have e3 : corL xs (A : Int) = flL xs (synI n (rg xs ^^^ A)) := by unfold corL; rw [Int.toNat_natCast, if_neg hs, hl]
          rw [e, e2, e3]
          exact cor_fix a n c xs A w h hc hE (by omega) hs hf
        · have e : corE xs (A : Int) = 13 := by unfold corE; rw [if_neg (by rw [hE]; decide), if_neg hb, Int.toNat_natCast, if_neg hs, hl, if_neg hf]
          have e2 : corA xs (A : Int) = 0 := by unfold corA; rw [e, if_pos (by decide)]
          rw [e, e2]
          refine cor_none a n c xs A _ w h hc hE (by omega) hs ?_
          rcases synI_cases n (rg xs ^^^ A) with ⟨_, e⟩ | ⟨e, _⟩
          · exact e
          · exact absurd e hf
  · have e : corE xs ad = adrE xs := if_pos hE
    have e2 : corA xs ad = 0 := by unfold corA; rw [e, if_pos hE]
    rw [e, e2]
    exact cor_err a n c xs ad _ w h hc hE
end Go.Proofs.Ytpfohhmhadjdpaa
