/-
  Layer 1 (bits): the law Text, the walk. Printed by genBtTx.py.
-/
import Derived.Test.YthabecfajponfaaBtLaw
import Derived.Test.YthabecfajponfaaBtY
namespace Go.Proofs.Ythabecfajponfaa
open Go.RowKit BitsMath ParityMath TextMath MyHeap MyCopy MyOwn

theorem str_len (l : List UInt8) : (⟨l.toArray⟩ : ByteArray).size = l.length := by show l.toArray.size = _; simp
theorem str_list (l : List UInt8) : (⟨l.toArray⟩ : ByteArray).data.toList = l := by simp
theorem str_same (s : ByteArray) : (⟨s.data.toList.toArray⟩ : ByteArray) = s := by cases s; rfl
theorem own_u8c' {w : World} {base : Nat} {T : TypeId} {v : Value} {n : Nat} {ys : List Nat} (h : w.ownsRow base T 1 v n (flatU ys)) (hn : ys.length = n) (hm : n ≤ 9223372036854775807) : ∃ a c, v = .slice a n c ∧ U8s w a n ys ∧ n ≤ c ∧ c ≤ 9223372036854775807 := by
  rcases h.2 with ⟨rfl, h0⟩ | ⟨g, cap, cur, rfl, hg, hh, hc, hcm, hcs, htake⟩
  · exact ⟨none, 0, by rw [h0], ⟨hn, hm, Or.inl h0⟩, by omega, by decide⟩
  · refine ⟨some ⟨g, 0, none⟩, cap, rfl, ⟨hn, hm, Or.inr ⟨g, 0, rfl, fun i hi => ?_⟩⟩, hc, by unfold maxLen at hcm; omega⟩
    have hx := flatU_get (xs := ys) (i := i) (by omega)
    rw [← htake, List.getElem?_take_of_lt (by omega)] at hx
    rw [Nat.zero_add]
    exact cell_of_block hh (by simpa using hx)

set_option maxRecDepth 100000 in
set_option maxHeartbeats 8000000 in
theorem text_ay (a : Option Addr) (n c : Nat) (xs : List Nat) (s : ByteArray) (w : World) (h : U8s w a n xs) (hc : n ≤ c) (hc1 : c ≤ 9223372036854775807) (hn : n ≤ 200) (hs : s.size ≤ 100) (he : txtE xs = 0) (hp : prsE s.data.toList = 0) :
    Calls Try.prog 7 #[.slice a n c, .string s] w (BPost true w) := by
  have HL := Lib.hid h
  have hN := h.len
  have g1 : decide ((200 : Int) < (n : Int)) = false := decide_eq_false (by omega)
  have g2 : decide ((100 : Int) < (s.size : Int)) = false := decide_eq_false (by omega)
  have hsm : s.size ≤ 9223372036854775807 := by omega
  clear h
  have HT := Lib.hid (txt_prs he)
  have HE := Lib.hid he
  have h32 := HT.out.2.2.2
  have h4 := HT.out.2.2.1
  rw [hN] at h4
  clear he
  generalize hl : txtR xs = l at *
  have Hl := Lib.hid hl
  clear hl
  obtain ⟨TT, hTT⟩ : ∃ t : ByteArray, t = ⟨l.toArray⟩ := ⟨_, rfl⟩
  have hsz : TT.size = l.length := by rw [hTT]; exact str_len l
  have hlst : TT.data.toList = l := by rw [hTT]
  obtain ⟨m, hm⟩ : ∃ m, l.length = m := ⟨_, rfl⟩
  rw [hm] at hsz h4 h32
  have hmn : (4 : Int) * (m : Int) = (n : Int) := by omega
  have hpm : prsE l = 0 := HT.out.1
  have hpl : prsL l = xs := HT.out.2.1
  have HP := Lib.hid (And.intro hTT (And.intro hlst (And.intro hpm hpl)))
  clear hTT hlst hpm hpl hm HT
  have HQ := Lib.hid (And.intro hp (prs_txtR hp))
  clear hp
  go_enter Try.func7, Try.ntmps7
  go_wp2_with fail
  refine (awake_call _).mono ?_; rintro e w1 ⟨rfl, hb⟩
  have B := Lib.hid hb
  clear hb
  go_wp2_with fail
  refine (Text_call a n c xs _ (HL.out.below B.out) hc hc1).mono ?_; rintro e w2 ⟨rfl, hb⟩
  replace B := Lib.hid (B.out.trans (hb.mono B.out.size))
  clear hb
  rw [HE.out, Hl.out, ← HP.out.1]
  go_wp2_with fail
  refine (Parse_call TT (by rw [hsz]; omega) _).mono ?_; rintro e w3 ⟨v3, rfl, hO, hb⟩
  rw [HP.out.2.1, HP.out.2.2.1, HP.out.2.2.2] at hO
  rw [HP.out.2.1, HP.out.2.2.1]
  obtain ⟨aP, cP, rfl, hU, _⟩ := own_u8s (hO.1 rfl) rfl (by rw [hN]; omega)
  rw [hN] at hU ⊢
  replace B := Lib.hid (B.out.trans (hb.mono B.out.size))
  have HUP := Lib.hid hU
  clear hb hO hU
  go_wp2_with fail
  refine (equalBits_call aP a n n cP c xs xs _ HUP.out (HL.out.below B.out)).mono ?_; rintro e w4 ⟨rfl, hb⟩
  rw [decide_eq_true (rfl : xs = xs)]
  replace B := Lib.hid (B.out.trans (hb.mono B.out.size))
  clear hb HUP
  go_wp2_with fail
  refine (Parse_call s hsm _).mono ?_; rintro e w5 ⟨v5, rfl, hO, hb⟩
  replace B := Lib.hid (B.out.trans (hb.mono B.out.size))
  rw [HQ.out.1] at hO ⊢
  have hl5 := HQ.out.2.2.2.2
  obtain ⟨aQ, cQ, rfl, hU, hcQ, hcQ1⟩ := own_u8c' (hO.1 rfl) rfl (by omega)
  obtain ⟨q, hq⟩ : ∃ q, (prsL s.data.toList).length = q := ⟨_, rfl⟩
  rw [hq] at hU hcQ hl5 ⊢
  have HUQ := Lib.hid hU
  clear hb hO hU hq
  go_wp2_with fail
  refine (Text_call aQ q cQ (prsL s.data.toList) _ HUQ.out hcQ hcQ1).mono ?_; rintro e w6 ⟨rfl, hb⟩
  replace B := Lib.hid (B.out.trans (hb.mono B.out.size))
  replace HUQ := Lib.hid (HUQ.out.below hb)
  rw [HQ.out.2.1, HQ.out.2.2.1, str_same]
  clear hb
  go_wp2_with fail
  refine (Check_call aQ q cQ (prsL s.data.toList) _ HUQ.out).mono ?_; rintro e w7 ⟨rfl, hb⟩
  replace B := Lib.hid (B.out.trans (hb.mono B.out.size))
  rw [HQ.out.2.2.2.1]
  clear hb
  go_wp2_with fail
  go_ret
  exact bPost_of (by simp) B.out

set_option maxRecDepth 100000 in
set_option maxHeartbeats 8000000 in
theorem text_an (a : Option Addr) (n c : Nat) (xs : List Nat) (s : ByteArray) (w : World) (h : U8s w a n xs) (hc : n ≤ c) (hc1 : c ≤ 9223372036854775807) (hn : n ≤ 200) (hs : s.size ≤ 100) (he : txtE xs = 0) (hp : prsE s.data.toList ≠ 0) :
    Calls Try.prog 7 #[.slice a n c, .string s] w (BPost true w) := by
  have HL := Lib.hid h
  have hN := h.len
  have g1 : decide ((200 : Int) < (n : Int)) = false := decide_eq_false (by omega)
  have g2 : decide ((100 : Int) < (s.size : Int)) = false := decide_eq_false (by omega)
  have hsm : s.size ≤ 9223372036854775807 := by omega
  clear h
  have HT := Lib.hid (txt_prs he)
  have HE := Lib.hid he
  have h32 := HT.out.2.2.2
  have h4 := HT.out.2.2.1
  rw [hN] at h4
  clear he
  generalize hl : txtR xs = l at *
  have Hl := Lib.hid hl
  clear hl
  obtain ⟨TT, hTT⟩ : ∃ t : ByteArray, t = ⟨l.toArray⟩ := ⟨_, rfl⟩
  have hsz : TT.size = l.length := by rw [hTT]; exact str_len l
  have hlst : TT.data.toList = l := by rw [hTT]
  obtain ⟨m, hm⟩ : ∃ m, l.length = m := ⟨_, rfl⟩
  rw [hm] at hsz h4 h32
  have hmn : (4 : Int) * (m : Int) = (n : Int) := by omega
  have hpm : prsE l = 0 := HT.out.1
  have hpl : prsL l = xs := HT.out.2.1
  have HP := Lib.hid (And.intro hTT (And.intro hlst (And.intro hpm hpl)))
  clear hTT hlst hpm hpl hm HT
  have HQ := Lib.hid hp
  have d5 : (prsE s.data.toList != 0) = true := bne_iff_ne.2 hp
  clear hp
  go_enter Try.func7, Try.ntmps7
  go_wp2_with fail
  refine (awake_call _).mono ?_; rintro e w1 ⟨rfl, hb⟩
  have B := Lib.hid hb
  clear hb
  go_wp2_with fail
  refine (Text_call a n c xs _ (HL.out.below B.out) hc hc1).mono ?_; rintro e w2 ⟨rfl, hb⟩
  replace B := Lib.hid (B.out.trans (hb.mono B.out.size))
  clear hb
  rw [HE.out, Hl.out, ← HP.out.1]
  go_wp2_with fail
  refine (Parse_call TT (by rw [hsz]; omega) _).mono ?_; rintro e w3 ⟨v3, rfl, hO, hb⟩
  rw [HP.out.2.1, HP.out.2.2.1, HP.out.2.2.2] at hO
  rw [HP.out.2.1, HP.out.2.2.1]
  obtain ⟨aP, cP, rfl, hU, _⟩ := own_u8s (hO.1 rfl) rfl (by rw [hN]; omega)
  rw [hN] at hU ⊢
  replace B := Lib.hid (B.out.trans (hb.mono B.out.size))
  have HUP := Lib.hid hU
  clear hb hO hU
  go_wp2_with fail
  refine (equalBits_call aP a n n cP c xs xs _ HUP.out (HL.out.below B.out)).mono ?_; rintro e w4 ⟨rfl, hb⟩
  rw [decide_eq_true (rfl : xs = xs)]
  replace B := Lib.hid (B.out.trans (hb.mono B.out.size))
  clear hb HUP
  go_wp2_with fail
  refine (Parse_call s hsm _).mono ?_; rintro e w5 ⟨v5, rfl, hO, hb⟩
  replace B := Lib.hid (B.out.trans (hb.mono B.out.size))
  have hv := hO.2 HQ.out
  subst hv
  clear hb hO
  go_wp2_with fail
  go_ret
  exact bPost_of rfl B.out

set_option maxRecDepth 100000 in
set_option maxHeartbeats 8000000 in
theorem text_by2 (a : Option Addr) (n c : Nat) (xs : List Nat) (s : ByteArray) (w : World) (h : U8s w a n xs) (hc : n ≤ c) (hc1 : c ≤ 9223372036854775807) (hn : n ≤ 200) (hs : s.size ≤ 100) (he : txtE xs ≠ 0) (hp : prsE s.data.toList = 0) (h2 : txtE xs = 2) :
    Calls Try.prog 7 #[.slice a n c, .string s] w (BPost true w) := by
  have HL := Lib.hid h
  have hN := h.len
  have g1 : decide ((200 : Int) < (n : Int)) = false := decide_eq_false (by omega)
  have g2 : decide ((100 : Int) < (s.size : Int)) = false := decide_eq_false (by omega)
  have hsm : s.size ≤ 9223372036854775807 := by omega
  clear h
  have hm4 : ¬ (n % 4 = 0) := by have := txt_form h2; rwa [hN] at this
  have d2 : (txtE xs == 2) = true := by rw [h2]; rfl
  have d4 : (n : Int).tmod 4 ≠ 0 := by rw [show (n : Int).tmod 4 = ((n % 4 : Nat) : Int) from rfl]; omega
  clear h2
  have hR := txt_no he
  have HR := Lib.hid hR
  have d1 : (txtE xs == 0) = false := by simpa using he
  have HE := Lib.hid he
  clear hR he
  have HQ := Lib.hid (And.intro hp (prs_txtR hp))
  clear hp
  go_enter Try.func7, Try.ntmps7
  go_wp2_with fail
  refine (awake_call _).mono ?_; rintro e w1 ⟨rfl, hb⟩
  have B := Lib.hid hb
  clear hb
  go_wp2_with fail
  refine (Text_call a n c xs _ (HL.out.below B.out) hc hc1).mono ?_; rintro e w2 ⟨rfl, hb⟩
  replace B := Lib.hid (B.out.trans (hb.mono B.out.size))
  clear hb
  rw [HR.out]
  go_wp2_with fail
  refine (Parse_call s hsm _).mono ?_; rintro e w5 ⟨v5, rfl, hO, hb⟩
  replace B := Lib.hid (B.out.trans (hb.mono B.out.size))
  rw [HQ.out.1] at hO ⊢
  have hl5 := HQ.out.2.2.2.2
  obtain ⟨aQ, cQ, rfl, hU, hcQ, hcQ1⟩ := own_u8c' (hO.1 rfl) rfl (by omega)
  obtain ⟨q, hq⟩ : ∃ q, (prsL s.data.toList).length = q := ⟨_, rfl⟩
  rw [hq] at hU hcQ hl5 ⊢
  have HUQ := Lib.hid hU
  clear hb hO hU hq
  go_wp2_with fail
  refine (Text_call aQ q cQ (prsL s.data.toList) _ HUQ.out hcQ hcQ1).mono ?_; rintro e w6 ⟨rfl, hb⟩
  replace B := Lib.hid (B.out.trans (hb.mono B.out.size))
  replace HUQ := Lib.hid (HUQ.out.below hb)
  rw [HQ.out.2.1, HQ.out.2.2.1, str_same]
  clear hb
  go_wp2_with fail
  refine (Check_call aQ q cQ (prsL s.data.toList) _ HUQ.out).mono ?_; rintro e w7 ⟨rfl, hb⟩
  replace B := Lib.hid (B.out.trans (hb.mono B.out.size))
  rw [HQ.out.2.2.2.1]
  clear hb
  go_wp2_with fail
  go_ret
  exact bPost_of (by simp) B.out

set_option maxRecDepth 100000 in
set_option maxHeartbeats 8000000 in
theorem text_bym (a : Option Addr) (n c : Nat) (xs : List Nat) (s : ByteArray) (w : World) (h : U8s w a n xs) (hc : n ≤ c) (hc1 : c ≤ 9223372036854775807) (hn : n ≤ 200) (hs : s.size ≤ 100) (he : txtE xs ≠ 0) (hp : prsE s.data.toList = 0) (h2 : txtE xs ≠ 2) :
    Calls Try.prog 7 #[.slice a n c, .string s] w (BPost true w) := by
  have HL := Lib.hid h
  have hN := h.len
  have g1 : decide ((200 : Int) < (n : Int)) = false := decide_eq_false (by omega)
  have g2 : decide ((100 : Int) < (s.size : Int)) = false := decide_eq_false (by omega)
  have hsm : s.size ≤ 9223372036854775807 := by omega
  clear h
  have d2 : (txtE xs == 2) = false := by simpa using h2
  clear h2
  have hR := txt_no he
  have HR := Lib.hid hR
  have d1 : (txtE xs == 0) = false := by simpa using he
  have HE := Lib.hid he
  clear hR he
  have HQ := Lib.hid (And.intro hp (prs_txtR hp))
  clear hp
  go_enter Try.func7, Try.ntmps7
  go_wp2_with fail
  refine (awake_call _).mono ?_; rintro e w1 ⟨rfl, hb⟩
  have B := Lib.hid hb
  clear hb
  go_wp2_with fail
  refine (Text_call a n c xs _ (HL.out.below B.out) hc hc1).mono ?_; rintro e w2 ⟨rfl, hb⟩
  replace B := Lib.hid (B.out.trans (hb.mono B.out.size))
  clear hb
  rw [HR.out]
  go_wp2_with fail
  refine (Parse_call s hsm _).mono ?_; rintro e w5 ⟨v5, rfl, hO, hb⟩
  replace B := Lib.hid (B.out.trans (hb.mono B.out.size))
  rw [HQ.out.1] at hO ⊢
  have hl5 := HQ.out.2.2.2.2
  obtain ⟨aQ, cQ, rfl, hU, hcQ, hcQ1⟩ := own_u8c' (hO.1 rfl) rfl (by omega)
  obtain ⟨q, hq⟩ : ∃ q, (prsL s.data.toList).length = q := ⟨_, rfl⟩
  rw [hq] at hU hcQ hl5 ⊢
  have HUQ := Lib.hid hU
  clear hb hO hU hq
  go_wp2_with fail
  refine (Text_call aQ q cQ (prsL s.data.toList) _ HUQ.out hcQ hcQ1).mono ?_; rintro e w6 ⟨rfl, hb⟩
  replace B := Lib.hid (B.out.trans (hb.mono B.out.size))
  replace HUQ := Lib.hid (HUQ.out.below hb)
  rw [HQ.out.2.1, HQ.out.2.2.1, str_same]
  clear hb
  go_wp2_with fail
  refine (Check_call aQ q cQ (prsL s.data.toList) _ HUQ.out).mono ?_; rintro e w7 ⟨rfl, hb⟩
  replace B := Lib.hid (B.out.trans (hb.mono B.out.size))
  rw [HQ.out.2.2.2.1]
  clear hb
  go_wp2_with fail
  go_ret
  exact bPost_of (by simp) B.out

set_option maxRecDepth 100000 in
set_option maxHeartbeats 8000000 in
theorem text_bn2 (a : Option Addr) (n c : Nat) (xs : List Nat) (s : ByteArray) (w : World) (h : U8s w a n xs) (hc : n ≤ c) (hc1 : c ≤ 9223372036854775807) (hn : n ≤ 200) (hs : s.size ≤ 100) (he : txtE xs ≠ 0) (hp : prsE s.data.toList ≠ 0) (h2 : txtE xs = 2) :
    Calls Try.prog 7 #[.slice a n c, .string s] w (BPost true w) := by
  have HL := Lib.hid h
  have hN := h.len
  have g1 : decide ((200 : Int) < (n : Int)) = false := decide_eq_false (by omega)
  have g2 : decide ((100 : Int) < (s.size : Int)) = false := decide_eq_false (by omega)
  have hsm : s.size ≤ 9223372036854775807 := by omega
  clear h
  have hm4 : ¬ (n % 4 = 0) := by have := txt_form h2; rwa [hN] at this
  have d2 : (txtE xs == 2) = true := by rw [h2]; rfl
  have d4 : (n : Int).tmod 4 ≠ 0 := by rw [show (n : Int).tmod 4 = ((n % 4 : Nat) : Int) from rfl]; omega
  clear h2
  have hR := txt_no he
  have HR := Lib.hid hR
  have d1 : (txtE xs == 0) = false := by simpa using he
  have HE := Lib.hid he
  clear hR he
  have HQ := Lib.hid hp
  have d5 : (prsE s.data.toList != 0) = true := bne_iff_ne.2 hp
  clear hp
  go_enter Try.func7, Try.ntmps7
  go_wp2_with fail
  refine (awake_call _).mono ?_; rintro e w1 ⟨rfl, hb⟩
  have B := Lib.hid hb
  clear hb
  go_wp2_with fail
  refine (Text_call a n c xs _ (HL.out.below B.out) hc hc1).mono ?_; rintro e w2 ⟨rfl, hb⟩
  replace B := Lib.hid (B.out.trans (hb.mono B.out.size))
  clear hb
  rw [HR.out]
  go_wp2_with fail
  refine (Parse_call s hsm _).mono ?_; rintro e w5 ⟨v5, rfl, hO, hb⟩
  replace B := Lib.hid (B.out.trans (hb.mono B.out.size))
  have hv := hO.2 HQ.out
  subst hv
  clear hb hO
  go_wp2_with fail
  go_ret
  exact bPost_of rfl B.out

set_option maxRecDepth 100000 in
set_option maxHeartbeats 8000000 in
theorem text_bnm (a : Option Addr) (n c : Nat) (xs : List Nat) (s : ByteArray) (w : World) (h : U8s w a n xs) (hc : n ≤ c) (hc1 : c ≤ 9223372036854775807) (hn : n ≤ 200) (hs : s.size ≤ 100) (he : txtE xs ≠ 0) (hp : prsE s.data.toList ≠ 0) (h2 : txtE xs ≠ 2) :
    Calls Try.prog 7 #[.slice a n c, .string s] w (BPost true w) := by
  have HL := Lib.hid h
  have hN := h.len
  have g1 : decide ((200 : Int) < (n : Int)) = false := decide_eq_false (by omega)
  have g2 : decide ((100 : Int) < (s.size : Int)) = false := decide_eq_false (by omega)
  have hsm : s.size ≤ 9223372036854775807 := by omega
  clear h
  have d2 : (txtE xs == 2) = false := by simpa using h2
  clear h2
  have hR := txt_no he
  have HR := Lib.hid hR
  have d1 : (txtE xs == 0) = false := by simpa using he
  have HE := Lib.hid he
  clear hR he
  have HQ := Lib.hid hp
  have d5 : (prsE s.data.toList != 0) = true := bne_iff_ne.2 hp
  clear hp
  go_enter Try.func7, Try.ntmps7
  go_wp2_with fail
  refine (awake_call _).mono ?_; rintro e w1 ⟨rfl, hb⟩
  have B := Lib.hid hb
  clear hb
  go_wp2_with fail
  refine (Text_call a n c xs _ (HL.out.below B.out) hc hc1).mono ?_; rintro e w2 ⟨rfl, hb⟩
  replace B := Lib.hid (B.out.trans (hb.mono B.out.size))
  clear hb
  rw [HR.out]
  go_wp2_with fail
  refine (Parse_call s hsm _).mono ?_; rintro e w5 ⟨v5, rfl, hO, hb⟩
  replace B := Lib.hid (B.out.trans (hb.mono B.out.size))
  have hv := hO.2 HQ.out
  subst hv
  clear hb hO
  go_wp2_with fail
  go_ret
  exact bPost_of rfl B.out

set_option maxRecDepth 100000 in
set_option maxHeartbeats 4000000 in
theorem text_long (a : Option Addr) (n c : Nat) (s : ByteArray) (w : World) (_hn : n ≤ 9223372036854775807) (_hs : s.size ≤ 9223372036854775807) (b1 b2 : Bool) (h1 : decide ((200 : Int) < (n : Int)) = b1) (h2 : decide ((100 : Int) < (s.size : Int)) = b2) (hor : b1 = true ∨ b1 = false ∧ b2 = true) :
    Calls Try.prog 7 #[.slice a n c, .string s] w (BPost true w) := by
  rcases hor with rfl | ⟨rfl, rfl⟩
  all_goals
    go_enter Try.func7, Try.ntmps7
    go_wp2_with fail
    refine (awake_call _).mono ?_; rintro e w1 ⟨rfl, hb1⟩
    have HB1 := Lib.hid hb1
    clear hb1
    go_wp2_with fail
    go_ret
    exact bPost_of rfl HB1.out
theorem text_call (a : Option Addr) (n c : Nat) (xs : List Nat) (s : ByteArray) (w : World) (h : U8s w a n xs) (hc : n ≤ c) (hc1 : c ≤ 9223372036854775807) (hsm : s.size ≤ 9223372036854775807) :
    Calls Try.prog 7 #[.slice a n c, .string s] w (BPost true w) := by
  by_cases hn : n ≤ 200
  · by_cases hs : s.size ≤ 100
    · by_cases he : txtE xs = 0
      · by_cases hp : prsE s.data.toList = 0
        · exact text_ay a n c xs s w h hc hc1 hn hs he hp
        · exact text_an a n c xs s w h hc hc1 hn hs he hp
      · by_cases h2 : txtE xs = 2
        · by_cases hp : prsE s.data.toList = 0
          · exact text_by2 a n c xs s w h hc hc1 hn hs he hp h2
          · exact text_bn2 a n c xs s w h hc hc1 hn hs he hp h2
        · by_cases hp : prsE s.data.toList = 0
          · exact text_bym a n c xs s w h hc hc1 hn hs he hp h2
          · exact text_bnm a n c xs s w h hc hc1 hn hs he hp h2
    · exact text_long a n c s w h.bound hsm false true (decide_eq_false (by omega)) (decide_eq_true (by omega)) (Or.inr ⟨rfl, rfl⟩)
  · exact text_long a n c s w h.bound hsm true _ (decide_eq_true (by omega)) rfl (Or.inl rfl)
end Go.Proofs.Ythabecfajponfaa
