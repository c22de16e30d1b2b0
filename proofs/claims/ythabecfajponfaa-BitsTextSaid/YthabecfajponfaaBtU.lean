/-
  Layer 1 (bits): Parse, walked at every text.
-/
import Derived.Test.YthabecfajponfaaBtS
import Derived.Test.YthabecfajponfaaBtF
import Derived.Test.YthabecfajponfaaCopyStep
namespace Go.Proofs.Ythabecfajponfaa
open Go.RowKit BitsMath ParityMath MyHeap MyCopy MyOwn TextMath

theorem index_find (l : List UInt8) (c : UInt8) : Lib.indexByte l c = if l.findIdx (· == c) < l.length then ((l.findIdx (· == c) : Nat) : Int) else -1 := by
  induction l with
  | nil => rfl
  | cons b l ih =>
    unfold Lib.indexByte
    rw [List.findIdx_cons, ih]
    cases hb : b == c with
    | true => simp
    | false =>
      by_cases h : l.findIdx (· == c) < l.length
      · have e : ((l.findIdx (· == c) : Nat) : Int) ≠ -1 := by omega
        simp [h, e]
      · simp [h]
theorem index_hex (c : UInt8) : Lib.indexByte (⟨#[48, 49, 50, 51, 52, 53, 54, 55, 56, 57, 97, 98, 99, 100, 101, 102]⟩ : ByteArray).data.toList c = if hexV c < 16 then ((hexV c : Nat) : Int) else -1 := index_find hexT c
theorem back_u8 (c : UInt8) : ((c.toNat : Nat) : Int).toNat.toUInt8 = c := by rw [Int.toNat_natCast]; exact UInt8.ofNat_toNat ..
theorem own_nilU (w : World) (base : Nat) : w.ownsRow base 5 1 (.slice none 0 0) 0 (flatU []) := ⟨rfl, Or.inl ⟨rfl, rfl⟩⟩
def gl (s : ByteArray) (k : Nat) : UInt8 := s.data.toList[k]?.getD 0
theorem gl_at (s : ByteArray) (k : Nat) (h : k < s.size) : s[k]'h = gl s k := by
  unfold gl
  have h' : k < s.data.toList.length := by rw [Array.length_toList]; exact h
  rw [List.getElem?_eq_getElem h', Option.getD_some, Array.getElem_toList]
  rfl
theorem take_gl (s : ByteArray) {k : Nat} (hk : k < s.size) : s.data.toList.take (k + 1) = s.data.toList.take k ++ [gl s k] := by
  have h' : k < s.data.toList.length := by rw [Array.length_toList]; exact hk
  unfold gl
  rw [List.take_succ_eq_append_getElem h', List.getElem?_eq_getElem h', Option.getD_some]

set_option maxRecDepth 100000 in
set_option maxHeartbeats 2000000 in
theorem Parse_call (s : ByteArray) (hm : s.size ≤ 9223372036854775807) (w : World) :
    Calls Try.prog 28 #[.string s] w (OPost (prsE s.data.toList) (prsL s.data.toList) w) := by
  have hsl : s.data.toList.length = s.size := by rw [Array.length_toList]; rfl
  obtain ⟨n, hn⟩ : ∃ n, s.size = n := ⟨_, rfl⟩
  by_cases h1 : 32 < n
  · have hE : prsE s.data.toList = 4 := by unfold prsE; rw [if_pos (by omega)]
    have HE := Lib.hid hE
    have h1' : (32 : Int) < (s.size : Int) := by omega
    clear hE hsl hn h1
    go_enter Try.func28, Try.ntmps28
    go_wp2
    go_ret2
    exact oPost_err (by rw [HE.out]; decide) (by rw [HE.out]) (Below.refl _ _)
  · have h1' : ¬ (32 : Int) < (s.size : Int) := by omega
    obtain ⟨i0, hi, hiz, his, hib⟩ := info_parts' infoU8
    have HI := Lib.hid (And.intro hi (And.intro hiz (And.intro his hib)))
    have HS := Lib.hid (And.intro hsl hn)
    clear hi hiz his hib hsl
    go_enter Try.func28, Try.ntmps28
    go_wp2
    go_loopw [2, 11] (fun v kv wr => ∃ k : Nat, k ≤ n ∧ kv = .int .i64 k ∧ (okT (s.data.toList.take k) ∧ wr.ownsRow w.heap.size 5 1 v (4 * k) (flatU (prsL (s.data.toList.take k)))) ∧ Below w.heap.size w wr) (fun _ kv _ => n - (intOf kv).toNat)
    case atStart => exact ⟨0, Nat.zero_le _, rfl, ⟨fun _ hm => (by cases hm), own_nilU _ _⟩, Below.refl _ _⟩
    case round =>
      obtain ⟨k, hk, rfl, ⟨hok, hO⟩, hB⟩ := hrel
      have H := Lib.hid (And.intro hO (And.intro hB hok))
      have hz := hB.size
      by_cases hlt : k < n
      · have hk0 : (0 : Int) ≤ (k : Int) := by omega
        have hk1 : (k : Int) < (n : Int) := by omega
        have hks : k < s.size := by omega
        have hgl := gl_at s k hks
        have HK := Lib.hid (And.intro hks hlt)
        generalize hC : gl s k = C at *
        have HC := Lib.hid hC
        clear hO hB hok hC
        by_cases hv : hexV C < 16
        · have HV := Lib.hid hv
          clear hv
          go_wp2_with fail
          refine (Try.strings_IndexByte _ _ wr).mono ?_
          rw [back_u8, index_hex, if_pos HV.out]
          rintro e w' ⟨rfl, rfl⟩
          have hv := HV.out
          obtain ⟨V, hVV⟩ : ∃ V, hexV C = V := ⟨_, rfl⟩
          rw [hVV] at hv ⊢
          have d1 : ¬ ((V : Nat) : Int) < 0 := by omega
          have HVV := Lib.hid hVV
          have b1 := below_alloc w' (.cells #[.int .i64 (V : Int)] 3)
          have B1 := Lib.hid b1
          clear hVV b1
          go_wp2_with fail
          refine (combineP_call w'.heap.size V hv _ (cell_of_block (block_new _ _ rfl) rfl) (by simp)).mono ?_
          rintro e w5 ⟨v5, rfl, hO5, hb5⟩
          obtain ⟨a5, c5, rfl, hU5, _⟩ := own_u8s (n := 4) hO5 rfl (by decide)
          obtain ⟨b5, off5, rfl, _⟩ := u8s_at hU5 (k := 0) (by decide)
          have hB5 : Below w'.heap.size w' w5 := B1.out.trans (hb5.mono (by simp))
          have hO' : w5.ownsRow w.heap.size 5 1 u2 (4 * k) (flatU (prsL (s.data.toList.take k))) := ownsRow_below H.out.1 hB5 (Nat.le_refl _)
          have HO := Lib.hid hO'
          have H5 := Lib.hid (And.intro hU5 (H.out.2.1.trans (hB5.mono hz)))
          have hz5 := H5.out.2.size
          clear hO5 hb5 hU5 hB5 hO'
          go_wp2_with (refine wpList_append_src rfl _ _ 23 rfl w.heap.size 5 i0 _ 1 1 Try.underlying23 HI.out.1 HI.out.2.1 HI.out.2.2.1 HI.out.2.2.2 rfl (by decide) _ (4 * k) _ rfl HO.out (some ⟨b5, off5, none⟩) 4 c5 (flatU (nib V)) rfl (fun e => by cases e) rfl ?c1 (flatU_cell _) ?c3 ?c4 ?c5 ?_; rotate_right; intro v7 w7 hown7 hgrow)
          case c1 => intro ad' had; cases had; exact u8s_src H5.out.1
          case c3 => unfold maxLen; omega
          case c4 => omega
          case c5 => exact hz5
          have hg := grownB (B := w.heap.size) HO.out hgrow (Nat.le_refl _) hz5
          have H7 := Lib.hid hown7
          have HB := Lib.hid (H5.out.2.trans hg)
          clear hgrow hg hown7
          go_wp2_with fail
          go_roundw
          case rel =>
            refine ⟨k + 1, by omega, by go_num, ⟨?_, ?_⟩, HB.out⟩
            · refine okT_take H.out.2.2 (by rw [HS.out.1]; exact HK.out.1) ?_
              have := HC.out
              unfold gl at this
              rw [this]
              exact HV.out
            · rw [take_gl s HK.out.1, prsL_snoc, HC.out, HVV.out]
              have h7 := H7.out
              rw [show flatU (prsL (s.data.toList.take k)) ++ flatU (nib V) = flatU (prsL (s.data.toList.take k) ++ nib V) by unfold flatU; rw [List.map_append]] at h7
              exact h7
          case measure => simp [intOf]; omega
        · have HV := Lib.hid (show hexV C = 16 by have := hexV_le C; omega)
          have HE := Lib.hid (show prsE s.data.toList = 2 by
            unfold prsE
            rw [if_neg (by rw [HS.out.1, HS.out.2]; exact h1), if_neg]
            refine okT_not (k := k) (by rw [HS.out.1]; exact HK.out.1) ?_
            have := HC.out
            unfold gl at this
            rw [this]
            exact HV.out)
          clear hv
          go_wp2_with fail
          refine (Try.strings_IndexByte _ _ wr).mono ?_
          rw [back_u8, index_hex, if_neg (by rw [HV.out]; decide)]
          rintro e w' ⟨rfl, rfl⟩
          have B1 := Lib.hid (below_alloc w' (.cells #[.int .i64 (-1)] 3))
          go_wp2_with fail
          go_ret2
          exact oPost_err (by rw [HE.out]; decide) (by rw [HE.out]) (H.out.2.1.trans (B1.out.mono hz))
      · obtain rfl : k = n := by omega
        have HE := Lib.hid (show prsE s.data.toList = 0 by
          have := H.out.2.2
          rw [List.take_of_length_le (by rw [HS.out.1, HS.out.2]; exact Nat.le_refl _)] at this
          unfold prsE
          rw [if_neg (by rw [HS.out.1, HS.out.2]; exact h1), if_pos this])
        have HO := Lib.hid (show wr.ownsRow w.heap.size 5 1 u2 (prsL s.data.toList).length (flatU (prsL s.data.toList)) by
          have := H.out.1
          rw [List.take_of_length_le (by rw [HS.out.1, HS.out.2]; exact Nat.le_refl _)] at this
          rw [prsL_len, HS.out.1, HS.out.2]
          exact this)
        clear hO hB hok
        go_wp2_with fail
        go_ret2
        exact oPost_ok (v := u2) HE.out HO.out H.out.2.1
end Go.Proofs.Ythabecfajponfaa
