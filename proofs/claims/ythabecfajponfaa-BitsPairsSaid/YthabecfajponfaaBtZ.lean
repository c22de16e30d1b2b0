/-
  Layer 1 (bits): the reference's Parse, walked at every text.
-/
import Derived.Test.YthabecfajponfaaBtU
import Derived.Test.YthabecfajponfaaBtR
import Derived.BigQuiet
namespace Go.Proofs.Ythabecfajponfaa
open Go.RowKit BitsMath ParityMath MyHeap MyCopy MyOwn TextMath

/-- None of the first j digits is C. -/
def NoD (C : UInt8) (j : Nat) : Prop := ∀ i, i < j → hexD i ≠ C
theorem hexV_not {C : UInt8} (h : NoD C 16) : hexV C = 16 := by
  have h1 := hexV_le C
  by_cases h2 : hexV C < 16
  · exact absurd (hexD_V h2) (h _ h2)
  · omega
theorem hexV_is {C : UInt8} {j : Nat} (hj : j < 16) (hc : hexD j = C) : hexV C = j := by rw [← hc]; exact hexV_D j hj

theorem cells_four {w : World} {x0 x1 x2 x3 : Value} {T : TypeId} {n : Nat} (hn : n = w.heap.size) : ∀ (j : Nat) (u : Value), [x0, x1, x2, x3][j]? = some u → (w.alloc (.cells #[x0, x1, x2, x3] T)).cell? ((⟨n, 0, none⟩ : Addr).add j) = some u := by
  subst hn
  intro j u hu
  have hadd : (⟨w.heap.size, 0, none⟩ : Addr).add j = ⟨w.heap.size, j, none⟩ := by unfold Addr.add; split <;> simp_all
  rw [hadd, World.cell?_alloc_at _ _ _ _ rfl]
  match j, hu with
  | 0, h => simpa using h
  | 1, h => simpa using h
  | 2, h => simpa using h
  | 3, h => simpa using h
theorem nib_cells (j : Nat) (hj : j < 16) : [Value.int .u8 ((j : Int) / 8), .int .u8 ((j : Int) / 4 % 2), .int .u8 ((j : Int) / 2 % 2), .int .u8 ((j : Int) % 2)] = flatU (nib j) := by
  rcases sixteen hj with rfl | rfl | rfl | rfl | rfl | rfl | rfl | rfl | rfl | rfl | rfl | rfl | rfl | rfl | rfl | rfl <;> rfl
set_option maxRecDepth 100000 in
set_option maxHeartbeats 2000000 in
theorem refParse_call (s : ByteArray) (hm : s.size ≤ 9223372036854775807) (w : World) :
    Calls Try.prog 27 #[.string s] w (OPost (prsE s.data.toList) (prsL s.data.toList) w) := by
  have hsl : s.data.toList.length = s.size := by rw [Array.length_toList]; rfl
  obtain ⟨n, hn⟩ : ∃ n, s.size = n := ⟨_, rfl⟩
  by_cases h1 : 32 < n
  · have hE : prsE s.data.toList = 4 := by unfold prsE; rw [if_pos (by omega)]
    have HE := Lib.hid hE
    have h1' : (32 : Int) < (s.size : Int) := by omega
    clear hE hsl hn h1
    go_enter Try.func27, Try.ntmps27
    go_wp2
    go_ret2
    exact oPost_err (by rw [HE.out]; decide) (by rw [HE.out]) (Below.refl _ _)
  · have h1' : ¬ (32 : Int) < (s.size : Int) := by omega
    obtain ⟨i0, hi, hiz, his, hib⟩ := info_parts' infoU8
    have HI := Lib.hid (And.intro hi (And.intro hiz (And.intro his hib)))
    have HS := Lib.hid (And.intro hsl hn)
    clear hi hiz his hib hsl
    go_enter Try.func27, Try.ntmps27
    go_wp2
    go_loopw [4, 5] (fun v kv wr => ∃ k : Nat, k ≤ n ∧ kv = .int .i64 k ∧ (okT (s.data.toList.take k) ∧ wr.ownsRow w.heap.size 5 1 v (4 * k) (flatU (prsL (s.data.toList.take k)))) ∧ Below w.heap.size w wr) (fun _ kv _ => n - (intOf kv).toNat)
    case atStart => exact ⟨0, Nat.zero_le _, rfl, ⟨fun _ hm => (by cases hm), own_nilU _ _⟩, Below.refl _ _⟩
    case round =>
      obtain ⟨k, hk, rfl, ⟨hok, hO⟩, hB⟩ := hrel
      have H := Lib.hid (And.intro hO (And.intro hB hok))
      have hz := hB.size
      by_cases hlt : k < n
      · have hk0 : (0 : Int) ≤ (k : Int) := by omega
        have hk1 : (k : Int) < (n : Int) := by omega
        have hks : k < s.size := by omega
        have hgl := gl_at s k hks
        have HK := Lib.hid (And.intro hks hlt)
        generalize hC : gl s k = C at *
        have HC := Lib.hid hC
        clear hO hB hok hC
        go_wp2_with fail
        go_loopw [6] (fun jv wq => ∃ j : Nat, j ≤ 16 ∧ jv = .int .i64 j ∧ NoD C j ∧ ∃ d, wq = wr.drewN d) (fun jv _ => 16 - (intOf jv).toNat)
        case atStart => exact ⟨0, by omega, rfl, fun i hi => by omega, 0, rfl⟩
        case round =>
          obtain ⟨j, hj, rfl, hN, d, rfl⟩ := hrel
          have HN := Lib.hid hN
          clear hN
          by_cases hj16 : j < 16
          · have hj0 : (0 : Int) ≤ (j : Int) := by omega
            have hj1 : (j : Int) < 16 := by omega
            have d1 : decide ((j : Int) < 16) = true := decide_eq_true hj1
            have hjs : j < (⟨#[48, 49, 50, 51, 52, 53, 54, 55, 56, 57, 97, 98, 99, 100, 101, 102]⟩ : ByteArray).size := hj16
            have hgj : (⟨#[48, 49, 50, 51, 52, 53, 54, 55, 56, 57, 97, 98, 99, 100, 101, 102]⟩ : ByteArray)[j]'hjs = hexD j := hex_at j hj16 hjs
            by_cases hc : hexD j = C
            · rw [hc] at hgj
              have ht : (((C.toNat : Nat) : Int) != ((C.toNat : Nat) : Int)) = false := by simp
              have HV := Lib.hid (hexV_is hj16 hc)
              clear hc
              go_wp2_with fail
              go_quiet (fail)
              have d2 : ((j : Int) == 16) = false := beq_eq_false_iff_ne.2 (by omega)
              have hB4 : Below w.heap.size w (wr.drewN (d + nq)) := below_drewN H.out.2.1 _
              have hz4 : w.heap.size ≤ (wr.drewN (d + nq)).heap.size := hz
              have HO := Lib.hid (show ((wr.drewN (d + nq)).alloc (.cells #[.int .u8 ((j : Int) / 8), .int .u8 ((j : Int) / 4 % 2), .int .u8 ((j : Int) / 2 % 2), .int .u8 ((j : Int) % 2)] 5)).ownsRow w.heap.size 5 1 u4 (4 * k) (flatU (prsL (s.data.toList.take k))) from ownsRow_below (ownsRow_below H.out.1 (below_drewN (Below.refl wr.heap.size wr) (d + nq)) (Nat.le_refl _)) (below_alloc _ _) (Nat.le_refl _))
              have HB4 := Lib.hid hB4
              clear hB4
              go_upto_region 12 with fail
              go_wp2_with (refine wpList_append_src rfl _ _ 23 rfl w.heap.size 5 i0 _ 1 1 Try.underlying23 HI.out.1 HI.out.2.1 HI.out.2.2.1 HI.out.2.2.2 rfl (by decide) _ (4 * k) _ rfl HO.out (some ⟨wr.heap.size, 0, none⟩) 4 4 [.int .u8 ((j : Int) / 8), .int .u8 ((j : Int) / 4 % 2), .int .u8 ((j : Int) / 2 % 2), .int .u8 ((j : Int) % 2)] rfl (fun e => by cases e) rfl ?c1 ?c2 ?c3 ?c4 ?c5 ?_; rotate_right; intro v7 w7 hown7 hgrow)
              case c1 => intro ad' had; cases had; exact cells_four rfl
              case c2 => intro u hu; simp at hu; rcases hu with rfl | rfl | rfl | rfl <;> rfl
              case c3 => unfold maxLen; omega
              case c4 => omega
              case c5 => simp; omega
              have hg := grownB (B := w.heap.size) HO.out hgrow (Nat.le_refl _) (by simp; omega)
              have H7 := Lib.hid hown7
              have HB := Lib.hid ((HB4.out.alloc hz4 (.cells #[.int .u8 ((j : Int) / 8), .int .u8 ((j : Int) / 4 % 2), .int .u8 ((j : Int) / 2 % 2), .int .u8 ((j : Int) % 2)] 5)).trans hg)
              clear hgrow hg hown7
              go_wp2_with fail
              go_roundw
              case rel =>
                refine ⟨k + 1, by omega, by go_num, ⟨?_, ?_⟩, HB.out⟩
                · refine okT_take H.out.2.2 (by rw [HS.out.1]; exact HK.out.1) ?_
                  have := HC.out
                  unfold gl at this
                  rw [this, HV.out]
                  exact hj16
                · rw [take_gl s HK.out.1, prsL_snoc, HC.out, HV.out]
                  have h7 := H7.out
                  rw [nib_cells j hj16] at h7
                  rw [show flatU (prsL (s.data.toList.take k)) ++ flatU (nib j) = flatU (prsL (s.data.toList.take k) ++ nib j) by unfold flatU; rw [List.map_append]] at h7
                  exact h7
              case measure => simp [intOf]; omega
            · generalize hD : hexD j = D at *
              have ht : (((D.toNat : Nat) : Int) != ((C.toNat : Nat) : Int)) = true := bne_iff_ne.2 (fun e => hc (UInt8.toNat_inj.1 (by omega)))
              have HD := Lib.hid (And.intro hD hc)
              clear hc hD
              go_wp2_with fail
              go_quiet (fail)
              go_wp2_with fail
              go_roundw
              case rel => exact ⟨j + 1, by omega, by go_num, fun i hi => by
                by_cases e : i = j
                · subst e; rw [HD.out.1]; exact HD.out.2
                · exact HN.out i (by omega), _, rfl⟩
              case measure => simp [intOf]; omega
          · obtain rfl : j = 16 := by omega
            have HV := Lib.hid (hexV_not HN.out)
            have HE := Lib.hid (show prsE s.data.toList = 2 by
              unfold prsE
              rw [if_neg (by rw [HS.out.1, HS.out.2]; exact h1), if_neg]
              refine okT_not (k := k) (by rw [HS.out.1]; exact HK.out.1) ?_
              have := HC.out
              unfold gl at this
              rw [this]
              exact HV.out)
            go_wp2_with fail
            go_quiet (fail)
            go_wp2_with fail
            go_ret2
            exact oPost_err (by rw [HE.out]; decide) (by rw [HE.out]) (below_drewN H.out.2.1 _)
      · obtain rfl : k = n := by omega
        have HE := Lib.hid (show prsE s.data.toList = 0 by
          have := H.out.2.2
          rw [List.take_of_length_le (by rw [HS.out.1, HS.out.2]; exact Nat.le_refl _)] at this
          unfold prsE
          rw [if_neg (by rw [HS.out.1, HS.out.2]; exact h1), if_pos this])
        have HO := Lib.hid (show wr.ownsRow w.heap.size 5 1 u4 (prsL s.data.toList).length (flatU (prsL s.data.toList)) by
          have := H.out.1
          rw [List.take_of_length_le (by rw [HS.out.1, HS.out.2]; exact Nat.le_refl _)] at this
          rw [prsL_len, HS.out.1, HS.out.2]
          exact this)
        clear hO hB hok
        go_wp2_with fail
        go_ret2
        exact oPost_ok (v := u4) HE.out HO.out H.out.2.1
end Go.Proofs.Ythabecfajponfaa
