/-
  Layer 2 (parity): the law Bursts, the walk behind its first test.
-/
import Derived.Test.YtpfohhmhadjdpaaParAw
import Derived.Test.YtpfohhmhadjdpaaParJ
namespace Go.Proofs.Ytpfohhmhadjdpaa
open Go.RowKit BitsMath ParityMath MyHeap MyCopy MyOwn

theorem adrE_ok {xs : List Nat} (h : adrE xs = 0) : chkE xs = 0 ∧ 24 ≤ xs.length := by
  unfold adrE at h
  by_cases h1 : chkE xs = 0
  · rw [if_neg (by rw [h1]; decide)] at h
    by_cases h2 : xs.length < 24
    · rw [if_pos h2] at h; cases h
    · exact ⟨h1, by omega⟩
  · rw [if_pos h1] at h; exact absurd h h1
theorem shr32 (ch k : Nat) : (ch : Int) / (2 : Int) ^ k = ((ch >>> k : Nat) : Int) := by
  rw [Nat.shiftRight_eq_div_pow]; push_cast; rfl
theorem own_slice_u8s {w : World} {base : Nat} {T : TypeId} {a : Option Addr} {n c : Nat} {ys : List Nat} (h : w.ownsRow base T 1 (.slice a n c) n (flatU ys)) (hn : ys.length = n) (hm : n ≤ 9223372036854775807) : U8s w a n ys ∧ n ≤ c := by
  obtain ⟨a', c', hv, hU, hc⟩ := own_u8s h hn hm
  cases hv
  exact ⟨hU, hc⟩
def burM (n p : Nat) : Nat := min 24 (n - p)

set_option maxRecDepth 100000 in
set_option maxHeartbeats 4000000 in
theorem bursts_in (a : Option Addr) (n c : Nat) (xs : List Nat) (p ch : Nat) (w : World) (h : U8s w a n xs) (hc : n ≤ c) (hn : n ≤ 200) (hE : adrE xs = 0) (hp : p < n) :
    Calls Try.prog 4 #[.slice a n c, .int .i64 (p : Int), .int .u32 (ch : Int)] w (BPost true w) := by
  have HL := Lib.hid h
  have hl := h.len
  obtain ⟨hck, h24⟩ := adrE_ok hE
  obtain ⟨ha1, h128⟩ := all1_of hck
  have HA := Lib.hid ha1
  have HLn := Lib.hid hl
  have hAR := Lib.hid (adr_of ha1 h128 h24)
  have HE := Lib.hid hE
  rw [hl] at h24 h128
  have hlong : decide ((200 : Int) < (n : Int)) = false := decide_eq_false (by omega)
  have d1 : decide ((p : Int) < 0) = false := decide_eq_false (by omega)
  have d2 : decide ((n : Int) ≤ (p : Int)) = false := decide_eq_false (by omega)
  have d3 : decide (n ≤ p) = false := decide_eq_false (by omega)
  obtain ⟨M, hM⟩ : ∃ M, burM n p = M := ⟨_, rfl⟩
  have hM24 : M ≤ 24 := by unfold burM at hM; omega
  have hMn : p + M ≤ n := by unfold burM at hM; omega
  have hMe : M = 24 ∨ p + M = n := by unfold burM at hM; omega
  have HBL := Lib.hid (burst_law (xs := xs) (p := p) (ch := ch) (k := M) (by rw [hl]; exact hMn) hM24)
  clear h hl hck ha1 hE hM
  go_enter Try.func4, Try.ntmps4
  go_wp2_with fail
  refine (awake_call _).mono ?_; rintro e w1 ⟨rfl, hb1⟩
  have HB1 := Lib.hid hb1
  clear hb1
  go_wp2_with fail
  refine (Address_call a n c xs _ (HL.out.below HB1.out) hc).mono ?_; rintro e w2 ⟨rfl, hb2⟩
  rw [hAR.out.1, hAR.out.2]
  have HB2 := Lib.hid (HB1.out.trans (hb2.mono HB1.out.size))
  clear hb2 HB1
  go_wp2_with fail
  refine (copyBits_call a n c xs _ (HL.out.below HB2.out) (by omega)).mono ?_; rintro e w3 ⟨vC, rfl, hO, hb3⟩
  obtain ⟨aC, cC, rfl⟩ := own_slice hO
  have K3 := Lib.hid (show Below w.heap.size w w3 ∧ w3.ownsRow w.heap.size 5 1 (.slice aC xs.length cC) xs.length (flatU (chL xs p ch 0)) from ⟨HB2.out.trans (hb3.mono HB2.out.size), by rw [chL_zero xs p ch (by rw [HLn.out]; omega)]; exact ownsRow_base hO HB2.out.size⟩)
  rw [HLn.out] at K3
  rw [HLn.out]
  clear hb3 hO HB2
  go_wp2_with fail
  go_loopw [10, 11] (fun bv kv wr => ∃ k : Nat, k ≤ M ∧ kv = .int .i64 k ∧ bv = .bool (chB ch k) ∧ Below w.heap.size w wr ∧ wr.ownsRow w.heap.size 5 1 (.slice aC n cC) n (flatU (chL xs p ch k))) (fun _ kv _ => M - (intOf kv).toNat)
  case atStart => exact ⟨0, Nat.zero_le _, rfl, rfl, K3.out⟩
  case round =>
    clear K3
    obtain ⟨k, hk, rfl, rfl, hB, hO⟩ := hrel
    have HK := Lib.hid (And.intro hB hO)
    clear hB hO
    by_cases hlt : k < M
    · have hcl := chL_len (xs := xs) (p := p) (ch := ch) (k := k) (by rw [HLn.out]; omega)
      rw [HLn.out] at hcl
      have hO := HK.out.2
      rw [← hcl] at hO
      obtain ⟨g, hgA, hg, hcell, hfree⟩ := own_at hO (i := p + k) (by rw [hcl]; omega)
      have hcl2 : (Value.slice aC (chL xs p ch k).length cC) = .slice (some ⟨g, 0, none⟩) n cC := by rw [hgA, hcl]
      have HO := Lib.hid (show w.heap.size ≤ g ∧ wr.ownsRow w.heap.size 5 1 (.slice (some ⟨g, 0, none⟩) n cC) n (flatU (chL xs p ch k)) from ⟨hg, by rw [← hgA]; exact HK.out.2⟩)
      subst hgA
      rw [chL_cur (by rw [HLn.out]; omega)] at hcell
      have hx := all1_get HA.out (p + k)
      obtain ⟨x, hxx⟩ : ∃ x, xs[p + k]?.getD 0 = x := ⟨_, rfl⟩
      have HX := Lib.hid hxx
      rw [hxx] at hcell hx
      have HLC := Lib.hid hcl
      clear hcl hcl2 hxx hO hg
      have hk24 : (k : Int) < 24 := by omega
      have hk0 : (0 : Int) ≤ (k : Int) := by omega
      have hpk : (p : Int) + (k : Int) < (n : Int) := by omega
      have hpk2 : p + k < n := by omega
      have hpk0 : (0 : Int) ≤ (p : Int) + (k : Int) := by omega
      have hpk3 : ((p : Int) + (k : Int)).toNat = p + k := by omega
      have htm : ((ch : Int) / (2 : Int) ^ k).tmod 2 = (((ch >>> k) % 2 : Nat) : Int) := by
        rw [shr32, Int.tmod_eq_emod_of_nonneg (Int.natCast_nonneg _)]; omega
      by_cases hb : (ch >>> k) % 2 = 1
      · have d4 : (((ch : Int) / (2 : Int) ^ k).tmod 2 == 1) = true := by rw [htm, hb]; rfl
        have HBt := Lib.hid hb
        have hsub : (1 : Int) - (x : Int) = ((1 - x : Nat) : Int) := by omega
        clear htm hb
        go_wp2_with fail
        go_roundw
        case rel =>
          have hs := own_set (n := n) (ys := chL xs p ch k) (by rw [HLC.out]; exact HO.out.2) (p + k) (1 - x)
          rw [List.length_set, HLC.out] at hs
          refine ⟨k + 1, by omega, by go_num, ?_, HK.out.1.setCell (p := ⟨g, p + k, none⟩) HO.out.1 _, ?_⟩
          · rw [chB_succ, HBt.out]; simp
          · rw [chL_yes (by rw [HLn.out]; omega) HBt.out HA.out, HX.out]
            exact hs
        case measure => simp [intOf]; omega
      · have d4 : (((ch : Int) / (2 : Int) ^ k).tmod 2 == 1) = false := by
          rw [htm, beq_eq_false_iff_ne]
          generalize (ch >>> k) % 2 = q at hb
          omega
        have HBt := Lib.hid hb
        clear htm hb
        go_wp2_with fail
        go_roundw
        case rel =>
          refine ⟨k + 1, by omega, by go_num, ?_, HK.out.1, ?_⟩
          · rw [chB_succ]; simp [HBt.out]
          · rw [chL_no (by rw [HLn.out]; omega) HBt.out]
            exact HO.out.2
        case measure => simp [intOf]; omega
    · obtain rfl : k = M := by omega
      have hcl := chL_len (xs := xs) (p := p) (ch := ch) (k := k) (by rw [HLn.out]; omega)
      rw [HLn.out] at hcl
      have hU := own_slice_u8s HK.out.2 hcl (by omega)
      have hAC := Lib.hid (adr_of (chL_all1 HA.out p ch k) (by rw [hcl]; exact h128) (by rw [hcl]; exact h24))
      have HU := Lib.hid hU
      have HB := Lib.hid HK.out.1
      have dd2 : ((((rg (chL xs p ch k) : Nat) : Int) != ((rg xs : Nat) : Int)) == chB ch k) = true := by
        rw [← HBL.out]
        by_cases e : rg (chL xs p ch k) = rg xs
        · rw [e]; simp
        · rw [bne_iff_ne.2 e, bne_iff_ne.2 (show ((rg (chL xs p ch k) : Nat) : Int) ≠ ((rg xs : Nat) : Int) by omega)]; rfl
      have hstop : (k : Int) = 24 ∨ ((k : Int) < 24 ∧ (p : Int) + (k : Int) = (n : Int)) := by omega
      have DD := Lib.hid dd2
      clear hcl hU HK dd2 hlt hk hM24 hMn hMe HBL
      rcases hstop with hs | ⟨hs, hs2⟩
      · rw [hs]
        clear hs
        go_wp2_with fail
        refine (Address_call aC n cC _ _ HU.out.1 HU.out.2).mono ?_; rintro e w5 ⟨rfl, hb5⟩
        rw [hAC.out.1, hAC.out.2]
        have HB5 := Lib.hid (HB.out.trans (hb5.mono HB.out.size))
        have d7 := DD.out
        clear hb5
        go_wp2_with fail
        go_ret
        exact bPost_of rfl HB5.out
      · have d9 : decide ((p : Int) + (k : Int) < (n : Int)) = false := decide_eq_false (by omega)
        clear hs2
        go_wp2_with fail
        refine (Address_call aC n cC _ _ HU.out.1 HU.out.2).mono ?_; rintro e w5 ⟨rfl, hb5⟩
        rw [hAC.out.1, hAC.out.2]
        have HB5 := Lib.hid (HB.out.trans (hb5.mono HB.out.size))
        have d7 := DD.out
        clear hb5
        go_wp2_with fail
        go_ret
        exact bPost_of rfl HB5.out
end Go.Proofs.Ytpfohhmhadjdpaa
