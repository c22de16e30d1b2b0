/-
  Layer 2 (parity): the reference's remainder, walked.
-/
import Derived.Test.YtpfohhmhadjdpaaParQ
import Derived.Test.YtpfohhmhadjdpaaRefMath
import Derived.Test.YtpfohhmhadjdpaaZerosLibB
import Derived.Deep.AppendLies
import Derived.Deep.DeepCutAuto
namespace Go.Proofs.Ytpfohhmhadjdpaa
open Go.RowKit BitsMath ParityMath MyHeap MyCopy MyOwn

theorem bit_and (q : Nat) (h : q < 9223372036854775808) : bits .and .i64 ((q : Nat) : Int) 1 = ((q &&& 1 : Nat) : Int) := by
  rw [show (1 : Int) = ((1 : Nat) : Int) from rfl, MyBits.i64_and_nat _ _ h (by decide)]
theorem shr_lit (v k : Nat) (c : Int) (h : c = (v : Int)) : c / (2 : Int) ^ k = ((v >>> k : Nat) : Int) := by rw [h]; exact shr_div v k
theorem shr_le (v k : Nat) : v >>> k ≤ v := by rw [Nat.shiftRight_eq_div_pow]; exact Nat.div_le_self _ _
set_option maxRecDepth 100000 in
theorem bit_run (k p : Nat) (hk : k ≤ 24) (e1 : (33551369 : Int) / (2 : Int) ^ k = (p : Int)) (e2 : bits .and .i64 ((p : Nat) : Int) 1 = ((p &&& 1 : Nat) : Int)) (w : World) :
    Calls Try.prog 47 #[.int .i64 (k : Int)] w fun e w' => e = .returned (.int .i64 ((p : Int) % 2)) ∧ w = w' := by
  have hk0 : (0 : Int) ≤ (k : Int) := by omega
  go_enter Try.func47, Try.ntmps47
  go_wp2
  go_ret
  exact ⟨rfl, rfl⟩
def dvs : Nat := 33551369
def gbN (k : Nat) : Nat := (dvs >>> k) &&& 1
theorem gB_eq (k : Nat) : gbN (24 - k) = gB k := rfl
theorem bit_call (k : Nat) (hk : k ≤ 24) (w : World) : Calls Try.prog 47 #[.int .i64 (k : Int)] w fun e w' => e = .returned (.int .i64 ((gbN k : Nat) : Int)) ∧ w = w' := by
  have hd : dvs = 33551369 := rfl
  have hle := shr_le dvs k
  have e : ((dvs >>> k : Nat) : Int) % 2 = ((gbN k : Nat) : Int) := by unfold gbN; rw [Nat.and_one_is_mod]; omega
  rw [← e]
  exact bit_run k (dvs >>> k) hk (shr_lit dvs k 33551369 (by rw [hd]; rfl)) (bit_and _ (by omega)) w
theorem own_at' {w : World} {base g n c : Nat} {T : TypeId} {ys : List Nat} (h : w.ownsRow base T 1 (.slice (some ⟨g, 0, none⟩) n c) n (flatU ys)) (hl : ys.length = n) {i : Nat} (hi : i < n) : base ≤ g ∧ w.cell? ⟨g, i, none⟩ = some (.int .u8 ((ys[i]?.getD 0 : Nat) : Int)) ∧ w.frozen? ⟨g, i, none⟩ = false := by
  subst hl
  obtain ⟨g', e, hg, h1, h2⟩ := own_at h hi
  cases e
  exact ⟨hg, h1, h2⟩
theorem own_set' {w : World} {base g n c : Nat} {T : TypeId} {ys : List Nat} (h : w.ownsRow base T 1 (.slice (some ⟨g, 0, none⟩) n c) n (flatU ys)) (hl : ys.length = n) (i b : Nat) : (w.setCell ⟨g, i, none⟩ (.int .u8 (b : Int))).ownsRow base T 1 (.slice (some ⟨g, 0, none⟩) n c) n (flatU (ys.set i b)) := by
  have := own_set (n := n) (ys := ys) (by rw [hl]; exact h) i b
  rwa [List.length_set, hl] at this

set_option maxRecDepth 100000 in
set_option maxHeartbeats 8000000 in
theorem rRemainder_call (a : Option Addr) (n c : Nat) (xs : List Nat) (w : World) (h : U8s w a n xs) (hs : all1 xs) (hn : n ≤ 1000) (hcz : a = none → c = 0) :
    Calls Try.prog 37 #[.slice a n c] w (NPost (remN xs : Nat) w) := by
  have HL := Lib.hid h
  have hl := h.len
  have HLn := Lib.hid hl
  have HA := Lib.hid hs
  obtain ⟨i0, hi, hiz, his, hib⟩ := info_parts' infoU8
  have HI := Lib.hid (And.intro hi (And.intro hiz (And.intro his hib)))
  clear h hl hs hi hiz his hib
  go_enter Try.func37, Try.ntmps37
  go_upto_region 1 with fail
  go_wp2_with (first
    | (refine wpList_append_src rfl _ _ 28 rfl w.heap.size 5 i0 _ 1 1 Try.underlying28 HI.out.1 HI.out.2.1 HI.out.2.2.1 HI.out.2.2.2 rfl (by decide) _ 0 _ rfl (own_nil w _ _ _) a n c (flatU xs) rfl ?c0 ?c1 ?c2 (flatU_cell xs) ?c3 ?c4 ?c5 ?_; rotate_right; intro v1 w1 hown1 hgrow1)
    | (refine MyZeros.wpList_append_zeros _ rfl _ _ 28 3 rfl w.heap.size 5 i0 (.int .u8 0) 1 .i64 .i64 Try.underlying28 Try.underlying3 HI.out.1 HI.out.2.1 HI.out.2.2.1 HI.out.2.2.2 rfl rfl _ (0 + n) _ rfl hown1 24 rfl (by decide) ?z3 ?z4 ?z5 ?_; rotate_right; intro v2 w2 hown2 hgrow2))
  case c0 =>
    intro e0
    rcases HL.out.cells with h0 | ⟨b, off, e1, _⟩
    · exact ⟨h0, hcz e0⟩
    · rw [e1] at e0; cases e0
  case c1 => rw [flatU_len, HLn.out, Nat.mul_one]
  case c2 => intro ad' had; subst had; exact u8s_src HL.out
  case c3 => unfold maxLen; omega
  case c4 => omega
  case c5 => exact Nat.le_refl _
  case z3 => unfold maxLen; omega
  case z4 => omega
  case z5 => exact hgrow1.size
  have hb1 : Below w.heap.size w w1 := grownB (own_nil w w.heap.size 5 1) hgrow1 (Nat.le_refl _) (Nat.le_refl _)
  have hb2 : Below w.heap.size w w2 := hb1.trans (grownB hown1 hgrow2 (Nat.le_refl _) hb1.size)
  have hO2 : w2.ownsRow w.heap.size 5 1 v2 (n + 24) (flatU (xs ++ List.replicate 24 0)) := by
    have := hown2
    rw [Nat.zero_add, List.nil_append] at this
    rw [flatU, List.map_append, List.map_replicate]
    exact this
  obtain ⟨g, cap, rfl, _, hcap⟩ := own_some hO2 (by rw [List.length_append, List.length_replicate, HLn.out]) (by omega) (by omega)
  have K := Lib.hid (And.intro hO2 hb2)
  have HD := Lib.hid (dv_start HA.out)
  clear hb1 hb2 hO2 hown1 hown2 hgrow1 hgrow2
  go_wp2_with fail
  go_loopw [4] (fun iv wr => ∃ (i : Nat) (W : List Nat), i ≤ n ∧ iv = .int .i64 i ∧ Dv xs W i ∧ wr.ownsRow w.heap.size 5 1 (.slice (some ⟨g, 0, none⟩) (n + 24) cap) (n + 24) (flatU W) ∧ Below w.heap.size w wr) (fun iv _ => n - (intOf iv).toNat)
  case atStart => exact ⟨0, _, Nat.zero_le _, rfl, HD.out, K.out.1, K.out.2⟩
  case round =>
    clear K HD
    obtain ⟨i, W, hi, rfl, hD, hO, hB⟩ := hrel
    have HD := Lib.hid hD
    have hWl : W.length = n + 24 := by rw [hD.len, HLn.out]
    have HW := Lib.hid hWl
    have HK := Lib.hid (And.intro hO hB)
    by_cases hlt : i < n
    · obtain ⟨hg, x0, f0⟩ := own_at' hO hWl (i := i) (by omega)
      have hi0 : (0 : Int) ≤ (i : Int) := by omega
      have hi1 : (i : Int) < (n : Int) := by omega
      have hi2 : (i : Int) < (n : Int) + 24 := by omega
      have hi3 : i < n + 24 := by omega
      by_cases hx : W[i]?.getD 0 = 1
      · have HX := Lib.hid hx
        rw [hx] at x0
        have HG := Lib.hid hg
        clear hO hB hD hWl hg hx f0
        go_wp2_with fail
        go_loopw [5] (fun kv wq => ∃ k : Nat, k ≤ 25 ∧ kv = .int .i64 k ∧ wq.ownsRow w.heap.size 5 1 (.slice (some ⟨g, 0, none⟩) (n + 24) cap) (n + 24) (flatU (xg W i k)) ∧ Below w.heap.size w wq) (fun kv _ => 25 - (intOf kv).toNat)
        case atStart => exact ⟨0, by omega, rfl, by rw [xg_zero (by rw [HW.out]; omega)]; exact HK.out.1, HK.out.2⟩
        case round =>
          obtain ⟨k, hk, rfl, hO, hB⟩ := hrel
          have HQ := Lib.hid (And.intro hO hB)
          by_cases hk24 : k ≤ 24
          · have hxl : (xg W i k).length = n + 24 := by rw [xg_len (by rw [HW.out]; omega), HW.out]
            obtain ⟨_, y0, g0⟩ := own_at' hO hxl (i := i + k) (by omega)
            have hxa := all1_get (xg_all1 HD.out.one i k) (i + k)
            have HXL := Lib.hid hxl
            obtain ⟨x, hxx⟩ : ∃ x, (xg W i k)[i + k]?.getD 0 = x := ⟨_, rfl⟩
            have HXX := Lib.hid hxx
            rw [hxx] at y0 hxa
            have hk0 : (0 : Int) ≤ (k : Int) := by omega
            have hk1 : (k : Int) ≤ 24 := by omega
            have hik0 : (0 : Int) ≤ (i : Int) + (k : Int) := by omega
            have hik1 : (i : Int) + (k : Int) < (n : Int) + 24 := by omega
            have hik2 : ((i : Int) + (k : Int)).toNat = i + k := by omega
            have hik3 : i + k < n + 24 := by omega
            have hsub : IntKind.i64.wrap ((24 : Int) - (k : Int)) = ((24 - k : Nat) : Int) := by rw [IntKind.wrap_i64] <;> omega
            have hsub2 : (24 : Int) - (k : Int) = ((24 - k : Nat) : Int) := by omega
            have hwik : IntKind.i64.wrap ((i : Int) + (k : Int)) = (i : Int) + (k : Int) := by rw [IntKind.wrap_i64] <;> omega
            have hw24 : IntKind.i64.wrap ((24 - k : Nat) : Int) = ((24 - k : Nat) : Int) := by rw [IntKind.wrap_i64] <;> omega
            have hgb := gB_le k
            have hgb2 := gB_eq k
            have hxr := xor_u8 x (gB k) hxa hgb
            have hw8 : IntKind.u8.wrap ((gB k : Nat) : Int) = ((gB k : Nat) : Int) := by rw [IntKind.wrap_u8]; omega
            clear hO hB hxl hxx
            go_upto_region 9 with fail
            go_region_law ((go_simp; go_at_call 47; refine (bit_call (24 - k) (by omega) _).mono ?_; rintro e w' ⟨rfl, rfl⟩))
            all_goals
              go_wp2_with fail
              go_roundw
              case rel =>
                refine ⟨k + 1, by omega, by go_num, ?_, (HQ.out.2.setCell (p := ⟨g, i + k, none⟩) HG.out _).drew⟩
                rw [xg_succ (by rw [HW.out]; omega), HXX.out]
                exact own_set' HQ.out.1 HXL.out (i + k) (x ^^^ gB k)
              case measure => simp [intOf]; omega
          · have hk5 : k = 25 := by omega
            have HQ5 := Lib.hid (show wr.ownsRow w.heap.size 5 1 (.slice (some ⟨g, 0, none⟩) (n + 24) cap) (n + 24) (flatU (xg W i 25)) ∧ Below w.heap.size w wr from by rw [← hk5]; exact ⟨hO, hB⟩)
            have hk6 : (k : Int) = 25 := by omega
            rw [hk6]
            clear hO hB HQ hk5 hk6 hk24 hk
            go_wp2_with fail
            go_roundw
            case rel => exact ⟨i + 1, xg W i 25, by omega, by go_num, dv_yes HD.out HX.out (by rw [HLn.out]; exact hlt), HQ5.out.1, HQ5.out.2⟩
            case measure => simp [intOf]; omega
      · have HX := Lib.hid hx
        have dvn := Lib.hid (dv_no HD.out hx (by rw [HLn.out]; exact hlt))
        have d1 : (((W[i]?.getD 0 : Nat) : Int) == 1) = false := by rw [beq_eq_false_iff_ne]; omega
        generalize W[i]?.getD 0 = x at *
        clear hO hB hD hWl hg hx f0
        go_wp2_with fail
        go_roundw
        case rel => exact ⟨i + 1, W, by omega, by go_num, dvn.out, HK.out.1, HK.out.2⟩
        case measure => simp [intOf]; omega
    · obtain rfl : i = n := by omega
      have HDE := Lib.hid (show vl (W.drop i) = remN xs from by have := dv_end HA.out (by rw [HLn.out]; exact hD); rwa [HLn.out] at this)
      have hV1 : all1 (W.drop i) := fun x hx => hD.one x (List.mem_of_mem_drop hx)
      have hVl : (W.drop i).length = 24 := by rw [List.length_drop, hWl]; omega
      have HV := Lib.hid (And.intro hV1 hVl)
      clear hO hB hD hWl hV1 hVl
      go_wp2_with fail
      go_loopw [6, 7] (fun v iv wq => ∃ k : Nat, k ≤ 24 ∧ iv = .int .i64 ((i : Int) + (k : Int)) ∧ v = .int .i64 ((vl ((W.drop i).take k) : Nat) : Int) ∧ wq.ownsRow w.heap.size 5 1 (.slice (some ⟨g, 0, none⟩) (i + 24) cap) (i + 24) (flatU W) ∧ Below w.heap.size w wq) (fun _ iv _ => i + 24 - (intOf iv).toNat)
      case atStart => exact ⟨0, by omega, by simp, rfl, HK.out.1, HK.out.2⟩
      case round =>
        obtain ⟨k, hk, rfl, rfl, hO, hB⟩ := hrel
        have HQ := Lib.hid (And.intro hO hB)
        have hvt := vl_lt (xs := (W.drop i).take k) (fun x hx => HV.out.1 x (List.mem_of_mem_take hx))
        rw [List.length_take, HV.out.2] at hvt
        have hp : (2 : Nat) ^ (min k 24) ≤ 2 ^ 24 := Nat.pow_le_pow_right (by decide) (by omega)
        have hvt2 : vl ((W.drop i).take k) < 16777216 := by omega
        clear hvt hp
        by_cases hk24 : k < 24
        · obtain ⟨_, y0, _⟩ := own_at' hO HW.out (i := i + k) (by omega)
          have hxa : W[i + k]?.getD 0 ≤ 1 := all1_get HD.out.one (i + k)
          have HT := Lib.hid (show vl ((W.drop i).take (k + 1)) = 2 * vl ((W.drop i).take k) + W[i + k]?.getD 0 from by
            rw [take_snoc' (by rw [HV.out.2]; exact hk24), vl_snoc, List.getElem?_drop])
          generalize W[i + k]?.getD 0 = x at *
          generalize hvv : vl ((W.drop i).take k) = V at *
          have hik0 : (0 : Int) ≤ (i : Int) + (k : Int) := by omega
          have hik1 : (i : Int) + (k : Int) < (i : Int) + 24 := by omega
          have hik2 : ((i : Int) + (k : Int)).toNat = i + k := by omega
          have hik3 : i + k < i + 24 := by omega
          clear hO hB hvv
          go_wp2_with fail
          go_roundw
          case rel => exact ⟨k + 1, by omega, by simp; omega, by rw [HT.out]; push_cast; rfl, HQ.out.1, HQ.out.2⟩
          case measure => simp [intOf]; omega
        · have hk5 : k = 24 := by omega
          have hk6 : ¬ (i : Int) + (k : Int) < (i : Int) + 24 := by omega
          have HR := Lib.hid (show vl ((W.drop i).take k) = remN xs from by rw [hk5, List.take_of_length_le (by rw [HV.out.2]; exact Nat.le_refl _), HDE.out])
          clear hO hB hk5
          go_wp2_with fail
          go_ret
          exact ⟨by rw [HR.out]; rfl, HQ.out.2⟩
end Go.Proofs.Ytpfohhmhadjdpaa
