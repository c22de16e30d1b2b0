/-
  Layer 19 (assign): Better of the program.
-/
import Derived.Test.YtbehpkggmomgeaaAsgN
import Derived.Test.YtbehpkggmomgeaaAsgK
import Derived.Deep.RegionWith
namespace Go.Proofs.Ytbehpkggmomgeaa
open Go.RowKit AsgRows AsgMath MyHeap MyOwn

def BtPost (L : List (List Int)) (ps qs : List (Int × Int)) (w : World) (e : Ending) (w' : World) : Prop := e = .returned (.tuple #[.bool (btB L ps qs), .int .i64 (btE L ps qs)]) ∧ Below w.heap.size w w'
theorem btPost_of {L : List (List Int)} {ps qs : List (Int × Int)} {x : Bool} {y : Int} {w w' : World} (h1 : btB L ps qs = x) (h2 : btE L ps qs = y) (hB : Below w.heap.size w w') : BtPost L ps qs w (.returned (.tuple #[.bool x, .int .i64 y])) w' := by subst h1; subst h2; exact ⟨rfl, hB⟩

set_option maxRecDepth 100000 in
set_option maxHeartbeats 8000000 in
theorem pBetter_call (a a1 a2 : Option Addr) (n cc n1 c1 n2 c2 : Nat) (L : List (List Int)) (ps qs : List (Int × Int)) (w : World) (hM : Mtx w a n L) (hP : Prs w a1 n1 ps) (hQ : Prs w a2 n2 qs) :
    Calls Try.prog 23 #[.slice a n cc, .slice a1 n1 c1, .slice a2 n2 c2] w (BtPost L ps qs w) := by
  have HM := Lib.hid hM
  have HP := Lib.hid hP
  have HQ := Lib.hid hQ
  have m1 := hP.bound
  have m2 := hQ.bound
  clear hM hP hQ
  go_enter Try.func23, Try.ntmps23
  go_wp2_with fail
  refine (pCost_call a a1 n cc n1 c1 L ps _ HM.out HP.out).mono ?_
  rintro e w1 ⟨rfl, hb⟩
  have K := Lib.hid hb
  clear hb
  obtain ⟨E1, hE1⟩ : ∃ E, coE L ps = E := ⟨_, rfl⟩
  obtain ⟨S1, hS1⟩ : ∃ E, coS L ps = E := ⟨_, rfl⟩
  rw [hE1, hS1]
  by_cases h1 : E1 = 0
  · subst h1
    have HE1 := Lib.hid (And.intro hE1 hS1)
    clear hE1 hS1
    go_wp2_with fail
    refine (pCost_call a a2 n cc n2 c2 L qs _ (HM.out.below K.out) (HQ.out.below K.out)).mono ?_
    rintro e w2 ⟨rfl, hb⟩
    replace K := Lib.hid (K.out.trans (hb.mono K.out.size))
    clear hb
    obtain ⟨E2, hE2⟩ : ∃ E, coE L qs = E := ⟨_, rfl⟩
    obtain ⟨S2, hS2⟩ : ∃ E, coS L qs = E := ⟨_, rfl⟩
    rw [hE2, hS2]
    by_cases h2 : E2 = 0
    · subst h2
      have HBE := Lib.hid (show btE L ps qs = 0 by rw [bt_e2 HE1.out.1, hE2])
      have HO := Lib.hid (show Bo L ps qs 0 (orI (cmpI (n2 : Int) (n1 : Int)) (cmpI S1 S2)) by
        have h := Bo.start HBE.out
        rw [HE1.out.2, hS2, HP.out.len, HQ.out.len] at h
        exact h)
      clear hE2 hS2
      go_wp2_with fail
      refine (compare_call _ _ _).mono ?_; rintro e w3 ⟨rfl, rfl⟩
      go_wp2_with fail
      refine (compare_call _ _ _).mono ?_; rintro e w3 ⟨rfl, rfl⟩
      generalize cmpI (n2 : Int) (n1 : Int) = o1 at *
      generalize cmpI S1 S2 = o2 at *
      go_wp2_with fail
      refine (or_call _ o1 o2 _ (block_new _ _ rfl)).mono ?_; rintro e w3 ⟨rfl, rfl⟩
      replace K := Lib.hid (K.out.alloc K.out.size (.cells #[.int .i64 o1, .int .i64 o2] 3))
      generalize orI o1 o2 = o3 at *
      go_wp2_with fail
      generalize w2.alloc (.cells #[.int .i64 o1, .int .i64 o2] 3) = w4 at *
      go_loopw [11, 12] (fun ov iv wr => ∃ (o : Int) (i : Nat), i ≤ n1 ∧ iv = .int .i64 i ∧ ov = .int .i64 o ∧ Bo L ps qs i o ∧ Below w.heap.size w wr) (fun _ iv _ => n1 - (intOf iv).toNat)
      case atStart => exact ⟨o3, 0, Nat.zero_le _, rfl, rfl, HO.out, K.out⟩
      case round =>
        clear K HO
        obtain ⟨o, i, hi, rfl, rfl, hO, hB⟩ := hrel
        have HO := Lib.hid hO
        have K := Lib.hid hB
        clear hO hB
        by_cases h0 : o = 0
        · subst h0
          by_cases hin : i < n1
          · have hl := (HO.out.z rfl).1
            rw [HP.out.len, HQ.out.len] at hl
            subst hl
            obtain ⟨bp, op, rfl, x0, x1⟩ := prs_at HP.out hin
            obtain ⟨bq, oq, rfl, y0, y1⟩ := prs_at HQ.out hin
            obtain ⟨A1, hA1⟩ : ∃ A, pA ps i = A := ⟨_, rfl⟩
            obtain ⟨B1, hB1⟩ : ∃ A, pB ps i = A := ⟨_, rfl⟩
            obtain ⟨A2, hA2⟩ : ∃ A, pA qs i = A := ⟨_, rfl⟩
            obtain ⟨B2, hB2⟩ : ∃ A, pB qs i = A := ⟨_, rfl⟩
            have HOrd := Lib.hid (show ordP ps qs i = orI (cmpI A1 A2) (cmpI B1 B2) by unfold ordP; rw [hA1, hB1, hA2, hB2])
            have x0 : w.cell? ⟨bp, op + i * 2, none⟩ = some (.int .i64 A1) := by rw [← hA1]; exact x0
            have x1 : w.cell? ⟨bp, op + i * 2 + 1, none⟩ = some (.int .i64 B1) := by rw [← hB1]; exact x1
            have y0 : w.cell? ⟨bq, oq + i * 2, none⟩ = some (.int .i64 A2) := by rw [← hA2]; exact y0
            have y1 : w.cell? ⟨bq, oq + i * 2 + 1, none⟩ = some (.int .i64 B2) := by rw [← hB2]; exact y1
            have HC := Lib.hid (And.intro (And.intro x0 x1) (And.intro y0 y1))
            clear hA1 hB1 hA2 hB2
            have q0 := World.block_lt_of_cell? wr _ (keep1 K.out x0)
            have q1 := World.block_lt_of_cell? wr _ (keep1 K.out y0)
            have hi0 : (0 : Int) ≤ (i : Int) := by omega
            have hi1 : (i : Int) < (n1 : Int) := by omega
            have HN := Lib.hid (HO.out.next HBE.out (by rw [HP.out.len]; exact hin))
            clear x0 x1 y0 y1
            go_wp2_with fail
            have HLit := Lib.hid (block_new wr (.cells #[.int .i64 (cmpI A1 A2), .int .i64 (cmpI B1 B2)] 3 (0, 0)) rfl)
            have K9 := Lib.hid (show Below w.heap.size w wr.drew from below_drewN K.out 1)
            go_region_held3 (fun w' => w'.cell? ⟨bp, op + i * 2, none⟩ = some (.int .i64 A1) ∧ w'.cell? ⟨bp, op + i * 2 + 1, none⟩ = some (.int .i64 B1) ∧ w'.cell? ⟨bq, oq + i * 2, none⟩ = some (.int .i64 A2) ∧ w'.cell? ⟨bq, oq + i * 2 + 1, none⟩ = some (.int .i64 B2))
              (first | exact ⟨keep1 K9.out HC.out.1.1, keep1 K9.out HC.out.1.2, keep1 K9.out HC.out.2.1, keep1 K9.out HC.out.2.2⟩ | exact ⟨keep1 (K9.out.alloc K9.out.size _) HC.out.1.1, keep1 (K9.out.alloc K9.out.size _) HC.out.1.2, keep1 (K9.out.alloc K9.out.size _) HC.out.2.1, keep1 (K9.out.alloc K9.out.size _) HC.out.2.2⟩)
              (first
                | (go_at_call 33; refine (compare_call _ _ _).mono ?_; rintro e w5 ⟨rfl, rfl⟩)
                | (go_at_call 32; refine (or_call wr.heap.size (cmpI A1 A2) (cmpI B1 B2) (wr.alloc (.cells #[.int .i64 (cmpI A1 A2), .int .i64 (cmpI B1 B2)] 3)).drew HLit.out).mono ?_; rintro e w5 ⟨rfl, rfl⟩))
            all_goals
              have K8 := Lib.hid (show Below w.heap.size w (wr.alloc (.cells #[.int .i64 (cmpI A1 A2), .int .i64 (cmpI B1 B2)] 3)).drew from below_drewN (K.out.alloc K.out.size _) 1)
              rw [← HOrd.out]
              go_wp2_with fail
              go_roundw
              case rel => exact ⟨ordP ps qs i, i + 1, by omega, by go_num, rfl, HN.out, K8.out⟩
              case measure => simp [intOf]; omega
          · obtain rfl : n1 = i := by omega
            have HD := Lib.hid (HO.out.done HBE.out (Or.inr HP.out.len.symm))
            clear hi hin
            go_wp2_with fail
            go_ret2
            exact btPost_of (by rw [HD.out]; rfl) HBE.out K.out
        · have hb : (o == 0) = false := by simpa using h0
          have HD := Lib.hid (HO.out.done HBE.out (Or.inl h0))
          clear h0
          by_cases hneg : o < 0
          · go_wp2_with fail
            go_ret2
            exact btPost_of (by rw [HD.out, decide_eq_true hneg]) HBE.out K.out
          · go_wp2_with fail
            go_ret2
            exact btPost_of (by rw [HD.out, decide_eq_false (by omega)]) HBE.out K.out
    · have hne : (E2 != 0) = true := by rw [bne_iff_ne]; exact h2
      have HBE := Lib.hid (show btE L ps qs = E2 by rw [bt_e2 HE1.out.1, hE2])
      have HBB := Lib.hid (bt_err HBE.out h2)
      clear h2 hE2 hS2
      go_wp2_with fail
      go_ret2
      exact btPost_of HBB.out HBE.out K.out
  · have hne : (E1 != 0) = true := by rw [bne_iff_ne]; exact h1
    have HBE := Lib.hid (show btE L ps qs = E1 by rw [bt_e1 (by rw [hE1]; exact h1), hE1])
    have HBB := Lib.hid (bt_err HBE.out h1)
    clear h1 hE1 hS1
    go_wp2_with fail
    go_ret2
    exact btPost_of HBB.out HBE.out K.out
end Go.Proofs.Ytbehpkggmomgeaa
