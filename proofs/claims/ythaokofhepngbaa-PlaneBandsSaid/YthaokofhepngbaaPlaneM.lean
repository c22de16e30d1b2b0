/-
  Layer 36 (plane): Meet.
-/
import Derived.Test.YthaokofhepngbaaPlaneL
import Derived.Test.YthaokofhepngbaaPlaneMathC
import Derived.Deep.QuietTactic
import Derived.BigQuiet
import Derived.IntWalk
namespace Go.Proofs.Ythaokofhepngbaa
open Go.RowKit PlaneMath MyHeap MyOwn

theorem prs_gp {w : World} {a : Option Addr} {n : Nat} {ps : List (Int × Int)} (h : Prs w a n ps) {k : Nat} (hk : k < n) : ∃ b off, a = some ⟨b, off, none⟩ ∧ w.cell? ⟨b, off + k * 2, none⟩ = some (.int .i64 (gp ps k).1) ∧ w.cell? ⟨b, off + k * 2 + 1, none⟩ = some (.int .i64 (gp ps k).2) := prs_at h hk

def MtPost (ps qs : List (Int × Int)) (w : World) (e : Ending) (w' : World) : Prop :=
  e = .returned (.tuple #[.int .i64 (mtS ps qs), .int .i64 (mtT ps qs), .int .i64 (mtE ps qs)]) ∧ Below w.heap.size w w'
theorem mtPost_err {ps qs : List (Int × Int)} {E : Int} {w w' : World} (h : mtE ps qs = E) (hE : E ≠ 0) (hB : Below w.heap.size w w') : MtPost ps qs w (.returned (.tuple #[.int .i64 0, .int .i64 0, .int .i64 E])) w' := by
  have := mt_err h hE
  unfold MtPost
  rw [this.1, this.2.1, this.2.2]
  exact ⟨rfl, hB⟩
theorem mtPost_ok {ps qs : List (Int × Int)} {n : Nat} {w w' : World} (h : mtE ps qs = 0) (hl : ps.length = n) (hB : Below w.heap.size w w') : MtPost ps qs w (.returned (.tuple #[.int .i64 (dk ps qs (mtA ps qs n)), .int .i64 (mtA ps qs n : Nat), .int .i64 0])) w' := by
  subst hl
  have := mt_ok h
  unfold MtPost
  rw [this.1, this.2.1, this.2.2]
  exact ⟨rfl, hB⟩

theorem sep_new {ps qs : List (Int × Int)} {k : Nat} {d : Int} (hd : d = dk ps qs k) (h : k = 0 ∨ d < sepK ps qs k) : Value.int .i64 d = .int .i64 (sepK ps qs (k + 1)) ∧ Value.int .i64 (k : Nat) = .int .i64 (mtA ps qs (k + 1) : Nat) := by
  subst hd
  have := sepK_new h
  rw [this.1, this.2]
  exact ⟨rfl, rfl⟩
theorem sep_old {ps qs : List (Int × Int)} {k : Nat} (h0 : k ≠ 0) (h : ¬ dk ps qs k < sepK ps qs k) : Value.int .i64 (sepK ps qs k) = .int .i64 (sepK ps qs (k + 1)) ∧ Value.int .i64 (mtA ps qs k : Nat) = .int .i64 (mtA ps qs (k + 1) : Nat) := by
  have := sepK_old h0 h
  rw [this.1, this.2]
  exact ⟨rfl, rfl⟩
/-- The list that the outer loop takes up. -/
def pick2 (ps qs : List (Int × Int)) (j : Nat) : List (Int × Int) := if j = 0 then ps else qs
def slc2 (a b : Value) (j : Nat) : Value := if j = 0 then a else b
def TwoTo (ps qs : List (Int × Int)) (n j : Nat) : Prop := ∀ i, i < j → StTo (pick2 ps qs i) n

set_option maxRecDepth 100000 in
set_option maxHeartbeats 8000000 in
theorem Meet_good (a a' : Option Addr) (n c c' : Nat) (ps qs : List (Int × Int)) (w : World) (h : Prs w a n ps) (h' : Prs w a' n qs) (hn0 : n ≠ 0) :
    Calls Try.prog 20 #[.slice a n c, .slice a' n c'] w (MtPost ps qs w) := by
  have hm := h.bound
  have hl := h.len
  have hl' := h'.len
  have HL := Lib.hid (And.intro hl hl')
  have HP := Lib.hid h
  have HQ := Lib.hid h'
  clear h h' hl hl'
  have hnn : ((n : Int) == 0) = false := by simp; omega
  have hne : ((n : Int) != (n : Int)) = false := by simp
  have hB0 : Below w.heap.size w (w.alloc (.cells #[.slice a n c, .slice a' n c'] 33)) := (Below.refl _ w).alloc (Nat.le_refl _) _
  have HB0 := Lib.hid hB0
  clear hB0
  go_enter Try.func20, Try.ntmps20
  go_wp2_with fail
  go_loopw [4, 5, 27] (fun s4 s5 jv wr => s4 = .int .i64 0 ∧ s5 = .int .i64 0 ∧ ∃ j : Nat, j ≤ 2 ∧ jv = .int .i64 j ∧ TwoTo ps qs n j ∧ wr.heap[w.heap.size]? = some (.cells #[.slice a n c, .slice a' n c'] 33 (0, 0)) ∧ Below w.heap.size w wr) (fun _ _ jv _ => 2 - (intOf jv).toNat)
  case atStart => exact ⟨rfl, rfl, 0, by omega, rfl, fun i hi => by omega, block_new _ _ rfl, HB0.out⟩
  case round =>
    obtain ⟨rfl, rfl, j, hj, rfl, hT, hbk, hB⟩ := hrel
    by_cases hlt : j < 2
    · have hj0 : (0 : Int) ≤ (j : Int) := by omega
      have hj1 : (j : Int) < 2 := by omega
      obtain ⟨aj, cj, hcj, hPj⟩ : ∃ aj cj, wr.cell? ⟨w.heap.size, j, none⟩ = some (.slice aj n cj) ∧ Prs w aj n (pick2 ps qs j) := by
        rcases (show j = 0 ∨ j = 1 by omega) with rfl | rfl
        · exact ⟨a, c, cell_of_block hbk rfl, HP.out⟩
        · exact ⟨a', c', cell_of_block hbk rfl, HQ.out⟩
      have HT := Lib.hid (And.intro hT (And.intro hbk (And.intro hB hPj)))
      clear hT hbk hPj
      go_wp2_with fail
      go_loopw [4, 5, 33] (fun s4 s5 kv wi => s4 = .int .i64 0 ∧ s5 = .int .i64 0 ∧ ∃ k : Nat, k ≤ n ∧ kv = .int .i64 k ∧ StTo (pick2 ps qs j) k ∧ wi.heap[w.heap.size]? = some (.cells #[.slice a n c, .slice a' n c'] 33 (0, 0)) ∧ Below w.heap.size w wi) (fun _ _ kv _ => n - (intOf kv).toNat)
      case atStart => exact ⟨rfl, rfl, 0, by omega, rfl, fun i hi => by omega, HT.out.2.1, HT.out.2.2.1⟩
      case round =>
        clear hcj
        obtain ⟨rfl, rfl, k, hk, rfl, hS, hbk, hBi⟩ := hrel
        by_cases hlk : k < n
        · obtain ⟨b, off, rfl, x0, x1⟩ := prs_gp HT.out.2.2.2 hlk
          replace x0 := keep1 hBi x0
          replace x1 := keep1 hBi x1
          have hiw := hBi.size
          have HI := Lib.hid (And.intro hS (And.intro hbk hBi))
          clear hS hbk hBi
          go_wp2_with fail
          refine (Check_call _ _ _).mono ?_; rintro e w4 ⟨rfl, hb4⟩
          have hB4 : Below w.heap.size w w4 := (HI.out.2.2.alloc hiw _).trans (hb4.mono (by simp; omega))
          have hbk4 := keepO hb4 (block_alloc (o' := .cells #[.int .i64 (gp (pick2 ps qs j) k).1, .int .i64 (gp (pick2 ps qs j) k).2] 23) HI.out.2.1)
          clear hb4
          cases hst : stB (gp (pick2 ps qs j) k).1 (gp (pick2 ps qs j) k).2 with
          | true =>
            have HE := Lib.hid hst
            rw [stE_yes hst]
            clear hst
            have H4 := Lib.hid (And.intro hB4 hbk4)
            clear hB4 hbk4
            go_wp2_with fail
            go_roundw
            case rel => exact ⟨rfl, rfl, k + 1, by omega, by go_num, stTo_succ HI.out.1 HE.out, H4.out.2, H4.out.1⟩
            case measure => simp [intOf]; omega
          | false =>
            have hEv : stE (gp (pick2 ps qs j) k).1 (gp (pick2 ps qs j) k).2 = 1 := by unfold stE; rw [hst]; rfl
            rw [hEv]
            clear hEv
            have HE := Lib.hid hst
            clear hst
            have H4 := Lib.hid (And.intro hB4 hbk4)
            clear hB4 hbk4
            go_wp2_with fail
            go_ret3
            refine mtPost_err (mtE_bad (k := k) (by rw [HL.out.1]; exact hn0) (HL.out.1.trans HL.out.2.symm) (by rw [HL.out.1]; exact hlk) ?_) (by decide) H4.out.1
            have := HE.out
            rcases (show j = 0 ∨ j = 1 by omega) with rfl | rfl
            · exact Or.inl this
            · exact Or.inr this
        · obtain rfl : k = n := by omega
          have HI := Lib.hid (And.intro hS (And.intro hbk hBi))
          clear hS hbk hBi
          go_wp2_with fail
          go_roundw
          case rel => exact ⟨rfl, rfl, j + 1, by omega, by go_num, fun i hi => by
            by_cases e : i = j
            · subst e; exact HI.out.1
            · exact HT.out.1 i (by omega), HI.out.2.1, HI.out.2.2⟩
          case measure => simp [intOf]; omega
    · obtain rfl : j = 2 := by omega
      have hS1 : StTo ps n := hT 0 (by omega)
      have hS2 : StTo qs n := hT 1 (by omega)
      have HT := Lib.hid (And.intro hS1 hS2)
      clear hS1 hS2 hT hbk
      have HBr := Lib.hid hB
      go_wp2_with fail
      go_loopw [4, 5, 46] (fun s4 s5 kv wi => ∃ k : Nat, k ≤ n ∧ kv = .int .i64 k ∧ s4 = .int .i64 (sepK ps qs k) ∧ s5 = .int .i64 (mtA ps qs k : Nat) ∧ Below w.heap.size w wi) (fun _ _ kv _ => n - (intOf kv).toNat)
      case atStart => exact ⟨0, by omega, rfl, rfl, rfl, HBr.out⟩
      case round =>
        obtain ⟨k, hk, rfl, rfl, rfl, hBi⟩ := hrel
        clear hB HBr
        by_cases hlk : k < n
        · obtain ⟨b, off, rfl, x0, x1⟩ := prs_gp HP.out hlk
          obtain ⟨b', off', rfl, y0, y1⟩ := prs_gp HQ.out hlk
          replace x0 := keep1 hBi x0
          replace x1 := keep1 hBi x1
          replace y0 := keep1 hBi y0
          replace y1 := keep1 hBi y1
          have hiw := hBi.size
          have HI := Lib.hid hBi
          clear hBi
          obtain ⟨s1, s2, s3, s4⟩ := stB_iff.1 (HT.out.1 k hlk)
          obtain ⟨t1, t2, t3, t4⟩ := stB_iff.1 (HT.out.2 k hlk)
          have hk0 : (0 : Int) ≤ (k : Int) := by omega
          have hk1 : (k : Int) < (n : Int) := by omega
          have z0 := cell_alloc_l (.cells #[.int .i64 (gp ps k).1, .int .i64 (gp ps k).2] 23) y0
          go_wp2_with fail
          have hW : IntKind.i64.wrap ((gp ps k).1 - (gp qs k).1) = (gp ps k).1 - (gp qs k).1 := IntWalk.i64_in _ (by omega)
          go_quiet (fail)
          clear hW z0
          have hBx := below_drewN (HI.out.alloc hiw (.cells #[.int .i64 (gp ps k).1, .int .i64 (gp ps k).2] 23)) nq
          have hHB := Lib.hid hBx
          clear hBx
          go_wp2
          all_goals go_roundw
          all_goals first
            | (refine ⟨_, _, _, _, _, _, ?_, rfl, rfl, rfl, rfl, rfl, rfl⟩)
            | (simp only [intOf]; omega)
            | skip
          all_goals first
            | exact ⟨k + 1, by omega, by go_num, (sep_old (k := k) (by omega) (by unfold dk dst; omega)).1, (sep_old (k := k) (by omega) (by unfold dk dst; omega)).2, hHB.out⟩
            | (rename_i h0; subst h0; exact ⟨0 + 1, by omega, rfl, (sep_new (k := 0) (by unfold dk dst; omega) (Or.inl rfl)).1, (sep_new (ps := ps) (qs := qs) (k := 0) (d := dk ps qs 0) rfl (Or.inl rfl)).2, hHB.out⟩)
            | (rename_i h0 hd
               rcases hd with hd | hd
               · exact absurd (by simpa using hd) h0
               · first
                   | rw [if_pos h] at hd
                   | rw [if_neg (by omega)] at hd
                 exact ⟨k + 1, by omega, by go_num, (sep_new (k := k) (by unfold dk dst; omega) (Or.inr hd)).1, (sep_new (ps := ps) (qs := qs) (k := k) (d := dk ps qs k) rfl (Or.inr (by unfold dk dst; omega))).2, hHB.out⟩)
        · obtain rfl : k = n := by omega
          go_wp2_with fail
          go_ret3
          have e : sepK ps qs k = dk ps qs (mtA ps qs k) := by unfold sepK; rw [if_neg hn0]
          rw [e]
          exact mtPost_ok (mtE_ok (by rw [HL.out.1]; exact hn0) (HL.out.1.trans HL.out.2.symm) (by rw [HL.out.1]; exact HT.out.1) (by rw [HL.out.1]; exact HT.out.2)) HL.out.1 hBi
end Go.Proofs.Ythaokofhepngbaa
