/-
  Layer 38 (rules): the reference's list, best and enough.
-/
import Derived.Test.YtfgalaalopkclaaRulesF
import Derived.Test.YtfgalaalopkclaaAdvLib
import Derived.Deep.DeepCutAuto
namespace Go.Proofs.Ytfgalaalopkclaa
open Go.RowKit PlaneMath PilotMath RulesMath MyHeap MyOwn MyCopy

theorem infoAdv : (Try.prog.info? 30).map (fun i => (i.zero, i.size, i.bytes)) = some (some (.agg #[.int .u8 0, .int .i64 0, .bool false]), 3, 24) := by kernel_rfl
theorem cellsThree {w : World} {x y z : Value} {T : TypeId} {n : Nat} (hn : n = w.heap.size) : ∀ (j : Nat) (u : Value), [x, y, z][j]? = some u → (w.alloc (.cells #[x, y, z] T)).cell? ((⟨n, 0, none⟩ : Addr).add j) = some u := by
  subst hn
  intro j u hu
  have hadd : (⟨w.heap.size, 0, none⟩ : Addr).add j = ⟨w.heap.size, j, none⟩ := by unfold Addr.add; split <;> simp_all
  rw [hadd, World.cell?_alloc_at _ _ _ _ rfl]
  match j, hu with
  | 0, hu => exact hu
  | 1, hu => exact hu
  | 2, hu => exact hu
theorem ownedBlock3 {w : World} {b : Nat} {x y z : Value} {T : TypeId} {base : Nat} (h : w.heap[b]? = some (.cells #[x, y, z] T (0, 0))) (hb : base ≤ b) : w.ownsRow base T 3 (.slice (some ⟨b, 0, none⟩) 1 1) 1 [x, y, z] :=
  ⟨rfl, Or.inr ⟨b, 1, #[x, y, z], rfl, hb, h, by omega, by decide, rfl, rfl⟩⟩
theorem lst_take (s : RulesMath.Set) (g : Int) (k : Nat) (hk : k < s.rs.length) : flat3 ((lstL s g).take (k + 1 + 1)) = flat3 ((lstL s g).take (k + 1)) ++ [.int .u8 g, .int .i64 (gr s.rs k), .bool false] := by
  have hl : k + 1 < (lstL s g).length := by rw [lst_len]; omega
  rw [List.take_succ_eq_append_getElem hl, flat3_append]
  have : (lstL s g)[k + 1] = ⟨g, gr s.rs k, false⟩ := by
    have := lst_succ s g k hk
    unfold ga at this
    rw [List.getElem?_eq_getElem hl] at this
    exact this
  rw [this, flat3_one]
/-- What the reference's list leaves. -/
def LstPost (s : RulesMath.Set) (g : Int) (n : Nat) (w : World) (e : Ending) (w' : World) : Prop := ∃ a c, e = .returned (.slice a (n + 1) c) ∧ Advs w' a (n + 1) (lstL s g) ∧ Below w.heap.size w w'

set_option maxRecDepth 100000 in
set_option maxHeartbeats 8000000 in
theorem rlist_call (a : Option Addr) (n c : Nat) (s : RulesMath.Set) (g : Int) (w : World) (h : Ints w a n s.rs) (hn : n ≤ 20) :
    Calls Try.prog 56 #[setV a n c s, .int .u8 g] w (LstPost s g n w) := by
  have HL := Lib.hid h
  have HLen := Lib.hid h.len
  clear h
  obtain ⟨i0, hi, hiz, his, hib⟩ := info_parts infoAdv
  have HI := Lib.hid (And.intro hi (And.intro hiz (And.intro his hib)))
  clear hi hiz his hib
  unfold setV
  go_enter Try.func56, Try.ntmps56
  go_wp2_with fail
  have hB0 := (below_alloc w (.cells (setC a n c s) 34)).alloc (by simp) (.cells #[.int .u8 g, .int .i64 0, .bool true] 30)
  have k0 : ((w.alloc (.cells (setC a n c s) 34)).alloc (.cells #[.int .u8 g, .int .i64 0, .bool true] 30)).heap[w.heap.size]? = some (.cells (setC a n c s) 34 (0, 0)) := block_alloc (block_new _ _ rfl)
  have hO : ((w.alloc (.cells (setC a n c s) 34)).alloc (.cells #[.int .u8 g, .int .i64 0, .bool true] 30)).ownsRow (w.heap.size + 1) 30 3 (.slice (some ⟨w.heap.size + 1, 0, none⟩) 1 1) 1 [.int .u8 g, .int .i64 0, .bool true] := ownedBlock3 (block_new _ _ (by simp)) (Nat.le_refl _)
  have H0 := Lib.hid (And.intro k0 (And.intro hO hB0))
  clear k0 hO hB0
  go_loopw [5, 6] (fun lv kv wr => ∃ k : Nat, k ≤ n ∧ kv = .int .i64 k ∧ wr.heap[w.heap.size]? = some (.cells (setC a n c s) 34 (0, 0)) ∧ wr.ownsRow (w.heap.size + 1) 30 3 lv (k + 1) (flat3 ((lstL s g).take (k + 1))) ∧ Below w.heap.size w wr) (fun _ kv _ => n - (intOf kv).toNat)
  case atStart => exact ⟨0, by omega, rfl, H0.out.1, H0.out.2.1, H0.out.2.2⟩
  case round =>
    obtain ⟨k, hk, rfl, hS, hO, hB⟩ := hrel
    clear H0
    have HK := Lib.hid (And.intro hS (And.intro hO hB))
    obtain ⟨y0, _, _, _⟩ := four_cells hS
    by_cases hlt : k < n
    · obtain ⟨b, off, rfl, x0⟩ := ints_at (HL.out.below hB) hlt
      have hk0 : (0 : Int) ≤ (k : Int) := by omega
      have hk1 : (k : Int) < (n : Int) := by omega
      have HT := Lib.hid (lst_take s g k (by rw [HLen.out]; exact hlt))
      have hw := hB.size
      have hwl := lt_of_block hS
      clear hS hO hB
      go_wp2_with (at_builtin; refine wpList_append_own _ rfl _ _ 49 rfl (w.heap.size + 1) 30 i0 _ 3 24 Try.underlying49 HI.out.1 HI.out.2.1 HI.out.2.2.1 HI.out.2.2.2 rfl (by decide) _ (k + 1) _ rfl (HK.out.2.1.alloc _) ⟨wr.heap.size, 0, none⟩ 1 1 [.int .u8 g, .int .i64 (gr s.rs k), .bool false] rfl rfl ?c1 ?c2 ?c3 ?c4 ?c5 ?_; rotate_right; intro v9 w9 hown9 hg9 _)
      case c1 => exact cellsThree rfl
      case c2 => intro u hu; simp at hu; rcases hu with rfl | rfl | rfl <;> rfl
      case c3 => unfold maxLen; omega
      case c4 => omega
      case c5 => simp; omega
      have hsb : w9.heap[w.heap.size]? = some (.cells (setC (some ⟨b, off, none⟩) n c s) 34 (0, 0)) := (hg9.block _ (by simp; omega) (fun e => by have := ((HK.out.2.1.alloc (.cells #[.int .u8 g, .int .i64 (gr s.rs k), .bool false] 30)).lt _ e.symm).1; omega)).trans (block_alloc HK.out.1)
      have hbb : Below w.heap.size w w9 := (HK.out.2.2.alloc hw _).trans ⟨hg9.os, hg9.tape, hg9.output, hg9.size, fun q hq => hg9.block q (by simp; omega) (fun e => by have := ((HK.out.2.1.alloc (.cells #[.int .u8 g, .int .i64 (gr s.rs k), .bool false] 30)).lt _ e.symm).1; omega)⟩
      have H9 := Lib.hid (And.intro hsb (And.intro hown9 hbb))
      clear hsb hown9 hbb hg9 x0 y0
      go_roundw
      case rel => exact ⟨k + 1, by omega, by go_num, H9.out.1, by rw [HT.out]; exact H9.out.2.1, H9.out.2.2⟩
      case measure => simp [intOf]; omega
    · obtain rfl : k = n := by omega
      have hO' : wr.ownsRow (w.heap.size + 1) 30 3 u5 (lstL s g).length (flat3 (lstL s g)) := by
        have hll := lst_len s g
        rw [HLen.out] at hll
        have := hO
        rw [List.take_of_length_le (by omega)] at this
        rw [hll]
        exact this
      obtain ⟨aL, cL, rfl, hA, _, _⟩ := advs_own hO' (by rw [lst_len, HLen.out]; omega)
      have hll : (lstL s g).length = k + 1 := by rw [lst_len, HLen.out]
      rw [hll] at hA ⊢
      have H9 := Lib.hid (And.intro hA hB)
      clear hA hB hO hO' hS hll
      go_wp2
      go_ret
      exact ⟨aL, cL, rfl, H9.out.1, H9.out.2⟩
end Go.Proofs.Ytfgalaalopkclaa
