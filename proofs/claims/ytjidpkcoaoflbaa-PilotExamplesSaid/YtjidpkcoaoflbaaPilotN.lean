/-
  Layer 37 (pilot): awake, walked.
-/
import Derived.Test.YtjidpkcoaoflbaaPilotM
import Derived.Test.YtjidpkcoaoflbaaStoreLib
import Derived.Test.YtjidpkcoaoflbaaStoreState
import Derived.Test.YtjidpkcoaoflbaaCopyWide
import Derived.Deep.RegionHeld3
import Derived.Deep.DeepCutAuto
import Derived.Deep.DrawnRows
namespace Go.Proofs.Ytjidpkcoaoflbaa
open Go.RowKit PilotMath MyHeap MyOwn PlaneMath
attribute [local go_sem ↓] storeRunP Go.wp_at_zero Go.wp_at_succ
attribute [local go_sem] blk8_mk ptr8_mk cls8_mk agg8_mk

def aUp (r : Int) : Adv := ⟨1, r, false⟩
def aDn (r : Int) : Adv := ⟨2, r, false⟩
def five : List Adv := [aUp 20, aUp 20, aUp 20, aUp 20, aUp 20]
def flown6 : List (Int × Int) := [(1000, 0), (1000, 0), (1000, 0), (1000, 8), (1008, 16), (1024, 20)]
theorem ex_run : rnE 2 8 0 1000 0 five = 0 ∧ rnL 2 8 0 1000 0 five = flown6 := by decide +kernel
theorem five_pos : Pos five := by unfold Pos five aUp; simp
theorem ex_new : plE 0 8 2 = 0 := by decide
def exA : St := ⟨[], aUp 20, aUp 20, 1⟩
def exB : St := ⟨[], aDn 20, aUp 20, 2⟩
def exC : St := ⟨[], adv0, adv0, 3⟩
theorem ex_cA : cmdE 0 8 2 (st0 0) (aUp 20) = 0 := by decide +kernel
theorem ex_sA : cmdS 0 8 2 (st0 0) (aUp 20) = ⟨[], ⟨1, 20, false⟩, ⟨1, 20, false⟩, 1⟩ := by unfold cmdS; rw [if_pos ex_cA]; rfl
theorem ex_cB : cmdE 0 8 2 exA (aDn 20) = 0 := by decide +kernel
theorem ex_sB : cmdS 0 8 2 exA (aDn 20) = ⟨[], ⟨2, 20, false⟩, ⟨1, 20, false⟩, 2⟩ := by unfold cmdS; rw [if_pos ex_cB]; rfl
theorem ex_cC : cmdE 0 8 2 exB adv0 = 0 := by decide +kernel
theorem ex_sC : cmdS 0 8 2 exB adv0 = ⟨[], ⟨0, 0, false⟩, ⟨0, 0, false⟩, 3⟩ := by unfold cmdS; rw [if_pos ex_cC]; rfl
theorem ex_b1 : bndL (aUp (-5)) = 0 ∧ bndH (aUp (-5)) = 0 ∧ bndE (aUp (-5)) = 1 := by decide
theorem ex_b2 : bndL ⟨1, -5, true⟩ = -5 ∧ bndH ⟨1, -5, true⟩ = 100 ∧ bndE ⟨1, -5, true⟩ = 0 := by decide

/-- What Run leaves, its list known. -/
theorem runPost_at {d pl ms z v : Int} {l : List Adv} {r : List (Int × Int)} {E : Int} {w : World} {e : Ending} {w' : World} (h : RunPost d pl ms z v l w e w') (hL : rnL d pl ms z v l = r) (hE : rnE d pl ms z v l = E) (hm : r.length ≤ 1000000) : ∃ a c, e = .returned (.tuple #[.slice a r.length c, .int .i64 E]) ∧ Prs w' a r.length r ∧ Below w.heap.size w w' := by
  subst hL hE
  obtain ⟨v1, rfl, ho, hB⟩ := h
  obtain ⟨a, c, rfl, hP⟩ := prsOwn ho hm
  exact ⟨a, c, rfl, hP, hB⟩
/-- What Command leaves, its state known, its queue empty. -/
theorem cmdPost_at {d pl ms : Int} {x : St} {a : Adv} {ds dr fs fr cc : Int} {dk fk : Bool} {w : World} {e : Ending} {w' : World} (h : CmdPost d pl ms x a w e w') (hE : cmdE d pl ms x a = 0) (hS : cmdS d pl ms x a = ⟨[], ⟨ds, dr, dk⟩, ⟨fs, fr, fk⟩, cc⟩) : ∃ aq c, e = .returned (.tuple #[.agg #[.slice aq 0 c, .int .u8 ds, .int .i64 dr, .bool dk, .int .u8 fs, .int .i64 fr, .bool fk, .int .i64 cc], .int .i64 0]) ∧ QNew w' w.heap.size aq c [] ∧ Below w.heap.size w w' := by
  unfold CmdPost at h
  rw [hS, hE] at h
  obtain ⟨aq, c, rfl, hQ, hB⟩ := h
  exact ⟨aq, c, rfl, hQ, hB⟩
/-- The pilot's block, and nothing of w0 written. -/
def PkK (w0 : World) (d pl ms : Int) (w : World) : Prop := w.heap[w0.heap.size]? = some (.cells #[.int .i64 d, .int .i64 pl, .int .i64 ms] 23 (0, 0)) ∧ Below w0.heap.size w0 w
theorem PkK.keep {w0 : World} {d pl ms : Int} {w w' : World} (h : PkK w0 d pl ms w) (hb : Below w.heap.size w w') : PkK w0 d pl ms w' := ⟨keepO hb h.1, h.2.trans (hb.mono h.2.size)⟩
theorem PkK.alloc {w0 : World} {d pl ms : Int} {w : World} (h : PkK w0 d pl ms w) (o : Obj) : PkK w0 d pl ms (w.alloc o) := h.keep ((Below.refl _ _).alloc (Nat.le_refl _) _)
theorem PkK.row {w0 : World} {d pl ms : Int} {w : World} {b : Nat} {X : Array Value} (h : PkK w0 d pl ms w) (hb : w0.heap.size < b) : PkK w0 d pl ms (w.setRow b X) := ⟨(setRow_other _ _ _ _ (Nat.ne_of_lt hb)).trans h.1, below_setRow h.2 (Nat.le_of_lt hb) _⟩
theorem rowAt_new {w : World} {c0 c1 c2 c3 c4 c5 c6 c7 : Value} {T : TypeId} : RowAt (w.alloc (.cells #[c0, c1, c2, c3, c4, c5, c6, c7] T)) w.heap.size := rowAt_of (block_new _ _ rfl)
attribute [local go_sem] rowAt_new Go.MyCopyWide.setRow_last
theorem PkK.drew {w0 : World} {d pl ms : Int} {w : World} (h : PkK w0 d pl ms w) : PkK w0 d pl ms w.drew := h.keep (Below.refl _ _).drew

set_option maxRecDepth 100000 in
set_option maxHeartbeats 16000000 in
theorem awake_call (w : World) : Calls Try.prog 9 #[] w fun e w' => e = .returned (.bool true) ∧ Below w.heap.size w w' := by
  have HR := Lib.hid ex_run
  have gd := adv_guard
  have eq := adv_eql
  go_enter Try.func9, Try.ntmps9
  go_wp2_with fail
  have k0 : (w.alloc (.cells #[.int .i64 2, .int .i64 8, .int .i64 0] 23)).drew.heap[w.heap.size]? = some (.cells #[.int .i64 2, .int .i64 8, .int .i64 0] 23 (0, 0)) := block_new w _ rfl
  have hB0 : Below w.heap.size w (w.alloc (.cells #[.int .i64 2, .int .i64 8, .int .i64 0] 23)).drew := ((Below.refl _ w).alloc (Nat.le_refl _) _).drew
  have K : PkK w 2 8 0 (w.alloc (.cells #[.int .i64 2, .int .i64 8, .int .i64 0] 23)).drew := ⟨k0, hB0⟩
  clear k0 hB0
  go_region_held3 (fun w' => w'.cell? ⟨w.heap.size, 0, none⟩ = some (.int .i64 2) ∧ w'.cell? ⟨w.heap.size, 1, none⟩ = some (.int .i64 8) ∧ w'.cell? ⟨w.heap.size, 2, none⟩ = some (.int .i64 0)) (first | exact three_old K.1 | exact three_old (K.alloc _).1)
    (first
      | (go_at_call 26; refine (lup_call _ _).mono ?_; rintro e w5 ⟨rfl, hb5⟩; replace K := PkK.keep K hb5; clear hb5)
      | (go_at_call 10; refine (Run_call 2 8 0 1000 0 _ 5 5 five _ (advs_block (block_new _ _ rfl) rfl rfl (by decide)) five_pos).mono ?_; intro e w6 hpost; obtain ⟨a6, c6, rfl, hP6, hb6⟩ := runPost_at hpost HR.out.2 HR.out.1 (by decide); replace K := PkK.keep (K.alloc _) hb6; have HP6 := Lib.hid hP6; clear hpost hP6 hb6))
  have h6 : flown6.length = 6 := rfl
  rw [h6] at HP6 ⊢
  clear h6
  have HK := Lib.hid K
  clear K
  go_wp2_with fail
  refine (equalPlanes_call _ _ 6 6 _ 6 flown6 flown6 _ (HP6.out.below ((Below.refl _ _).alloc (Nat.le_refl _) _)) (prsBlock (block_new _ _ rfl) rfl rfl (by decide))).mono ?_; rintro e w7 ⟨rfl, hb7⟩
  rw [decide_eq_true (rfl : flown6 = flown6)]
  have HK7 := Lib.hid (PkK.keep (HK.out.alloc _) hb7)
  clear hb7 HK HP6
  go_wp2_with (refine wpList_store_new rfl 23 (.tmp 1) (.tmp 45) rfl w.heap.size #[.int .i64 0, .int .i64 8, .int .i64 2] rfl rfl 23 _ HK7.out.1 (by kernel_rfl) rfl (by simp [Value.oneCell']) ?_; intro w8 H8; obtain ⟨p0, p1, p2⟩ := three_old H8.out.1)
  have hK8 : PkK w 0 8 2 w8 := ⟨H8.out.1, HK7.out.2.trans (H8.out.2.below (Nat.le_refl _) HK7.out.2.size)⟩
  have HK8 := Lib.hid hK8
  clear hK8 H8 HK7 p0 p1 p2
  refine (pNew 0 8 2 _).mono ?_
  rintro e w9 ⟨aq, cq, q, rfl, hq0, _, hQN, hb9⟩
  obtain rfl := hq0 ex_new
  rw [ex_new]
  have HK9 := Lib.hid (PkK.keep HK8.out hb9)
  have HQ9 := Lib.hid (show Advs w9 aq 0 [] from hQN.1)
  clear hQN hb9 HK8
  unfold stV
  go_wp2_with fail
  simp only [adv0]
  have K4 : (w9.alloc (.cells #[.slice aq 0 cq, .int .u8 0, .int .i64 0, .bool false, .int .u8 0, .int .i64 0, .bool false, .int .i64 0] 38)).heap[w9.heap.size]? = some (.cells #[.slice aq 0 cq, .int .u8 0, .int .i64 0, .bool false, .int .u8 0, .int .i64 0, .bool false, .int .i64 0] 38 (0, 0)) := block_new _ _ rfl
  have K : PkK w 0 8 2 (w9.alloc (.cells #[.slice aq 0 cq, .int .u8 0, .int .i64 0, .bool false, .int .u8 0, .int .i64 0, .bool false, .int .i64 0] 38)) := HK9.out.alloc _
  clear HK9 HQ9
  generalize w9.alloc (.cells #[.slice aq 0 cq, .int .u8 0, .int .i64 0, .bool false, .int .u8 0, .int .i64 0, .bool false, .int .i64 0] 38) = wA at *
  generalize w9.heap.size = b4 at *
  go_upto_region 7 with fail
  go_cut [6, 7] (fun sA sB wx => sB = .int .i64 0 ∧ ∃ b6 ab6 cb6, sA = .pointer (some ⟨b6, 0, none⟩) ∧ wx.heap[b6]? = some (.cells #[.slice ab6 0 cb6, .int .u8 1, .int .i64 20, .bool false, .int .u8 1, .int .i64 20, .bool false, .int .i64 1] 38 (0, 0)) ∧ PkK w 0 8 2 wx)
  case first =>
    replace K : PkK w 0 8 2 wA.drew := K.drew
    replace K4 : wA.drew.heap[b4]? = some (.cells #[.slice aq 0 cq, .int .u8 0, .int .i64 0, .bool false, .int .u8 0, .int .i64 0, .bool false, .int .i64 0] 38 (0, 0)) := K4
    have hpU : w.heap.size < wA.heap.size := lt_of_block K.1
    have hbU : b4 ≠ wA.heap.size := Nat.ne_of_lt (lt_of_block K4)
    go_region_held3 (fun w' => w'.cell? ⟨w.heap.size, 0, none⟩ = some (.int .i64 0) ∧ w'.cell? ⟨w.heap.size, 1, none⟩ = some (.int .i64 8) ∧ w'.cell? ⟨w.heap.size, 2, none⟩ = some (.int .i64 2) ∧ w'.cell? ⟨b4, 0, none⟩ = some (.slice aq 0 cq) ∧ w'.cell? ⟨b4, 1, none⟩ = some (.int .u8 0) ∧ w'.cell? ⟨b4, 2, none⟩ = some (.int .i64 0) ∧ w'.cell? ⟨b4, 3, none⟩ = some (.bool false) ∧ w'.cell? ⟨b4, 4, none⟩ = some (.int .u8 0) ∧ w'.cell? ⟨b4, 5, none⟩ = some (.int .i64 0) ∧ w'.cell? ⟨b4, 6, none⟩ = some (.bool false) ∧ w'.cell? ⟨b4, 7, none⟩ = some (.int .i64 0)) (first | exact ⟨(three_old (K).1).1, (three_old (K).1).2.1, (three_old (K).1).2.2, eight_cells K4⟩ | exact ⟨(three_old (K.alloc _).1).1, (three_old (K.alloc _).1).2.1, (three_old (K.alloc _).1).2.2, eight_cells (block_alloc K4)⟩ | exact ⟨(three_old (K.row hpC).1).1, (three_old (K.row hpC).1).2.1, (three_old (K.row hpC).1).2.2, eight_cells ((setRow_other _ _ _ _ hbC).trans K4)⟩ | exact ⟨(three_old (K.row hpU).1).1, (three_old (K.row hpU).1).2.1, (three_old (K.row hpU).1).2.2, eight_cells ((setRow_other _ _ _ _ hbU).trans K4)⟩)
      (first
        | (go_at_call 26; refine (lup_call _ _).mono ?_; rintro e w5 ⟨rfl, hb5⟩; (try have ZZ : w5.heap[wA.heap.size]? = some (.cells #[.slice none 0 0, .int .u8 0, .int .i64 0, .bool false, .int .u8 0, .int .i64 0, .bool false, .int .i64 0] 38 (0, 0)) := keepO hb5 (block_new _ _ rfl)); replace K : PkK w 0 8 2 w5 := (by first | exact PkK.keep K hb5 | exact PkK.keep (K.alloc _) hb5); replace K4 : w5.heap[b4]? = some (.cells #[.slice aq 0 cq, .int .u8 0, .int .i64 0, .bool false, .int .u8 0, .int .i64 0, .bool false, .int .i64 0] 38 (0, 0)) := (by first | exact keepO hb5 K4 | exact keepO hb5 (block_alloc K4)); have hpC := lt_of_block K.1; have hbC := Nat.ne_of_lt (lt_of_block K4); clear hb5)
        | (go_at_call 15; refine (Command_call 0 0 8 2 aq cq (st0 0) (aUp 20) _ (advs_nil _ _) (Nat.zero_le _) (fun _ h => by cases h) (by decide) (by decide) (by decide)).mono ?_; intro e w10 hpost; obtain ⟨aX, cX, rfl, hA10, hb10⟩ := cmdPost_at hpost ex_cA ex_sA; (first | (replace ZZ := keepO hb10 ZZ; have hRow := rowAt_of ZZ) | (have ZZ : w10.heap[w5.heap.size]? = some (.cells #[.slice none 0 0, .int .u8 0, .int .i64 0, .bool false, .int .u8 0, .int .i64 0, .bool false, .int .i64 0] 38 (0, 0)) := keepO hb10 (block_new _ _ rfl); have hRow := rowAt_of ZZ) | skip); replace K : PkK w 0 8 2 w10 := (by first | exact PkK.keep K hb10 | exact PkK.keep (K.alloc _) hb10); replace K4 : w10.heap[b4]? = some (.cells #[.slice aq 0 cq, .int .u8 0, .int .i64 0, .bool false, .int .u8 0, .int .i64 0, .bool false, .int .i64 0] 38 (0, 0)) := (by first | exact keepO hb10 K4 | exact keepO hb10 (block_alloc K4)); clear hpost hb10 hA10))
    all_goals go_wp2_with fail
    all_goals go_meet
    all_goals first
      | exact ⟨rfl, _, _, _, rfl, setRow_heap _ _ _ _ _ _ ZZ, K.row hpU⟩
      | exact ⟨rfl, _, _, _, rfl, setRow_heap _ _ _ _ _ _ ZZ, K.row hpC⟩
      | exact ⟨rfl, _, _, _, rfl, block_new _ _ rfl, K.alloc _⟩
  case rest =>
  clear K K4
  obtain ⟨rfl, b6, ab6, cb6, rfl, K4, K⟩ := hcut
  obtain ⟨w7, rfl⟩ : ∃ w7 : World, w7 = wc := ⟨_, rfl⟩
  go_upto_region 8 with fail
  go_cut [8, 9] (fun sA sB wx => sB = .int .i64 0 ∧ ∃ b8 ab8 cb8, sA = .pointer (some ⟨b8, 0, none⟩) ∧ wx.heap[b8]? = some (.cells #[.slice ab8 0 cb8, .int .u8 2, .int .i64 20, .bool false, .int .u8 1, .int .i64 20, .bool false, .int .i64 2] 38 (0, 0)) ∧ PkK w 0 8 2 wx ∧ wx.heap[b6]? = some (.cells #[.slice ab6 0 cb6, .int .u8 1, .int .i64 20, .bool false, .int .u8 1, .int .i64 20, .bool false, .int .i64 1] 38 (0, 0)))
  case first =>
    replace K : PkK w 0 8 2 w7.drew := K.drew
    replace K4 : w7.drew.heap[b6]? = some (.cells #[.slice ab6 0 cb6, .int .u8 1, .int .i64 20, .bool false, .int .u8 1, .int .i64 20, .bool false, .int .i64 1] 38 (0, 0)) := K4
    have hpU : w.heap.size < w7.heap.size := lt_of_block K.1
    have hbU : b6 ≠ w7.heap.size := Nat.ne_of_lt (lt_of_block K4)
    go_region_held3 (fun w' => w'.cell? ⟨w.heap.size, 0, none⟩ = some (.int .i64 0) ∧ w'.cell? ⟨w.heap.size, 1, none⟩ = some (.int .i64 8) ∧ w'.cell? ⟨w.heap.size, 2, none⟩ = some (.int .i64 2) ∧ w'.cell? ⟨b6, 0, none⟩ = some (.slice ab6 0 cb6) ∧ w'.cell? ⟨b6, 1, none⟩ = some (.int .u8 1) ∧ w'.cell? ⟨b6, 2, none⟩ = some (.int .i64 20) ∧ w'.cell? ⟨b6, 3, none⟩ = some (.bool false) ∧ w'.cell? ⟨b6, 4, none⟩ = some (.int .u8 1) ∧ w'.cell? ⟨b6, 5, none⟩ = some (.int .i64 20) ∧ w'.cell? ⟨b6, 6, none⟩ = some (.bool false) ∧ w'.cell? ⟨b6, 7, none⟩ = some (.int .i64 1)) (first | exact ⟨(three_old (K).1).1, (three_old (K).1).2.1, (three_old (K).1).2.2, eight_cells K4⟩ | exact ⟨(three_old (K.alloc _).1).1, (three_old (K.alloc _).1).2.1, (three_old (K.alloc _).1).2.2, eight_cells (block_alloc K4)⟩ | exact ⟨(three_old (K.row hpC).1).1, (three_old (K.row hpC).1).2.1, (three_old (K.row hpC).1).2.2, eight_cells ((setRow_other _ _ _ _ hbC).trans K4)⟩ | exact ⟨(three_old (K.row hpU).1).1, (three_old (K.row hpU).1).2.1, (three_old (K.row hpU).1).2.2, eight_cells ((setRow_other _ _ _ _ hbU).trans K4)⟩)
      (first
        | (go_at_call 27; refine (ldown_call _ _).mono ?_; rintro e w5 ⟨rfl, hb5⟩; (try have ZZ : w5.heap[w7.heap.size]? = some (.cells #[.slice none 0 0, .int .u8 0, .int .i64 0, .bool false, .int .u8 0, .int .i64 0, .bool false, .int .i64 0] 38 (0, 0)) := keepO hb5 (block_new _ _ rfl)); replace K : PkK w 0 8 2 w5 := (by first | exact PkK.keep K hb5 | exact PkK.keep (K.alloc _) hb5); replace K4 : w5.heap[b6]? = some (.cells #[.slice ab6 0 cb6, .int .u8 1, .int .i64 20, .bool false, .int .u8 1, .int .i64 20, .bool false, .int .i64 1] 38 (0, 0)) := (by first | exact keepO hb5 K4 | exact keepO hb5 (block_alloc K4)); have hpC := lt_of_block K.1; have hbC := Nat.ne_of_lt (lt_of_block K4); clear hb5)
        | (go_at_call 15; refine (Command_call 0 0 8 2 ab6 cb6 exA (aDn 20) _ (advs_nil _ _) (Nat.zero_le _) (fun _ h => by cases h) (by decide) (by decide) (by decide)).mono ?_; intro e w10 hpost; obtain ⟨aX, cX, rfl, hA10, hb10⟩ := cmdPost_at hpost ex_cB ex_sB; (first | (replace ZZ := keepO hb10 ZZ; have hRow := rowAt_of ZZ) | (have ZZ : w10.heap[w5.heap.size]? = some (.cells #[.slice none 0 0, .int .u8 0, .int .i64 0, .bool false, .int .u8 0, .int .i64 0, .bool false, .int .i64 0] 38 (0, 0)) := keepO hb10 (block_new _ _ rfl); have hRow := rowAt_of ZZ) | skip); replace K : PkK w 0 8 2 w10 := (by first | exact PkK.keep K hb10 | exact PkK.keep (K.alloc _) hb10); replace K4 : w10.heap[b6]? = some (.cells #[.slice ab6 0 cb6, .int .u8 1, .int .i64 20, .bool false, .int .u8 1, .int .i64 20, .bool false, .int .i64 1] 38 (0, 0)) := (by first | exact keepO hb10 K4 | exact keepO hb10 (block_alloc K4)); clear hpost hb10 hA10))
    all_goals go_wp2_with fail
    all_goals go_meet
    all_goals first
      | exact ⟨rfl, _, _, _, rfl, setRow_heap _ _ _ _ _ _ ZZ, K.row hpU, (setRow_other _ _ _ _ hbU).trans K4⟩
      | exact ⟨rfl, _, _, _, rfl, setRow_heap _ _ _ _ _ _ ZZ, K.row hpC, (setRow_other _ _ _ _ hbC).trans K4⟩
      | exact ⟨rfl, _, _, _, rfl, block_new _ _ rfl, K.alloc _, block_alloc K4⟩
  case rest =>
  clear K K4
  obtain ⟨rfl, b8, ab8, cb8, rfl, N8, K, N6⟩ := hcut
  obtain ⟨w8, rfl⟩ : ∃ w8 : World, w8 = wc := ⟨_, rfl⟩
  have H8 := Lib.hid (And.intro N6 (And.intro N8 K))
  obtain ⟨p0, p1, p2⟩ := three_old K.1
  obtain ⟨q0, q1, q2, q3, q4, q5, q6, q7⟩ := eight_cells N8
  clear N6 N8 K
  go_wp2_with fail
  refine (Command_call 0 0 8 2 ab8 cb8 exB adv0 _ (advs_nil _ _) (Nat.zero_le _) (fun _ h => by cases h) (by decide) (by decide) (by decide)).mono ?_
  intro e w9' hpost
  obtain ⟨aX, cX, rfl, _, hb9⟩ := cmdPost_at hpost ex_cC ex_sC
  have N10 := block_new w9' (.cells #[.slice aX 0 cX, .int .u8 0, .int .i64 0, .bool false, .int .u8 0, .int .i64 0, .bool false, .int .i64 3] 38) rfl
  have hbb := hb9.alloc hb9.size (.cells #[.slice aX 0 cX, .int .u8 0, .int .i64 0, .bool false, .int .u8 0, .int .i64 0, .bool false, .int .i64 3] 38)
  have H9 := Lib.hid (And.intro (keepO hbb H8.out.1) (And.intro (keepO hbb H8.out.2.1) (And.intro N10 (PkK.keep H8.out.2.2 hbb))))
  clear hpost hb9 hbb N10 p0 p1 p2 q0 q1 q2 q3 q4 q5 q6 q7 H8
  go_wp2_with fail
  refine (lup_call _ _).mono ?_; rintro e w10 ⟨rfl, hb10⟩
  have H10 := Lib.hid (And.intro (keepO hb10 H9.out.1) (And.intro (keepO hb10 H9.out.2.1) (And.intro (keepO hb10 H9.out.2.2.1) (PkK.keep H9.out.2.2.2 hb10))))
  clear hb10 H9
  go_wp2_with fail
  refine (Bounds_call (aUp (-5)) _ (by decide)).mono ?_; rintro e w11 ⟨rfl, hb11⟩
  rw [ex_b1.1, ex_b1.2.1, ex_b1.2.2]
  have H11 := Lib.hid (And.intro (keepO hb11 H10.out.1) (And.intro (keepO hb11 H10.out.2.1) (And.intro (keepO hb11 H10.out.2.2.1) (PkK.keep H10.out.2.2.2 hb11))))
  clear hb11 H10
  go_wp2_with fail
  refine (Bounds_call ⟨1, -5, true⟩ _ (by decide)).mono ?_; rintro e w12 ⟨rfl, hb12⟩
  rw [ex_b2.1, ex_b2.2.1, ex_b2.2.2]
  have H12 := Lib.hid (And.intro (keepO hb12 H11.out.1) (And.intro (keepO hb12 H11.out.2.1) (And.intro (keepO hb12 H11.out.2.2.1) (PkK.keep H11.out.2.2.2 hb12))))
  clear hb12 H11
  go_wp2_with fail
  have N6 : w12.drew.heap[b6]? = _ := H12.out.1
  have N8 : w12.drew.heap[b8]? = _ := H12.out.2.1
  have N10 : w12.drew.heap[w9'.heap.size]? = _ := H12.out.2.2.1
  have hB : Below w.heap.size w w12.drew := H12.out.2.2.2.2.drew
  have t1 : advB ⟨1, 20, false⟩ ⟨1, 20, false⟩ = true := rfl
  have t2 : advB ⟨2, 20, false⟩ ⟨2, 20, false⟩ = true := rfl
  have t3 : advB ⟨0, 0, false⟩ ⟨0, 0, false⟩ = true := rfl
  clear H12
  generalize w9'.heap.size = b10 at *
  go_region_held3 (fun w' => (w'.cell? ⟨b6, 0, none⟩ = some (.slice ab6 0 cb6) ∧ w'.cell? ⟨b6, 1, none⟩ = some (.int .u8 1) ∧ w'.cell? ⟨b6, 2, none⟩ = some (.int .i64 20) ∧ w'.cell? ⟨b6, 3, none⟩ = some (.bool false) ∧ w'.cell? ⟨b6, 4, none⟩ = some (.int .u8 1) ∧ w'.cell? ⟨b6, 5, none⟩ = some (.int .i64 20) ∧ w'.cell? ⟨b6, 6, none⟩ = some (.bool false) ∧ w'.cell? ⟨b6, 7, none⟩ = some (.int .i64 1)) ∧ (w'.cell? ⟨b8, 0, none⟩ = some (.slice ab8 0 cb8) ∧ w'.cell? ⟨b8, 1, none⟩ = some (.int .u8 2) ∧ w'.cell? ⟨b8, 2, none⟩ = some (.int .i64 20) ∧ w'.cell? ⟨b8, 3, none⟩ = some (.bool false) ∧ w'.cell? ⟨b8, 4, none⟩ = some (.int .u8 1) ∧ w'.cell? ⟨b8, 5, none⟩ = some (.int .i64 20) ∧ w'.cell? ⟨b8, 6, none⟩ = some (.bool false) ∧ w'.cell? ⟨b8, 7, none⟩ = some (.int .i64 2)) ∧ (w'.cell? ⟨b10, 0, none⟩ = some (.slice aX 0 cX) ∧ w'.cell? ⟨b10, 1, none⟩ = some (.int .u8 0) ∧ w'.cell? ⟨b10, 2, none⟩ = some (.int .i64 0) ∧ w'.cell? ⟨b10, 3, none⟩ = some (.bool false) ∧ w'.cell? ⟨b10, 4, none⟩ = some (.int .u8 0) ∧ w'.cell? ⟨b10, 5, none⟩ = some (.int .i64 0) ∧ w'.cell? ⟨b10, 6, none⟩ = some (.bool false) ∧ w'.cell? ⟨b10, 7, none⟩ = some (.int .i64 3))) (exact ⟨eight_cells N6, eight_cells N8, eight_cells N10⟩)
    (first
      | (go_at_call 26; refine (lup_call _ _).mono ?_; rintro e w13 ⟨rfl, hb13⟩; replace N6 := keepO hb13 N6; replace N8 := keepO hb13 N8; replace N10 := keepO hb13 N10; replace hB := hB.trans (hb13.mono hB.size); clear hb13)
      | (go_at_call 27; refine (ldown_call _ _).mono ?_; rintro e w13 ⟨rfl, hb13⟩; replace N6 := keepO hb13 N6; replace N8 := keepO hb13 N8; replace N10 := keepO hb13 N10; replace hB := hB.trans (hb13.mono hB.size); clear hb13))
  go_wp2_with fail
  go_ret
  exact ⟨rfl, hB⟩
end Go.Proofs.Ytjidpkcoaoflbaa
