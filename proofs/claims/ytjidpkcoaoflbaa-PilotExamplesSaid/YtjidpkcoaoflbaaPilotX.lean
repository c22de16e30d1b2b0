/-
  Layer 37 (pilot): the law PilotExamples, walked. Printed by genPilotX2.py.
-/
import Derived.Test.YtjidpkcoaoflbaaPilotXb
import Derived.Test.YtjidpkcoaoflbaaPilotXf
import Derived.Test.YtjidpkcoaoflbaaPilotXc
import Derived.Test.YtjidpkcoaoflbaaPilotXd
import Derived.Test.YtjidpkcoaoflbaaPilotXe
import Derived.Test.YtjidpkcoaoflbaaPilotXh
namespace Go.Proofs.Ytjidpkcoaoflbaa
open Go.RowKit PilotMath MyHeap MyOwn PlaneMath MyCopy
attribute [local go_sem ↓] storeRunP Go.wp_at_zero Go.wp_at_succ
attribute [local go_sem] blk8_mk ptr8_mk cls8_mk agg8_mk
attribute [local go_sem] rowAt_new Go.MyCopyWide.setRow_last

set_option maxRecDepth 100000 in
set_option maxHeartbeats 64000000 in
theorem ExamplesLaw_call (w : World) : Calls Try.prog 8 #[] w fun e w' => e = .returned (.bool true) ∧ Below w.heap.size w w' := by
  go_enter Try.func8, Try.ntmps8
  go_wp2_with fail
  refine (awake_call _).mono ?_; rintro e w1 ⟨rfl, hb⟩
  have HB := Lib.hid hb
  clear hb
  go_wp2_with fail
  refine (lup_call _ _).mono ?_; rintro e w2 ⟨rfl, hb⟩
  replace HB := Lib.hid (HB.out.trans (hb.mono HB.out.size))
  clear hb
  go_wp2_with fail
  refine (ldown_call _ _).mono ?_; rintro e w3 ⟨rfl, hb⟩
  replace HB := Lib.hid (HB.out.trans (hb.mono HB.out.size))
  clear hb
  go_wp2_with fail
  refine (lup_call _ _).mono ?_; rintro e w4 ⟨rfl, hb⟩
  replace HB := Lib.hid (HB.out.trans (hb.mono HB.out.size))
  clear hb
  go_wp2_with fail
  refine (ldown_call _ _).mono ?_; rintro e w5 ⟨rfl, hb⟩
  replace HB := Lib.hid (HB.out.trans (hb.mono HB.out.size))
  clear hb
  go_wp2_with fail
  have HK0 := Lib.hid (show BkK w w5.heap.size tbCells 58 (w5.alloc (.cells tbCells 58)) from ⟨block_new _ _ rfl, HB.out.alloc HB.out.size _⟩)
  clear HB
  refine lpA w w5.heap.size _ _ HK0.out ?_
  clear HK0
  rintro a' wr ⟨u0, u2, u3, u4, u5, u72, u73, u74, u75, u76, u77, u78, u79, u80, u81, u82, u83, u84, u85, u86, u87, u88, u89, u90, u91, u92, u93, u94, u95, u96, u97, u98, rfl, hK⟩
  have HK := Lib.hid hK
  clear hK
  go_wp2_with fail
  have HK1 := Lib.hid (show BkK w wr.heap.size plCells 23 (wr.alloc (.cells plCells 23)) from ⟨block_new _ _ rfl, HK.out.2.alloc HK.out.2.size _⟩)
  clear HK

  generalize wr.heap.size = bT at *
  refine lpB w bT _ _ HK1.out ?_
  clear HK1
  rintro a' wr ⟨u0, u7, u8, u9, u10, u11, u12, u13, u14, u15, u108, u109, u110, u111, u112, u113, u114, u115, u116, u117, u118, u119, u120, u121, u122, u123, u124, u125, u126, u127, u128, u129, u130, u131, u132, u133, u134, u135, u136, u137, u138, u139, u140, u141, u142, u143, u144, u145, u146, u147, u148, u149, u150, rfl, hK⟩
  have HK := Lib.hid hK
  clear hK
  have HB := Lib.hid HK.out.2
  clear HK
  have mk1 := hmk1
  have mk257 := hmk257
  go_wp2_with fail
  have K : KK w [(wr.heap.size, .cells #[.int .i64 1, .int .i64 1, .int .i64 3] 23 (0, 0)), (wr.heap.size + 1, .cells #[.int .u8 9, .int .i64 0, .bool false] 36 (0, 0)), (wr.heap.size + 1 + 1, .cells #[.int .u8 0, .int .i64 0, .bool false] 36 (0, 0))] (((wr.alloc (.cells #[.int .i64 1, .int .i64 1, .int .i64 3] 23)).alloc (.cells #[.int .u8 9, .int .i64 0, .bool false] 36)).alloc (.cells #[.int .u8 0, .int .i64 0, .bool false] 36)) :=
    KK.cons (KK.cons (KK.cons (bs := []) ⟨(fun p hp => by cases hp), (((HB.out.alloc HB.out.size _).alloc (by have := HB.out.size; simp; omega) _).alloc (by have := HB.out.size; simp; omega) _)⟩ (block_new _ _ (by simp))) (block_alloc (block_new _ _ (by simp)))) (block_alloc (block_alloc (block_new _ _ rfl)))
  clear HB
  generalize wr.heap.size + 1 + 1 = b1 at *
  generalize wr.heap.size + 1 = bO at *
  generalize wr.heap.size = bP at *
  generalize (((wr.alloc (.cells #[.int .i64 1, .int .i64 1, .int .i64 3] 23)).alloc (.cells #[.int .u8 9, .int .i64 0, .bool false] 36)).alloc (.cells #[.int .u8 0, .int .i64 0, .bool false] 36)) = wS at *
  go_upto_region 23 with fail
  refine rg23 w bP bO b1 _ _ K ?_
  clear K
  rintro a' wc ⟨u19, u154, u155, u156, u157, u158, u159, u160, u161, rfl, K⟩
  obtain ⟨wT, rfl⟩ : ∃ ws : World, ws = wc := ⟨_, rfl⟩
  go_upto_region 24 with fail
  refine rg24 w bP bO b1 _ _ K ?_
  clear K
  rintro a' wc ⟨u21, u162, u163, u164, u165, u166, u167, u168, u169, u170, u171, rfl, K⟩
  obtain ⟨wU, rfl⟩ : ∃ ws : World, ws = wc := ⟨_, rfl⟩
  go_upto_region 25 with fail
  refine rg25 w bP bO b1 _ _ K ?_
  clear K
  rintro a' wc ⟨u23, u172, u173, u174, u175, u176, u177, u178, u179, u180, u181, rfl, K⟩
  obtain ⟨wV, rfl⟩ : ∃ ws : World, ws = wc := ⟨_, rfl⟩
  go_upto_region 26 with fail
  refine rg26 w bP bO b1 _ _ K ?_
  clear K
  rintro a' wc ⟨u25, u182, u183, u184, u185, u186, u187, u188, u189, u190, rfl, K⟩
  obtain ⟨wW, rfl⟩ : ∃ ws : World, ws = wc := ⟨_, rfl⟩
  obtain ⟨y0, y1, y2⟩ := three_old (K.at (List.Mem.head _))
  obtain ⟨z0, z1, z2⟩ := three_old (K.at (List.Mem.tail _ (List.Mem.head _)))
  have HK := Lib.hid K
  clear K
  go_wp2_with fail
  refine (Command_call 1 1 1 3 (some ⟨b1, 0, none⟩) 1 ⟨[adv0], adv0, adv0, -1⟩ odd _ (advs_block (HK.out.at (List.Mem.tail _ (List.Mem.tail _ (List.Mem.head _)))) rfl rfl (by decide)) (by decide) (by decide) (by decide) (by decide) (by decide)).mono ?_
  intro e w10 hpost
  obtain ⟨aX, cX, rfl, hb⟩ := cmdPost_badI hpost x27 (by decide)
  have K := (HK.out.keep hb).alloc (.cells #[.slice aX 0 cX, .int .u8 0, .int .i64 0, .bool false, .int .u8 0, .int .i64 0, .bool false, .int .i64 0] 38)
  clear hb hpost y0 y1 y2 z0 z1 z2 HK
  go_wp2_with fail
  generalize w10.alloc (.cells #[.slice aX 0 cX, .int .u8 0, .int .i64 0, .bool false, .int .u8 0, .int .i64 0, .bool false, .int .i64 0] 38) = wX at *
  go_upto_region 28 with fail
  refine rg28 w bP bO b1 _ _ K ?_
  clear K
  rintro a' wc ⟨u29, u199, u200, u201, u202, u203, u204, u205, u206, rfl, K⟩
  obtain ⟨wY, rfl⟩ : ∃ ws : World, ws = wc := ⟨_, rfl⟩
  go_upto_region 29 with fail
  refine rg29 w bP bO b1 _ _ K ?_
  clear K
  rintro a' wc ⟨u31, u207, u208, u209, u210, u211, u212, u213, u214, rfl, K⟩
  obtain ⟨wZ, rfl⟩ : ∃ ws : World, ws = wc := ⟨_, rfl⟩
  go_upto_region 30 with fail
  refine rg30 w bP bO b1 _ _ K ?_
  clear K
  rintro a' wc ⟨b33, a33, c33, u215, u216, u217, u218, u219, u220, u221, u222, u223, rfl, N33, K0⟩
  have HK := Lib.hid (K0.cons N33)
  clear K0 N33
  obtain ⟨y0, y1, y2⟩ := three_old (HK.out.at (List.Mem.tail _ (List.Mem.head _)))
  go_wp2_with fail
  refine (pFly_call 1 1 1 3 (some ⟨b1, 0, none⟩) 1 ⟨[adv0], adv0, adv0, 0⟩ 0 101 _ (advs_block (HK.out.at (List.Mem.tail _ (List.Mem.tail _ (List.Mem.tail _ (List.Mem.head _))))) rfl rfl (by decide)) (by decide) (by decide) (by decide)).mono ?_
  intro e wF hpost
  obtain ⟨zz, vv, rfl, hb⟩ := pfPost_bad hpost x31
  have K := (HK.out.keep hb).alloc (.cells #[.int .i64 zz, .int .i64 vv] 25)
  clear hb hpost y0 y1 y2 HK
  go_wp2_with fail
  generalize wF.alloc (.cells #[.int .i64 zz, .int .i64 vv] 25) = wG at *
  replace K := K.drew
  have hp257 : Pos (List.replicate 257 adv0) := fun a ha => by rw [List.eq_of_mem_replicate ha]; decide
  have HP257 := Lib.hid hp257
  clear hp257
  go_region_held3 (fun w' => w'.cell? ⟨bP, 0, none⟩ = some (.int .i64 1) ∧ w'.cell? ⟨bP, 1, none⟩ = some (.int .i64 1) ∧ w'.cell? ⟨bP, 2, none⟩ = some (.int .i64 3)) (first | exact three_old (K.at (List.Mem.tail _ (List.Mem.head _))) | exact three_old ((K.alloc _).at (List.Mem.tail _ (List.Mem.head _))))
    ((go_at_call 10; refine (Run_call 1 1 3 0 0 _ 257 257 (List.replicate 257 adv0) _ (advs257 wG) HP257.out).mono ?_; intro e wH hpost; obtain ⟨sH, rfl, hb⟩ := runPost_E hpost x32; replace K := (K.alloc _).keep hb; clear hb hpost))
  obtain ⟨y0, y1, y2⟩ := three_old (K.at (List.Mem.tail _ (List.Mem.head _)))
  obtain ⟨z0, z1, z2⟩ := three_old (K.at (List.Mem.tail _ (List.Mem.tail _ (List.Mem.head _))))
  have HK := Lib.hid K
  clear K
  go_wp2_with fail
  refine (Run_call 1 1 3 0 0 _ 2 2 [adv0, odd] _ (advs_block (block_new _ _ rfl) rfl rfl (by decide)) (by decide)).mono ?_
  intro e wI hpost
  obtain ⟨sI, rfl, hb⟩ := runPost_E hpost x33
  have HK2 := Lib.hid ((HK.out.alloc _).keep hb)
  clear hb hpost y0 y1 y2 z0 z1 z2 HK
  go_wp2_with fail
  have K := HK2.out.drew
  clear HK2
  have gd := adv_guard
  have eq := adv_eql
  have t1 : advB ⟨1, 1, false⟩ ⟨1, 1, false⟩ = true := rfl
  go_region_held3 (fun w' => w'.cell? ⟨b33, 0, none⟩ = some (.slice a33 1 c33) ∧ w'.cell? ⟨b33, 1, none⟩ = some (.int .u8 1) ∧ w'.cell? ⟨b33, 2, none⟩ = some (.int .i64 1) ∧ w'.cell? ⟨b33, 3, none⟩ = some (.bool false) ∧ w'.cell? ⟨b33, 4, none⟩ = some (.int .u8 1) ∧ w'.cell? ⟨b33, 5, none⟩ = some (.int .i64 1) ∧ w'.cell? ⟨b33, 6, none⟩ = some (.bool false) ∧ w'.cell? ⟨b33, 7, none⟩ = some (.int .i64 1073741824)) (exact eight_cells (K.at (List.Mem.head _)))
    ((go_at_call 26; refine (lup_call _ _).mono ?_; rintro e wJ ⟨rfl, hb⟩; replace K := K.keep hb; clear hb))
  go_wp2_with fail
  go_ret
  exact ⟨rfl, K.2⟩
end Go.Proofs.Ytjidpkcoaoflbaa
