/-
  Layer 38 (rules): the law Examples, walked. Printed by genRulesEx3.py.
-/
import Derived.Test.YtfgalaalopkclaaRulesExc
import Derived.Test.YtfgalaalopkclaaRulesExd
import Derived.Deep.DeepCutAuto
namespace Go.Proofs.Ytfgalaalopkclaa
open Go.RowKit PlaneMath PilotMath RulesMath MyHeap MyOwn MyCopy

theorem nxLit2 {s : RulesMath.Set} {z v z' v' t fl k : Int} {st : NSt} {w w' : World} {e : Ending} {E : Int} (h : NxPost s z v z' v' t fl k st w e w') (hE : nxE s z v z' v' t fl k st = E) : ∃ R : NSt, e = .returned (.tuple #[.agg #[.int .u8 R.a.s, .int .i64 R.a.r, .bool R.a.k, .int .i64 R.age, .bool R.rv], .int .i64 E]) ∧ Below w.heap.size w w' := ⟨_, nxLit h hE rfl⟩
set_option maxRecDepth 100000 in
set_option maxHeartbeats 32000000 in
theorem examples_call (w : World) : Calls Try.prog 9 #[] w (BPost true w) := by
  have F := Lib.hid exF
  go_enter Try.func9, Try.ntmps9
  go_wp2_with fail
  refine (awake_call _).mono ?_; rintro e w1 ⟨rfl, hb⟩
  have K0 := Lib.hid hb
  clear hb
  go_wp2_with fail
  refine (exLit _).mono ?_; rintro e w2 ⟨bE, rfl, hI, hb⟩
  have K1 := Lib.hid (show Ek w w2.heap.size bE (w2.alloc (.cells #[.slice (some ⟨bE, 0, none⟩) 2 2, .int .i64 400, .int .i64 5, .int .i64 8] 24)) from ⟨(K0.out.trans (hb.mono K0.out.size)).alloc (Nat.le_trans K0.out.size hb.size) _, block_new _ _ rfl, hI.below (below_alloc _ _)⟩)
  clear hb hI K0
  go_upto_region 4 with fail
  generalize w2.alloc (.cells #[.slice (some ⟨bE, 0, none⟩) 2 2, .int .i64 400, .int .i64 5, .int .i64 8] 24) = w3 at *
  generalize w2.heap.size = pE at *
  go_cut [70, 71, 72] (fun s64 s65 s66 wx => ∃ b, s64 = .slice (some ⟨b, 0, none⟩) 10 10 ∧ s65 = .int .i64 10 ∧ s66 = .int .i64 0 ∧ Eb w pE bE b wx)
  case first =>
    go_wp2_with fail
    go_meet
    refine ⟨_, rfl, rfl, rfl, eb_made (T := 24) (K1.out.keep (allocs10 _ _ _ _ _ _ _ _ _ _ _)) (b1 := w3.heap.size) (b2 := w3.heap.size + 1) (b3 := w3.heap.size + 1 + 1) (b4 := w3.heap.size + 1 + 1 + 1) (b5 := w3.heap.size + 1 + 1 + 1 + 1) (b6 := w3.heap.size + 1 + 1 + 1 + 1 + 1) (b7 := w3.heap.size + 1 + 1 + 1 + 1 + 1 + 1) (b8 := w3.heap.size + 1 + 1 + 1 + 1 + 1 + 1 + 1) (b9 := w3.heap.size + 1 + 1 + 1 + 1 + 1 + 1 + 1 + 1) ?_ ?_ ?_ ?_ ?_ ?_ ?_ ?_ ?_ ?_⟩
    · exact block_alloc (block_alloc (block_alloc (block_alloc (block_alloc (block_alloc (block_alloc (block_alloc (block_alloc (block_new _ _ rfl)))))))))
    · exact block_alloc (block_alloc (block_alloc (block_alloc (block_alloc (block_alloc (block_alloc (block_alloc (block_new _ _ (by simp)))))))))
    · exact block_alloc (block_alloc (block_alloc (block_alloc (block_alloc (block_alloc (block_alloc (block_new _ _ (by simp))))))))
    · exact block_alloc (block_alloc (block_alloc (block_alloc (block_alloc (block_alloc (block_new _ _ (by simp)))))))
    · exact block_alloc (block_alloc (block_alloc (block_alloc (block_alloc (block_new _ _ (by simp))))))
    · exact block_alloc (block_alloc (block_alloc (block_alloc (block_new _ _ (by simp)))))
    · exact block_alloc (block_alloc (block_alloc (block_new _ _ (by simp))))
    · exact block_alloc (block_alloc (block_new _ _ (by simp)))
    · exact block_alloc (block_new _ _ (by simp))
    · exact block_new _ _ (by simp)
  case rest =>
    obtain ⟨bT, rfl, rfl, rfl, hT⟩ := hcut
    clear K1
    go_wp2_with fail
    refine lp1 w pE bE bT _ _ hT ?_
    clear hT
    rintro a' wr ⟨u0, u3, u4, u5, u6, u7, u73, u74, u75, u76, u77, u78, u79, u80, u81, u82, u83, u84, u85, u86, u87, u88, u89, u90, u91, u92, u93, u94, u95, u96, u97, u98, u99, u100, u101, u102, rfl, hT⟩
    have K := Lib.hid hT
    clear hT
    have KY := Lib.hid (show Yk w pE bE wr.heap.size (wr.heap.size + 1) (wr.heap.size + 1 + 1) (((wr.alloc (.cells #[.int .i64 5000, .int .i64 0] 26)).alloc (.cells #[.int .i64 5100, .int .i64 0] 26)).alloc (.cells #[.int .i64 0, .int .i64 101] 26)) from by
      have h1 := below_alloc wr (.cells #[.int .i64 5000, .int .i64 0] 26)
      have h2 := h1.alloc h1.size (.cells #[.int .i64 5100, .int .i64 0] 26)
      have h3 := h2.alloc h2.size (.cells #[.int .i64 0, .int .i64 101] 26)
      exact ⟨K.out.K.keep h3, block_alloc (block_alloc (block_new _ _ rfl)), block_alloc (block_new _ _ (by simp)), block_new _ _ (by simp)⟩)
    clear K
    go_upto_region 14 with fail
    generalize ((wr.alloc (.cells #[.int .i64 5000, .int .i64 0] 26)).alloc (.cells #[.int .i64 5100, .int .i64 0] 26)).alloc (.cells #[.int .i64 0, .int .i64 101] 26) = wq at *
    generalize wr.heap.size + 1 + 1 = p10 at *
    generalize wr.heap.size + 1 = p9 at *
    generalize wr.heap.size = p8 at *
    have K := Lib.hid KY.out
    clear KY
    obtain ⟨⟨e0, e1, e2, e3⟩, ⟨a0, a1⟩, ⟨b0, b1⟩, ⟨c0, c1⟩, l1, l2, l3, l4⟩ := K.out.facts
    go_wp2_with fail
    refine (pChoose_call (some ⟨bE, 0, none⟩) 2 2 exS 0 101 5000 0 1 0 3 _ K.out.K.I).mono ?_
    intro e wA14 hpost
    obtain ⟨R, rfl, hb⟩ := chLit hpost F.out.1
    clear e0 e1 e2 e3 a0 a1 b0 b1 c0 c1 l1 l2 l3 l4
    replace K := Lib.hid ((K.out.keep hb).keep (below_alloc wA14 (.cells #[.int .u8 R.s, .int .i64 R.r, .bool R.k] 30)))
    clear hb hpost
    go_upto_region 15 with fail
    generalize wA14.alloc (.cells #[.int .u8 R.s, .int .i64 R.r, .bool R.k] 30) = wB14 at *
    obtain ⟨⟨e0, e1, e2, e3⟩, ⟨a0, a1⟩, ⟨b0, b1⟩, ⟨c0, c1⟩, l1, l2, l3, l4⟩ := K.out.facts
    go_wp2_with fail
    refine (pChoose_call (some ⟨bE, 0, none⟩) 2 2 exS 5000 0 0 101 1 0 3 _ K.out.K.I).mono ?_
    intro e wA15 hpost
    obtain ⟨R, rfl, hb⟩ := chLit hpost F.out.2.1
    clear e0 e1 e2 e3 a0 a1 b0 b1 c0 c1 l1 l2 l3 l4
    replace K := Lib.hid ((K.out.keep hb).keep (below_alloc wA15 (.cells #[.int .u8 R.s, .int .i64 R.r, .bool R.k] 30)))
    clear hb hpost
    go_upto_region 16 with fail
    generalize wA15.alloc (.cells #[.int .u8 R.s, .int .i64 R.r, .bool R.k] 30) = wB15 at *
    obtain ⟨⟨e0, e1, e2, e3⟩, ⟨a0, a1⟩, ⟨b0, b1⟩, ⟨c0, c1⟩, l1, l2, l3, l4⟩ := K.out.facts
    go_wp2_with fail
    refine (pChoose_call (some ⟨bE, 0, none⟩) 2 2 exS 5000 0 5100 0 121 0 3 _ K.out.K.I).mono ?_
    intro e wA16 hpost
    obtain ⟨R, rfl, hb⟩ := chLit hpost F.out.2.2.1
    clear e0 e1 e2 e3 a0 a1 b0 b1 c0 c1 l1 l2 l3 l4
    replace K := Lib.hid ((K.out.keep hb).keep (below_alloc wA16 (.cells #[.int .u8 R.s, .int .i64 R.r, .bool R.k] 30)))
    clear hb hpost
    go_upto_region 17 with fail
    generalize wA16.alloc (.cells #[.int .u8 R.s, .int .i64 R.r, .bool R.k] 30) = wB16 at *
    obtain ⟨⟨e0, e1, e2, e3⟩, ⟨a0, a1⟩, ⟨b0, b1⟩, ⟨c0, c1⟩, l1, l2, l3, l4⟩ := K.out.facts
    go_wp2_with fail
    refine (pChoose_call (some ⟨bE, 0, none⟩) 2 2 exS 5000 0 5100 0 1 0 3 _ K.out.K.I).mono ?_
    intro e wA17 hpost
    obtain ⟨R, rfl, hb⟩ := chLit hpost F.out.2.2.2.1
    clear e0 e1 e2 e3 a0 a1 b0 b1 c0 c1 l1 l2 l3 l4
    replace K := Lib.hid ((K.out.keep hb).keep (below_alloc wA17 (.cells #[.int .u8 R.s, .int .i64 R.r, .bool R.k] 30)))
    clear hb hpost
    go_upto_region 18 with fail
    generalize wA17.alloc (.cells #[.int .u8 R.s, .int .i64 R.r, .bool R.k] 30) = wB17 at *
    obtain ⟨⟨e0, e1, e2, e3⟩, ⟨a0, a1⟩, ⟨b0, b1⟩, ⟨c0, c1⟩, l1, l2, l3, l4⟩ := K.out.facts
    go_wp2_with fail
    refine (pChoose_call (some ⟨bE, 0, none⟩) 2 2 exS 5000 0 5100 0 1 5001 1 _ K.out.K.I).mono ?_
    intro e wA18 hpost
    obtain ⟨R, rfl, hb⟩ := chLit hpost F.out.2.2.2.2.1
    clear e0 e1 e2 e3 a0 a1 b0 b1 c0 c1 l1 l2 l3 l4
    replace K := Lib.hid ((K.out.keep hb).keep (below_alloc wA18 (.cells #[.int .u8 R.s, .int .i64 R.r, .bool R.k] 30)))
    clear hb hpost
    go_upto_region 19 with fail
    generalize wA18.alloc (.cells #[.int .u8 R.s, .int .i64 R.r, .bool R.k] 30) = wB18 at *
    obtain ⟨⟨e0, e1, e2, e3⟩, ⟨a0, a1⟩, ⟨b0, b1⟩, ⟨c0, c1⟩, l1, l2, l3, l4⟩ := K.out.facts
    go_wp2_with fail
    refine (pSeparation_call (some ⟨bE, 0, none⟩) 2 2 exS 5000 0 5100 0 121 ⟨4, 0, false⟩ _ K.out.K.I (by decide)).mono ?_
    intro e wA19 hpost
    obtain ⟨R, rfl, hb⟩ := srLit hpost F.out.2.2.2.2.2.1
    clear e0 e1 e2 e3 a0 a1 b0 b1 c0 c1 l1 l2 l3 l4
    replace K := Lib.hid (K.out.keep hb)
    clear hb hpost
    go_upto_region 20 with fail
    obtain ⟨⟨e0, e1, e2, e3⟩, ⟨a0, a1⟩, ⟨b0, b1⟩, ⟨c0, c1⟩, l1, l2, l3, l4⟩ := K.out.facts
    go_wp2_with fail
    refine (pSeparation_call (some ⟨bE, 0, none⟩) 2 2 exS 5000 0 5100 0 121 adv0 _ K.out.K.I (by decide)).mono ?_
    intro e wA20 hpost
    obtain ⟨R, rfl, hb⟩ := srLit hpost F.out.2.2.2.2.2.2.1
    clear e0 e1 e2 e3 a0 a1 b0 b1 c0 c1 l1 l2 l3 l4
    replace K := Lib.hid (K.out.keep hb)
    clear hb hpost
    go_upto_region 21 with fail
    obtain ⟨⟨e0, e1, e2, e3⟩, ⟨a0, a1⟩, ⟨b0, b1⟩, ⟨c0, c1⟩, l1, l2, l3, l4⟩ := K.out.facts
    go_wp2_with fail
    refine (pSeparation_call (some ⟨bE, 0, none⟩) 2 2 exS 5000 0 5100 0 121 ⟨1, 0, false⟩ _ K.out.K.I (by decide)).mono ?_
    intro e wA21 hpost
    obtain ⟨R, rfl, hb⟩ := srLit hpost F.out.2.2.2.2.2.2.2.1
    clear e0 e1 e2 e3 a0 a1 b0 b1 c0 c1 l1 l2 l3 l4
    replace K := Lib.hid (K.out.keep hb)
    clear hb hpost
    go_upto_region 22 with fail
    obtain ⟨⟨e0, e1, e2, e3⟩, ⟨a0, a1⟩, ⟨b0, b1⟩, ⟨c0, c1⟩, l1, l2, l3, l4⟩ := K.out.facts
    go_wp2_with fail
    refine (pNext_call (some ⟨bE, 0, none⟩) 2 2 exS 5000 0 5100 0 25 0 3 ⟨⟨0, 3, false⟩, -1, false⟩ _ K.out.K.I (by decide)).mono ?_
    intro e wA22 hpost
    obtain ⟨R, rfl, hb⟩ := nxLit2 hpost F.out.2.2.2.2.2.2.2.2.1
    clear e0 e1 e2 e3 a0 a1 b0 b1 c0 c1 l1 l2 l3 l4
    replace K := Lib.hid ((K.out.keep hb).keep (below_alloc wA22 (.cells #[.int .u8 R.a.s, .int .i64 R.a.r, .bool R.a.k, .int .i64 R.age, .bool R.rv] 57)))
    clear hb hpost
    go_upto_region 23 with fail
    generalize wA22.alloc (.cells #[.int .u8 R.a.s, .int .i64 R.a.r, .bool R.a.k, .int .i64 R.age, .bool R.rv] 57) = wB22 at *
    obtain ⟨⟨e0, e1, e2, e3⟩, ⟨a0, a1⟩, ⟨b0, b1⟩, ⟨c0, c1⟩, l1, l2, l3, l4⟩ := K.out.facts
    go_wp2_with fail
    refine (pNext_call (some ⟨bE, 0, none⟩) 2 2 exS 5000 0 5100 0 25 9000 1 ⟨⟨0, 3, false⟩, -1, false⟩ _ K.out.K.I (by decide)).mono ?_
    intro e wA23 hpost
    obtain ⟨R, rfl, hb⟩ := nxLit2 hpost F.out.2.2.2.2.2.2.2.2.2.1
    clear e0 e1 e2 e3 a0 a1 b0 b1 c0 c1 l1 l2 l3 l4
    replace K := Lib.hid ((K.out.keep hb).keep (below_alloc wA23 (.cells #[.int .u8 R.a.s, .int .i64 R.a.r, .bool R.a.k, .int .i64 R.age, .bool R.rv] 57)))
    clear hb hpost
    go_upto_region 24 with fail
    generalize wA23.alloc (.cells #[.int .u8 R.a.s, .int .i64 R.a.r, .bool R.a.k, .int .i64 R.age, .bool R.rv] 57) = wB23 at *
    obtain ⟨⟨e0, e1, e2, e3⟩, ⟨a0, a1⟩, ⟨b0, b1⟩, ⟨c0, c1⟩, l1, l2, l3, l4⟩ := K.out.facts
    go_wp2_with fail
    refine (pNext_call (some ⟨bE, 0, none⟩) 2 2 exS 5000 0 5100 0 25 9000 1 ⟨adv0, 1001, false⟩ _ K.out.K.I (by decide)).mono ?_
    intro e wA24 hpost
    obtain ⟨R, rfl, hb⟩ := nxLit2 hpost F.out.2.2.2.2.2.2.2.2.2.2.1
    clear e0 e1 e2 e3 a0 a1 b0 b1 c0 c1 l1 l2 l3 l4
    replace K := Lib.hid ((K.out.keep hb).keep (below_alloc wA24 (.cells #[.int .u8 R.a.s, .int .i64 R.a.r, .bool R.a.k, .int .i64 R.age, .bool R.rv] 57)))
    clear hb hpost
    go_upto_region 25 with fail
    generalize wA24.alloc (.cells #[.int .u8 R.a.s, .int .i64 R.a.r, .bool R.a.k, .int .i64 R.age, .bool R.rv] 57) = wB24 at *
    obtain ⟨⟨e0, e1, e2, e3⟩, ⟨a0, a1⟩, ⟨b0, b1⟩, ⟨c0, c1⟩, l1, l2, l3, l4⟩ := K.out.facts
    go_wp2_with fail
    refine (pNext_call (some ⟨bE, 0, none⟩) 2 2 exS 5000 0 5100 0 25 9000 1 ⟨adv0, 0, false⟩ _ K.out.K.I (by decide)).mono ?_
    intro e wA25 hpost
    obtain ⟨R, rfl, hb⟩ := nxLit2 hpost F.out.2.2.2.2.2.2.2.2.2.2.2
    clear e0 e1 e2 e3 a0 a1 b0 b1 c0 c1 l1 l2 l3 l4
    replace K := Lib.hid ((K.out.keep hb).keep (below_alloc wA25 (.cells #[.int .u8 R.a.s, .int .i64 R.a.r, .bool R.a.k, .int .i64 R.age, .bool R.rv] 57)))
    clear hb hpost
    go_upto_region 26 with fail
    generalize wA25.alloc (.cells #[.int .u8 R.a.s, .int .i64 R.a.r, .bool R.a.k, .int .i64 R.age, .bool R.rv] 57) = wB25 at *
    go_upto_region 30 with fail
    refine rg30 w pE bE p8 p9 p10 _ _ K.out ?_
    clear K
    rintro a' wc ⟨bU, u245, u246, u247, u248, u249, u250, u251, u252, u253, u254, u255, u256, u257, u258, u259, u260, u261, u262, u263, u264, u265, u266, u267, u268, u269, u270, u271, u272, u273, u274, u275, u276, u277, u278, u279, u280, u281, u282, u283, u284, u285, u286, u287, u288, u289, u290, u291, u292, u293, u294, u295, u296, u297, u298, u299, u300, u301, u302, u303, u304, u305, u306, u307, u308, u309, u310, u311, u312, u313, u314, u315, u316, u317, u318, u319, u320, u321, u322, u323, rfl, hT⟩
    go_wp2_with fail
    refine lp2 w pE bE bU _ _ hT ?_
    clear hT
    rintro a' wr ⟨u0, u38, u39, u40, u41, u327, u328, u329, u330, u331, u332, u333, u334, u335, u336, u337, u338, u339, u340, u341, u342, u343, u344, u345, u346, u347, u348, u349, u350, u351, u352, u353, u354, u355, u356, u357, u358, u359, u360, rfl, hT⟩
    have K := Lib.hid hT
    clear hT
    go_wp2_with fail
    go_ret
    exact bPost_of rfl K.out.K.B
end Go.Proofs.Ytfgalaalopkclaa
