/-
  TrkX
-/
import Derived.Test.YtikjjpjekchcjaaPbHTExamples2
import Derived.Test.YtikjjpjekchcjaaPbHTExamples4
import Derived.Test.YtikjjpjekchcjaaPbHTExamples6
import Derived.Test.YtikjjpjekchcjaaPbHTExamples7
namespace Go.Proofs.Ytikjjpjekchcjaa
open Go.RowKit TrkMath MyHeap MyOwn MyCopy
theorem TbJ.below {B n : Nat} {W W' : World} {a : Option Addr} {M : List TB} (h : TbJ B W a n M) (hb : Below W.heap.size W W') : TbJ B W' a n M := ⟨h.I.below hb, h.t, fun k hk => (h.b k hk).below hb⟩
theorem plm_ne {g k b : Nat} {W : World} {cs : Array Value} {fr : Nat × Nat} (h : PlM g k W) (h2 : W.heap[b]? = some (.cells cs 26 fr)) : g ≠ b := by
 rintro rfl
 obtain ⟨cs', h1, -⟩ := h
 rw [h1] at h2
 injection h2 with h3
 injection h3 with _ h4
 exact absurd h4 (by decide)
set_option maxRecDepth 100000 in
set_option maxHeartbeats 64000000 in
theorem Examples_call (w : World) : Calls Try.prog 5 #[] w (BoolB true w) := by
 go_enter Try.func5, Try.ntmps5
 go_wp2_with fail
 refine (awake_call _).mono ?_; rintro e w1 ⟨rfl, hb⟩
 have K := Lib.hid ((HK.nil w).below hb)
 clear hb
 replace K := Lib.hid (K.out.alloc #[.int .i64 8, .int .i64 2, .int .i64 3, .int .i64 4] 23)
 replace K := Lib.hid (K.out.alloc #[.int .i64 0, .int .i64 0, .int .i64 0, .int .i64 0, .int .i64 0, .int .i64 2, .int .i64 3, .int .i64 0, .int .i64 257, .int .i64 2, .int .i64 3, .int .i64 0, .int .i64 8, .int .i64 0, .int .i64 3, .int .i64 0, .int .i64 8, .int .i64 9, .int .i64 3, .int .i64 0, .int .i64 8, .int .i64 2, .int .i64 0, .int .i64 0, .int .i64 8, .int .i64 2, .int .i64 16, .int .i64 0, .int .i64 8, .int .i64 2, .int .i64 3, .int .i64 (-1), .int .i64 8, .int .i64 2, .int .i64 3, .int .i64 33] 23)
 go_wp2_with fail
 obtain ⟨G, hG⟩ : ∃ b, b = w1.heap.size := ⟨_, rfl⟩
 obtain ⟨bT, hbT⟩ : ∃ b, b = w1.heap.size + 1 := ⟨_, rfl⟩
 replace K := Lib.hid (show HK w ((w1.alloc (.cells #[.int .i64 8, .int .i64 2, .int .i64 3, .int .i64 4] 23)).alloc (.cells #[.int .i64 0, .int .i64 0, .int .i64 0, .int .i64 0, .int .i64 0, .int .i64 2, .int .i64 3, .int .i64 0, .int .i64 257, .int .i64 2, .int .i64 3, .int .i64 0, .int .i64 8, .int .i64 0, .int .i64 3, .int .i64 0, .int .i64 8, .int .i64 9, .int .i64 3, .int .i64 0, .int .i64 8, .int .i64 2, .int .i64 0, .int .i64 0, .int .i64 8, .int .i64 2, .int .i64 16, .int .i64 0, .int .i64 8, .int .i64 2, .int .i64 3, .int .i64 (-1), .int .i64 8, .int .i64 2, .int .i64 3, .int .i64 33] 23)) [(bT, .cells #[.int .i64 0, .int .i64 0, .int .i64 0, .int .i64 0, .int .i64 0, .int .i64 2, .int .i64 3, .int .i64 0, .int .i64 257, .int .i64 2, .int .i64 3, .int .i64 0, .int .i64 8, .int .i64 0, .int .i64 3, .int .i64 0, .int .i64 8, .int .i64 9, .int .i64 3, .int .i64 0, .int .i64 8, .int .i64 2, .int .i64 0, .int .i64 0, .int .i64 8, .int .i64 2, .int .i64 16, .int .i64 0, .int .i64 8, .int .i64 2, .int .i64 3, .int .i64 (-1), .int .i64 8, .int .i64 2, .int .i64 3, .int .i64 33] 23 (0, 0)), (G, .cells #[.int .i64 8, .int .i64 2, .int .i64 3, .int .i64 4] 23 (0, 0))] from by
  have h := K.out
  try simp only [World.size_alloc] at h
  rw [hG, hbT]
  exact h)
 rw [← hbT, ← hG]
 generalize ((w1.alloc (.cells #[.int .i64 8, .int .i64 2, .int .i64 3, .int .i64 4] 23)).alloc (.cells #[.int .i64 0, .int .i64 0, .int .i64 0, .int .i64 0, .int .i64 0, .int .i64 2, .int .i64 3, .int .i64 0, .int .i64 257, .int .i64 2, .int .i64 3, .int .i64 0, .int .i64 8, .int .i64 0, .int .i64 3, .int .i64 0, .int .i64 8, .int .i64 9, .int .i64 3, .int .i64 0, .int .i64 8, .int .i64 2, .int .i64 0, .int .i64 0, .int .i64 8, .int .i64 2, .int .i64 16, .int .i64 0, .int .i64 8, .int .i64 2, .int .i64 3, .int .i64 (-1), .int .i64 8, .int .i64 2, .int .i64 3, .int .i64 33] 23)) = wa at *
 clear hG hbT
 refine lp1 w _ bT wa _ K.out (by intro _ _ d _ _ h; cases d <;> exact h) ?_
 rintro a' wb ⟨u0, u3, u4, u5, u6, u7, u8, u78, u79, u80, u81, u82, u83, u84, u85, u86, u87, u88, u89, u90, u91, u92, u93, u94, u95, u96, u97, u98, u99, u100, rfl, hK⟩
 try dsimp only
 have K := Lib.hid (show HK w wb [(bT, .cells #[.int .i64 0, .int .i64 0, .int .i64 0, .int .i64 0, .int .i64 0, .int .i64 2, .int .i64 3, .int .i64 0, .int .i64 257, .int .i64 2, .int .i64 3, .int .i64 0, .int .i64 8, .int .i64 0, .int .i64 3, .int .i64 0, .int .i64 8, .int .i64 9, .int .i64 3, .int .i64 0, .int .i64 8, .int .i64 2, .int .i64 0, .int .i64 0, .int .i64 8, .int .i64 2, .int .i64 16, .int .i64 0, .int .i64 8, .int .i64 2, .int .i64 3, .int .i64 (-1), .int .i64 8, .int .i64 2, .int .i64 3, .int .i64 33] 23 (0, 0)), (G, .cells #[.int .i64 8, .int .i64 2, .int .i64 3, .int .i64 4] 23 (0, 0))] from hK)
 clear hK
 replace K := Lib.hid (show HK w wb [(G, .cells #[.int .i64 8, .int .i64 2, .int .i64 3, .int .i64 4] 23 (0, 0))] from K.out.less (List.forall_mem_cons.2 ⟨(List.mem_cons_of_mem _ (List.mem_cons_self)), (fun x hx => by cases hx)⟩))
 go_wp2_with fail
 refine (new_X _).mono ?_; rintro e w2 ⟨a1, c1, a2, c2, rfl, hT2, hb⟩
 have b1 := Lib.hid (show BdX w.heap.size [] w2 (oneT, ⟨a1, 201, c1, a2, 201, c2⟩) from me_own (w := w) (t := oneT) hT2 K.out.B.size xL_len.1 xL_len.2 w.heap.size [] (Nat.le_refl _) (fun g hg => by cases hg))
 clear hT2
 replace K := Lib.hid (K.out.below hb)
 clear hb
 replace K := Lib.hid (K.out.alloc #[.slice a1 201 c1, .slice a2 201 c2] 44)
 replace b1 := Lib.hid (b1.out.below (below_alloc _ (.cells #[.slice a1 201 c1, .slice a2 201 c2] 44)))
 go_wp2_with fail
 obtain ⟨B9, hB9⟩ : ∃ b, b = w2.heap.size := ⟨_, rfl⟩
 replace K := Lib.hid (show HK w (w2.alloc (.cells #[.slice a1 201 c1, .slice a2 201 c2] 44)) [(B9, .cells #[.slice a1 201 c1, .slice a2 201 c2] 44 (0, 0)), (G, .cells #[.int .i64 8, .int .i64 2, .int .i64 3, .int .i64 4] 23 (0, 0))] from by
  have h := K.out
  try simp only [World.size_alloc] at h
  rw [hB9]
  exact h)
 rw [← hB9]
 generalize (w2.alloc (.cells #[.slice a1 201 c1, .slice a2 201 c2] 44)) = wd at *
 clear hB9
 refine (mea_X a1 a2 c1 c2 _ b1.out.L b1.out.H).mono ?_; rintro e w3 ⟨a3, c3, a4, c4, rfl, hT2, hb⟩
 have b2 := Lib.hid (show BdX w.heap.size [] w3 ({ oneT with lo := gL, hi := gH }, ⟨a3, 201, c3, a4, 201, c4⟩) from me_own (w := w) (t := oneT) hT2 K.out.B.size gL_len.1 gL_len.2 w.heap.size [] (Nat.le_refl _) (fun g hg => by cases hg))
 clear hT2
 replace K := Lib.hid (K.out.below hb)
 replace b1 := Lib.hid (b1.out.below hb)
 clear hb
 have y9 := (K.out.H _ (List.mem_cons_self))
 have y0 : (w3.alloc (.cells #[.slice a3 201 c3, .slice a4 201 c4] 44)).cell? ⟨B9, 0, none⟩ = some (.slice a1 201 c1) := cell_of_block (block_alloc y9) rfl
 have y1 : (w3.alloc (.cells #[.slice a3 201 c3, .slice a4 201 c4] 44)).cell? ⟨B9, 1, none⟩ = some (.slice a2 201 c2) := cell_of_block (block_alloc y9) rfl
 have yl := lt_of_block y9
 clear y9
 replace K := Lib.hid (K.out.alloc #[.slice a3 201 c3, .slice a4 201 c4] 44)
 replace b1 := Lib.hid (b1.out.below (below_alloc _ (.cells #[.slice a3 201 c3, .slice a4 201 c4] 44)))
 replace b2 := Lib.hid (b2.out.below (below_alloc _ (.cells #[.slice a3 201 c3, .slice a4 201 c4] 44)))
 replace K := Lib.hid (K.out.alloc #[.int .i64 3, .int .i64 (-1), .int .i64 256, .int .i64 0, .int .i64 1, .slice a1 201 c1, .slice a2 201 c2, .int .i64 1, .int .i64 0, .bool false] 46)
 replace b1 := Lib.hid (b1.out.below (below_alloc _ (.cells #[.int .i64 3, .int .i64 (-1), .int .i64 256, .int .i64 0, .int .i64 1, .slice a1 201 c1, .slice a2 201 c2, .int .i64 1, .int .i64 0, .bool false] 46)))
 replace b2 := Lib.hid (b2.out.below (below_alloc _ (.cells #[.int .i64 3, .int .i64 (-1), .int .i64 256, .int .i64 0, .int .i64 1, .slice a1 201 c1, .slice a2 201 c2, .int .i64 1, .int .i64 0, .bool false] 46)))
 go_wp2_with fail
 obtain ⟨B11, hB11⟩ : ∃ b, b = w3.heap.size := ⟨_, rfl⟩
 obtain ⟨B13, hB13⟩ : ∃ b, b = w3.heap.size + 1 := ⟨_, rfl⟩
 replace K := Lib.hid (show HK w ((w3.alloc (.cells #[.slice a3 201 c3, .slice a4 201 c4] 44)).alloc (.cells #[.int .i64 3, .int .i64 (-1), .int .i64 256, .int .i64 0, .int .i64 1, .slice a1 201 c1, .slice a2 201 c2, .int .i64 1, .int .i64 0, .bool false] 46)) [(B13, .cells #[.int .i64 3, .int .i64 (-1), .int .i64 256, .int .i64 0, .int .i64 1, .slice a1 201 c1, .slice a2 201 c2, .int .i64 1, .int .i64 0, .bool false] 46 (0, 0)), (B11, .cells #[.slice a3 201 c3, .slice a4 201 c4] 44 (0, 0)), (B9, .cells #[.slice a1 201 c1, .slice a2 201 c2] 44 (0, 0)), (G, .cells #[.int .i64 8, .int .i64 2, .int .i64 3, .int .i64 4] 23 (0, 0))] from by
  have h := K.out
  try simp only [World.size_alloc] at h
  rw [hB11, hB13]
  exact h)
 rw [← hB13, ← hB11]
 generalize ((w3.alloc (.cells #[.slice a3 201 c3, .slice a4 201 c4] 44)).alloc (.cells #[.int .i64 3, .int .i64 (-1), .int .i64 256, .int .i64 0, .int .i64 1, .slice a1 201 c1, .slice a2 201 c2, .int .i64 1, .int .i64 0, .bool false] 46)) = we at *
 clear hB11 hB13
 clear y0 y1 yl
 replace K := Lib.hid (show HK w we [(B13, .cells #[.int .i64 3, .int .i64 (-1), .int .i64 256, .int .i64 0, .int .i64 1, .slice a1 201 c1, .slice a2 201 c2, .int .i64 1, .int .i64 0, .bool false] 46 (0, 0)), (B11, .cells #[.slice a3 201 c3, .slice a4 201 c4] 44 (0, 0)), (G, .cells #[.int .i64 8, .int .i64 2, .int .i64 3, .int .i64 4] 23 (0, 0))] from K.out.less (List.forall_mem_cons.2 ⟨(List.mem_cons_self), (List.forall_mem_cons.2 ⟨(List.mem_cons_of_mem _ (List.mem_cons_self)), (List.forall_mem_cons.2 ⟨(List.mem_cons_of_mem _ (List.mem_cons_of_mem _ (List.mem_cons_of_mem _ (List.mem_cons_self)))), (fun x hx => by cases hx)⟩)⟩)⟩))
 refine lp2 w _ (oneT, ⟨a1, 201, c1, a2, 201, c2⟩) ({ oneT with lo := gL, hi := gH }, ⟨a3, 201, c3, a4, 201, c4⟩) G B11 B13 a1 a2 a3 a4 c1 c2 c3 c4 we _ ⟨List.mem_cons_self, List.mem_cons_of_mem _ List.mem_cons_self, List.mem_cons_of_mem _ (List.mem_cons_of_mem _ List.mem_cons_self)⟩ ⟨rfl, rfl⟩ ⟨rfl, rfl⟩ ⟨K.out, b1.out, b2.out⟩ (by intro _ _ d _ _ h; cases d <;> exact h) ?_
 intro u0 u15 u16 u17 u18 u19 u20 u21 u22 u119 u120 u121 u122 u123 u124 u125 u126 u127 u128 u129 u130 u131 u132 u133 u134 u135 u136 u137 u138 u139 u140 u141 u142 u143 u144 u145 u146 u147 u148 u149 u150 u151 u152 u153 u154 u155 u156 u157 u158 u159 u160 u161 u162 u163 u164 u165 u166 u167 u168 u169 u170 u171 u172 u173 u174 u175 u176 u177 u178 u179 u180 u181 u182 u183 u184 u185 u186 u187 u188 u189 u190 u191 u192 u193 u194 u195 u196 wf hR
 obtain ⟨hK, hb1, hb2⟩ := hR
 try dsimp only
 have K := Lib.hid (show HK w wf [(B13, .cells #[.int .i64 3, .int .i64 (-1), .int .i64 256, .int .i64 0, .int .i64 1, .slice a1 201 c1, .slice a2 201 c2, .int .i64 1, .int .i64 0, .bool false] 46 (0, 0)), (B11, .cells #[.slice a3 201 c3, .slice a4 201 c4] 44 (0, 0)), (G, .cells #[.int .i64 8, .int .i64 2, .int .i64 3, .int .i64 4] 23 (0, 0))] from hK)
 have b1 := Lib.hid hb1
 clear hK hb1 hb2
 have gb := (K.out.H _ (List.mem_cons_of_mem _ (List.mem_cons_of_mem _ (List.mem_cons_self))))
 have g0 : wf.cell? ⟨G, 0, none⟩ = some (.int .i64 8) := cell_of_block gb rfl
 have g1 : wf.cell? ⟨G, 1, none⟩ = some (.int .i64 2) := cell_of_block gb rfl
 have g2 : wf.cell? ⟨G, 2, none⟩ = some (.int .i64 3) := cell_of_block gb rfl
 have g3 : wf.cell? ⟨G, 3, none⟩ = some (.int .i64 4) := cell_of_block gb rfl
 have gl := lt_of_block gb
 clear gb
 have yb := (K.out.H _ (List.mem_cons_self))
 have y0 : wf.cell? ⟨B13, 0, none⟩ = some (.int .i64 3) := cell_of_block yb rfl
 have y1 : wf.cell? ⟨B13, 1, none⟩ = some (.int .i64 (-1)) := cell_of_block yb rfl
 have y2 : wf.cell? ⟨B13, 2, none⟩ = some (.int .i64 256) := cell_of_block yb rfl
 have y3 : wf.cell? ⟨B13, 3, none⟩ = some (.int .i64 0) := cell_of_block yb rfl
 have y4 : wf.cell? ⟨B13, 4, none⟩ = some (.int .i64 1) := cell_of_block yb rfl
 have y5 : wf.cell? ⟨B13, 5, none⟩ = some (.slice a1 201 c1) := cell_of_block yb rfl
 have y6 : wf.cell? ⟨B13, 6, none⟩ = some (.slice a2 201 c2) := cell_of_block yb rfl
 have y7 : wf.cell? ⟨B13, 7, none⟩ = some (.int .i64 1) := cell_of_block yb rfl
 have y8 : wf.cell? ⟨B13, 8, none⟩ = some (.int .i64 0) := cell_of_block yb rfl
 have y9 : wf.cell? ⟨B13, 9, none⟩ = some (.bool false) := cell_of_block yb rfl
 have yl := lt_of_block yb
 clear yb
 replace K := Lib.hid (K.out.alloc #[.int .i64 3, .int .i64 (-1), .int .i64 256, .int .i64 0, .int .i64 1, .slice a1 201 c1, .slice a2 201 c2, .int .i64 1, .int .i64 0, .bool false] 46)
 replace b1 := Lib.hid (b1.out.below (below_alloc _ (.cells #[.int .i64 3, .int .i64 (-1), .int .i64 256, .int .i64 0, .int .i64 1, .slice a1 201 c1, .slice a2 201 c2, .int .i64 1, .int .i64 0, .bool false] 46)))
 replace K := Lib.hid (K.out.alloc #[.int .i64 8, .int .i64 2, .int .i64 3, .int .i64 4, .int .i64 0, .int .i64 4, .slice (some ⟨wf.heap.size, 0, none⟩) 1 1] 26)
 replace b1 := Lib.hid (b1.out.below (below_alloc _ (.cells #[.int .i64 8, .int .i64 2, .int .i64 3, .int .i64 4, .int .i64 0, .int .i64 4, .slice (some ⟨wf.heap.size, 0, none⟩) 1 1] 26)))
 go_upto_region 53 with fail
 obtain ⟨gS, hgS⟩ : ∃ b, b = wf.heap.size := ⟨_, rfl⟩
 obtain ⟨B23, hB23⟩ : ∃ b, b = wf.heap.size + 1 := ⟨_, rfl⟩
 replace K := Lib.hid (show HK w ((wf.alloc (.cells #[.int .i64 3, .int .i64 (-1), .int .i64 256, .int .i64 0, .int .i64 1, .slice a1 201 c1, .slice a2 201 c2, .int .i64 1, .int .i64 0, .bool false] 46)).alloc (.cells #[.int .i64 8, .int .i64 2, .int .i64 3, .int .i64 4, .int .i64 0, .int .i64 4, .slice (some ⟨wf.heap.size, 0, none⟩) 1 1] 26)) [(B23, .cells #[.int .i64 8, .int .i64 2, .int .i64 3, .int .i64 4, .int .i64 0, .int .i64 4, .slice (some ⟨gS, 0, none⟩) 1 1] 26 (0, 0)), (gS, .cells #[.int .i64 3, .int .i64 (-1), .int .i64 256, .int .i64 0, .int .i64 1, .slice a1 201 c1, .slice a2 201 c2, .int .i64 1, .int .i64 0, .bool false] 46 (0, 0)), (B13, .cells #[.int .i64 3, .int .i64 (-1), .int .i64 256, .int .i64 0, .int .i64 1, .slice a1 201 c1, .slice a2 201 c2, .int .i64 1, .int .i64 0, .bool false] 46 (0, 0)), (B11, .cells #[.slice a3 201 c3, .slice a4 201 c4] 44 (0, 0)), (G, .cells #[.int .i64 8, .int .i64 2, .int .i64 3, .int .i64 4] 23 (0, 0))] from by
  have h := K.out
  try simp only [World.size_alloc] at h
  rw [hgS, hB23]
  exact h)
 rw [← hB23, ← hgS]
 try rw [← hgS] at K
 try rw [← hgS] at b1
 generalize ((wf.alloc (.cells #[.int .i64 3, .int .i64 (-1), .int .i64 256, .int .i64 0, .int .i64 1, .slice a1 201 c1, .slice a2 201 c2, .int .i64 1, .int .i64 0, .bool false] 46)).alloc (.cells #[.int .i64 8, .int .i64 2, .int .i64 3, .int .i64 4, .int .i64 0, .int .i64 4, .slice (some ⟨gS, 0, none⟩) 1 1] 26)) = wg at *
 clear hgS hB23
 clear g0 g1 g2 g3 gl
 clear y0 y1 y2 y3 y4 y5 y6 y7 y8 y9 yl
 have HI := Lib.hid (tbi_one (q := (oneT, ⟨a1, 201, c1, a2, 201, c2⟩)) (K.out.H _ (List.mem_cons_of_mem _ (List.mem_cons_self))) b1.out.I)
 clear b1
 replace K := Lib.hid (show HK w wg [(B23, .cells #[.int .i64 8, .int .i64 2, .int .i64 3, .int .i64 4, .int .i64 0, .int .i64 4, .slice (some ⟨gS, 0, none⟩) 1 1] 26 (0, 0)), (G, .cells #[.int .i64 8, .int .i64 2, .int .i64 3, .int .i64 4] 23 (0, 0))] from K.out.less (List.forall_mem_cons.2 ⟨(List.mem_cons_self), (List.forall_mem_cons.2 ⟨(List.mem_cons_of_mem _ (List.mem_cons_of_mem _ (List.mem_cons_of_mem _ (List.mem_cons_of_mem _ (List.mem_cons_self))))), (fun x hx => by cases hx)⟩)⟩))
 refine rg53 B23 gS wg _ (K.out.H _ (List.mem_cons_self)) (by intro _ _ d _ _ h; cases d <;> exact h) ?_
 rintro a' wh ⟨b24, b25, u201, u202, rfl, hb, h24, h25, n1, n2, hne⟩
 try dsimp only
 have k244 : wh.cell? ⟨b24, 4, none⟩ = some (.int .i64 0) := cell_of_block h24 rfl
 have k254 : wh.cell? ⟨b25, 4, none⟩ = some (.int .i64 0) := cell_of_block h25 rfl
 have k245 : wh.cell? ⟨b24, 5, none⟩ = some (.int .i64 4) := cell_of_block h24 rfl
 have k255 : wh.cell? ⟨b25, 5, none⟩ = some (.int .i64 4) := cell_of_block h25 rfl
 have f24 := free_of_block (i := 4) h24
 have f25 := free_of_block (i := 5) h25
 have l24 := lt_of_block h24
 have l25 := lt_of_block h25
 have hne2 : ¬ b25 = b24 := fun e => hne e.symm
 have f25' : (wh.setCell ⟨b24, 4, none⟩ (.int .i64 1073741824)).frozen? ⟨b25, 5, none⟩ = false := free_of_block (((Only.refl b24 wh).setCell 4 (.int .i64 1073741824)).keeps h25 hne2)
 go_upto_region 55 with fail
 clear k244 k245 k254 k255 f24 f25 f25' l24 l25
 have hO1 := (Only.refl b24 wh).setCell 4 (.int .i64 1073741824)
 have hO2 := (Only.refl b25 (wh.setCell ⟨b24, 4, none⟩ (.int .i64 1073741824))).setCell 5 (.int .i64 1073741809)
 have g24 : ((wh.setCell ⟨b24, 4, none⟩ (.int .i64 1073741824)).setCell ⟨b25, 5, none⟩ (.int .i64 1073741809)).heap[b24]? = some (.cells #[.int .i64 8, .int .i64 2, .int .i64 3, .int .i64 4, .int .i64 1073741824, .int .i64 4, .slice (some ⟨gS, 0, none⟩) 1 1] 26 (0, 0)) := hO2.keeps (block_setCell (i := 4) (v := .int .i64 1073741824) h24) hne
 have g25 : ((wh.setCell ⟨b24, 4, none⟩ (.int .i64 1073741824)).setCell ⟨b25, 5, none⟩ (.int .i64 1073741809)).heap[b25]? = some (.cells #[.int .i64 8, .int .i64 2, .int .i64 3, .int .i64 4, .int .i64 0, .int .i64 1073741809, .slice (some ⟨gS, 0, none⟩) 1 1] 26 (0, 0)) := block_setCell (i := 5) (v := .int .i64 1073741809) (hO1.keeps h25 hne2)
 replace hb := (hb.trans (hO1.below n1 hb.size)).trans (hO2.below n2 (Nat.le_trans hb.size hO1.size))
 replace K := Lib.hid (((K.out.below hb).add g24).add g25)
 replace HI := Lib.hid (HI.out.below hb)
 clear hO1 hO2 g24 g25 hb h24 h25 n1 n2 hne hne2
 generalize (wh.setCell ⟨b24, 4, none⟩ (.int .i64 1073741824)).setCell ⟨b25, 5, none⟩ (.int .i64 1073741809) = wi at *
 have hcall : ∀ (W : World) (gb : Nat), Below wi.heap.size wi W → W.heap[gb]? = some (.cells (madeCells #[.int .i64 0, .int .i64 0, .int .i64 0] 51) 40 (0, 0)) → Calls Try.prog 9 #[.agg #[.int .i64 8, .int .i64 2, .int .i64 3, .int .i64 4, .int .i64 1073741824, .int .i64 4, .slice (some ⟨gS, 0, none⟩) 1 1], .slice (some ⟨gb, 0, none⟩) 17 17] W (CyErr 7 W) := fun W gb hb hg => cy_err pG (now := 1073741824) (next := 4) (late_E _) (by decide) (some ⟨gS, 0, none⟩) 1 1 _ 17 17 [(oneT, ⟨a1, 201, c1, a2, 201, c2⟩)] W (HI.out.below hb) (fsts_oneX _) (pls_zero hg)
 refine rg55 b24 7 wi _ (K.out.H _ (List.mem_cons_of_mem _ (List.mem_cons_self))) hcall (by intro _ _ d _ _ h; cases d <;> exact h) ?_
 rintro a' wj ⟨u26, u27, u205, u206, u207, u208, u209, u210, u211, rfl, hb⟩
 try dsimp only
 clear hcall
 replace K := Lib.hid (K.out.below hb)
 replace HI := Lib.hid (HI.out.below hb)
 clear hb
 go_upto_region 56 with fail
 have hcall : ∀ (W : World) (gb : Nat), Below wj.heap.size wj W → W.heap[gb]? = some (.cells (madeCells #[.int .i64 0, .int .i64 0, .int .i64 0] 51) 40 (0, 0)) → Calls Try.prog 9 #[.agg #[.int .i64 8, .int .i64 2, .int .i64 3, .int .i64 4, .int .i64 0, .int .i64 1073741809, .slice (some ⟨gS, 0, none⟩) 1 1], .slice (some ⟨gb, 0, none⟩) 17 17] W (CyErr 7 W) := fun W gb hb hg => cy_err pG (now := 0) (next := 1073741809) (many_E _) (by decide) (some ⟨gS, 0, none⟩) 1 1 _ 17 17 [(oneT, ⟨a1, 201, c1, a2, 201, c2⟩)] W (HI.out.below hb) (fsts_oneX _) (pls_zero hg)
 refine rg56 b25 7 wj _ (K.out.H _ (List.mem_cons_self)) hcall (by intro _ _ d _ _ h; cases d <;> exact h) ?_
 rintro a' wk ⟨u29, u30, u212, u213, u214, u215, u216, u217, u218, rfl, hb⟩
 try dsimp only
 clear hcall
 replace K := Lib.hid (K.out.below hb)
 replace HI := Lib.hid (HI.out.below hb)
 clear hb
 go_upto_region 57 with fail
 have hcall : ∀ (W : World) (gb : Nat), Below wk.heap.size wk W → W.heap[gb]? = some (.cells (madeCells #[.int .i64 0, .int .i64 0, .int .i64 0] 51) 40 (0, 0)) → Calls Try.prog 9 #[.agg #[.int .i64 8, .int .i64 2, .int .i64 3, .int .i64 4, .int .i64 0, .int .i64 4, .slice (some ⟨gS, 0, none⟩) 1 1], .slice (some ⟨gb, 0, none⟩) 17 17] W (CyErr 4 W) := fun W gb hb hg => cy_err pG (now := 0) (next := 4) (long_E (by rw [List.length_replicate]; decide)) (by decide) (some ⟨gS, 0, none⟩) 1 1 _ 17 17 [(oneT, ⟨a1, 201, c1, a2, 201, c2⟩)] W (HI.out.below hb) (fsts_oneX _) (pls_zero hg)
 refine rg57 B23 4 wk _ (K.out.H _ (List.mem_cons_of_mem _ (List.mem_cons_of_mem _ (List.mem_cons_self)))) hcall (by intro _ _ d _ _ h; cases d <;> exact h) ?_
 rintro a' wl ⟨u32, u33, u219, u220, u221, u222, u223, u224, u225, rfl, hb⟩
 try dsimp only
 clear hcall
 replace K := Lib.hid (K.out.below hb)
 replace HI := Lib.hid (HI.out.below hb)
 clear hb
 replace K := Lib.hid (show HK w wl [(B23, .cells #[.int .i64 8, .int .i64 2, .int .i64 3, .int .i64 4, .int .i64 0, .int .i64 4, .slice (some ⟨gS, 0, none⟩) 1 1] 26 (0, 0)), (G, .cells #[.int .i64 8, .int .i64 2, .int .i64 3, .int .i64 4] 23 (0, 0))] from K.out.less (List.forall_mem_cons.2 ⟨(List.mem_cons_of_mem _ (List.mem_cons_of_mem _ (List.mem_cons_self))), (List.forall_mem_cons.2 ⟨(List.mem_cons_of_mem _ (List.mem_cons_of_mem _ (List.mem_cons_of_mem _ (List.mem_cons_self)))), (fun x hx => by cases hx)⟩)⟩))
 have qb := (K.out.H _ (List.mem_cons_self))
 have q0 : wl.cell? ⟨B23, 0, none⟩ = some (.int .i64 8) := cell_of_block qb rfl
 have q1 : wl.cell? ⟨B23, 1, none⟩ = some (.int .i64 2) := cell_of_block qb rfl
 have q2 : wl.cell? ⟨B23, 2, none⟩ = some (.int .i64 3) := cell_of_block qb rfl
 have q3 : wl.cell? ⟨B23, 3, none⟩ = some (.int .i64 4) := cell_of_block qb rfl
 have q4 : wl.cell? ⟨B23, 4, none⟩ = some (.int .i64 0) := cell_of_block qb rfl
 have q5 : wl.cell? ⟨B23, 5, none⟩ = some (.int .i64 4) := cell_of_block qb rfl
 have q6 : wl.cell? ⟨B23, 6, none⟩ = some (.slice (some ⟨gS, 0, none⟩) 1 1) := cell_of_block qb rfl
 have ql := lt_of_block qb
 clear qb
 replace K := Lib.hid (K.out.alloc #[.int .i64 8193, .int .i64 5, .int .i64 0] 40)
 replace HI := Lib.hid (HI.out.below (below_alloc _ (.cells #[.int .i64 8193, .int .i64 5, .int .i64 0] 40)))
 go_wp2_with fail
 obtain ⟨P0, hP0⟩ : ∃ b, b = wl.heap.size := ⟨_, rfl⟩
 replace K := Lib.hid (show HK w (wl.alloc (.cells #[.int .i64 8193, .int .i64 5, .int .i64 0] 40)) [(P0, .cells #[.int .i64 8193, .int .i64 5, .int .i64 0] 40 (0, 0)), (B23, .cells #[.int .i64 8, .int .i64 2, .int .i64 3, .int .i64 4, .int .i64 0, .int .i64 4, .slice (some ⟨gS, 0, none⟩) 1 1] 26 (0, 0)), (G, .cells #[.int .i64 8, .int .i64 2, .int .i64 3, .int .i64 4] 23 (0, 0))] from by
  have h := K.out
  try simp only [World.size_alloc] at h
  rw [hP0]
  exact h)
 rw [← hP0]
 generalize (wl.alloc (.cells #[.int .i64 8193, .int .i64 5, .int .i64 0] 40)) = wm0 at *
 clear hP0
 clear q0 q1 q2 q3 q4 q5 q6 ql
 refine (cy_err pG (now := 0) (next := 4) (E := 1) ((pl_E _).trans pb1) (by decide) (some ⟨gS, 0, none⟩) 1 1 (some ⟨P0, 0, none⟩) 1 1 [(oneT, ⟨a1, 201, c1, a2, 201, c2⟩)] _ HI.out (fsts_oneX _) (pls_one (K.out.H _ (List.mem_cons_self)))).mono ?_; rintro e wn0 ⟨a10, c10, ea10, ec10, rfl, hb⟩
 replace K := Lib.hid (K.out.below hb)
 replace HI := Lib.hid (HI.out.below hb)
 clear hb
 replace K := Lib.hid (show HK w wn0 [(B23, .cells #[.int .i64 8, .int .i64 2, .int .i64 3, .int .i64 4, .int .i64 0, .int .i64 4, .slice (some ⟨gS, 0, none⟩) 1 1] 26 (0, 0)), (G, .cells #[.int .i64 8, .int .i64 2, .int .i64 3, .int .i64 4] 23 (0, 0))] from K.out.less (List.forall_mem_cons.2 ⟨(List.mem_cons_of_mem _ (List.mem_cons_self)), (List.forall_mem_cons.2 ⟨(List.mem_cons_of_mem _ (List.mem_cons_of_mem _ (List.mem_cons_self))), (fun x hx => by cases hx)⟩)⟩))
 have qb := (K.out.H _ (List.mem_cons_self))
 have q0 : wn0.cell? ⟨B23, 0, none⟩ = some (.int .i64 8) := cell_of_block qb rfl
 have q1 : wn0.cell? ⟨B23, 1, none⟩ = some (.int .i64 2) := cell_of_block qb rfl
 have q2 : wn0.cell? ⟨B23, 2, none⟩ = some (.int .i64 3) := cell_of_block qb rfl
 have q3 : wn0.cell? ⟨B23, 3, none⟩ = some (.int .i64 4) := cell_of_block qb rfl
 have q4 : wn0.cell? ⟨B23, 4, none⟩ = some (.int .i64 0) := cell_of_block qb rfl
 have q5 : wn0.cell? ⟨B23, 5, none⟩ = some (.int .i64 4) := cell_of_block qb rfl
 have q6 : wn0.cell? ⟨B23, 6, none⟩ = some (.slice (some ⟨gS, 0, none⟩) 1 1) := cell_of_block qb rfl
 have ql := lt_of_block qb
 clear qb
 replace K := Lib.hid (K.out.alloc #[.int .i64 0, .int .i64 0, .int .i64 0, .int .i64 0, .int .i64 0, .int .i64 0, .slice a10 0 c10] 26)
 replace HI := Lib.hid (HI.out.below (below_alloc _ (.cells #[.int .i64 0, .int .i64 0, .int .i64 0, .int .i64 0, .int .i64 0, .int .i64 0, .slice a10 0 c10] 26)))
 replace K := Lib.hid (K.out.alloc #[.int .i64 1, .int .i64 5, .int .i64 0] 40)
 replace HI := Lib.hid (HI.out.below (below_alloc _ (.cells #[.int .i64 1, .int .i64 5, .int .i64 0] 40)))
 go_wp2_with fail
 obtain ⟨BE0, hBE0⟩ : ∃ b, b = wn0.heap.size := ⟨_, rfl⟩
 obtain ⟨P1, hP1⟩ : ∃ b, b = wn0.heap.size + 1 := ⟨_, rfl⟩
 replace K := Lib.hid (show HK w ((wn0.alloc (.cells #[.int .i64 0, .int .i64 0, .int .i64 0, .int .i64 0, .int .i64 0, .int .i64 0, .slice a10 0 c10] 26)).alloc (.cells #[.int .i64 1, .int .i64 5, .int .i64 0] 40)) [(P1, .cells #[.int .i64 1, .int .i64 5, .int .i64 0] 40 (0, 0)), (BE0, .cells #[.int .i64 0, .int .i64 0, .int .i64 0, .int .i64 0, .int .i64 0, .int .i64 0, .slice a10 0 c10] 26 (0, 0)), (B23, .cells #[.int .i64 8, .int .i64 2, .int .i64 3, .int .i64 4, .int .i64 0, .int .i64 4, .slice (some ⟨gS, 0, none⟩) 1 1] 26 (0, 0)), (G, .cells #[.int .i64 8, .int .i64 2, .int .i64 3, .int .i64 4] 23 (0, 0))] from by
  have h := K.out
  try simp only [World.size_alloc] at h
  rw [hBE0, hP1]
  exact h)
 rw [← hP1, ← hBE0]
 generalize ((wn0.alloc (.cells #[.int .i64 0, .int .i64 0, .int .i64 0, .int .i64 0, .int .i64 0, .int .i64 0, .slice a10 0 c10] 26)).alloc (.cells #[.int .i64 1, .int .i64 5, .int .i64 0] 40)) = wm1 at *
 clear hBE0 hP1
 clear q0 q1 q2 q3 q4 q5 q6 ql
 refine (cy_err pG (now := 0) (next := 4) (E := 2) ((pl_E _).trans pb2) (by decide) (some ⟨gS, 0, none⟩) 1 1 (some ⟨P1, 0, none⟩) 1 1 [(oneT, ⟨a1, 201, c1, a2, 201, c2⟩)] _ HI.out (fsts_oneX _) (pls_one (K.out.H _ (List.mem_cons_self)))).mono ?_; rintro e wn1 ⟨a11, c11, ea11, ec11, rfl, hb⟩
 replace K := Lib.hid (K.out.below hb)
 replace HI := Lib.hid (HI.out.below hb)
 clear hb
 replace K := Lib.hid (show HK w wn1 [(B23, .cells #[.int .i64 8, .int .i64 2, .int .i64 3, .int .i64 4, .int .i64 0, .int .i64 4, .slice (some ⟨gS, 0, none⟩) 1 1] 26 (0, 0)), (G, .cells #[.int .i64 8, .int .i64 2, .int .i64 3, .int .i64 4] 23 (0, 0))] from K.out.less (List.forall_mem_cons.2 ⟨(List.mem_cons_of_mem _ (List.mem_cons_of_mem _ (List.mem_cons_self))), (List.forall_mem_cons.2 ⟨(List.mem_cons_of_mem _ (List.mem_cons_of_mem _ (List.mem_cons_of_mem _ (List.mem_cons_self)))), (fun x hx => by cases hx)⟩)⟩))
 have qb := (K.out.H _ (List.mem_cons_self))
 have q0 : wn1.cell? ⟨B23, 0, none⟩ = some (.int .i64 8) := cell_of_block qb rfl
 have q1 : wn1.cell? ⟨B23, 1, none⟩ = some (.int .i64 2) := cell_of_block qb rfl
 have q2 : wn1.cell? ⟨B23, 2, none⟩ = some (.int .i64 3) := cell_of_block qb rfl
 have q3 : wn1.cell? ⟨B23, 3, none⟩ = some (.int .i64 4) := cell_of_block qb rfl
 have q4 : wn1.cell? ⟨B23, 4, none⟩ = some (.int .i64 0) := cell_of_block qb rfl
 have q5 : wn1.cell? ⟨B23, 5, none⟩ = some (.int .i64 4) := cell_of_block qb rfl
 have q6 : wn1.cell? ⟨B23, 6, none⟩ = some (.slice (some ⟨gS, 0, none⟩) 1 1) := cell_of_block qb rfl
 have ql := lt_of_block qb
 clear qb
 replace K := Lib.hid (K.out.alloc #[.int .i64 0, .int .i64 0, .int .i64 0, .int .i64 0, .int .i64 0, .int .i64 0, .slice a11 0 c11] 26)
 replace HI := Lib.hid (HI.out.below (below_alloc _ (.cells #[.int .i64 0, .int .i64 0, .int .i64 0, .int .i64 0, .int .i64 0, .int .i64 0, .slice a11 0 c11] 26)))
 replace K := Lib.hid (K.out.alloc #[.int .i64 1, .int .i64 8192, .int .i64 0] 40)
 replace HI := Lib.hid (HI.out.below (below_alloc _ (.cells #[.int .i64 1, .int .i64 8192, .int .i64 0] 40)))
 go_wp2_with fail
 obtain ⟨BE1, hBE1⟩ : ∃ b, b = wn1.heap.size := ⟨_, rfl⟩
 obtain ⟨P2, hP2⟩ : ∃ b, b = wn1.heap.size + 1 := ⟨_, rfl⟩
 replace K := Lib.hid (show HK w ((wn1.alloc (.cells #[.int .i64 0, .int .i64 0, .int .i64 0, .int .i64 0, .int .i64 0, .int .i64 0, .slice a11 0 c11] 26)).alloc (.cells #[.int .i64 1, .int .i64 8192, .int .i64 0] 40)) [(P2, .cells #[.int .i64 1, .int .i64 8192, .int .i64 0] 40 (0, 0)), (BE1, .cells #[.int .i64 0, .int .i64 0, .int .i64 0, .int .i64 0, .int .i64 0, .int .i64 0, .slice a11 0 c11] 26 (0, 0)), (B23, .cells #[.int .i64 8, .int .i64 2, .int .i64 3, .int .i64 4, .int .i64 0, .int .i64 4, .slice (some ⟨gS, 0, none⟩) 1 1] 26 (0, 0)), (G, .cells #[.int .i64 8, .int .i64 2, .int .i64 3, .int .i64 4] 23 (0, 0))] from by
  have h := K.out
  try simp only [World.size_alloc] at h
  rw [hBE1, hP2]
  exact h)
 rw [← hP2, ← hBE1]
 generalize ((wn1.alloc (.cells #[.int .i64 0, .int .i64 0, .int .i64 0, .int .i64 0, .int .i64 0, .int .i64 0, .slice a11 0 c11] 26)).alloc (.cells #[.int .i64 1, .int .i64 8192, .int .i64 0] 40)) = wm2 at *
 clear hBE1 hP2
 clear q0 q1 q2 q3 q4 q5 q6 ql
 refine (cy_err pG (now := 0) (next := 4) (E := 1) ((pl_E _).trans pb3) (by decide) (some ⟨gS, 0, none⟩) 1 1 (some ⟨P2, 0, none⟩) 1 1 [(oneT, ⟨a1, 201, c1, a2, 201, c2⟩)] _ HI.out (fsts_oneX _) (pls_one (K.out.H _ (List.mem_cons_self)))).mono ?_; rintro e wn2 ⟨a12, c12, ea12, ec12, rfl, hb⟩
 replace K := Lib.hid (K.out.below hb)
 replace HI := Lib.hid (HI.out.below hb)
 clear hb
 replace K := Lib.hid (show HK w wn2 [(B23, .cells #[.int .i64 8, .int .i64 2, .int .i64 3, .int .i64 4, .int .i64 0, .int .i64 4, .slice (some ⟨gS, 0, none⟩) 1 1] 26 (0, 0)), (G, .cells #[.int .i64 8, .int .i64 2, .int .i64 3, .int .i64 4] 23 (0, 0))] from K.out.less (List.forall_mem_cons.2 ⟨(List.mem_cons_of_mem _ (List.mem_cons_of_mem _ (List.mem_cons_self))), (List.forall_mem_cons.2 ⟨(List.mem_cons_of_mem _ (List.mem_cons_of_mem _ (List.mem_cons_of_mem _ (List.mem_cons_self)))), (fun x hx => by cases hx)⟩)⟩))
 have qb := (K.out.H _ (List.mem_cons_self))
 have q0 : wn2.cell? ⟨B23, 0, none⟩ = some (.int .i64 8) := cell_of_block qb rfl
 have q1 : wn2.cell? ⟨B23, 1, none⟩ = some (.int .i64 2) := cell_of_block qb rfl
 have q2 : wn2.cell? ⟨B23, 2, none⟩ = some (.int .i64 3) := cell_of_block qb rfl
 have q3 : wn2.cell? ⟨B23, 3, none⟩ = some (.int .i64 4) := cell_of_block qb rfl
 have q4 : wn2.cell? ⟨B23, 4, none⟩ = some (.int .i64 0) := cell_of_block qb rfl
 have q5 : wn2.cell? ⟨B23, 5, none⟩ = some (.int .i64 4) := cell_of_block qb rfl
 have q6 : wn2.cell? ⟨B23, 6, none⟩ = some (.slice (some ⟨gS, 0, none⟩) 1 1) := cell_of_block qb rfl
 have ql := lt_of_block qb
 clear qb
 replace K := Lib.hid (K.out.alloc #[.int .i64 0, .int .i64 0, .int .i64 0, .int .i64 0, .int .i64 0, .int .i64 0, .slice a12 0 c12] 26)
 replace HI := Lib.hid (HI.out.below (below_alloc _ (.cells #[.int .i64 0, .int .i64 0, .int .i64 0, .int .i64 0, .int .i64 0, .int .i64 0, .slice a12 0 c12] 26)))
 go_wp2_with fail
 obtain ⟨BE2, hBE2⟩ : ∃ b, b = wn2.heap.size := ⟨_, rfl⟩
 replace K := Lib.hid (show HK w (wn2.alloc (.cells #[.int .i64 0, .int .i64 0, .int .i64 0, .int .i64 0, .int .i64 0, .int .i64 0, .slice a12 0 c12] 26)) [(BE2, .cells #[.int .i64 0, .int .i64 0, .int .i64 0, .int .i64 0, .int .i64 0, .int .i64 0, .slice a12 0 c12] 26 (0, 0)), (B23, .cells #[.int .i64 8, .int .i64 2, .int .i64 3, .int .i64 4, .int .i64 0, .int .i64 4, .slice (some ⟨gS, 0, none⟩) 1 1] 26 (0, 0)), (G, .cells #[.int .i64 8, .int .i64 2, .int .i64 3, .int .i64 4] 23 (0, 0))] from by
  have h := K.out
  try simp only [World.size_alloc] at h
  rw [hBE2]
  exact h)
 rw [← hBE2]
 generalize (wn2.alloc (.cells #[.int .i64 0, .int .i64 0, .int .i64 0, .int .i64 0, .int .i64 0, .int .i64 0, .slice a12 0 c12] 26)) = wo at *
 clear hBE2
 clear q0 q1 q2 q3 q4 q5 q6 ql
 refine (fd_no9 pG (now := 0) (next := 4) (id := 2) (ck3 (by decide) (by decide)) (fun k hk => by have : k = 0 := (by simpa using hk); subst this; decide) (some ⟨gS, 0, none⟩) 1 1 [(oneT, ⟨a1, 201, c1, a2, 201, c2⟩)] _ HI.out (fsts_oneX _)).mono ?_; rintro e wp ⟨sL, nL, kL, sH, nH, kH, rfl, hb⟩
 clear HI
 replace K := Lib.hid (K.out.below hb)
 clear hb
 replace K := Lib.hid (show HK w wp [(G, .cells #[.int .i64 8, .int .i64 2, .int .i64 3, .int .i64 4] 23 (0, 0))] from K.out.less (List.forall_mem_cons.2 ⟨(List.mem_cons_of_mem _ (List.mem_cons_of_mem _ (List.mem_cons_self))), (fun x hx => by cases hx)⟩))
 replace K := Lib.hid (K.out.alloc #[.int .i64 0, .int .i64 0, .int .i64 0, .int .i64 0, .int .i64 0, .slice sL nL kL, .slice sH nH kH, .int .i64 0, .int .i64 0, .bool false] 46)
 go_wp2_with fail
 obtain ⟨B44, hB44⟩ : ∃ b, b = wp.heap.size := ⟨_, rfl⟩
 replace K := Lib.hid (show HK w (wp.alloc (.cells #[.int .i64 0, .int .i64 0, .int .i64 0, .int .i64 0, .int .i64 0, .slice sL nL kL, .slice sH nH kH, .int .i64 0, .int .i64 0, .bool false] 46)) [(B44, .cells #[.int .i64 0, .int .i64 0, .int .i64 0, .int .i64 0, .int .i64 0, .slice sL nL kL, .slice sH nH kH, .int .i64 0, .int .i64 0, .bool false] 46 (0, 0)), (G, .cells #[.int .i64 8, .int .i64 2, .int .i64 3, .int .i64 4] 23 (0, 0))] from by
  have h := K.out
  try simp only [World.size_alloc] at h
  rw [hB44]
  exact h)
 rw [← hB44]
 generalize (wp.alloc (.cells #[.int .i64 0, .int .i64 0, .int .i64 0, .int .i64 0, .int .i64 0, .slice sL nL kL, .slice sH nH kH, .int .i64 0, .int .i64 0, .bool false] 46)) = wq at *
 clear hB44
 replace K := Lib.hid (show HK w wq [(G, .cells #[.int .i64 8, .int .i64 2, .int .i64 3, .int .i64 4] 23 (0, 0))] from K.out.less (List.forall_mem_cons.2 ⟨(List.mem_cons_of_mem _ (List.mem_cons_self)), (fun x hx => by cases hx)⟩))
 obtain ⟨i1, hi1, hz1, hs1, hb1⟩ := info_pts infoPl
 have HP := Lib.hid (And.intro hi1 (And.intro hz1 (And.intro hs1 hb1)))
 clear hi1 hz1 hs1 hb1
 obtain ⟨B0, hB0⟩ : ∃ b, b = wq.heap.size := ⟨_, rfl⟩
 have HB0 := Lib.hid (show w.heap.size ≤ B0 ∧ ∀ x ∈ ([(G, .cells #[.int .i64 8, .int .i64 2, .int .i64 3, .int .i64 4] 23 (0, 0))] : List (Nat × Obj)), x.1 < B0 from by rw [hB0]; exact ⟨K.out.B.size, K.out.lts⟩)
 have HB1 := Lib.hid (Nat.le_of_eq hB0)
 clear hB0
 go_loopw [46, 47] (fun fv kv wr => ∃ (k : Nat) (a : Option Addr) (c : Nat), k ≤ 16 ∧ fv = .slice a k c ∧ kv = .int .i64 k ∧ HK w wr ([(G, .cells #[.int .i64 8, .int .i64 2, .int .i64 3, .int .i64 4] 23 (0, 0))] : List (Nat × Obj)) ∧ B0 ≤ wr.heap.size ∧ wr.ownsRow B0 40 3 (.slice a k c) k (flatP (PG k))) (fun _ kv _ => 16 - (intOf kv).toNat)
 case atStart => exact ⟨0, none, 0, by omega, rfl, rfl, K.out, HB1.out, ⟨rfl, Or.inl ⟨rfl, rfl⟩⟩⟩
 case round =>
  clear K HB1
  obtain ⟨k, a, c, hk, rfl, rfl, hK, hB, hO⟩ := hrel
  have K := Lib.hid hK
  have HB := Lib.hid hB
  have O := Lib.hid hO
  clear hK hB hO
  by_cases hlt : k < 16
  ·have HLt := Lib.hid hlt
   have hk0 : (0 : Int) ≤ (k : Int) := by omega
   have hk1 : (k : Int) < 16 := by omega
   have hw1 : IntKind.i64.wrap ((k : Int) + 1) = (k : Int) + 1 := IntWalk.i64_in _ (by omega)
   have hw2 : IntKind.i64.wrap (100 * ((k : Int) + 1)) = 100 * ((k : Int) + 1) := IntWalk.i64_in _ (by omega)
   have KA := Lib.hid (K.out.below (below_alloc wr (.cells #[.int .i64 (100 * ((k : Int) + 1)), .int .i64 4156, .int .i64 (k : Int)] 40)))
   have OA := Lib.hid (ownsRow_below O.out (below_alloc wr (.cells #[.int .i64 (100 * ((k : Int) + 1)), .int .i64 4156, .int .i64 (k : Int)] 40)) (Nat.le_refl _))
   clear hlt
   go_wp2_with (at_builtin; refine wpList_append_own_at _ rfl _ _ 27 rfl B0 40 i1 _ 3 24 Try.underlying27 HP.out.1 HP.out.2.1 HP.out.2.2.1 HP.out.2.2.2 rfl (by decide) _ k _ rfl OA.out ⟨wr.heap.size, 0, none⟩ 1 1 [.int .i64 (100 * ((k : Int) + 1)), .int .i64 4156, .int .i64 (k : Int)] rfl rfl (cells_new rfl) (by intro u hu; simp at hu; rcases hu with rfl | rfl | rfl <;> rfl) (by have := HLt.out; unfold maxLen; omega) (by have := HLt.out; omega) (by have := HB.out; simp; omega) ?_; intro v9 w9 hown9 hg9 _ hat9; obtain ⟨a9, c9, rfl⟩ := row_slice hown9; have R9 := Lib.hid (row_plot hown9); have hg9' : (wr.alloc (.cells #[.int .i64 (100 * ((k : Int) + 1)), .int .i64 4156, .int .i64 (k : Int)] 40)).grownBy w9 (Value.slice a k c).ownBlock := hg9; have K9 := Lib.hid (KA.out.grown hg9' (fun j e => by have h := (OA.out.lt j e).1; exact ⟨Nat.le_trans HB0.out.1 h, fun x hx => Nat.lt_of_lt_of_le (HB0.out.2 x hx) h⟩)); have B9 := Lib.hid (Nat.le_trans (Nat.le_trans HB.out (below_alloc wr (.cells #[.int .i64 (100 * ((k : Int) + 1)), .int .i64 4156, .int .i64 (k : Int)] 40)).size) hg9.size); clear hown9 hg9 hg9' hat9)
   have hcast : (k : Int) + 1 = ((k + 1 : Nat) : Int) := by omega
   refine ⟨⟨k + 1, a9, c9, HLt.out, rfl, by go_num, K9.out, B9.out, R9.out⟩, by simp [intOf]; have := HLt.out; omega⟩
  ·obtain rfl : k = 16 := by omega
   have hk16 : ((16 : Nat) : Int) = 16 := rfl
   rw [hk16]
   clear hlt hk hk16
   obtain ⟨gp', c', e, hgB, hPl⟩ := PlM.own O.out
   cases e
   clear O HB
   have HPl := Lib.hid hPl
   have HgB := Lib.hid hgB
   clear hPl hgB
   have HgN := Lib.hid (show w.heap.size ≤ gp' ∧ ∀ x ∈ ([(G, .cells #[.int .i64 8, .int .i64 2, .int .i64 3, .int .i64 4] 23 (0, 0))] : List (Nat × Obj)), x.1 < gp' from ⟨Nat.le_trans HB0.out.1 HgB.out, fun x hx => Nat.lt_of_lt_of_le (HB0.out.2 x hx) HgB.out⟩)
   clear HB0 HgB HP
   have gb := (K.out.H _ (List.mem_cons_self))
   have g0 : wr.cell? ⟨G, 0, none⟩ = some (.int .i64 8) := cell_of_block gb rfl
   have g1 : wr.cell? ⟨G, 1, none⟩ = some (.int .i64 2) := cell_of_block gb rfl
   have g2 : wr.cell? ⟨G, 2, none⟩ = some (.int .i64 3) := cell_of_block gb rfl
   have g3 : wr.cell? ⟨G, 3, none⟩ = some (.int .i64 4) := cell_of_block gb rfl
   have gl := lt_of_block gb
   clear gb
   go_wp2_with fail
   clear g0 g1 g2 g3 gl
   refine (new_G _).mono ?_; rintro e wt ⟨rfl, hb⟩
   replace K := Lib.hid (K.out.below hb)
   replace HPl := Lib.hid (HPl.out.below hb)
   clear hb
   replace K := Lib.hid (K.out.alloc #[.int .i64 8, .int .i64 2, .int .i64 3, .int .i64 4, .int .i64 0, .int .i64 0, .slice none 0 0] 26)
   replace HPl := Lib.hid (HPl.out.below (below_alloc _ (.cells #[.int .i64 8, .int .i64 2, .int .i64 3, .int .i64 4, .int .i64 0, .int .i64 0, .slice none 0 0] 26)))
   go_wp2_with fail
   obtain ⟨B48, hB48⟩ : ∃ b, b = wt.heap.size := ⟨_, rfl⟩
   replace K := Lib.hid (show HK w (wt.alloc (.cells #[.int .i64 8, .int .i64 2, .int .i64 3, .int .i64 4, .int .i64 0, .int .i64 0, .slice none 0 0] 26)) [(B48, .cells #[.int .i64 8, .int .i64 2, .int .i64 3, .int .i64 4, .int .i64 0, .int .i64 0, .slice none 0 0] 26 (0, 0)), (G, .cells #[.int .i64 8, .int .i64 2, .int .i64 3, .int .i64 4] 23 (0, 0))] from by
    have h := K.out
    try simp only [World.size_alloc] at h
    rw [hB48]
    exact h)
   rw [← hB48]
   generalize (wt.alloc (.cells #[.int .i64 8, .int .i64 2, .int .i64 3, .int .i64 4, .int .i64 0, .int .i64 0, .slice none 0 0] 26)) = wu at *
   clear hB48
   refine (cy_F none 0 c gp' _ HPl.out).mono ?_; rintro e wv ⟨a6, c6, e6, f6, M6, rfl, hJ, hM6, hb⟩
   have HJ := Lib.hid hJ
   have HM6 := Lib.hid hM6
   have HgJ := Lib.hid (show gp' < wu.heap.size from (HPl.out.at (i := 0) (by decide)).2.2)
   clear hJ hM6
   replace K := Lib.hid (K.out.below hb)
   replace HPl := Lib.hid (HPl.out.below hb)
   clear hb
   replace K := Lib.hid (show HK w wv [(G, .cells #[.int .i64 8, .int .i64 2, .int .i64 3, .int .i64 4] 23 (0, 0))] from K.out.less (List.forall_mem_cons.2 ⟨(List.mem_cons_of_mem _ (List.mem_cons_self)), (fun x hx => by cases hx)⟩))
   replace K := Lib.hid (K.out.alloc #[.int .i64 8, .int .i64 2, .int .i64 3, .int .i64 4, .int .i64 1, .int .i64 16, .slice a6 16 c6] 26)
   replace HPl := Lib.hid (HPl.out.below (below_alloc _ (.cells #[.int .i64 8, .int .i64 2, .int .i64 3, .int .i64 4, .int .i64 1, .int .i64 16, .slice a6 16 c6] 26)))
   replace HJ := Lib.hid (HJ.out.below (below_alloc wv (.cells #[.int .i64 8, .int .i64 2, .int .i64 3, .int .i64 4, .int .i64 1, .int .i64 16, .slice a6 16 c6] 26)))
   go_wp2_with fail
   obtain ⟨B50, hB50⟩ : ∃ b, b = wv.heap.size := ⟨_, rfl⟩
   replace K := Lib.hid (show HK w (wv.alloc (.cells #[.int .i64 8, .int .i64 2, .int .i64 3, .int .i64 4, .int .i64 1, .int .i64 16, .slice a6 16 c6] 26)) [(B50, .cells #[.int .i64 8, .int .i64 2, .int .i64 3, .int .i64 4, .int .i64 1, .int .i64 16, .slice a6 16 c6] 26 (0, 0)), (G, .cells #[.int .i64 8, .int .i64 2, .int .i64 3, .int .i64 4] 23 (0, 0))] from by
    have h := K.out
    try simp only [World.size_alloc] at h
    rw [hB50]
    exact h)
   rw [← hB50]
   generalize (wv.alloc (.cells #[.int .i64 8, .int .i64 2, .int .i64 3, .int .i64 4, .int .i64 1, .int .i64 16, .slice a6 16 c6] 26)) = wx at *
   clear hB50
   have HB50 := Lib.hid (plm_ne HPl.out (K.out.H _ (List.mem_cons_self)))
   go_loopw [53] (fun kv wr => ∃ k : Nat, k ≤ 16 ∧ kv = .int .i64 k ∧ PlM gp' k wr ∧ Only gp' wx wr) (fun kv _ => 16 - (intOf kv).toNat)
   case atStart => exact ⟨0, by omega, rfl, HPl.out, Only.refl _ _⟩
   case round =>
    clear HPl
    obtain ⟨k, hk, rfl, hP, hO⟩ := hrel
    have HPl := Lib.hid hP
    have HO := Lib.hid hO
    clear hP hO
    by_cases hlt : k < 16
    ·obtain ⟨u0, u1, ul⟩ := HPl.out.at hlt
     have HLt := Lib.hid hlt
     have hk0 : (0 : Int) ≤ (k : Int) := by omega
     have hk1 : (k : Int) < 16 := by omega
     have hkw : IntKind.i64.wrap ((k : Int) + 1) = ((k + 1 : Nat) : Int) := by rw [IntWalk.i64_in _ (by omega)]; omega
     clear hlt
     go_wp2_with fail
     refine ⟨⟨k + 1, HLt.out, by go_num, HPl.out.set HLt.out, HO.out.setCell _ _⟩, by simp [intOf]; have := HLt.out; omega⟩
    ·obtain rfl : k = 16 := by omega
     clear hlt hk
     have hk16 : ((16 : Nat) : Int) = 16 := rfl
     rw [hk16]
     clear hk16
     have h50 := HO.out.keeps (K.out.H _ (List.mem_cons_self)) (fun e => HB50.out e.symm)
     replace K := Lib.hid (show HK w wr [(B50, .cells #[.int .i64 8, .int .i64 2, .int .i64 3, .int .i64 4, .int .i64 1, .int .i64 16, .slice a6 16 c6] 26 (0, 0))] from (HK.add (l := []) ⟨K.out.B.trans (HO.out.below HgN.out.1 K.out.B.size), fun x hx => by cases hx⟩ h50))
     have HT := Lib.hid (HJ.out.only HO.out HgJ.out)
     clear HJ HO HgN HgJ HB50 h50
     have tb := (K.out.H _ (List.mem_cons_self))
     have t0 : wr.cell? ⟨B50, 0, none⟩ = some (.int .i64 8) := cell_of_block tb rfl
     have t1 : wr.cell? ⟨B50, 1, none⟩ = some (.int .i64 2) := cell_of_block tb rfl
     have t2 : wr.cell? ⟨B50, 2, none⟩ = some (.int .i64 3) := cell_of_block tb rfl
     have t3 : wr.cell? ⟨B50, 3, none⟩ = some (.int .i64 4) := cell_of_block tb rfl
     have t4 : wr.cell? ⟨B50, 4, none⟩ = some (.int .i64 1) := cell_of_block tb rfl
     have t5 : wr.cell? ⟨B50, 5, none⟩ = some (.int .i64 16) := cell_of_block tb rfl
     have t6 : wr.cell? ⟨B50, 6, none⟩ = some (.slice a6 16 c6) := cell_of_block tb rfl
     have tl := lt_of_block tb
     clear tb
     go_wp2_with fail
     clear t0 t1 t2 t3 t4 t5 t6 tl
     refine (cy_H a6 c6 c gp' M6 _ HT.out HM6.out HPl.out).mono ?_; rintro e wy ⟨a7, c7, be, oe, f7, rfl, hE, hb⟩
     have HE := Lib.hid hE
     clear hE
     replace K := Lib.hid (K.out.below hb)
     clear hb
     replace K := Lib.hid (K.out.alloc #[.int .i64 8, .int .i64 2, .int .i64 3, .int .i64 4, .int .i64 2, .int .i64 16, .slice a7 16 c7] 26)
     replace HE := Lib.hid (And.intro (keep1 (below_alloc wy (.cells #[.int .i64 8, .int .i64 2, .int .i64 3, .int .i64 4, .int .i64 2, .int .i64 16, .slice a7 16 c7] 26)) HE.out.1) (And.intro (keep1 (below_alloc wy (.cells #[.int .i64 8, .int .i64 2, .int .i64 3, .int .i64 4, .int .i64 2, .int .i64 16, .slice a7 16 c7] 26)) HE.out.2.1) (keep1 (below_alloc wy (.cells #[.int .i64 8, .int .i64 2, .int .i64 3, .int .i64 4, .int .i64 2, .int .i64 16, .slice a7 16 c7] 26)) HE.out.2.2)))
     go_upto_region 74 with fail
     obtain ⟨B54, hB54⟩ : ∃ b, b = wy.heap.size := ⟨_, rfl⟩
     replace K := Lib.hid (show HK w (wy.alloc (.cells #[.int .i64 8, .int .i64 2, .int .i64 3, .int .i64 4, .int .i64 2, .int .i64 16, .slice a7 16 c7] 26)) [(B54, .cells #[.int .i64 8, .int .i64 2, .int .i64 3, .int .i64 4, .int .i64 2, .int .i64 16, .slice a7 16 c7] 26 (0, 0)), (B50, .cells #[.int .i64 8, .int .i64 2, .int .i64 3, .int .i64 4, .int .i64 1, .int .i64 16, .slice a6 16 c6] 26 (0, 0))] from by
      have h := K.out
      try simp only [World.size_alloc] at h
      rw [hB54]
      exact h)
     rw [← hB54]
     generalize (wy.alloc (.cells #[.int .i64 8, .int .i64 2, .int .i64 3, .int .i64 4, .int .i64 2, .int .i64 16, .slice a7 16 c7] 26)) = wz at *
     clear hB54
     have tb := (K.out.H _ (List.mem_cons_of_mem _ (List.mem_cons_self)))
     have t0 : wz.cell? ⟨B50, 0, none⟩ = some (.int .i64 8) := cell_of_block tb rfl
     have t1 : wz.cell? ⟨B50, 1, none⟩ = some (.int .i64 2) := cell_of_block tb rfl
     have t2 : wz.cell? ⟨B50, 2, none⟩ = some (.int .i64 3) := cell_of_block tb rfl
     have t3 : wz.cell? ⟨B50, 3, none⟩ = some (.int .i64 4) := cell_of_block tb rfl
     have t4 : wz.cell? ⟨B50, 4, none⟩ = some (.int .i64 1) := cell_of_block tb rfl
     have t5 : wz.cell? ⟨B50, 5, none⟩ = some (.int .i64 16) := cell_of_block tb rfl
     have t6 : wz.cell? ⟨B50, 6, none⟩ = some (.slice a6 16 c6) := cell_of_block tb rfl
     have tl := lt_of_block tb
     clear tb
     have sb := (K.out.H _ (List.mem_cons_self))
     have s0 : wz.cell? ⟨B54, 0, none⟩ = some (.int .i64 8) := cell_of_block sb rfl
     have s1 : wz.cell? ⟨B54, 1, none⟩ = some (.int .i64 2) := cell_of_block sb rfl
     have s2 : wz.cell? ⟨B54, 2, none⟩ = some (.int .i64 3) := cell_of_block sb rfl
     have s3 : wz.cell? ⟨B54, 3, none⟩ = some (.int .i64 4) := cell_of_block sb rfl
     have s4 : wz.cell? ⟨B54, 4, none⟩ = some (.int .i64 2) := cell_of_block sb rfl
     have s5 : wz.cell? ⟨B54, 5, none⟩ = some (.int .i64 16) := cell_of_block sb rfl
     have s6 : wz.cell? ⟨B54, 6, none⟩ = some (.slice a7 16 c7) := cell_of_block sb rfl
     have sl := lt_of_block sb
     clear sb
     obtain ⟨e0, e1, e2⟩ := HE.out
     have el := World.block_lt_of_cell? _ _ e0
     clear HT HPl HE
     go_wp2_with fail
     go_ret
     exact ⟨rfl, K.out.B⟩
end Go.Proofs.Ytikjjpjekchcjaa
