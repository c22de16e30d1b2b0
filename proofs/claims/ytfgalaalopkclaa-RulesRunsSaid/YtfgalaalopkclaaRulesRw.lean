/-
  Layer 38 (rules): the law Runs, the walk.
-/
import Derived.Test.YtfgalaalopkclaaRulesP
import Derived.Test.YtfgalaalopkclaaRulesQ
import Derived.Test.YtfgalaalopkclaaRulesNp
import Derived.Test.YtfgalaalopkclaaRulesRl
import Derived.Test.YtfgalaalopkclaaPairLib
import Derived.Test.YtfgalaalopkclaaSliceLib
namespace Go.Proofs.Ytfgalaalopkclaa
open Go.RowKit PlaneMath PilotMath RulesMath MyHeap MyOwn MyCopy

set_option maxRecDepth 100000 in
theorem pst_eql (s r g : Int) (k q : Bool) (w : World) : (binOp .eql 57 (.agg #[.int .u8 s, .int .i64 r, .bool k, .int .i64 g, .bool q]) (.agg #[.int .u8 s, .int .i64 r, .bool k, .int .i64 g, .bool q])).run Try.prog w = .ok (.bool true) w := by
  have u3 := Try.underlying3
  have a3 := Try.isAgg3
  have z3 := Try.sizeOf3
  have u5 := Try.underlying5
  have a5 := Try.isAgg5
  have z5 := Try.sizeOf5
  have u4 := Try.underlying4
  have a4 := Try.isAgg4
  have z4 := Try.sizeOf4
  have aA := Try.isAgg30
  have zA := Try.sizeOf30
  have hS : Try.prog.underlying 57 = some (.struct (Try.prog.fieldsOf 57)) := by kernel_rfl
  have hp : Try.prog.stoodInHeld 57 = false := by kernel_rfl
  rw [run_eql_struct, show (10000 : Nat) = 9998 + 1 + 1 from rfl, run_equalIn_agg w (9998 + 1) 57 _ _ hS hp]
  clear hS hp
  simp only [Program.fieldsOf, Try.underlying57]
  go_simp
theorem pst_guard (op : BinOp) (x y : Operand) (xs ys : Array Value) (w : World) : (eqGuard op 57 x y (.agg xs) (.agg ys)).run Try.prog w = .ok () w := run_eqGuard_agg w op _ x y xs ys (by kernel_rfl)

def gp (l : List (Int × Int)) (i : Nat) : Int × Int := l[i]?.getD (0, 0)
def gb (l : List Int) (i : Nat) : Int := l[i]?.getD 0
/-- In Runs: the case, the state, and nothing of w0 written. -/
def RnK (w0 : World) (bS : Nat) (C S : Array Value) (W : World) : Prop := W.heap[w0.heap.size]? = some (.cells C 28 (0, 0)) ∧ w0.heap.size < bS ∧ W.heap[bS]? = some (.cells S 57 (0, 0)) ∧ Below w0.heap.size w0 W
section
variable {w0 W W' : World} {bS : Nat} {C S : Array Value}
theorem RnK.keep (h : RnK w0 bS C S W) (hb : Below W.heap.size W W') : RnK w0 bS C S W' := ⟨keepO hb h.1, h.2.1, keepO hb h.2.2.1, h.2.2.2.trans (hb.mono h.2.2.2.size)⟩
theorem RnK.setC (h : RnK w0 bS C S W) (i : Nat) (v : Value) : RnK w0 bS (C.setIfInBounds i v) S (W.setCell ⟨w0.heap.size, i, none⟩ v) :=
  ⟨block_setCell h.1, h.2.1, ((Only.refl _ _).setCell i v).keeps h.2.2.1 (by have := h.2.1; omega), h.2.2.2.trans (((Only.refl w0.heap.size W).setCell i v).below (Nat.le_refl _) h.2.2.2.size)⟩
theorem RnK.setS (h : RnK w0 bS C S W) (i : Nat) (v : Value) : RnK w0 bS C (S.setIfInBounds i v) (W.setCell ⟨bS, i, none⟩ v) :=
  ⟨((Only.refl _ _).setCell i v).keeps h.1 (by have := h.2.1; omega), h.2.1, block_setCell h.2.2.1, h.2.2.2.trans (((Only.refl bS W).setCell i v).below (Nat.le_of_lt h.2.1) h.2.2.2.size)⟩
theorem RnK.row (h : RnK w0 bS C S W) {S' : Array Value} (h1 : W'.heap[bS]? = some (.cells S' 57 (0, 0))) (hO : Only bS W W') : RnK w0 bS C S' W' :=
  ⟨hO.keeps h.1 (by have := h.2.1; omega), h.2.1, h1, h.2.2.2.trans (hO.below (Nat.le_of_lt h.2.1) h.2.2.2.size)⟩
theorem RnK.lts (h : RnK w0 bS C S W) : w0.heap.size < W.heap.size ∧ bS < W.heap.size ∧ w0.heap.size < bS := ⟨lt_of_block h.1, lt_of_block h.2.2.1, h.2.1⟩
theorem RnK.freeC (h : RnK w0 bS C S W) (i : Nat) : W.frozen? ⟨w0.heap.size, i, none⟩ = false := free_of_block h.1
theorem RnK.freeS (h : RnK w0 bS C S W) (i : Nat) : W.frozen? ⟨bS, i, none⟩ = false := free_of_block h.2.2.1
end
theorem rd_at {w0 W : World} {a : Option Addr} {n : Nat} {l : List (Int × Int)} (h : MyPair.Rd w0 a n l) (hb : Below w0.heap.size w0 W) {i : Nat} (hi : i < n) : ∃ b off, a = some ⟨b, off, none⟩ ∧ b < w0.heap.size ∧ W.cell? ⟨b, off + i * 2, none⟩ = some (.int .i64 (gp l i).1) ∧ W.cell? ⟨b, off + i * 2 + 1, none⟩ = some (.int .i64 (gp l i).2) := by
  rcases h.cells with h0 | ⟨b, off, e, hc⟩
  · omega
  · exact ⟨b, off, e, World.block_lt_of_cell? w0 _ (hc i hi).1, keep1 hb (hc i hi).1, keep1 hb (hc i hi).2⟩
theorem by_at {w0 W : World} {a : Option Addr} {n : Nat} {l : List Int} (h : MySlice.IntsAt .u8 w0 a n l) (hb : Below w0.heap.size w0 W) {i : Nat} (hi : i < n) : ∃ b off, a = some ⟨b, off, none⟩ ∧ b < w0.heap.size ∧ W.cell? ⟨b, off + i, none⟩ = some (.int .u8 (gb l i)) := by
  rcases h.cells with h0 | ⟨b, off, e, hc⟩
  · omega
  · exact ⟨b, off, e, World.block_lt_of_cell? w0 _ (hc i hi), keep1 hb (hc i hi)⟩

set_option maxRecDepth 100000 in
set_option maxHeartbeats 8000000 in
theorem runs_go (a : Option Addr) (n c : Nat) (s : RulesMath.Set) (z v z' v' t fl k : Int) (al ak : Option Addr) (m mc q qc : Nat) (ps : List (Int × Int)) (ls : List Int) (w : World) (h : Ints w a n s.rs) (hl : MyPair.Rd w al m ps) (hk : MySlice.IntsAt .u8 w ak q ls) (hw : ∀ x ∈ ls, 0 ≤ x ∧ x ≤ 255)
    (hn : n ≤ 20) (hm : m ≤ 40) (hq : m ≤ q) :
    Calls Try.prog 8 #[scnV a n c s z v z' v' t fl k, .slice al m mc, .slice ak q qc] w (BPost true w) := by
  have HL := Lib.hid h
  have HP := Lib.hid hl
  have HB := Lib.hid hk
  have HW := Lib.hid hw
  have hb := h.bound
  have hlong : decide (20 < n) = false := decide_eq_false (by omega)
  have hmB : (m : Int) ≤ 40 := by omega
  have hm40 : decide ((40 : Int) < (m : Int)) = false := decide_eq_false (by omega)
  have hmq : ¬ q < m := by omega
  have hqB : (q : Int) ≤ 9223372036854775807 := by have := hk.bound; omega
  clear h hl hk hw
  unfold scnV
  go_enter Try.func8, Try.ntmps8
  go_wp2_with fail
  have K0 := Lib.hid (show w.alloc (.cells (scnC a n c s z v z' v' t fl k) 28) = w.alloc (.cells (scnC a n c s z v z' v' t fl k) 28) ∧ Below w.heap.size w (w.alloc (.cells (scnC a n c s z v z' v' t fl k) 28)) from ⟨rfl, below_alloc _ _⟩)
  refine (long_call a n c s _ hb).mono ?_; rintro e w1 ⟨rfl, hb1⟩
  rw [hlong]
  have K1 := Lib.hid (show w1.heap[w.heap.size]? = some (.cells (scnC a n c s z v z' v' t fl k) 28 (0, 0)) ∧ Below w.heap.size w w1 from ⟨keepO hb1 (block_new _ _ rfl), K0.out.2.trans (hb1.mono K0.out.2.size)⟩)
  clear hb1 K0
  go_wp2_with fail
  refine (awake_call _).mono ?_; rintro e w2 ⟨rfl, hb2⟩
  have K2 := Lib.hid (show w2.heap[w.heap.size]? = some (.cells (scnC a n c s z v z' v' t fl k) 28 (0, 0)) ∧ Below w.heap.size w w2 from ⟨keepO hb2 K1.out.1, K1.out.2.trans (hb2.mono K1.out.2.size)⟩)
  clear hb2 K1
  go_wp2_with fail
  have K3 := Lib.hid (show RnK w w2.heap.size (scnC a n c s z v z' v' t fl k) (nstC nst0) (w2.alloc (.cells (nstC nst0) 57)) from ⟨block_alloc K2.out.1, lt_of_block K2.out.1, block_new _ _ rfl, K2.out.2.alloc (by have := K2.out.2.size; omega) _⟩)
  clear K2
  generalize hbS : w2.heap.size = bS at *
  clear hbS
  simp only [show nstC nst0 = #[.int .u8 0, .int .i64 0, .bool false, .int .i64 0, .bool false] from rfl] at K3
  generalize w2.alloc (.cells #[.int .u8 0, .int .i64 0, .bool false, .int .i64 0, .bool false] 57) = w3 at *
  go_loopw [8] (fun iv wr => ∃ (i : Nat) (st : NSt) (z v k : Int), i ≤ m ∧ iv = .int .i64 i ∧ 0 ≤ st.a.s ∧ RnK w bS (scnC a n c s z v z' v' t fl k) (nstC st) wr) (fun iv _ => m - (intOf iv).toNat)
  case atStart => exact ⟨0, nst0, z, v, k, Nat.zero_le _, rfl, by decide, K3.out⟩
  case round =>
    clear K3
    obtain ⟨i, st, z1, v1, k1, hi, rfl, hs, hK⟩ := hrel
    have HK := Lib.hid hK
    have HS := Lib.hid hs
    clear hK hs
    by_cases hlt : i < m
    · obtain ⟨b, off, rfl, hbl, x0, x1⟩ := rd_at HP.out HK.out.2.2.2 hlt
      obtain ⟨b2, off2, rfl, hbl2, y0⟩ := by_at HB.out HK.out.2.2.2 (show i < q by omega)
      have hy : 0 ≤ gb ls i ∧ gb ls i ≤ 255 := by
        unfold gb
        have hlen := HB.out.len
        rw [List.getElem?_eq_getElem (by omega)]
        exact HW.out _ (List.getElem_mem _)
      generalize gp ps i = pp at *
      obtain ⟨z2, v2⟩ := pp
      dsimp only at x0 x1
      generalize gb ls i = y at *
      obtain ⟨hy0, hy1⟩ := hy
      have hi0 : (0 : Int) ≤ (i : Int) := by omega
      have hi1 : (i : Int) < (m : Int) := by omega
      have hi2 : (i : Int) < (q : Int) := by omega
      have hiq : i < q := by omega
      have f4 := HK.out.freeC 4
      have f5 := HK.out.freeC 5
      have f10 := HK.out.freeC 10
      obtain ⟨l1, l2, l3⟩ := HK.out.lts
      obtain ⟨-, -, -, -, q4, q5, -, -, -, -, qa⟩ := eleven HK.out.1
      go_upto_region 9 with fail
      have KB := Lib.hid (show RnK w bS (scnC a n c s z2 v2 z' v' t fl (y % 3)) (nstC st) (((wr.setCell ⟨w.heap.size, 4, none⟩ (.int .i64 z2)).setCell ⟨w.heap.size, 5, none⟩ (.int .i64 v2)).setCell ⟨w.heap.size, 10, none⟩ (.int .u8 (y % 3))) from ((HK.out.setC 4 (.int .i64 z2)).setC 5 (.int .i64 v2)).setC 10 (.int .u8 (y % 3)))
      clear q4 q5 qa x0 x1 y0 l1 l2 f4 f5 f10 HK
      generalize ((wr.setCell ⟨w.heap.size, 4, none⟩ (.int .i64 z2)).setCell ⟨w.heap.size, 5, none⟩ (.int .i64 v2)).setCell ⟨w.heap.size, 10, none⟩ (.int .u8 (y % 3)) = wb at *
      obtain ⟨q0, q1, q2, q3, q4, q5, q6, q7, q8, q9, qa⟩ := eleven KB.out.1
      obtain ⟨s0, s1, s2, s3, s4⟩ := five_cells KB.out.2.2.1
      obtain ⟨l1, l2, -⟩ := KB.out.lts
      have hk3 : 0 ≤ y % 3 ∧ y % 3 ≤ 2 := by omega
      generalize y % 3 = k2 at *
      clear hy0 hy1
      go_wp2_with fail
      refine (pNext_call a n c s z2 v2 z' v' t fl k2 st _ (HL.out.below KB.out.2.2.2) HS.out).mono ?_; rintro e w5 ⟨rfl, hb5⟩
      have K5 := Lib.hid (KB.out.keep hb5)
      clear hb5 KB q0 q1 q2 q3 q4 q5 q6 q7 q8 q9 qa s0 s1 s2 s3 s4 l1 l2
      by_cases hE : nxE s z2 v2 z' v' t fl k2 st = 0
      · have hr := nxE_zero hE
        obtain ⟨N, hN, hg, hal, hbd, hkd⟩ := nx_kind hE HS.out
        rw [hN, hE]
        have HG := Lib.hid hg
        have HD := Lib.hid hbd
        have HA := Lib.hid hal
        have hN0 : (N.a.s == 0) = false := by rcases hg with h | h <;> rw [h] <;> rfl
        have HK := Lib.hid hkd
        have HR := Lib.hid hr
        have K6 := Lib.hid (show RnK w bS (scnC a n c s z2 v2 z' v' t fl k2) (nstC st) (w5.alloc (.cells (nstC N) 57)) ∧ (w5.alloc (.cells (nstC N) 57)).heap[w5.heap.size]? = some (.cells (nstC N) 57 (0, 0)) from ⟨K5.out.keep (below_alloc _ _), block_new _ _ rfl⟩)
        clear hE hN hg hal hbd hkd hr K5
        unfold nstV
        go_upto_region 12 with fail
        generalize hbN : w5.heap.size = bN at *
        clear hbN
        simp only [show nstC N = #[.int .u8 N.a.s, .int .i64 N.a.r, .bool N.a.k, .int .i64 N.age, .bool N.rv] from rfl] at K6
        generalize w5.alloc (.cells #[.int .u8 N.a.s, .int .i64 N.a.r, .bool N.a.k, .int .i64 N.age, .bool N.rv] 57) = w6 at *
        obtain ⟨q0, q1, q2, q3, q4, q5, q6, q7, q8, q9, qa⟩ := eleven K6.out.1.1
        obtain ⟨n0, n1, n2, n3, n4⟩ := five_cells K6.out.2
        have l1 := lt_of_block K6.out.1.1
        have l2 := lt_of_block K6.out.2
        go_wp2_with fail
        refine (lallowed_call a n c s z2 v2 z' v' t fl k2 N.a.s _ HG.out).mono ?_; rintro e w7 ⟨rfl, hb7⟩
        rw [HA.out]
        have K7 := Lib.hid (And.intro (K6.out.1.keep hb7) (keepO hb7 K6.out.2))
        clear hb7 K6 q0 q1 q2 q3 q4 q5 q6 q7 q8 q9 qa n0 n1 n2 n3 n4 l1 l2
        obtain ⟨n0, n1, n2, n3, n4⟩ := five_cells K7.out.2
        have l2 := lt_of_block K7.out.2
        go_wp2_with fail
        refine (Bounds_call N.a _ (by rcases HG.out with h | h <;> rw [h] <;> decide)).mono ?_; rintro e w8 ⟨rfl, hb8⟩
        rw [HD.out]
        have K8 := Lib.hid (And.intro (K7.out.1.keep hb8) (keepO hb8 K7.out.2))
        clear hb8 K7 n0 n1 n2 n3 n4 l2
        go_upto_region 17 with fail
        obtain ⟨q0, q1, q2, q3, q4, q5, q6, q7, q8, q9, qa⟩ := eleven K8.out.1.1
        obtain ⟨n0, n1, n2, n3, n4⟩ := five_cells K8.out.2
        obtain ⟨s0, s1, s2, s3, s4⟩ := five_cells K8.out.1.2.2.1
        have l1 := lt_of_block K8.out.1.1
        have l2 := lt_of_block K8.out.1.2.2.1
        have l4 := lt_of_block K8.out.2
        have ng := adv_neq
        have eq := adv_eql
        have gd := adv_guard
        rcases HK.out with ⟨h, h1⟩ | ⟨h, h1, h2, h3, h4⟩ | ⟨h, h1⟩ | ⟨h, h1, h2, h3, h4, h5⟩
        · have d1 : (st.a.s != 0) = false := by simpa using h
          have d2 : (st.a.s == N.a.s) = false := by rw [h]; rcases HG.out with e | e <;> rw [e] <;> rfl
          have d3 : (N.age != 0) = false := by simpa using h1
          have d4 : advB N.a st.a = false := advB_false (fun e => by rw [← e] at h; rcases HG.out with e | e <;> rw [e] at h <;> cases h)
          clear h h1
          go_upto_region 24 with fail
          go_wp2_with (refine wpList_store_new rfl 57 (.tmp 7) (.tmp 179) rfl bS #[.int .u8 N.a.s, .int .i64 N.a.r, .bool N.a.k, .int .i64 N.age, .bool N.rv] rfl rfl 57 _ K8.out.1.2.2.1 (by kernel_rfl) rfl (by simp [Value.oneCell']) ?_; intro w9 H9)
          refine ⟨⟨i + 1, N, z2, v2, k2, ?_, ?_, ?_, ?_⟩, ?_⟩
          · omega
          · go_num
          · rcases HG.out with h | h <;> rw [h] <;> decide
          · exact K8.out.1.row H9.out.1 H9.out.2
          · simp [intOf]
            omega
        · have d1 : (st.a.s != 0) = true := bne_iff_ne.2 h
          have d2 : (st.a.s != N.a.s) = true := bne_iff_ne.2 (Ne.symm h1)
          have d3 : (st.a.s == N.a.s) = false := by simpa using Ne.symm h1
          have d4 : (N.age != 0) = false := by simpa using h4
          have d5 : advB N.a st.a = false := advB_false (fun e => h1 (by rw [e]))
          have H2 := Lib.hid h2
          rw [h2] at n4
          clear h2
          cases hr : st.rv with
          | false =>
            clear h h1 h3 h4
            go_upto_region 24 with fail
            go_wp2_with (refine wpList_store_new rfl 57 (.tmp 7) (.tmp 179) rfl bS #[.int .u8 N.a.s, .int .i64 N.a.r, .bool N.a.k, .int .i64 N.age, .bool true] rfl rfl 57 _ K8.out.1.2.2.1 (by kernel_rfl) rfl (by simp [Value.oneCell']) ?_; intro w9 H9)
            refine ⟨⟨i + 1, N, z2, v2, k2, ?_, ?_, ?_, ?_⟩, ?_⟩
            · omega
            · go_num
            · rcases HG.out with h | h <;> rw [h] <;> decide
            · have e9 : nstC N = #[.int .u8 N.a.s, .int .i64 N.a.r, .bool N.a.k, .int .i64 N.age, .bool true] := by unfold nstC; rw [H2.out]
              rw [e9]
              exact K8.out.1.row H9.out.1 H9.out.2
            · simp [intOf]
              omega
          | true =>
            have hw := h3.resolve_left (by rw [hr]; decide)
            have HZ := Lib.hid hw
            have hg : st.a.s = 1 ∨ st.a.s = 2 := by have := bnd_s HR.out.2.1; have := HS.out; omega
            have HG2 := Lib.hid hg
            clear h h1 h3 h4 hw hg
            go_wp2_with fail
            refine (lallowed_call a n c s z2 v2 z' v' t fl k2 st.a.s _ HG2.out).mono ?_; rintro e w9 ⟨rfl, hb9⟩
            rw [HZ.out]
            have K9 := Lib.hid (And.intro (K8.out.1.keep hb9) (keepO hb9 K8.out.2))
            clear hb9 q0 q1 q2 q3 q4 q5 q6 q7 q8 q9 qa n0 n1 n2 n3 n4 s0 s1 s2 s3 s4 l1 l2 l4 K8
            obtain ⟨n0, n1, n2, n3, n4⟩ := five_cells K9.out.2
            obtain ⟨s0, s1, s2, s3, s4⟩ := five_cells K9.out.1.2.2.1
            have l1 := lt_of_block K9.out.1.1
            have l2 := lt_of_block K9.out.1.2.2.1
            rw [H2.out] at n4
            have l4 := lt_of_block K9.out.2
            go_upto_region 24 with fail
            go_wp2_with (refine wpList_store_new rfl 57 (.tmp 7) (.tmp 179) rfl bS #[.int .u8 N.a.s, .int .i64 N.a.r, .bool N.a.k, .int .i64 N.age, .bool true] rfl rfl 57 _ K9.out.1.2.2.1 (by kernel_rfl) rfl (by simp [Value.oneCell']) ?_; intro w10 H9)
            refine ⟨⟨i + 1, N, z2, v2, k2, ?_, ?_, ?_, ?_⟩, ?_⟩
            · omega
            · go_num
            · rcases HG.out with h | h <;> rw [h] <;> decide
            · have e9 : nstC N = #[.int .u8 N.a.s, .int .i64 N.a.r, .bool N.a.k, .int .i64 N.age, .bool true] := by unfold nstC; rw [H2.out]
              rw [e9]
              exact K9.out.1.row H9.out.1 H9.out.2
            · simp [intOf]
              omega
        · have d1 : (st.a.s != 0) = true := bne_iff_ne.2 h
          have d2 : (st.a.s != st.a.s) = false := by simp
          have d3 : (st.a.s == st.a.s) = true := by simp
          have d5 : decide (st.a.r < st.a.r) = false := decide_eq_false (by omega)
          have d6 : advB st.a st.a = true := PilotMath.advB_self st.a
          have hr1 := HR.out.2.2.1
          have hr2 := HR.out.2.2.2.1
          have H1 := Lib.hid h1
          rw [h1] at n0 n1 n2 n3 n4
          dsimp only at n0 n1 n2 n3 n4
          clear h h1
          have hmm : st.age + 1 ≤ 1000 ∨ st.age = 1000 := by omega
          rcases hmm with hm1 | hm1
          · have hm2 : min (st.age + 1) 1000 = st.age + 1 := by omega
            rw [hm2] at n3
            have hm3 : (st.age + 1 != st.age + 1) = false := by simp
            have hm4 : decide (1000 < st.age + 1) = false := decide_eq_false (by omega)
            have HM := Lib.hid hm2
            clear hm2
            go_upto_region 24 with fail
            go_wp2_with (refine wpList_store_new rfl 57 (.tmp 7) (.tmp 179) rfl bS #[.int .u8 st.a.s, .int .i64 st.a.r, .bool st.a.k, .int .i64 (st.age + 1), .bool st.rv] rfl rfl 57 _ K8.out.1.2.2.1 (by kernel_rfl) rfl (by simp [Value.oneCell']) ?_; intro w9 H9)
            refine ⟨⟨i + 1, N, z2, v2, k2, ?_, ?_, ?_, ?_⟩, ?_⟩
            · omega
            · go_num
            · rcases HG.out with h | h <;> rw [h] <;> decide
            · have e9 : nstC N = #[.int .u8 st.a.s, .int .i64 st.a.r, .bool st.a.k, .int .i64 (st.age + 1), .bool st.rv] := by rw [H1.out]; unfold nstC; dsimp only; rw [HM.out]
              rw [e9]
              exact K8.out.1.row H9.out.1 H9.out.2
            · simp [intOf]
              omega
          · have hm2 : min (st.age + 1) 1000 = 1000 := by omega
            rw [hm2] at n3
            have HM := Lib.hid hm2
            have HM1 := Lib.hid hm1
            rw [hm1] at s3
            clear hm2 hm1
            go_upto_region 24 with fail
            go_wp2_with (refine wpList_store_new rfl 57 (.tmp 7) (.tmp 179) rfl bS #[.int .u8 st.a.s, .int .i64 st.a.r, .bool st.a.k, .int .i64 (1000), .bool st.rv] rfl rfl 57 _ K8.out.1.2.2.1 (by kernel_rfl) rfl (by simp [Value.oneCell']) ?_; intro w9 H9)
            refine ⟨⟨i + 1, N, z2, v2, k2, ?_, ?_, ?_, ?_⟩, ?_⟩
            · omega
            · go_num
            · rcases HG.out with h | h <;> rw [h] <;> decide
            · have e9 : nstC N = #[.int .u8 st.a.s, .int .i64 st.a.r, .bool st.a.k, .int .i64 (1000), .bool st.rv] := by rw [H1.out]; unfold nstC; dsimp only; rw [HM.out]
              rw [e9]
              exact K8.out.1.row H9.out.1 H9.out.2
            · simp [intOf]
              omega
        · have d1 : (st.a.s != 0) = true := bne_iff_ne.2 h
          have d2 : (st.a.s != N.a.s) = false := by rw [h1]; simp
          have d3 : (st.a.s == N.a.s) = true := by rw [h1]; simp
          have H2 := Lib.hid h2
          rw [h2] at n4
          have d5 : advB N.a st.a = false := advB_false (fun e => h3 (by rw [e]))
          have d6 : (N.age != 0) = false := by simpa using h5
          by_cases hr : N.a.r < st.a.r
          · have d7 : decide (N.a.r < st.a.r) = true := decide_eq_true hr
            have d8 : decide (st.age + 1 < 5) = false := decide_eq_false (h4 hr)
            have hr1 := HR.out.2.2.1
            have hr2 := HR.out.2.2.2.1
            clear h h1 h2 h3 h4 h5 hr
            go_upto_region 24 with fail
            go_wp2_with (refine wpList_store_new rfl 57 (.tmp 7) (.tmp 179) rfl bS #[.int .u8 N.a.s, .int .i64 N.a.r, .bool N.a.k, .int .i64 N.age, .bool st.rv] rfl rfl 57 _ K8.out.1.2.2.1 (by kernel_rfl) rfl (by simp [Value.oneCell']) ?_; intro w9 H9)
            refine ⟨⟨i + 1, N, z2, v2, k2, ?_, ?_, ?_, ?_⟩, ?_⟩
            · omega
            · go_num
            · rcases HG.out with h | h <;> rw [h] <;> decide
            · have e9 : nstC N = #[.int .u8 N.a.s, .int .i64 N.a.r, .bool N.a.k, .int .i64 N.age, .bool st.rv] := by unfold nstC; rw [H2.out]
              rw [e9]
              exact K8.out.1.row H9.out.1 H9.out.2
            · simp [intOf]
              omega
          · have d7 : decide (N.a.r < st.a.r) = false := decide_eq_false hr
            clear h h1 h2 h3 h4 h5 hr
            go_upto_region 24 with fail
            go_wp2_with (refine wpList_store_new rfl 57 (.tmp 7) (.tmp 179) rfl bS #[.int .u8 N.a.s, .int .i64 N.a.r, .bool N.a.k, .int .i64 N.age, .bool st.rv] rfl rfl 57 _ K8.out.1.2.2.1 (by kernel_rfl) rfl (by simp [Value.oneCell']) ?_; intro w9 H9)
            refine ⟨⟨i + 1, N, z2, v2, k2, ?_, ?_, ?_, ?_⟩, ?_⟩
            · omega
            · go_num
            · rcases HG.out with h | h <;> rw [h] <;> decide
            · have e9 : nstC N = #[.int .u8 N.a.s, .int .i64 N.a.r, .bool N.a.k, .int .i64 N.age, .bool st.rv] := by unfold nstC; rw [H2.out]
              rw [e9]
              exact K8.out.1.row H9.out.1 H9.out.2
            · simp [intOf]
              omega
      · rw [nx_err hE]
        have hE0 : (nxE s z2 v2 z' v' t fl k2 st != 0) = true := bne_iff_ne.2 hE
        generalize nxE s z2 v2 z' v' t fl k2 st = E at *
        have ng := pst_eql
        have gd := pst_guard
        have K6 := Lib.hid (show RnK w bS (scnC a n c s z2 v2 z' v' t fl k2) (nstC st) (w5.alloc (.cells (nstC nst0) 57)) ∧ (w5.alloc (.cells (nstC nst0) 57)).heap[w5.heap.size]? = some (.cells (nstC nst0) 57 (0, 0)) from ⟨K5.out.keep (below_alloc _ _), block_new _ _ rfl⟩)
        clear hE K5
        unfold nstV nst0 adv0
        go_wp2_with fail
        go_ret
        exact ⟨rfl, K6.out.1.2.2.2⟩
    · obtain rfl : i = m := by omega
      have HK2 := Lib.hid HK.out.2.2.2
      clear HK
      go_wp2_with fail
      go_ret
      exact ⟨rfl, HK2.out⟩

set_option maxRecDepth 100000 in
set_option maxHeartbeats 4000000 in
theorem runs_long (a : Option Addr) (n c : Nat) (s : RulesMath.Set) (z v z' v' t fl k : Int) (al ak : Option Addr) (m mc q qc : Nat) (w : World) (hb : n ≤ 9223372036854775807) (hmB : m ≤ 9223372036854775807) (hqB : q ≤ 9223372036854775807)
    (b1 b2 b3 : Bool) (h1 : decide (20 < n) = b1) (h2 : decide ((40 : Int) < (m : Int)) = b2) (h3 : decide (q < m) = b3) (hor : b1 = true ∨ b1 = false ∧ b2 = true ∨ b1 = false ∧ b2 = false ∧ b3 = true) :
    Calls Try.prog 8 #[scnV a n c s z v z' v' t fl k, .slice al m mc, .slice ak q qc] w (BPost true w) := by
  have hm0 : (m : Int) ≤ 9223372036854775807 := by omega
  have hq0 : (q : Int) ≤ 9223372036854775807 := by omega
  unfold scnV
  rcases hor with rfl | ⟨rfl, rfl⟩ | ⟨rfl, rfl, rfl⟩
  all_goals
    go_enter Try.func8, Try.ntmps8
    go_wp2_with fail
    have hB := below_alloc w (.cells (scnC a n c s z v z' v' t fl k) 28)
    refine (long_call a n c s _ hb).mono ?_; rintro e w1 ⟨rfl, hb1⟩
    rw [h1]
    have H1 := Lib.hid (hB.trans (hb1.mono hB.size))
    clear hB hb1
    go_wp2_with fail
    refine (awake_call _).mono ?_; rintro e w2 ⟨rfl, hb2⟩
    have H2 := Lib.hid (H1.out.trans (hb2.mono H1.out.size))
    clear hb2 H1
    go_wp2_with fail
    go_ret
    exact ⟨rfl, H2.out⟩
theorem rulesRuns_call (a : Option Addr) (n c : Nat) (s : RulesMath.Set) (z v z' v' t fl k : Int) (al ak : Option Addr) (m mc q qc : Nat) (ps : List (Int × Int)) (ls : List Int) (w : World) (h : Ints w a n s.rs) (hl : MyPair.Rd w al m ps) (hk : MySlice.IntsAt .u8 w ak q ls) (hw : ∀ x ∈ ls, 0 ≤ x ∧ x ≤ 255) :
    Calls Try.prog 8 #[scnV a n c s z v z' v' t fl k, .slice al m mc, .slice ak q qc] w (BPost true w) := by
  have hmB : m ≤ 9223372036854775807 := by have := hl.bound; unfold maxLen at this; omega
  by_cases hn : n ≤ 20
  · by_cases hm : m ≤ 40
    · by_cases hq : m ≤ q
      · exact runs_go a n c s z v z' v' t fl k al ak m mc q qc ps ls w h hl hk hw hn hm hq
      · exact runs_long a n c s z v z' v' t fl k al ak m mc q qc w h.bound hmB hk.bound false false true (decide_eq_false (by omega)) (decide_eq_false (by omega)) (decide_eq_true (by omega)) (Or.inr (Or.inr ⟨rfl, rfl, rfl⟩))
    · exact runs_long a n c s z v z' v' t fl k al ak m mc q qc w h.bound hmB hk.bound false true _ (decide_eq_false (by omega)) (decide_eq_true (by omega)) rfl (Or.inr (Or.inl ⟨rfl, rfl⟩))
  · exact runs_long a n c s z v z' v' t fl k al ak m mc q qc w h.bound hmB hk.bound true _ _ (decide_eq_true (by omega)) rfl rfl (Or.inl rfl)
end Go.Proofs.Ytfgalaalopkclaa
