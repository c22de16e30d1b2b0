/-
  Layer 37 (pilot): Check and New, the program's and the reference's, walked. Printed by genPilotD.py.
-/
import Derived.Test.YtjidpkcoaoflbaaAdvLib
import Derived.Test.YtjidpkcoaoflbaaEightLib
namespace Go.Proofs.Ytjidpkcoaoflbaa
open Go.RowKit PilotMath MyHeap

def PlPost (d pl ms : Int) (w : World) (e : Ending) (w' : World) : Prop := e = .returned (.int .i64 (plE d pl ms)) ∧ Below w.heap.size w w'

set_option maxHeartbeats 2000000 in
theorem pChk0 (d pl ms : Int) (w : World) (h0 : d < 0) : Calls Try.prog 23 #[.agg #[.int .i64 d, .int .i64 pl, .int .i64 ms]] w (PlPost d pl ms w) := by
  have HE := Lib.hid (plE_no (d := d) (pl := pl) (ms := ms) (by omega))
  go_enter Try.func23, Try.ntmps23
  go_wp2
  go_ret
  exact ⟨by rw [HE.out]; rfl, by go_grown⟩
set_option maxHeartbeats 2000000 in
theorem pChk1 (d pl ms : Int) (w : World) (h0 : ¬ d < 0) (h1 : 16 < d) : Calls Try.prog 23 #[.agg #[.int .i64 d, .int .i64 pl, .int .i64 ms]] w (PlPost d pl ms w) := by
  have HE := Lib.hid (plE_no (d := d) (pl := pl) (ms := ms) (by omega))
  go_enter Try.func23, Try.ntmps23
  go_wp2
  go_ret
  exact ⟨by rw [HE.out]; rfl, by go_grown⟩
set_option maxHeartbeats 2000000 in
theorem pChk2 (d pl ms : Int) (w : World) (h0 : ¬ d < 0) (h1 : ¬ 16 < d) (h2 : pl < 1) : Calls Try.prog 23 #[.agg #[.int .i64 d, .int .i64 pl, .int .i64 ms]] w (PlPost d pl ms w) := by
  have HE := Lib.hid (plE_no (d := d) (pl := pl) (ms := ms) (by omega))
  go_enter Try.func23, Try.ntmps23
  go_wp2
  go_ret
  exact ⟨by rw [HE.out]; rfl, by go_grown⟩
set_option maxHeartbeats 2000000 in
theorem pChk3 (d pl ms : Int) (w : World) (h0 : ¬ d < 0) (h1 : ¬ 16 < d) (h2 : ¬ pl < 1) (h3 : 32 < pl) : Calls Try.prog 23 #[.agg #[.int .i64 d, .int .i64 pl, .int .i64 ms]] w (PlPost d pl ms w) := by
  have HE := Lib.hid (plE_no (d := d) (pl := pl) (ms := ms) (by omega))
  go_enter Try.func23, Try.ntmps23
  go_wp2
  go_ret
  exact ⟨by rw [HE.out]; rfl, by go_grown⟩
set_option maxHeartbeats 2000000 in
theorem pChk4 (d pl ms : Int) (w : World) (h0 : ¬ d < 0) (h1 : ¬ 16 < d) (h2 : ¬ pl < 1) (h3 : ¬ 32 < pl) (h4 : ms < 0) : Calls Try.prog 23 #[.agg #[.int .i64 d, .int .i64 pl, .int .i64 ms]] w (PlPost d pl ms w) := by
  have HE := Lib.hid (plE_no (d := d) (pl := pl) (ms := ms) (by omega))
  go_enter Try.func23, Try.ntmps23
  go_wp2
  go_ret
  exact ⟨by rw [HE.out]; rfl, by go_grown⟩
set_option maxHeartbeats 2000000 in
theorem pChk5 (d pl ms : Int) (w : World) (h0 : ¬ d < 0) (h1 : ¬ 16 < d) (h2 : ¬ pl < 1) (h3 : ¬ 32 < pl) (h4 : ¬ ms < 0) (h5 : 100 < ms) : Calls Try.prog 23 #[.agg #[.int .i64 d, .int .i64 pl, .int .i64 ms]] w (PlPost d pl ms w) := by
  have HE := Lib.hid (plE_no (d := d) (pl := pl) (ms := ms) (by omega))
  go_enter Try.func23, Try.ntmps23
  go_wp2
  go_ret
  exact ⟨by rw [HE.out]; rfl, by go_grown⟩
set_option maxHeartbeats 2000000 in
theorem pChk6 (d pl ms : Int) (w : World) (h0 : ¬ d < 0) (h1 : ¬ 16 < d) (h2 : ¬ pl < 1) (h3 : ¬ 32 < pl) (h4 : ¬ ms < 0) (h5 : ¬ 100 < ms) : Calls Try.prog 23 #[.agg #[.int .i64 d, .int .i64 pl, .int .i64 ms]] w (PlPost d pl ms w) := by
  have HE := Lib.hid (plE_yes (d := d) (pl := pl) (ms := ms) (by omega))
  go_enter Try.func23, Try.ntmps23
  go_wp2
  go_ret
  exact ⟨by rw [HE.out]; rfl, by go_grown⟩
theorem pCheckP (d pl ms : Int) (w : World) : Calls Try.prog 23 #[.agg #[.int .i64 d, .int .i64 pl, .int .i64 ms]] w (PlPost d pl ms w) := by
  by_cases h0 : d < 0
  · exact pChk0 d pl ms w h0
  by_cases h1 : 16 < d
  · exact pChk1 d pl ms w h0 h1
  by_cases h2 : pl < 1
  · exact pChk2 d pl ms w h0 h1 h2
  by_cases h3 : 32 < pl
  · exact pChk3 d pl ms w h0 h1 h2 h3
  by_cases h4 : ms < 0
  · exact pChk4 d pl ms w h0 h1 h2 h3 h4
  by_cases h5 : 100 < ms
  · exact pChk5 d pl ms w h0 h1 h2 h3 h4 h5
  exact pChk6 d pl ms w h0 h1 h2 h3 h4 h5
set_option maxHeartbeats 2000000 in
theorem rChk0 (d pl ms : Int) (w : World) (h0 : d < 0) : Calls Try.prog 24 #[.agg #[.int .i64 d, .int .i64 pl, .int .i64 ms]] w (PlPost d pl ms w) := by
  have HE := Lib.hid (plE_no (d := d) (pl := pl) (ms := ms) (by omega))
  go_enter Try.func24, Try.ntmps24
  go_wp2
  go_ret
  exact ⟨by rw [HE.out]; rfl, by go_grown⟩
set_option maxHeartbeats 2000000 in
theorem rChk1 (d pl ms : Int) (w : World) (h0 : ¬ d < 0) (h1 : 16 < d) : Calls Try.prog 24 #[.agg #[.int .i64 d, .int .i64 pl, .int .i64 ms]] w (PlPost d pl ms w) := by
  have HE := Lib.hid (plE_no (d := d) (pl := pl) (ms := ms) (by omega))
  go_enter Try.func24, Try.ntmps24
  go_wp2
  go_ret
  exact ⟨by rw [HE.out]; rfl, by go_grown⟩
set_option maxHeartbeats 2000000 in
theorem rChk2 (d pl ms : Int) (w : World) (h0 : ¬ d < 0) (h1 : ¬ 16 < d) (h2 : pl < 1) : Calls Try.prog 24 #[.agg #[.int .i64 d, .int .i64 pl, .int .i64 ms]] w (PlPost d pl ms w) := by
  have HE := Lib.hid (plE_no (d := d) (pl := pl) (ms := ms) (by omega))
  go_enter Try.func24, Try.ntmps24
  go_wp2
  go_ret
  exact ⟨by rw [HE.out]; rfl, by go_grown⟩
set_option maxHeartbeats 2000000 in
theorem rChk3 (d pl ms : Int) (w : World) (h0 : ¬ d < 0) (h1 : ¬ 16 < d) (h2 : ¬ pl < 1) (h3 : 32 < pl) : Calls Try.prog 24 #[.agg #[.int .i64 d, .int .i64 pl, .int .i64 ms]] w (PlPost d pl ms w) := by
  have HE := Lib.hid (plE_no (d := d) (pl := pl) (ms := ms) (by omega))
  go_enter Try.func24, Try.ntmps24
  go_wp2
  go_ret
  exact ⟨by rw [HE.out]; rfl, by go_grown⟩
set_option maxHeartbeats 2000000 in
theorem rChk4 (d pl ms : Int) (w : World) (h0 : ¬ d < 0) (h1 : ¬ 16 < d) (h2 : ¬ pl < 1) (h3 : ¬ 32 < pl) (h4 : ms < 0) : Calls Try.prog 24 #[.agg #[.int .i64 d, .int .i64 pl, .int .i64 ms]] w (PlPost d pl ms w) := by
  have HE := Lib.hid (plE_no (d := d) (pl := pl) (ms := ms) (by omega))
  go_enter Try.func24, Try.ntmps24
  go_wp2
  go_ret
  exact ⟨by rw [HE.out]; rfl, by go_grown⟩
set_option maxHeartbeats 2000000 in
theorem rChk5 (d pl ms : Int) (w : World) (h0 : ¬ d < 0) (h1 : ¬ 16 < d) (h2 : ¬ pl < 1) (h3 : ¬ 32 < pl) (h4 : ¬ ms < 0) (h5 : 100 < ms) : Calls Try.prog 24 #[.agg #[.int .i64 d, .int .i64 pl, .int .i64 ms]] w (PlPost d pl ms w) := by
  have HE := Lib.hid (plE_no (d := d) (pl := pl) (ms := ms) (by omega))
  go_enter Try.func24, Try.ntmps24
  go_wp2
  go_ret
  exact ⟨by rw [HE.out]; rfl, by go_grown⟩
set_option maxHeartbeats 2000000 in
theorem rChk6 (d pl ms : Int) (w : World) (h0 : ¬ d < 0) (h1 : ¬ 16 < d) (h2 : ¬ pl < 1) (h3 : ¬ 32 < pl) (h4 : ¬ ms < 0) (h5 : ¬ 100 < ms) : Calls Try.prog 24 #[.agg #[.int .i64 d, .int .i64 pl, .int .i64 ms]] w (PlPost d pl ms w) := by
  have HE := Lib.hid (plE_yes (d := d) (pl := pl) (ms := ms) (by omega))
  go_enter Try.func24, Try.ntmps24
  go_wp2
  go_ret
  exact ⟨by rw [HE.out]; rfl, by go_grown⟩
theorem rCheckP (d pl ms : Int) (w : World) : Calls Try.prog 24 #[.agg #[.int .i64 d, .int .i64 pl, .int .i64 ms]] w (PlPost d pl ms w) := by
  by_cases h0 : d < 0
  · exact rChk0 d pl ms w h0
  by_cases h1 : 16 < d
  · exact rChk1 d pl ms w h0 h1
  by_cases h2 : pl < 1
  · exact rChk2 d pl ms w h0 h1 h2
  by_cases h3 : 32 < pl
  · exact rChk3 d pl ms w h0 h1 h2 h3
  by_cases h4 : ms < 0
  · exact rChk4 d pl ms w h0 h1 h2 h3 h4
  by_cases h5 : 100 < ms
  · exact rChk5 d pl ms w h0 h1 h2 h3 h4 h5
  exact rChk6 d pl ms w h0 h1 h2 h3 h4 h5

theorem infoAdv : (Try.prog.info? 36).map (fun i => (i.zero, i.size, i.bytes)) = some (some (.agg #[.int .u8 0, .int .i64 0, .bool false]), 3, 24) := by kernel_rfl
theorem hmk3 (n : Nat) (hn : n ≤ 1000) (W : World) : (Instr.makeSlice 26 (.int .i64 (n : Int)) (.int .i64 (n : Int))).run Try.prog W = .ok (.slice (some ⟨W.heap.size, 0, none⟩) n n) (W.alloc (.cells (madeCells #[.int .u8 0, .int .i64 0, .bool false] (n * 3)) 36)) := by
  obtain ⟨i0, hi, hiz, his, hib⟩ := info_parts infoAdv
  have h := run_make W 26 36 i0 _ Try.underlying26 hi hiz .i64 .i64 (n : Int) (n : Int) (by omega) (by omega) (by rw [hib]; omega) (by omega)
  rw [Int.toNat_natCast, his] at h
  exact h
theorem made3 (n : Nat) : (madeCells #[.int .u8 0, .int .i64 0, .bool false] (n * 3)).toList = flat3 (List.replicate n adv0) := by
  apply List.ext_getElem?
  intro i
  by_cases hi : i < n * 3
  · obtain ⟨g0, g1, g2⟩ := flat3_get (List.replicate n adv0) (i / 3) (by simp; omega)
    have hg : ga (List.replicate n adv0) (i / 3) = adv0 := by unfold ga; rw [List.getElem?_replicate]; split <;> rfl
    rw [hg] at g0 g1 g2
    rcases (show i = i / 3 * 3 ∨ i = i / 3 * 3 + 1 ∨ i = i / 3 * 3 + 2 by omega) with e | e | e
    · have em : i % 3 = 0 := by omega
      rw [e, g0, ← e]; simp [madeCells, hi, em, adv0]
    · have em : i % 3 = 1 := by omega
      rw [e, g1, ← e]; simp [madeCells, hi, em, adv0]
    · have em : i % 3 = 2 := by omega
      rw [e, g2, ← e]; simp [madeCells, hi, em, adv0]
  · rw [List.getElem?_eq_none (by simp [madeCells]; omega), List.getElem?_eq_none (by rw [flat3_length]; simp; omega)]

/-- What New leaves. -/
def NewPost (d pl ms : Int) (w : World) (e : Ending) (w' : World) : Prop :=
  ∃ a c q, e = .returned (.tuple #[stV (.slice a q.length c) ⟨q, adv0, adv0, 0⟩, .int .i64 (plE d pl ms)]) ∧ (plE d pl ms = 0 → q = List.replicate d.toNat adv0) ∧ (plE d pl ms ≠ 0 → q = []) ∧ QNew w' w.heap.size a c q ∧ Below w.heap.size w w'
theorem newPost_err {d pl ms E : Int} {w w' : World} (h : plE d pl ms = E) (hE : E ≠ 0) (hB : Below w.heap.size w w') : NewPost d pl ms w (.returned (.tuple #[.agg #[.slice none 0 0, .int .u8 0, .int .i64 0, .bool false, .int .u8 0, .int .i64 0, .bool false, .int .i64 0], .int .i64 E])) w' :=
  ⟨none, 0, [], by rw [h]; rfl, fun e => absurd (h.symm.trans e) hE, fun _ => rfl, qNew_nil _ _, hB⟩
theorem newPost_ok {d : Nat} {pl ms : Int} {b : Nat} {w w' : World} (h : plE d pl ms = 0) (hb : w'.heap[b]? = some (.cells (madeCells #[.int .u8 0, .int .i64 0, .bool false] (d * 3)) 36 (0, 0))) (hm : d ≤ 1000) (hbb : w.heap.size ≤ b) (hB : Below w.heap.size w w') : NewPost d pl ms w (.returned (.tuple #[.agg #[.slice (some ⟨b, 0, none⟩) d d, .int .u8 0, .int .i64 0, .bool false, .int .u8 0, .int .i64 0, .bool false, .int .i64 0], .int .i64 0])) w' := by
  have hq := qNew_block hb (made3 d) (by simp; omega) hbb
  refine ⟨some ⟨b, 0, none⟩, d, List.replicate d adv0, ?_, fun _ => by simp, fun e => absurd h e, by simpa using hq, hB⟩
  rw [h, List.length_replicate]; rfl

set_option maxHeartbeats 4000000 in
theorem pNew (d pl ms : Int) (w : World) : Calls Try.prog 14 #[.agg #[.int .i64 d, .int .i64 pl, .int .i64 ms]] w (NewPost d pl ms w) := by
  by_cases h : plE d pl ms = 0
  · obtain ⟨h0, h1, _, _, _, _⟩ := plE_ok h
    obtain ⟨n, rfl⟩ : ∃ n : Nat, d = (n : Int) := ⟨d.toNat, by omega⟩
    have HE := Lib.hid h
    have mk := hmk3 n (by omega)
    clear h
    go_enter Try.func14, Try.ntmps14
    go_wp2_with fail
    refine (pCheckP _ _ _ _).mono ?_; rintro e w1 ⟨rfl, hb1⟩
    rw [HE.out]
    have kr := keepO hb1 (block_new (w.alloc (.cells #[.int .i64 (n : Int), .int .i64 pl, .int .i64 ms] 23)) (.cells #[.slice none 0 0, .int .u8 0, .int .i64 0, .bool false, .int .u8 0, .int .i64 0, .bool false, .int .i64 0] 38) (n := w.heap.size + 1) (by simp))
    have kp := keepO hb1 (block_alloc (block_new w (.cells #[.int .i64 (n : Int), .int .i64 pl, .int .i64 ms] 23) rfl))
    have hB : Below w.heap.size w w1 := (((Below.refl _ w).alloc (Nat.le_refl _) _).alloc (by simp) _).trans (hb1.mono (by simp; omega))
    have hz := hB.size
    have hzr := lt_of_block kr
    obtain ⟨p0, p1, p2⟩ := three_old kp
    have KR := Lib.hid (And.intro kr hB)
    clear kr kp hb1 hB
    go_wp2_with (refine wpList_store_row rfl 38 (.tmp 2) (.tmp 14) rfl (w.heap.size + 1) #[.slice (some ⟨w1.heap.size, 0, none⟩) n n, .int .u8 0, .int .i64 0, .bool false, .int .u8 0, .int .i64 0, .bool false, .int .i64 0] rfl rfl 38 _ (block_alloc KR.out.1) (by kernel_rfl) rfl (by simp [Value.oneCell']) ?_)
    have kb := (block_new w1 (.cells (madeCells #[.int .u8 0, .int .i64 0, .bool false] (n * 3)) 36) rfl)
    refine bodyPost_ret (v := .tuple #[.agg #[.slice (some ⟨w1.heap.size, 0, none⟩) n n, .int .u8 0, .int .i64 0, .bool false, .int .u8 0, .int .i64 0, .bool false, .int .i64 0], .int .i64 0]) ?_ rfl (newPost_ok HE.out ((setRow_other _ (w.heap.size + 1) w1.heap.size _ (by omega)).trans kb) (by omega) hz (below_setRow (KR.out.2.alloc hz _) (by omega) _))
    obtain ⟨r0, r1, r2, r3, r4, r5, r6, r7⟩ := eight_cells (setRow_heap _ _ _ #[.slice (some ⟨w1.heap.size, 0, none⟩) n n, .int .u8 0, .int .i64 0, .bool false, .int .u8 0, .int .i64 0, .bool false, .int .i64 0] _ _ (block_alloc (o' := .cells (madeCells #[.int .u8 0, .int .i64 0, .bool false] (n * 3)) 36) KR.out.1))
    simp [results, Try.f14, go_sem, r0, r1, r2, r3, r4, r5, r6, r7]
  · have HE := Lib.hid h
    have hn : (plE d pl ms != 0) = true := by simp [h]
    clear h
    go_enter Try.func14, Try.ntmps14
    go_wp2_with fail
    refine (pCheckP _ _ _ _).mono ?_; rintro e w1 ⟨rfl, hb1⟩
    have kr := keepO hb1 (block_new (w.alloc (.cells #[.int .i64 d, .int .i64 pl, .int .i64 ms] 23)) (.cells #[.slice none 0 0, .int .u8 0, .int .i64 0, .bool false, .int .u8 0, .int .i64 0, .bool false, .int .i64 0] 38) (n := w.heap.size + 1) (by simp))
    have hB : Below w.heap.size w w1 := (((Below.refl _ w).alloc (Nat.le_refl _) _).alloc (by simp) _).trans (hb1.mono (by simp; omega))
    have KR := Lib.hid (And.intro kr hB)
    clear kr hb1 hB
    go_wp2_with (refine wpList_store_row rfl 38 (.tmp 2) (.tmp 9) rfl (w.heap.size + 1) #[.slice none 0 0, .int .u8 0, .int .i64 0, .bool false, .int .u8 0, .int .i64 0, .bool false, .int .i64 0] rfl rfl 38 _ KR.out.1 (by kernel_rfl) rfl (by simp [Value.oneCell']) ?_)
    refine bodyPost_ret (v := .tuple #[.agg #[.slice none 0 0, .int .u8 0, .int .i64 0, .bool false, .int .u8 0, .int .i64 0, .bool false, .int .i64 0], .int .i64 (plE d pl ms)]) ?_ rfl (newPost_err rfl HE.out (below_setRow (g := w.heap.size + 1) KR.out.2 (by omega) _))
    obtain ⟨r0, r1, r2, r3, r4, r5, r6, r7⟩ := eight_cells (setRow_heap _ _ _ #[.slice none 0 0, .int .u8 0, .int .i64 0, .bool false, .int .u8 0, .int .i64 0, .bool false, .int .i64 0] _ _ KR.out.1)
    simp [results, Try.f14, go_sem, r0, r1, r2, r3, r4, r5, r6, r7]

set_option maxHeartbeats 4000000 in
theorem rNew (d pl ms : Int) (w : World) : Calls Try.prog 22 #[.agg #[.int .i64 d, .int .i64 pl, .int .i64 ms]] w (NewPost d pl ms w) := by
  by_cases h : plE d pl ms = 0
  · obtain ⟨h0, h1, _, _, _, _⟩ := plE_ok h
    obtain ⟨n, rfl⟩ : ∃ n : Nat, d = (n : Int) := ⟨d.toNat, by omega⟩
    have HE := Lib.hid h
    have mk := hmk3 n (by omega)
    clear h
    go_enter Try.func22, Try.ntmps22
    go_wp2_with fail
    refine (rCheckP _ _ _ _).mono ?_; rintro e w1 ⟨rfl, hb1⟩
    rw [HE.out]
    have kr := keepO hb1 (block_new (w.alloc (.cells #[.int .i64 (n : Int), .int .i64 pl, .int .i64 ms] 23)) (.cells #[.slice none 0 0, .int .u8 0, .int .i64 0, .bool false, .int .u8 0, .int .i64 0, .bool false, .int .i64 0] 48) (n := w.heap.size + 1) (by simp))
    have kp := keepO hb1 (block_alloc (block_new w (.cells #[.int .i64 (n : Int), .int .i64 pl, .int .i64 ms] 23) rfl))
    have hB : Below w.heap.size w w1 := (((Below.refl _ w).alloc (Nat.le_refl _) _).alloc (by simp) _).trans (hb1.mono (by simp; omega))
    have hz := hB.size
    have hzr := lt_of_block kr
    obtain ⟨p0, p1, p2⟩ := three_old kp
    have KR := Lib.hid (And.intro kr hB)
    clear kr kp hb1 hB
    go_wp2_with (refine wpList_store_row rfl 48 (.tmp 2) (.tmp 14) rfl (w.heap.size + 1) #[.slice (some ⟨w1.heap.size, 0, none⟩) n n, .int .u8 0, .int .i64 0, .bool false, .int .u8 0, .int .i64 0, .bool false, .int .i64 0] rfl rfl 48 _ (block_alloc KR.out.1) (by kernel_rfl) rfl (by simp [Value.oneCell']) ?_)
    have kb := (block_new w1 (.cells (madeCells #[.int .u8 0, .int .i64 0, .bool false] (n * 3)) 36) rfl)
    refine bodyPost_ret (v := .tuple #[.agg #[.slice (some ⟨w1.heap.size, 0, none⟩) n n, .int .u8 0, .int .i64 0, .bool false, .int .u8 0, .int .i64 0, .bool false, .int .i64 0], .int .i64 0]) ?_ rfl (newPost_ok HE.out ((setRow_other _ (w.heap.size + 1) w1.heap.size _ (by omega)).trans kb) (by omega) hz (below_setRow (KR.out.2.alloc hz _) (by omega) _))
    obtain ⟨r0, r1, r2, r3, r4, r5, r6, r7⟩ := eight_cells (setRow_heap _ _ _ #[.slice (some ⟨w1.heap.size, 0, none⟩) n n, .int .u8 0, .int .i64 0, .bool false, .int .u8 0, .int .i64 0, .bool false, .int .i64 0] _ _ (block_alloc (o' := .cells (madeCells #[.int .u8 0, .int .i64 0, .bool false] (n * 3)) 36) KR.out.1))
    simp [results, Try.f22, go_sem, r0, r1, r2, r3, r4, r5, r6, r7]
  · have HE := Lib.hid h
    have hn : (plE d pl ms != 0) = true := by simp [h]
    clear h
    go_enter Try.func22, Try.ntmps22
    go_wp2_with fail
    refine (rCheckP _ _ _ _).mono ?_; rintro e w1 ⟨rfl, hb1⟩
    have kr := keepO hb1 (block_new (w.alloc (.cells #[.int .i64 d, .int .i64 pl, .int .i64 ms] 23)) (.cells #[.slice none 0 0, .int .u8 0, .int .i64 0, .bool false, .int .u8 0, .int .i64 0, .bool false, .int .i64 0] 48) (n := w.heap.size + 1) (by simp))
    have hB : Below w.heap.size w w1 := (((Below.refl _ w).alloc (Nat.le_refl _) _).alloc (by simp) _).trans (hb1.mono (by simp; omega))
    have KR := Lib.hid (And.intro kr hB)
    clear kr hb1 hB
    go_wp2_with (refine wpList_store_row rfl 48 (.tmp 2) (.tmp 9) rfl (w.heap.size + 1) #[.slice none 0 0, .int .u8 0, .int .i64 0, .bool false, .int .u8 0, .int .i64 0, .bool false, .int .i64 0] rfl rfl 48 _ KR.out.1 (by kernel_rfl) rfl (by simp [Value.oneCell']) ?_)
    refine bodyPost_ret (v := .tuple #[.agg #[.slice none 0 0, .int .u8 0, .int .i64 0, .bool false, .int .u8 0, .int .i64 0, .bool false, .int .i64 0], .int .i64 (plE d pl ms)]) ?_ rfl (newPost_err rfl HE.out (below_setRow (g := w.heap.size + 1) KR.out.2 (by omega) _))
    obtain ⟨r0, r1, r2, r3, r4, r5, r6, r7⟩ := eight_cells (setRow_heap _ _ _ #[.slice none 0 0, .int .u8 0, .int .i64 0, .bool false, .int .u8 0, .int .i64 0, .bool false, .int .i64 0] _ _ KR.out.1)
    simp [results, Try.f22, go_sem, r0, r1, r2, r3, r4, r5, r6, r7]

end Go.Proofs.Ytjidpkcoaoflbaa
