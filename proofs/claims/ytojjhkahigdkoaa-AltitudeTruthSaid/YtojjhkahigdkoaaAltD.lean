/-
  Layer 18 (altitude): the reference's New and Measure.
-/
import Derived.Test.YtojjhkahigdkoaaAltC
namespace Go.Proofs.Ytojjhkahigdkoaa
open Go.RowKit AltMath MyHeap MyCopy MyOwn

/-- A band of the call's own with an error. -/
def BOPost (E : Int) (lo hi : List Int) (w : World) (e : Ending) (w' : World) : Prop := ∃ vL vH, e = .returned (.tuple #[.agg #[vL, vH], .int .i64 E]) ∧ (E = 0 → TwoOwn w.heap.size vL vH lo hi w') ∧ (E ≠ 0 → vL = .slice none 0 0 ∧ vH = .slice none 0 0) ∧ Below w.heap.size w w'
theorem TwoOwn.base {b b' : Nat} {vL vH : Value} {lo hi : List Int} {W : World} (h : TwoOwn b vL vH lo hi W) (hb : b' ≤ b) : TwoOwn b' vL vH lo hi W := ⟨ownsRow_base h.L hb, ownsRow_base h.H hb, h.A⟩
theorem TwoOwn.nil (b : Nat) (W : World) : TwoOwn b (.slice none 0 0) (.slice none 0 0) [] [] W := ⟨⟨rfl, Or.inl ⟨rfl, rfl⟩⟩, ⟨rfl, Or.inl ⟨rfl, rfl⟩⟩, fun _ e => by cases e⟩
theorem own_slice3 {w : World} {base : Nat} {e : TypeId} {size : Nat} {v : Value} {n : Nat} {xs : List Value} (h : w.ownsRow base e size v n xs) : ∃ a m c, v = .slice a m c := by
  obtain ⟨a, c, e⟩ := own_slice h
  exact ⟨a, n, c, e⟩
/-- Between two rounds: what has been put so far lies in block O, the result in block R. -/
def RfK (w0 : World) (R O : Nat) (f : Nat → Int × Int) (k : Nat) (W : World) : Prop := ∃ aL nL cL aH nH cH, W.heap[R]? = some (.cells #[.slice none 0 0, .slice none 0 0] 24 (0, 0)) ∧ W.heap[O]? = some (.cells #[.slice aL nL cL, .slice aH nH cH] 24 (0, 0)) ∧ TwoOwn (O + 1) (.slice aL nL cL) (.slice aH nH cH) (loK f k) (hiK f k) W ∧ Below w0.heap.size w0 W ∧ w0.heap.size ≤ R ∧ R < O
theorem two_facts {W : World} {b : Nat} {x y : Value} {T : TypeId} (h : W.heap[b]? = some (.cells #[x, y] T (0, 0))) : W.cell? ⟨b, 0, none⟩ = some x ∧ W.cell? ⟨b, 1, none⟩ = some y ∧ W.frozen? ⟨b, 0, none⟩ = false ∧ W.frozen? ⟨b, 1, none⟩ = false := ⟨cell_of_block h rfl, cell_of_block h rfl, free_of_block h, free_of_block h⟩
theorem block_off {W W' : World} {vL vH : Value} {lo hi : List Int} {b k : Nat} {o : Obj} (h : TwoOwn b vL vH lo hi W) (hb : Below b W W') (hk : k < b) (ho : W.heap[k]? = some o) : W'.heap[k]? = some o := by
  have _ := h
  exact (hb.block k hk).trans ho
/-- What was put is stored. -/
theorem RfK.next {w0 W W' : World} {R O : Nat} {f : Nat → Int × Int} {k : Nat} {aL aH : Option Addr} {nL cL nH cH : Nat} {v1 v2 : Value} (hR : w0.heap.size ≤ R) (hRO : R < O) (h1 : W.heap[R]? = some (.cells #[.slice none 0 0, .slice none 0 0] 24 (0, 0))) (h2 : W.heap[O]? = some (.cells #[v1, v2] 24 (0, 0)))
    (hK : Below w0.heap.size w0 W) (hT : TwoOwn (O + 1) (.slice aL nL cL) (.slice aH nH cH) (loK f k ++ [(nm (f k)).1]) (hiK f k ++ [(nm (f k)).2]) W') (hB : Below (O + 1) W W') :
    RfK w0 R O f (k + 1) ((W'.setCell ⟨O, 0, none⟩ (.slice aL nL cL)).setCell ⟨O, 1, none⟩ (.slice aH nH cH)) := by
  have hO : Only O W' ((W'.setCell ⟨O, 0, none⟩ (.slice aL nL cL)).setCell ⟨O, 1, none⟩ (.slice aH nH cH)) := ((Only.refl _ _).setCell 0 _).setCell 1 _
  have k1 : W'.heap[R]? = some (.cells #[.slice none 0 0, .slice none 0 0] 24 (0, 0)) := (hB.block R (by omega)).trans h1
  have k2 : W'.heap[O]? = some (.cells #[v1, v2] 24 (0, 0)) := (hB.block O (by omega)).trans h2
  have hsz : w0.heap.size ≤ W'.heap.size := Nat.le_trans hK.size hB.size
  refine ⟨aL, nL, cL, aH, nH, cH, hO.keeps k1 (by omega), by simpa using block_setCell (i := 1) (v := .slice aH nH cH) (block_setCell (i := 0) (v := .slice aL nL cL) k2), ?_, (hK.trans (hB.mono (by omega))).trans (hO.below (by omega) hsz), hR, hRO⟩
  rw [loK_succ, hiK_succ]
  exact ⟨own_keep hT.L hO (Or.inr fun e => by have := (hT.L.lt _ e).1; omega), own_keep hT.H hO (Or.inr fun e => by have := (hT.H.lt _ e).1; omega), hT.A⟩

theorem meE_ok {alt size : Int} (h : meE alt size = 0) : -1000 ≤ alt ∧ alt ≤ 50000 ∧ (size = 25 ∨ size = 100) := by
  unfold meE at h
  by_cases hh : alt < -1000 ∨ 50000 < alt ∨ (size ≠ 25 ∧ size ≠ 100)
  · rw [if_pos hh] at h; cases h
  · omega
theorem meE_or (alt size : Int) : meE alt size = 0 ∨ meE alt size = 1 := by unfold meE; split <;> simp

/-- The end of a reference's walk: what was put is stored as the result. -/
theorem RfK.done {w0 W : World} {R b : Nat} {f : Nat → Int × Int} {k : Nat} {aL aH : Option Addr} {nL cL nH cH : Nat} (hR : w0.heap.size ≤ R) (hb : R < b) (h1 : W.heap[R]? = some (.cells #[.slice none 0 0, .slice none 0 0] 24 (0, 0))) (hK : Below w0.heap.size w0 W) (hT : TwoOwn b (.slice aL nL cL) (.slice aH nH cH) (loK f k) (hiK f k) W) :
    TwoOwn w0.heap.size (.slice aL nL cL) (.slice aH nH cH) (loK f k) (hiK f k) ((W.setCell ⟨R, 0, none⟩ (.slice aL nL cL)).setCell ⟨R, 1, none⟩ (.slice aH nH cH)) ∧ Below w0.heap.size w0 ((W.setCell ⟨R, 0, none⟩ (.slice aL nL cL)).setCell ⟨R, 1, none⟩ (.slice aH nH cH)) ∧
      ((W.setCell ⟨R, 0, none⟩ (.slice aL nL cL)).setCell ⟨R, 1, none⟩ (.slice aH nH cH)).cell? ⟨R, 0, none⟩ = some (.slice aL nL cL) ∧ ((W.setCell ⟨R, 0, none⟩ (.slice aL nL cL)).setCell ⟨R, 1, none⟩ (.slice aH nH cH)).cell? ⟨R, 1, none⟩ = some (.slice aH nH cH) := by
  have hx := block_setCell (i := 1) (v := .slice aH nH cH) (block_setCell (i := 0) (v := .slice aL nL cL) h1)
  have hO : Only R W ((W.setCell ⟨R, 0, none⟩ (.slice aL nL cL)).setCell ⟨R, 1, none⟩ (.slice aH nH cH)) := ((Only.refl _ _).setCell 0 _).setCell 1 _
  exact ⟨TwoOwn.base ⟨own_keep hT.L hO (Or.inr fun e => by have := (hT.L.lt _ e).1; omega), own_keep hT.H hO (Or.inr fun e => by have := (hT.H.lt _ e).1; omega), hT.A⟩ (by omega), hK.trans (hO.below hR hK.size), cell_of_block (i := 0) (v := .slice aL nL cL) hx rfl, cell_of_block (i := 1) (v := .slice aH nH cH) hx rfl⟩

set_option maxRecDepth 100000 in
set_option maxHeartbeats 4000000 in
theorem rNew_call (alt size : Int) (w : World) : Calls Try.prog 21 #[.int .i64 alt, .int .i64 size] w (BOPost (meE alt size) (loK (neF alt size) 201) (hiK (neF alt size) 201) w) := by
  rcases meE_or alt size with hE | hE
  · obtain ⟨h1, h2, h3⟩ := meE_ok hE
    have hs : 25 ≤ size ∧ size ≤ 100 := by omega
    have HE := Lib.hid hE
    clear hE h3
    go_enter Try.func21, Try.ntmps21
    go_wp2_with fail
    refine (wrong_call alt size _).mono ?_; rintro e w1 ⟨rfl, rfl⟩
    rw [HE.out]
    go_wp2_with fail
    have K := Lib.hid (show RfK w w.heap.size (w.heap.size + 1) (neF alt size) 0 ((w.alloc (.cells #[.slice none 0 0, .slice none 0 0] 24)).alloc (.cells #[.slice none 0 0, .slice none 0 0] 24)) from ⟨none, 0, 0, none, 0, 0, block_alloc (block_new _ _ rfl), block_new _ _ (by simp), TwoOwn.nil _ _, (below_alloc _ _).alloc (by simp) _, Nat.le_refl _, by omega⟩)
    go_loopw [8] (fun kv wr => ∃ k : Nat, k ≤ 201 ∧ kv = .int .i64 k ∧ RfK w w.heap.size (w.heap.size + 1) (neF alt size) k wr) (fun kv _ => 201 - (intOf kv).toNat)
    case atStart => exact ⟨0, Nat.zero_le _, rfl, K.out⟩
    case round =>
      clear K
      obtain ⟨k, hk, rfl, aL, nL, cL, aH, nH, cH, hR, hO, hT, hB, _, _⟩ := hrel
      by_cases hlt : k < 201
      · have hk1 : (k : Int) < 201 := by omega
        obtain ⟨c0, c1, f0, f1⟩ := two_facts hO
        have H := Lib.hid (And.intro hR (And.intro hO (And.intro hT hB)))
        clear hR hO hT hB
        go_wp2_with fail
        all_goals
          refine (put_call (w.heap.size + 2) _ _ (loK (neF alt size) k) (hiK (neF alt size) k) alt _ _ H.out.2.2.1 (lt_of_block H.out.2.1) (by rw [loK_len]; omega) (by rw [hiK_len]; omega)).mono ?_
          rintro e w2 ⟨vL, vH, rfl, hT, hB⟩
          rw [show (alt, _) = neF alt size k from by unfold neF; congr 1; omega] at hT
          obtain ⟨aL', nL', cL', rfl⟩ := own_slice3 hT.L
          obtain ⟨aH', nH', cH', rfl⟩ := own_slice3 hT.H
          have hK2 := RfK.next (f := neF alt size) (k := k) (Nat.le_refl _) (by omega) H.out.1 H.out.2.1 H.out.2.2.2 hT hB
          obtain ⟨d0, d1, g0, g1⟩ := two_facts ((hB.block (w.heap.size + 1) (by omega)).trans H.out.2.1)
          have K := Lib.hid hK2
          clear c0 c1 f0 f1 hT hB hK2 H
          go_wp2_with fail
          go_roundw
          case rel => exact ⟨k + 1, by omega, by go_num, K.out⟩
          case measure => simp [intOf]; omega
      · obtain rfl : k = 201 := by omega
        obtain ⟨c0, c1, f0, f1⟩ := two_facts hO
        obtain ⟨d0, d1, g0, g1⟩ := two_facts hR
        have H := Lib.hid (And.intro hR (And.intro hO (And.intro hT hB)))
        clear hR hO hT hB hk hlt
        go_wp2_with fail
        obtain ⟨hT9, hB9, r0, r1⟩ := RfK.done (Nat.le_refl _) (by omega) H.out.1 H.out.2.2.2 H.out.2.2.1
        refine bodyPost_ret (v := .tuple #[.agg #[.slice aL nL cL, .slice aH nH cH], .int .i64 0]) ?_ rfl ⟨_, _, by rw [HE.out], fun _ => hT9, fun e => absurd HE.out e, hB9⟩
        simp [results, Try.f21, go_sem, r0, r1]
  · have HE := Lib.hid hE
    clear hE
    go_enter Try.func21, Try.ntmps21
    go_wp2_with fail
    refine (wrong_call alt size _).mono ?_; rintro e w1 ⟨rfl, rfl⟩
    rw [HE.out]
    go_wp2_with fail
    refine bodyPost_ret (v := .tuple #[.agg #[.slice none 0 0, .slice none 0 0], .int .i64 1]) ?_ rfl ⟨_, _, by rw [HE.out], fun e => absurd (HE.out.symm.trans e) (by decide), fun _ => ⟨rfl, rfl⟩, ?_⟩
    · have hb := block_new w (.cells #[.slice none 0 0, .slice none 0 0] 24) rfl
      have r0 := cell_of_block (i := 0) (v := .slice none 0 0) hb rfl
      have r1 := cell_of_block (i := 1) (v := .slice none 0 0) hb rfl
      simp [results, Try.f21, go_sem, r0, r1]
    · exact below_alloc _ _

end Go.Proofs.Ytojjhkahigdkoaa
