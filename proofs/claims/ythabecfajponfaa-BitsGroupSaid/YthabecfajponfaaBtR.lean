/-
  Layer 1 (bits): Text, walked at a string without errors.
-/
import Derived.Test.YthabecfajponfaaBtQ
import Derived.Test.YthabecfajponfaaTextMath
import Derived.Test.YthabecfajponfaaBitsE
namespace Go.Proofs.Ythabecfajponfaa
open Go.RowKit Go.Shelf Go.MyRange BitsMath ParityMath MyHeap TextMath
attribute [local go_sem] Oper.semAt_some

def txtE (xs : List Nat) : Int := if chkE xs ≠ 0 then chkE xs else if xs.length % 4 ≠ 0 then 2 else 0
def txtR (xs : List Nat) : List UInt8 := if txtE xs = 0 then txtK xs (xs.length / 4) else []

theorem isB_kept {T e : TypeId} {B b : Nat} {bs : List Value} {W W' : World} (h : Lib.IsBuilderF T e B b bs W) (hk : ∀ (k : Nat) (cs : Array Value) (t : TypeId) (fr : Nat × Nat), W.heap[k]? = some (.cells cs t fr) → W'.heap[k]? = some (.cells cs t fr)) : Lib.IsBuilderF T e B b bs W' := by
  have go : ∀ p, Lib.BuilderAtF T e B b p bs W → Lib.BuilderAtF T e B b p bs W' := by
    rintro p ⟨hB, v, hb, ⟨hl, hown⟩, hne⟩
    refine ⟨hB, v, hk _ _ _ _ hb, ⟨hl, ?_⟩, hne⟩
    rcases hown with h0 | ⟨g, cap, cur, fz, hv, hg, hh, r⟩
    · exact Or.inl h0
    · exact Or.inr ⟨g, cap, cur, fz, hv, hg, hk _ _ _ _ hh, r⟩
  exact h.elim (fun x => Or.inl (go _ x)) (fun x => Or.inr (go _ x))
theorem cells_own {W W' : World} {row : Option Nat} (hg : W.grownBy W' row) (hr : ∀ r, row = some r → ∃ o : Obj, W.heap[r]? = some o ∧ o.isCells = false) (k : Nat) (cs : Array Value) (t : TypeId) (fr : Nat × Nat) (h : W.heap[k]? = some (.cells cs t fr)) : W'.heap[k]? = some (.cells cs t fr) :=
  (grownBy_keeps_cells hg hr h rfl).trans h
theorem cells_below {W W' : World} (hb : Below W.heap.size W W') (k : Nat) (cs : Array Value) (t : TypeId) (fr : Nat × Nat) (h : W.heap[k]? = some (.cells cs t fr)) : W'.heap[k]? = some (.cells cs t fr) :=
  (hb.block k (Array.getElem?_eq_some_iff.1 h).1).trans h
theorem U8s.chunk {w : World} {a : Option Addr} {n : Nat} {xs : List Nat} (h : U8s w a n xs) {j : Nat} (hj : 4 * j + 4 ≤ n) : U8s w (chAt a j) 4 (ch xs j) := by
  refine ⟨ch_len (by rw [h.len]; exact hj), by decide, ?_⟩
  rcases h.cells with h0 | ⟨b, off, rfl, hc⟩
  · omega
  · refine Or.inr ⟨b, off + 4 * j, rfl, fun i hi => ?_⟩
    have := hc (4 * j + i) (by omega)
    have hx : (ch xs j)[i]?.getD 0 = xs[4 * j + i]?.getD 0 := gx_ch xs j i hi
    rw [hx, show off + 4 * j + i = off + (4 * j + i) by omega]
    exact this
theorem chunk_fld {xs : List Nat} (h : chkE xs = 0) {j : Nat} (hj : 4 * j + 4 ≤ xs.length) : fldE (ch xs j) 0 4 = 0 ∧ getR (ch xs j) 0 4 = ((v4 xs j : Nat) : Int) ∧ v4 xs j < 16 := by
  obtain ⟨h1, h2⟩ := all1_of h
  have hs : ∀ k, gx xs k ≤ 1 := fun k => all1_get h1 k
  have hl := ch_len hj
  have hc : chkE (ch xs j) = 0 := chkE_of (fun x hx => h1 x (List.mem_of_mem_drop (List.mem_of_mem_take hx))) (by omega)
  have hf : fldE (ch xs j) 0 4 = 0 := by
    unfold fldE
    rw [if_neg (by rw [hc]; decide), if_neg (by omega), if_neg (by rw [hl]; omega)]
  refine ⟨hf, ?_, v4_lt hs j⟩
  unfold getR
  rw [if_pos hf]
  have hsm : Small (ch xs j) 4 := fun i hi => by
    have e : (ch xs j)[i]?.getD 0 = gx xs (4 * j + i) := gx_ch xs j i hi
    rw [e]; exact hs _
  have e := getV_ref (ch xs j) 0 4 4 hsm (by omega)
  show ((getV (ch xs j) 0 4 : Nat) : Int) = _
  rw [e]
  have g0 : (ch xs j)[0]?.getD 0 = gx xs (4 * j) := gx_ch xs j 0 (by decide)
  have g1 : (ch xs j)[1]?.getD 0 = gx xs (4 * j + 1) := gx_ch xs j 1 (by decide)
  have g2 : (ch xs j)[2]?.getD 0 = gx xs (4 * j + 2) := gx_ch xs j 2 (by decide)
  have g3 : (ch xs j)[3]?.getD 0 = gx xs (4 * j + 3) := gx_ch xs j 3 (by decide)
  simp only [refV, Nat.zero_add, g0, g1, g2, g3, v4]
  omega
theorem hex_at (v : Nat) (hv : v < 16) (h : v < (⟨#[48, 49, 50, 51, 52, 53, 54, 55, 56, 57, 97, 98, 99, 100, 101, 102]⟩ : ByteArray).size) : (⟨#[48, 49, 50, 51, 52, 53, 54, 55, 56, 57, 97, 98, 99, 100, 101, 102]⟩ : ByteArray)[v]'h = hexD v := by
  have : v = 0 ∨ v = 1 ∨ v = 2 ∨ v = 3 ∨ v = 4 ∨ v = 5 ∨ v = 6 ∨ v = 7 ∨ v = 8 ∨ v = 9 ∨ v = 10 ∨ v = 11 ∨ v = 12 ∨ v = 13 ∨ v = 14 ∨ v = 15 := by omega
  rcases this with rfl | rfl | rfl | rfl | rfl | rfl | rfl | rfl | rfl | rfl | rfl | rfl | rfl | rfl | rfl | rfl <;> rfl
/-- What the round of Text keeps. -/
def TxI (w : World) (b : Nat) (a : Option Addr) (n c : Nat) (l : List UInt8) (W : World) : Prop :=
  Lib.IsBuilderF 59 5 b b (Lib.byteCells l) W ∧ (W.heap[b + 1]? = some (.cells #[.slice a n c] 23 (0, 0)) ∧ W.heap[b + 2]? = some (.cells #[.int .i64 4] 3 (0, 0))) ∧ Below w.heap.size w W
theorem TxI.cells {w : World} {b : Nat} {a : Option Addr} {n c : Nat} {l : List UInt8} {W W' : World} (h : TxI w b a n c l W) (hk : ∀ (k : Nat) (cs : Array Value) (t : TypeId) (fr : Nat × Nat), W.heap[k]? = some (.cells cs t fr) → W'.heap[k]? = some (.cells cs t fr)) (hb : Below w.heap.size w W') : TxI w b a n c l W' :=
  ⟨isB_kept h.1 hk, ⟨hk _ _ _ _ h.2.1.1, hk _ _ _ _ h.2.1.2⟩, hb⟩

set_option maxRecDepth 100000 in
set_option maxHeartbeats 2000000 in
theorem Text_ok (a : Option Addr) (N c : Nat) (xs : List Nat) (w : World) (h : U8s w a (4 * N) xs) (he : chkE xs = 0) (hN : N ≤ 32) (hc : 4 * N ≤ c) (hc1 : c ≤ 9223372036854775807) :
    Calls Try.prog 22 #[.slice a (4 * N) c] w fun e w' => e = .returned (.tuple #[.string ⟨(txtK xs N).toArray⟩, .int .i64 0]) ∧ Below w.heap.size w w' := by
  have HF := Lib.hid h
  have HE := Lib.hid he
  obtain ⟨n, hn⟩ : ∃ n : Nat, 4 * N = n := ⟨_, rfl⟩
  rw [hn] at h ⊢
  have hrem : ((n : Int) % 4 != 0) = false := by
    have : (n : Int) % 4 = 0 := by omega
    rw [this]; rfl
  have HN := Lib.hid hn
  have hn1 : n ≤ 128 := by omega
  clear h he hn hN
  refine (callsIn_wide (n := 6)).1 ?_
  refine callsIn_of_wp_marks Try.func22 rfl trivial ?_ rfl
  simp only [Try.ntmps22, List.size_toArray, List.length_cons, List.length_nil, Nat.reduceAdd, Nat.reduceSub, Array.replicate_succ, Array.replicate_zero, List.push_toArray, List.append_toArray, List.nil_append, List.cons_append]
  have HB1 := Lib.hid (show ∀ o : Obj, Below w.heap.size w (w.alloc o) from fun o => (Below.refl _ _).alloc (Nat.le_refl _) _)
  gi_wp2_with fail
  refine ⟨trivial, ?_⟩
  refine (callsIn_wide.2 (check1_call w.heap.size a n c xs _ (by have := HF.out.below (HB1.out (.cells #[.slice a n c] 23)); rw [HN.out] at this; exact this) (cell_of_block (block_new _ _ rfl) rfl))).mono ?_
  rw [HE.out]
  rintro e w1 ⟨rfl, rfl⟩
  gi_wp2_with fail
  refine ⟨trivial, ?_⟩
  refine (callsIn_wide.2 (chunk_call _ _ _ _)).mono ?_
  rintro e w2 ⟨rfl, rfl⟩
  gi_wp2_with fail
  have hU3 := HF.out
  rw [HN.out] at hU3
  have hb0 : Below w.heap.size w ((((w.alloc (.cells #[.slice a n c] 23)).alloc (.cells #[.pointer none, .slice none 0 0] 59)).alloc (.cells #[.slice a n c] 23)).alloc (.cells #[.int .i64 4] 3)) :=
    ((((Below.refl _ _).alloc (Nat.le_refl _) _).alloc (by simp) _).alloc (by simp; omega) _).alloc (by simp; omega) _
  have hI0 : TxI w (w.heap.size + 1) a n c (txtK xs 0) ((((w.alloc (.cells #[.slice a n c] 23)).alloc (.cells #[.pointer none, .slice none 0 0] 59)).alloc (.cells #[.slice a n c] 23)).alloc (.cells #[.int .i64 4] 3)) := by
    have h1 := Lib.fresh_isBuilder 59 5 (w.alloc (.cells #[.slice a n c] 23))
    rw [World.size_alloc] at h1
    refine ⟨((Lib.IsBuilderF.of h1).alloc _).alloc _, ⟨block_alloc (block_new _ _ (by simp)), block_new _ _ (by simp)⟩, hb0⟩
  have hsz : ((((w.alloc (.cells #[.slice a n c] 23)).alloc (.cells #[.pointer none, .slice none 0 0] 59)).alloc (.cells #[.slice a n c] 23)).alloc (.cells #[.int .i64 4] 3)).heap.size = w.heap.size + 4 := by simp
  have hcs : ((((w.alloc (.cells #[.slice a n c] 23)).alloc (.cells #[.pointer none, .slice none 0 0] 59)).alloc (.cells #[.slice a n c] 23)).alloc (.cells #[.int .i64 4] 3)).cell? ⟨w.heap.size + 1 + 1, 0, none⟩ = some (.slice a n c) := cell_of_block hI0.2.1.1 rfl
  have hcn : ((((w.alloc (.cells #[.slice a n c] 23)).alloc (.cells #[.pointer none, .slice none 0 0] 59)).alloc (.cells #[.slice a n c] 23)).alloc (.cells #[.int .i64 4] 3)).cell? ⟨w.heap.size + 1 + 1 + 1, 0, none⟩ = some (.int .i64 4) := cell_of_block hI0.2.1.2 rfl
  have hab : N = 0 ∨ ∃ b off, a = some ⟨b, off, none⟩ := by
    rcases hU3.cells with h0 | ⟨b, off, e, _⟩
    · have := HN.out; exact Or.inl (by omega)
    · exact Or.inr ⟨b, off, e⟩
  have HI0 := Lib.hid hI0
  generalize ((((w.alloc (.cells #[.slice a n c] 23)).alloc (.cells #[.pointer none, .slice none 0 0] 59)).alloc (.cells #[.slice a n c] 23)).alloc (.cells #[.int .i64 4] 3)) = w4 at *
  clear hI0 hb0
  refine wpIn_rangeFunc_ownF rfl (by omega) (gf := 47) (lb := #[.pointer (some ⟨w.heap.size + 1 + 1, 0, none⟩), .pointer (some ⟨w.heap.size + 1 + 1 + 1, 0, none⟩)]) rfl trivial (enters_of Try.func47 (by kernel_rfl) rfl)
    (chunk_stops' _ (by omega) (w.heap.size + 1 + 1) (w.heap.size + 1 + 1 + 1) N a n c (by have := HN.out; omega) HN.out (by have := HN.out; omega) hc1 hab w4 (by omega) (by omega) hcs hcn) KeepB.trans (keepB_b (by simp; omega)) (Below.refl _ _) (fun _ => rfl)
    (fun pre W => TxI w (w.heap.size + 1) a n c ((posList pre).map fun j => hexD (v4 xs j)) W)
    (fun _ _ _ => False)
    (fun s A B row hs hg hr => hs.cells (cells_own hg (fun r e => (hr r e).2)) (ownFrom_below (Nat.le_refl _) (by omega) s A B row hs.2.2 hg hr))
    (fun _ _ _ _ _ hs _ _ => hs)
    HI0.out
    (fun x => { tmps := #[.slice a n c, undef, .string { data := #[] }, .int .i64 0, .int .i64 0,
          .pointer (some ⟨w.heap.size + 1, 0, none⟩), .slice (chAt a x.1) 4 4, undef, undef, .slice a n c,
          .slice (some ⟨w.heap.size, 0, none⟩) 1 1, .int .i64 0, .bool false,
          .int .i64 0, .bool false, undef, .bool false, .slice a n c,
          .int .i64 n, .int .i64 ((n : Int) % 4), .bool false, .slice a n c,
          .func (.func 47) #[] #[.pointer (some ⟨w.heap.size + 1 + 1, 0, none⟩), .pointer (some ⟨w.heap.size + 1 + 1 + 1, 0, none⟩)],
          .slice (chAt a x.1) 4 4, undef, undef, undef, undef, undef, undef, undef, undef, undef], defers := [] }) ?assign ?body ?done ?stop
  case assign =>
    intro l x W K hK
    simp only [chVals]
    gi_wp2
    exact hK
  case body =>
    rintro l pre x W hI hlen
    obtain ⟨j, hj⟩ := x
    dsimp only at *
    have hjn : 4 * j + 4 ≤ n := by have := HN.out; omega
    have hU := (HF.out.below hI.2.2)
    rw [HN.out] at hU
    have hUc := hU.chunk hjn
    obtain ⟨f1, f2, f3⟩ := chunk_fld HE.out (j := j) (by rw [hU.len]; exact hjn)
    have HI := Lib.hid hI
    have HL := Lib.hid hlen
    have F1 := Lib.hid f1
    have F2 := Lib.hid f2
    have HUc := Lib.hid hUc
    clear hI hlen f1 f2 hU hUc hU3 hab hcs hcn HI0 HB1
    gi_wp2_with fail
    refine ⟨trivial, ?_⟩
    refine (CallsIn.inRound l (callsIn_wide.2 (Get_call (chAt a j) 4 4 (ch xs j) 0 4 W HUc.out (by decide) (by decide)))).mono ?_
    rw [F1.out, F2.out]
    rintro e W2 ⟨rfl, hb2⟩
    generalize hv : v4 xs j = v at *
    have HV := Lib.hid hv
    have HB2 := Lib.hid hb2
    clear hb2 F1 F2 hv
    gi_wp2_with fail
    refine ⟨trivial, ?_⟩
    rw [hex_at v f3]
    have hBs := HI.out.2.1.1
    have hbs : w.heap.size + 1 + 1 < W.heap.size := (Array.getElem?_eq_some_iff.1 hBs).1
    have hsz2 := HB2.out.size
    refine (CallsIn.inRound l (callsIn_wide.2 (WriteByte_k (w.heap.size + 1) (w.heap.size + 1) (Lib.byteCells ((posList pre).map fun j => hexD (v4 xs j))) _ W2 (isB_kept HI.out.1 (cells_below HB2.out)) ?hlen (by omega)))).mono ?_
    case hlen => rw [Lib.byteCells_length, List.length_map, posList_length]; have := HL.out; have := HN.out; omega
    rintro e W3 ⟨rfl, h3, b3, k3⟩
    have H3 := Lib.hid (And.intro h3 (And.intro b3 k3))
    clear h3 b3 k3 hBs
    gi_wp2_with fail
    have hk : ∀ (k : Nat) (o : Obj), W.heap[k]? = some o → k ≠ w.heap.size + 1 → (∀ cs fr, o ≠ .cells cs 5 fr) → W3.heap[k]? = some o := fun k o h1 h2 h4 =>
      H3.out.2.2 k o ((HB2.out.block k (Array.getElem?_eq_some_iff.1 h1).1).trans h1) (fun e => h2 (Option.some.inj e)) (fun cs fr => h4 cs fr)
    have c1 : W3.heap[w.heap.size + 1 + 1]? = some (.cells #[.slice a n c] 23 (0, 0)) := hk _ _ HI.out.2.1.1 (by omega) (fun cs fr e => by cases e)
    have c2 : W3.heap[w.heap.size + 1 + 2]? = some (.cells #[.int .i64 4] 3 (0, 0)) := hk _ _ HI.out.2.1.2 (by omega) (fun cs fr e => by cases e)
    refine ⟨⟨Nat.le_trans hsz2 H3.out.2.1.size, fun k o h1 h2 => hk k o h1 ?_ ?_⟩, ?_, Or.inr ?_, ⟨c1, c2⟩, ?_⟩
    · rintro rfl
      obtain ⟨_, v', hb', _⟩ | ⟨_, v', hb', _⟩ := HI.out.1
      · rw [hb'] at h1; cases h1; cases h2
      · rw [hb'] at h1; cases h1; cases h2
    · rintro cs fr rfl; cases h2
    · intro b hb o
      simp only [List.mem_cons, List.not_mem_nil, or_false] at hb
      rcases hb with rfl | rfl
      · exact World.cell?_of_block (w := W) (a := ⟨_, o, none⟩) (c1.trans HI.out.2.1.1.symm)
      · exact World.cell?_of_block (w := W) (a := ⟨_, o, none⟩) (c2.trans HI.out.2.1.2.symm)
    · rw [posList_snoc, List.map_append, Lib.byteCells_append]
      simp only [List.map_cons, List.map_nil]
      rw [HV.out]
      exact H3.out.1
    · exact (HI.out.2.2.trans (HB2.out.mono (by omega))).trans (H3.out.2.1.mono (by omega))
  case done =>
    rintro D ys W hD hys hI hK
    rw [hys] at hI
    have HI := Lib.hid hI
    have hbs : w.heap.size + 1 + 1 < W.heap.size := (Array.getElem?_eq_some_iff.1 hI.2.1.1).1
    clear hI hys
    gi_wp2_with fail
    refine ⟨trivial, ?_⟩
    refine (callsIn_wide.2 (Try.Builder_String_any_k (w.heap.size + 1) (w.heap.size + 1) (txtK xs N) W HI.out.1 (by omega))).mono ?_
    rintro e W3 ⟨rfl, h3, b3, k3⟩
    have hK3 : W3.heap[D]? = some (.deferred (some [])) := k3 D _ hK (fun e => by have := Option.some.inj e; omega) (fun cs fr e => by cases e)
    have H3 := Lib.hid (And.intro h3 (And.intro b3 k3))
    clear h3 b3 k3 hK
    gi_wp2_with fail
    refine ⟨by simp, .inl ⟨_, _, rfl, run_takeDeferred hK3, ?_⟩⟩
    refine ⟨.tuple #[.string ⟨(txtK xs N).toArray⟩, .int .i64 0], by simp [results, Try.f22, go_sem], rfl, ((HI.out.2.2.trans (H3.out.2.1.mono (by omega)))).trans (belowK_b (w := w) (Nat.le_refl _) _ D _ _ (by omega) hK3 rfl rfl)⟩
  case stop =>
    rintro D c pre W _ _ h _
    exact h.elim
def TxPost (l : List UInt8) (E : Int) (w : World) (e : Ending) (w' : World) : Prop := e = .returned (.tuple #[.string ⟨l.toArray⟩, .int .i64 E]) ∧ Below w.heap.size w w'
theorem txPost_of {l l' : List UInt8} {E E' : Int} {w w' : World} (h : l = l') (h2 : E = E') (hB : Below w.heap.size w w') : TxPost l' E' w (.returned (.tuple #[.string ⟨l.toArray⟩, .int .i64 E])) w' := by subst h; subst h2; exact ⟨rfl, hB⟩
set_option maxRecDepth 100000 in
theorem Text_call (a : Option Addr) (n c : Nat) (xs : List Nat) (w : World) (h : U8s w a n xs) (hc : n ≤ c) (hc1 : c ≤ 9223372036854775807) :
    Calls Try.prog 22 #[.slice a n c] w (TxPost (txtR xs) (txtE xs) w) := by
  have hl := h.len
  by_cases he : chkE xs = 0
  · obtain ⟨h1, h2⟩ := all1_of he
    by_cases h4 : xs.length % 4 = 0
    · have hE : txtE xs = 0 := by unfold txtE; rw [if_neg (by rw [he]; decide), if_neg (by rw [h4]; decide)]
      have hR : txtR xs = txtK xs (xs.length / 4) := if_pos hE
      obtain ⟨N, hN⟩ : ∃ N, xs.length / 4 = N := ⟨_, rfl⟩
      rw [hE, hR, hN]
      have hn : n = 4 * N := by omega
      subst hn
      exact Text_ok a N c xs w h he (by omega) hc hc1
    · have hE : txtE xs = 2 := by unfold txtE; rw [if_neg (by rw [he]; decide), if_pos h4]
      have hR : txtR xs = [] := if_neg (by rw [hE]; decide)
      have hrem : ((n : Int) % 4 != 0) = true := bne_iff_ne.2 (by omega)
      have HF := Lib.hid h
      have HE := Lib.hid he
      have HR := Lib.hid (And.intro hR hE)
      have hn1 : n ≤ 128 := by omega
      clear h he hE hR hl h1 h2 h4
      go_enter Try.func22, Try.ntmps22
      go_wp2_with fail
      refine (check1_call w.heap.size a n c xs _ (HF.out.below (below_alloc _ _)) (cell_of_block (block_new _ _ rfl) rfl)).mono ?_
      rw [HE.out]
      rintro e w1 ⟨rfl, rfl⟩
      go_wp2_with fail
      go_ret2
      exact txPost_of (HR.out.1.symm) HR.out.2.symm (below_alloc _ _)
  · have hE : txtE xs = chkE xs := if_pos he
    have hR : txtR xs = [] := if_neg (by rw [hE]; exact he)
    have d1 : (chkE xs != 0) = true := bne_iff_ne.2 he
    have HF := Lib.hid h
    have HR := Lib.hid (And.intro hR hE)
    have hm := h.bound
    clear h he hE hR hl
    go_enter Try.func22, Try.ntmps22
    go_wp2_with fail
    refine (check1_call w.heap.size a n c xs _ (HF.out.below (below_alloc _ _)) (cell_of_block (block_new _ _ rfl) rfl)).mono ?_
    rintro e w1 ⟨rfl, rfl⟩
    go_wp2_with fail
    go_ret2
    exact txPost_of (HR.out.1.symm) HR.out.2.symm (below_alloc _ _)
end Go.Proofs.Ythabecfajponfaa
