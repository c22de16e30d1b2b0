/-
  Layer 1 (bits): Put, walked: a field that is there, a value that fits.
-/
import Derived.Test.YthabecfajponfaaBtD
import Derived.Test.YthabecfajponfaaPutMath
import Derived.Sort.QuietIn
namespace Go.Proofs.Ythabecfajponfaa
open Go.RowKit Go.Shelf Go.MyRange BitsMath ParityMath MyHeap MyCopy MyOwn
attribute [local go_sem] Oper.semAt_some

/-- What comes back beside an error: a string in new memory, or nil. -/
def OwnR (base : Nat) (E : Int) (ys : List Nat) (v : Value) (w : World) : Prop := (E = 0 → w.ownsRow base 5 1 v ys.length (flatU ys)) ∧ (E ≠ 0 → v = .slice none 0 0)
def OPost (E : Int) (ys : List Nat) (w : World) (e : Ending) (w' : World) : Prop := ∃ v, e = .returned (.tuple #[v, .int .i64 E]) ∧ OwnR w.heap.size E ys v w' ∧ Below w.heap.size w w'
theorem oPost_ok {ys : List Nat} {v : Value} {w w' : World} {E : Int} (hE : E = 0) (h : w'.ownsRow w.heap.size 5 1 v ys.length (flatU ys)) (hB : Below w.heap.size w w') : OPost E ys w (.returned (.tuple #[v, .int .i64 0])) w' := by
  subst hE
  exact ⟨v, rfl, ⟨fun _ => h, fun h0 => absurd rfl h0⟩, hB⟩
theorem oPost_err {ys : List Nat} {w w' : World} {E E' : Int} (hE : E ≠ 0) (h : E' = E) (hB : Below w.heap.size w w') : OPost E ys w (.returned (.tuple #[.slice none 0 0, .int .i64 E'])) w' := by
  subst h
  exact ⟨_, rfl, ⟨fun h0 => absurd h0 hE, fun _ => rfl⟩, hB⟩

theorem own_slice {w : World} {base : Nat} {e : TypeId} {size : Nat} {v : Value} {n : Nat} {xs : List Value} (h : w.ownsRow base e size v n xs) : ∃ a c, v = .slice a n c := by
  rcases h.2 with ⟨rfl, rfl⟩ | ⟨g, cap, cur, rfl, _⟩
  · exact ⟨_, _, rfl⟩
  · exact ⟨_, _, rfl⟩
theorem below_drewN {B : Nat} {a w : World} (h : Below B a w) (n : Nat) : Below B a (w.drewN n) := h.trans ⟨rfl, rfl, rfl, Nat.le_refl _, fun _ _ => rfl⟩
theorem ownR_ge {w : World} {base : Nat} {e : TypeId} {size : Nat} {v : Value} {n : Nat} {xs : List Value} (h : w.ownsRow base e size v n xs) {b : Nat} (hb : b < base) : v.ownBlock ≠ some b := fun e' => by
  have := (h.lt b e').1
  omega
/-- In Put: the string's variable, the value's. -/
def PuK (w0 : World) (s : Value) (x : Nat) (W : World) : Prop :=
  W.heap[w0.heap.size]? = some (.cells #[s] 23 (0, 0)) ∧ W.heap[w0.heap.size + 1]? = some (.cells #[.int .u64 (x : Int)] 24 (0, 0)) ∧ Below w0.heap.size w0 W
theorem PuK.keep {w0 W W' : World} {s : Value} {x : Nat} (h : PuK w0 s x W) (hb : Below W.heap.size W W') : PuK w0 s x W' := ⟨keepO hb h.1, keepO hb h.2.1, h.2.2.trans (hb.mono h.2.2.size)⟩
/-- In Put's loop: the string's variable holds v, whose elements are ys. -/
def PuC (w0 : World) (x : Nat) (v : Value) (ys : List Nat) (W : World) : Prop :=
  W.heap[w0.heap.size]? = some (.cells #[v] 23 (0, 0)) ∧ W.heap[w0.heap.size + 1]? = some (.cells #[.int .u64 (x : Int)] 24 (0, 0)) ∧ W.ownsRow (w0.heap.size + 2) 5 1 v ys.length (flatU ys)
theorem PuC.keep {w0 W W' : World} {v : Value} {ys : List Nat} {x : Nat} (h : PuC w0 x v ys W) (hb : Below W.heap.size W W') : PuC w0 x v ys W' := ⟨keepO hb h.1, keepO hb h.2.1, ownsRow_below h.2.2 hb (Nat.le_refl _)⟩
theorem heap_kept {W W' : World} {row : Option Nat} {k : Nat} {cs : Array Value} {T : TypeId} {fr : Nat × Nat} (h : W.heap[k]? = some (.cells cs T fr)) (hg : W.grownBy W' row) (hr : ∀ r, row = some r → ∃ o : Obj, W.heap[r]? = some o ∧ o.isCells = false) : W'.heap[k]? = some (.cells cs T fr) := by
  refine (hg.block k (lt_of_block h) (fun e => ?_)).trans h
  obtain ⟨o, ho, hc⟩ := hr k e.symm
  rw [h] at ho
  cases ho
  cases hc
theorem own_kept {W W' : World} {row : Option Nat} {base : Nat} {e : TypeId} {size : Nat} {v : Value} {n : Nat} {xs : List Value} (h : W.ownsRow base e size v n xs) (hg : W.grownBy W' row) (hr : ∀ r, row = some r → ∃ o : Obj, W.heap[r]? = some o ∧ o.isCells = false) : W'.ownsRow base e size v n xs := by
  refine ⟨h.1, ?_⟩
  rcases h.2 with h2 | ⟨g, cap, cur, hv, hg', hh, r⟩
  · exact Or.inl h2
  · exact Or.inr ⟨g, cap, cur, hv, hg', heap_kept hh hg hr, r⟩
theorem puC_own {w0 W W' : World} {v : Value} {ys : List Nat} {x : Nat} {row : Option Nat} (h : PuC w0 x v ys W) (hg : W.grownBy W' row) (hr : ∀ r, row = some r → ∃ o : Obj, W.heap[r]? = some o ∧ o.isCells = false) : PuC w0 x v ys W' :=
  ⟨heap_kept h.1 hg hr, heap_kept h.2.1 hg hr, own_kept h.2.2 hg hr⟩
theorem PuC.at_ {w0 W : World} {a : Option Addr} {c m : Nat} {ys : List Nat} {x : Nat} (h : PuC w0 x (.slice a m c) ys W) {q : Nat} (hq : q < ys.length) : ∃ g, a = some ⟨g, 0, none⟩ ∧ w0.heap.size + 2 ≤ g ∧ (∃ u, W.cell? ⟨g, q, none⟩ = some u) ∧ W.frozen? ⟨g, q, none⟩ = false := by
  rcases h.2.2.2 with ⟨_, h0⟩ | ⟨g, cap, cur, hv, hg, hh, hc, hm, hs, ht⟩
  · omega
  · cases hv
    exact ⟨g, rfl, hg, ⟨_, cell_of_block hh (Array.getElem?_eq_getElem (show q < cur.size by omega))⟩, free_of_block hh⟩
theorem own_set {W : World} {base g c n : Nat} {T : TypeId} {ys : List Nat} (h : W.ownsRow base T 1 (.slice (some ⟨g, 0, none⟩) n c) ys.length (flatU ys)) (q b : Nat) : (W.setCell ⟨g, q, none⟩ (.int .u8 (b : Int))).ownsRow base T 1 (.slice (some ⟨g, 0, none⟩) n c) (ys.set q b).length (flatU (ys.set q b)) := by
  rw [List.length_set]
  refine ⟨by rw [flatU_len, List.length_set, Nat.mul_one], ?_⟩
  rcases h.2 with ⟨h0, _⟩ | ⟨g', cap, cur, hv, hg, hh, hc, hm, hs, ht⟩
  · cases h0
  · cases hv
    refine Or.inr ⟨g, c, cur.setIfInBounds q (.int .u8 (b : Int)), rfl, hg, block_setCell hh, hc, hm, by simpa using hs, ?_⟩
    rw [toList_set, List.take_set, ht, flatU_set]
theorem PuC.set {w0 W : World} {g c m : Nat} {ys : List Nat} {x : Nat} (h : PuC w0 x (.slice (some ⟨g, 0, none⟩) m c) ys W) (hg : w0.heap.size + 2 ≤ g) (q b : Nat) : PuC w0 x (.slice (some ⟨g, 0, none⟩) m c) (ys.set q b) (W.setCell ⟨g, q, none⟩ (.int .u8 (b : Int))) :=
  ⟨((Only.refl _ _).setCell q _).keeps h.1 (by omega), ((Only.refl _ _).setCell q _).keeps h.2.1 (by omega), own_set h.2.2 q b⟩
theorem shr_div (v j : Nat) : (v : Int) / (2 : Int) ^ j = ((v >>> j : Nat) : Int) := by
  rw [Nat.shiftRight_eq_div_pow]; push_cast; rfl
theorem shr_bit (v j : Nat) (hv : v < 2 ^ 64) : bits .and .u64 ((v >>> j : Nat) : Int) 1 = (((v >>> j) &&& 1 : Nat) : Int) ∧ IntKind.u8.wrap (((v >>> j) &&& 1 : Nat) : Int) = (((v >>> j) &&& 1 : Nat) : Int) := by
  refine ⟨?_, ?_⟩
  · have hle : v >>> j < 2 ^ 64 := by rw [Nat.shiftRight_eq_div_pow]; exact Nat.lt_of_le_of_lt (Nat.div_le_self _ _) hv
    rw [show (1 : Int) = ((1 : Nat) : Int) from rfl, u64_and_nat _ _ hle (by decide)]
  · have := and1_le (v >>> j)
    rw [IntKind.wrap_u8]
    omega

set_option maxRecDepth 100000 in
set_option maxHeartbeats 4000000 in
theorem Put_some (a : Option Addr) (m c : Nat) (xs : List Nat) (p N v : Nat) (w : World) (h : U8s w a m xs) (he : fldE xs p N = 0) (hN : N ≤ 64) (hm : m ≤ 128) (hp : p + N ≤ m) (hv : v < 2 ^ N) (h64 : N < 64) :
    Calls Try.prog 11 #[.slice a m c, .int .i64 p, .int .i64 N, .int .u64 (v : Int)] w (OPost 0 (putL xs p N v) w) := by
  have HF := Lib.hid h
  have HE := Lib.hid he
  have hlen := h.len
  have HV := Lib.hid hv
  have d1 : decide ((N : Int) < 64) = true := decide_eq_true (by omega)
  have d2 : decide (IntKind.u64.wrap ((2 : Int) ^ N) ≤ (v : Int)) = false := by
    refine decide_eq_false ?_
    have hpw : (2 : Nat) ^ N ≤ 2 ^ 63 := Nat.pow_le_pow_right (by decide) (by omega)
    have e : ((2 : Int) ^ N) = ((2 ^ N : Nat) : Int) := by push_cast; rfl
    rw [e, IntKind.wrap_u64, Int.emod_eq_of_lt (by omega) (by omega)]
    omega
  clear h he
  refine (callsIn_wide (n := 6)).1 ?_
  refine callsIn_of_wp_marks Try.func11 rfl trivial ?_ rfl
  simp only [Try.ntmps11, List.size_toArray, List.length_cons, List.length_nil, Nat.reduceAdd, Nat.reduceSub, Array.replicate_succ, Array.replicate_zero, List.push_toArray, List.append_toArray, List.nil_append, List.cons_append]
  have K0 := Lib.hid (show PuK w (.slice a m c) v ((w.alloc (.cells #[.slice a m c] 23)).alloc (.cells #[.int .u64 (v : Int)] 24)) from ⟨block_alloc (block_new _ _ rfl), block_new _ _ (by simp), (below_alloc _ _).alloc (by simp) _⟩)
  gi_wp2_with fail
  refine ⟨trivial, ?_⟩
  refine (callsIn_wide.2 (field_call a m c xs (p : Int) (N : Int) _ (HF.out.below K0.out.2.2) (by omega) (by omega))).mono ?_
  rw [HE.out]
  rintro e w1 ⟨rfl, hb1⟩
  have K1 := Lib.hid (K0.out.keep hb1)
  clear hb1 K0
  have x0 : w1.cell? ⟨w.heap.size, 0, none⟩ = some (.slice a m c) := cell_of_block K1.out.1 rfl
  have x1 : w1.cell? ⟨w.heap.size + 1, 0, none⟩ = some (.int .u64 (v : Int)) := cell_of_block K1.out.2.1 rfl
  have hl0 := lt_of_block K1.out.1
  have hl1 := lt_of_block K1.out.2.1
  gi_wp2_with fail
  gi_quiet (fail)
  have KQ := Lib.hid (show PuK w (.slice a m c) v (w1.drewN nq) from ⟨K1.out.1, K1.out.2.1, below_drewN K1.out.2.2 nq⟩)
  generalize w1.drewN nq = wq at *
  clear x0 x1 hl0 hl1 K1
  have x0 : wq.cell? ⟨w.heap.size, 0, none⟩ = some (.slice a m c) := cell_of_block KQ.out.1 rfl
  have x1 : wq.cell? ⟨w.heap.size + 1, 0, none⟩ = some (.int .u64 (v : Int)) := cell_of_block KQ.out.2.1 rfl
  have hl0 := lt_of_block KQ.out.1
  have hl1 := lt_of_block KQ.out.2.1
  gi_wp2_with fail
  refine ⟨trivial, ?_⟩
  refine (callsIn_wide.2 (clone_call a m c xs _ (HF.out.below KQ.out.2.2) (by omega))).mono ?_
  rintro e w3 ⟨vC, rfl, hO, hb3⟩
  obtain ⟨aC, cC, rfl⟩ := own_slice hO
  rw [hlen] at hO
  rw [hlen]
  have K3 := Lib.hid (And.intro (KQ.out.keep hb3) (ownsRow_base hO (show w.heap.size + 2 ≤ wq.heap.size by omega)))
  clear hb3 hO x0 x1 hl0 hl1 KQ
  have x0 : w3.cell? ⟨w.heap.size, 0, none⟩ = some (.slice a m c) := cell_of_block K3.out.1.1 rfl
  have f0 : w3.frozen? ⟨w.heap.size, 0, none⟩ = false := free_of_block K3.out.1.1
  have hl1 := lt_of_block K3.out.1.2.1
  gi_wp2_with fail
  have K4 := Lib.hid (show PuC w v (.slice aC m cC) xs (w3.setCell ⟨w.heap.size, 0, none⟩ (.slice aC m cC)) ∧ Below w.heap.size w (w3.setCell ⟨w.heap.size, 0, none⟩ (.slice aC m cC)) from
    ⟨⟨block_setCell K3.out.1.1, ((Only.refl _ _).setCell 0 _).keeps K3.out.1.2.1 (by omega), by rw [hlen]; exact ownsRow_only K3.out.2 ((Only.refl w.heap.size w3).setCell 0 _) (ownR_ge K3.out.2 (by omega))⟩, K3.out.1.2.2.trans (((Only.refl w.heap.size w3).setCell 0 _).below (Nat.le_refl _) K3.out.1.2.2.size)⟩)
  clear x0 f0 K3
  have hz4 : w.heap.size + 1 < (w3.setCell ⟨w.heap.size, 0, none⟩ (.slice aC m cC)).heap.size := by simpa [World.setCell] using hl1
  generalize w3.setCell ⟨w.heap.size, 0, none⟩ (.slice aC m cC) = w4 at *
  clear hl1
  refine ⟨trivial, ?_⟩
  refine (callsIn_wide.2 (positions_call _ _ _)).mono ?_
  rintro e w5 ⟨rfl, rfl⟩
  gi_wp2_with fail
  have K5 := Lib.hid (show PuC w v (.slice aC m cC) xs ((w4.alloc (.cells #[.int .i64 (p : Int)] 3)).alloc (.cells #[.int .i64 (N : Int)] 3)) ∧ Below w.heap.size w ((w4.alloc (.cells #[.int .i64 (p : Int)] 3)).alloc (.cells #[.int .i64 (N : Int)] 3)) from
    ⟨(K4.out.1.keep (below_alloc _ _)).keep (below_alloc _ _), (K4.out.2.alloc K4.out.2.size _).alloc (by have := K4.out.2.size; simp; omega) _⟩)
  refine wpIn_rangeFunc_ownF rfl (by omega) (gf := 44) (lb := #[.pointer (some ⟨w4.heap.size + 1, 0, none⟩), .pointer (some ⟨w4.heap.size, 0, none⟩)]) rfl trivial (enters_of Try.func44 (by kernel_rfl) rfl)
    (positions_stops Fence.wide _ trivial rfl (by omega) (w4.heap.size + 1) w4.heap.size N (p : Int) hN (by omega) (by omega) _ (by simp) (by simp; omega) (by simp [go_sem]) (by simp [go_sem])) KeepB.trans (keepB_b (by simp; omega)) (Below.refl _ _) (fun _ => rfl)
    (fun pre W => PuC w v (.slice aC m cC) (putF xs p N v (posList pre)) W ∧ Below w.heap.size w W)
    (fun _ _ _ => False)
    (OwnFrom.and (Own.from (I := fun (pre : List (Pos N)) W => PuC w v (.slice aC m cC) (putF xs p N v (posList pre)) W) (fun _ _ _ _ hs hg hr => puC_own hs hg hr) _) (ownFrom_below (Nat.le_refl _) (by simp; omega)))
    (fun _ _ _ _ _ hs _ _ => hs)
    K5.out
    (fun x => { tmps := #[.slice a m c, .int .i64 (p : Int), .int .i64 (N : Int), .int .u64 (v : Int), .pointer (some ⟨w.heap.size, 0, none⟩), undef, undef, .pointer (some ⟨w.heap.size + 1, 0, none⟩), .slice none 0 0, .int .i64 0, .int .i64 0,
      .int .i64 ((p : Int) + (N : Int) - 1 - (x.1 : Int)), .int .i64 (x.1 : Int), .slice a m c, .int .i64 (p : Int), .int .i64 (N : Int), .int .i64 0, .int .i64 0, .bool false, undef, .int .i64 (N : Int),
      .bool true, .bool true, .int .u64 (v : Int), .int .i64 (N : Int), .int .u64 (IntKind.u64.wrap (2 ^ N)), .bool false, .bool false, .slice a m c, .slice aC m cC, .int .i64 (p : Int), .int .i64 (N : Int),
      .func (.func 44) #[] #[.pointer (some ⟨w4.heap.size + 1, 0, none⟩), .pointer (some ⟨w4.heap.size, 0, none⟩)], .int .i64 ((p : Int) + (N : Int) - 1 - (x.1 : Int)), .int .i64 (x.1 : Int), undef, undef, undef, undef, undef, undef, undef, undef, undef], defers := [] }) ?assign ?body ?done ?stop
  case assign =>
    intro l x W K hK
    simp only [posVals]
    gi_wp2
    exact hK
  case body =>
    rintro l pre x W ⟨hC, hB⟩ _
    obtain ⟨j, hj⟩ := x
    obtain ⟨q, hq⟩ : ∃ q : Nat, p + N - 1 - j = q := ⟨_, rfl⟩
    have hqi : (p : Int) + (N : Int) - 1 - (j : Int) = (q : Int) := by omega
    have hqm : q < m := by omega
    obtain ⟨g, rfl, hg, ⟨u0, hcell⟩, hfree⟩ := hC.at_ (by rw [putF_len, hlen]; exact hqm)
    have HC := Lib.hid hC
    have HB := Lib.hid hB
    have x0 : W.cell? ⟨w.heap.size, 0, none⟩ = some (.slice (some ⟨g, 0, none⟩) m cC) := cell_of_block hC.1 rfl
    have x1 : W.cell? ⟨w.heap.size + 1, 0, none⟩ = some (.int .u64 (v : Int)) := cell_of_block hC.2.1 rfl
    have hl0 := lt_of_block hC.1
    have hl1 := lt_of_block hC.2.1
    rw [hqi]
    have hj64 : j < 64 := by omega
    have hj0 : (0 : Int) ≤ (j : Int) := by omega
    have hq0 : (0 : Int) ≤ (q : Int) := by omega
    have hqm' : (q : Int) < (m : Int) := by omega
    have HQ := Lib.hid (show putF xs p N v (posList (pre ++ [⟨j, hj⟩])) = (putF xs p N v (posList pre)).set q ((v >>> j) &&& 1) from by rw [posList_snoc, putF_snoc, putS, hq])
    obtain ⟨v2, v3⟩ := shr_bit v j (Nat.lt_of_lt_of_le HV.out (Nat.pow_le_pow_right (by decide) hN))
    have hgz : g < w4.heap.size := (K4.out.1.2.2.lt g rfl).2
    clear hC hB hq hqi hN hp hm hv K5 K4
    gi_wp2
    gi_region
    all_goals
      first
        | rw [show IntKind.u8.wrap (bits BinOp.and IntKind.u64 ((v : Int) >>> j) 1) = (((v >>> j) &&& 1 : Nat) : Int) from by rw [show ((v : Int) >>> j) = ((v >>> j : Nat) : Int) from rfl, v2, v3]]
        | rw [show IntKind.u8.wrap (bits BinOp.and IntKind.u64 ((v : Int) / (2 : Int) ^ j) 1) = (((v >>> j) &&& 1 : Nat) : Int) from by rw [shr_div v j, v2, v3]]
      refine ⟨(KeepsOthers.setCell _ _ _).trans (KeepsOthers.drew _), ((KeepB.refl _ _).setCell (p := ⟨g, q, none⟩) (by simp; omega) _).drew, ?_, (HB.out.setCell (p := ⟨g, q, none⟩) (by simp; omega) _).drew⟩
      rw [HQ.out]
      exact HC.out.set hg q _
  case done =>
    rintro D ys W hD hys ⟨hC, hB⟩ hK
    have HY := Lib.hid hys
    clear hys
    have x0 : W.cell? ⟨w.heap.size, 0, none⟩ = some (.slice aC m cC) := cell_of_block hC.1 rfl
    have HC := Lib.hid hC
    have HB := Lib.hid hB
    have HK := Lib.hid hK
    clear hC hB hK
    gi_wp2
    refine ⟨by simp, .inl ⟨_, _, rfl, run_takeDeferred HK.out, ?_⟩⟩
    refine ⟨.tuple #[.slice aC m cC, .int .i64 0], ?_, ?_⟩
    · simp [results, Try.f11, go_sem]
    · have hkr : ∀ r, some D = some r → ∃ o : Obj, W.heap[r]? = some o ∧ o.isCells = false := fun r e => by cases e; exact ⟨_, HK.out, rfl⟩
      have ho := own_kept HC.out.2.2 (grownBy_putObj' W D (.deferred none)) hkr
      refine oPost_ok rfl ?_ (HB.out.trans (belowK_b (w := w) (Nat.le_refl _) _ D _ _ (by simp at hD; omega) HK.out rfl rfl))
      unfold putL
      rw [← HY.out]
      exact ownsRow_base ho (by omega)
  case stop =>
    rintro D c pre W _ _ h _
    exact h.elim

set_option maxRecDepth 100000 in
set_option maxHeartbeats 4000000 in
theorem Put_all (a : Option Addr) (m c : Nat) (xs : List Nat) (p N v : Nat) (w : World) (h : U8s w a m xs) (he : fldE xs p N = 0) (hN : N ≤ 64) (hm : m ≤ 128) (hp : p + N ≤ m) (hv : v < 2 ^ N) (h64 : N = 64) :
    Calls Try.prog 11 #[.slice a m c, .int .i64 p, .int .i64 N, .int .u64 (v : Int)] w (OPost 0 (putL xs p N v) w) := by
  have HF := Lib.hid h
  have HE := Lib.hid he
  have hlen := h.len
  have HV := Lib.hid hv
  have d1 : decide ((N : Int) < 64) = false := decide_eq_false (by omega)
  clear h64
  clear h he
  refine (callsIn_wide (n := 6)).1 ?_
  refine callsIn_of_wp_marks Try.func11 rfl trivial ?_ rfl
  simp only [Try.ntmps11, List.size_toArray, List.length_cons, List.length_nil, Nat.reduceAdd, Nat.reduceSub, Array.replicate_succ, Array.replicate_zero, List.push_toArray, List.append_toArray, List.nil_append, List.cons_append]
  have K0 := Lib.hid (show PuK w (.slice a m c) v ((w.alloc (.cells #[.slice a m c] 23)).alloc (.cells #[.int .u64 (v : Int)] 24)) from ⟨block_alloc (block_new _ _ rfl), block_new _ _ (by simp), (below_alloc _ _).alloc (by simp) _⟩)
  gi_wp2_with fail
  refine ⟨trivial, ?_⟩
  refine (callsIn_wide.2 (field_call a m c xs (p : Int) (N : Int) _ (HF.out.below K0.out.2.2) (by omega) (by omega))).mono ?_
  rw [HE.out]
  rintro e w1 ⟨rfl, hb1⟩
  have K1 := Lib.hid (K0.out.keep hb1)
  clear hb1 K0
  have x0 : w1.cell? ⟨w.heap.size, 0, none⟩ = some (.slice a m c) := cell_of_block K1.out.1 rfl
  have x1 : w1.cell? ⟨w.heap.size + 1, 0, none⟩ = some (.int .u64 (v : Int)) := cell_of_block K1.out.2.1 rfl
  have hl0 := lt_of_block K1.out.1
  have hl1 := lt_of_block K1.out.2.1
  gi_wp2_with fail
  gi_quiet (fail)
  have KQ := Lib.hid (show PuK w (.slice a m c) v (w1.drewN nq) from ⟨K1.out.1, K1.out.2.1, below_drewN K1.out.2.2 nq⟩)
  generalize w1.drewN nq = wq at *
  clear x0 x1 hl0 hl1 K1
  have x0 : wq.cell? ⟨w.heap.size, 0, none⟩ = some (.slice a m c) := cell_of_block KQ.out.1 rfl
  have x1 : wq.cell? ⟨w.heap.size + 1, 0, none⟩ = some (.int .u64 (v : Int)) := cell_of_block KQ.out.2.1 rfl
  have hl0 := lt_of_block KQ.out.1
  have hl1 := lt_of_block KQ.out.2.1
  gi_wp2_with fail
  refine ⟨trivial, ?_⟩
  refine (callsIn_wide.2 (clone_call a m c xs _ (HF.out.below KQ.out.2.2) (by omega))).mono ?_
  rintro e w3 ⟨vC, rfl, hO, hb3⟩
  obtain ⟨aC, cC, rfl⟩ := own_slice hO
  rw [hlen] at hO
  rw [hlen]
  have K3 := Lib.hid (And.intro (KQ.out.keep hb3) (ownsRow_base hO (show w.heap.size + 2 ≤ wq.heap.size by omega)))
  clear hb3 hO x0 x1 hl0 hl1 KQ
  have x0 : w3.cell? ⟨w.heap.size, 0, none⟩ = some (.slice a m c) := cell_of_block K3.out.1.1 rfl
  have f0 : w3.frozen? ⟨w.heap.size, 0, none⟩ = false := free_of_block K3.out.1.1
  have hl1 := lt_of_block K3.out.1.2.1
  gi_wp2_with fail
  have K4 := Lib.hid (show PuC w v (.slice aC m cC) xs (w3.setCell ⟨w.heap.size, 0, none⟩ (.slice aC m cC)) ∧ Below w.heap.size w (w3.setCell ⟨w.heap.size, 0, none⟩ (.slice aC m cC)) from
    ⟨⟨block_setCell K3.out.1.1, ((Only.refl _ _).setCell 0 _).keeps K3.out.1.2.1 (by omega), by rw [hlen]; exact ownsRow_only K3.out.2 ((Only.refl w.heap.size w3).setCell 0 _) (ownR_ge K3.out.2 (by omega))⟩, K3.out.1.2.2.trans (((Only.refl w.heap.size w3).setCell 0 _).below (Nat.le_refl _) K3.out.1.2.2.size)⟩)
  clear x0 f0 K3
  have hz4 : w.heap.size + 1 < (w3.setCell ⟨w.heap.size, 0, none⟩ (.slice aC m cC)).heap.size := by simpa [World.setCell] using hl1
  generalize w3.setCell ⟨w.heap.size, 0, none⟩ (.slice aC m cC) = w4 at *
  clear hl1
  refine ⟨trivial, ?_⟩
  refine (callsIn_wide.2 (positions_call _ _ _)).mono ?_
  rintro e w5 ⟨rfl, rfl⟩
  gi_wp2_with fail
  have K5 := Lib.hid (show PuC w v (.slice aC m cC) xs ((w4.alloc (.cells #[.int .i64 (p : Int)] 3)).alloc (.cells #[.int .i64 (N : Int)] 3)) ∧ Below w.heap.size w ((w4.alloc (.cells #[.int .i64 (p : Int)] 3)).alloc (.cells #[.int .i64 (N : Int)] 3)) from
    ⟨(K4.out.1.keep (below_alloc _ _)).keep (below_alloc _ _), (K4.out.2.alloc K4.out.2.size _).alloc (by have := K4.out.2.size; simp; omega) _⟩)
  refine wpIn_rangeFunc_ownF rfl (by omega) (gf := 44) (lb := #[.pointer (some ⟨w4.heap.size + 1, 0, none⟩), .pointer (some ⟨w4.heap.size, 0, none⟩)]) rfl trivial (enters_of Try.func44 (by kernel_rfl) rfl)
    (positions_stops Fence.wide _ trivial rfl (by omega) (w4.heap.size + 1) w4.heap.size N (p : Int) hN (by omega) (by omega) _ (by simp) (by simp; omega) (by simp [go_sem]) (by simp [go_sem])) KeepB.trans (keepB_b (by simp; omega)) (Below.refl _ _) (fun _ => rfl)
    (fun pre W => PuC w v (.slice aC m cC) (putF xs p N v (posList pre)) W ∧ Below w.heap.size w W)
    (fun _ _ _ => False)
    (OwnFrom.and (Own.from (I := fun (pre : List (Pos N)) W => PuC w v (.slice aC m cC) (putF xs p N v (posList pre)) W) (fun _ _ _ _ hs hg hr => puC_own hs hg hr) _) (ownFrom_below (Nat.le_refl _) (by simp; omega)))
    (fun _ _ _ _ _ hs _ _ => hs)
    K5.out
    (fun x => { tmps := #[.slice a m c, .int .i64 (p : Int), .int .i64 (N : Int), .int .u64 (v : Int), .pointer (some ⟨w.heap.size, 0, none⟩), undef, undef, .pointer (some ⟨w.heap.size + 1, 0, none⟩), .slice none 0 0, .int .i64 0, .int .i64 0,
      .int .i64 ((p : Int) + (N : Int) - 1 - (x.1 : Int)), .int .i64 (x.1 : Int), .slice a m c, .int .i64 (p : Int), .int .i64 (N : Int), .int .i64 0, .int .i64 0, .bool false, undef, .int .i64 (N : Int),
      .bool false, .bool false, undef, undef, undef, undef, .bool false, .slice a m c, .slice aC m cC, .int .i64 (p : Int), .int .i64 (N : Int),
      .func (.func 44) #[] #[.pointer (some ⟨w4.heap.size + 1, 0, none⟩), .pointer (some ⟨w4.heap.size, 0, none⟩)], .int .i64 ((p : Int) + (N : Int) - 1 - (x.1 : Int)), .int .i64 (x.1 : Int), undef, undef, undef, undef, undef, undef, undef, undef, undef], defers := [] }) ?assign ?body ?done ?stop
  case assign =>
    intro l x W K hK
    simp only [posVals]
    gi_wp2
    exact hK
  case body =>
    rintro l pre x W ⟨hC, hB⟩ _
    obtain ⟨j, hj⟩ := x
    obtain ⟨q, hq⟩ : ∃ q : Nat, p + N - 1 - j = q := ⟨_, rfl⟩
    have hqi : (p : Int) + (N : Int) - 1 - (j : Int) = (q : Int) := by omega
    have hqm : q < m := by omega
    obtain ⟨g, rfl, hg, ⟨u0, hcell⟩, hfree⟩ := hC.at_ (by rw [putF_len, hlen]; exact hqm)
    have HC := Lib.hid hC
    have HB := Lib.hid hB
    have x0 : W.cell? ⟨w.heap.size, 0, none⟩ = some (.slice (some ⟨g, 0, none⟩) m cC) := cell_of_block hC.1 rfl
    have x1 : W.cell? ⟨w.heap.size + 1, 0, none⟩ = some (.int .u64 (v : Int)) := cell_of_block hC.2.1 rfl
    have hl0 := lt_of_block hC.1
    have hl1 := lt_of_block hC.2.1
    rw [hqi]
    have hj64 : j < 64 := by omega
    have hj0 : (0 : Int) ≤ (j : Int) := by omega
    have hq0 : (0 : Int) ≤ (q : Int) := by omega
    have hqm' : (q : Int) < (m : Int) := by omega
    have HQ := Lib.hid (show putF xs p N v (posList (pre ++ [⟨j, hj⟩])) = (putF xs p N v (posList pre)).set q ((v >>> j) &&& 1) from by rw [posList_snoc, putF_snoc, putS, hq])
    obtain ⟨v2, v3⟩ := shr_bit v j (Nat.lt_of_lt_of_le HV.out (Nat.pow_le_pow_right (by decide) hN))
    have hgz : g < w4.heap.size := (K4.out.1.2.2.lt g rfl).2
    clear hC hB hq hqi hN hp hm hv K5 K4
    gi_wp2
    gi_region
    all_goals
      first
        | rw [show IntKind.u8.wrap (bits BinOp.and IntKind.u64 ((v : Int) >>> j) 1) = (((v >>> j) &&& 1 : Nat) : Int) from by rw [show ((v : Int) >>> j) = ((v >>> j : Nat) : Int) from rfl, v2, v3]]
        | rw [show IntKind.u8.wrap (bits BinOp.and IntKind.u64 ((v : Int) / (2 : Int) ^ j) 1) = (((v >>> j) &&& 1 : Nat) : Int) from by rw [shr_div v j, v2, v3]]
      refine ⟨(KeepsOthers.setCell _ _ _).trans (KeepsOthers.drew _), ((KeepB.refl _ _).setCell (p := ⟨g, q, none⟩) (by simp; omega) _).drew, ?_, (HB.out.setCell (p := ⟨g, q, none⟩) (by simp; omega) _).drew⟩
      rw [HQ.out]
      exact HC.out.set hg q _
  case done =>
    rintro D ys W hD hys ⟨hC, hB⟩ hK
    have HY := Lib.hid hys
    clear hys
    have x0 : W.cell? ⟨w.heap.size, 0, none⟩ = some (.slice aC m cC) := cell_of_block hC.1 rfl
    have HC := Lib.hid hC
    have HB := Lib.hid hB
    have HK := Lib.hid hK
    clear hC hB hK
    gi_wp2
    refine ⟨by simp, .inl ⟨_, _, rfl, run_takeDeferred HK.out, ?_⟩⟩
    refine ⟨.tuple #[.slice aC m cC, .int .i64 0], ?_, ?_⟩
    · simp [results, Try.f11, go_sem]
    · have hkr : ∀ r, some D = some r → ∃ o : Obj, W.heap[r]? = some o ∧ o.isCells = false := fun r e => by cases e; exact ⟨_, HK.out, rfl⟩
      have ho := own_kept HC.out.2.2 (grownBy_putObj' W D (.deferred none)) hkr
      refine oPost_ok rfl ?_ (HB.out.trans (belowK_b (w := w) (Nat.le_refl _) _ D _ _ (by simp at hD; omega) HK.out rfl rfl))
      unfold putL
      rw [← HY.out]
      exact ownsRow_base ho (by omega)
  case stop =>
    rintro D c pre W _ _ h _
    exact h.elim

theorem Put_ok (a : Option Addr) (m c : Nat) (xs : List Nat) (p N v : Nat) (w : World) (h : U8s w a m xs) (he : fldE xs p N = 0) (hN : N ≤ 64) (hm : m ≤ 128) (hp : p + N ≤ m) (hv : v < 2 ^ N) :
    Calls Try.prog 11 #[.slice a m c, .int .i64 p, .int .i64 N, .int .u64 (v : Int)] w (OPost 0 (putL xs p N v) w) := by
  by_cases h64 : N < 64
  · exact Put_some a m c xs p N v w h he hN hm hp hv h64
  · exact Put_all a m c xs p N v w h he hN hm hp hv (by omega)
end Go.Proofs.Ythabecfajponfaa
