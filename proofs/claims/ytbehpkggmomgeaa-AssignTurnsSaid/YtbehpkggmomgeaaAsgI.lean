/-
  Layer 19 (assign): lists of numbers and of pairs, compared and copied.
-/
import Derived.Test.YtbehpkggmomgeaaAsgA
import Derived.Test.YtbehpkggmomgeaaAsgPr
import Derived.Test.YtbehpkggmomgeaaCopyLib
import Derived.Laws.StructEq
namespace Go.Proofs.Ytbehpkggmomgeaa
open Go.RowKit AsgRows MyHeap MyOwn MyCopy

def flatI (xs : List Int) : List Value := xs.map fun x => .int .i64 x
theorem flatI_snoc (xs : List Int) (x : Int) : flatI (xs ++ [x]) = flatI xs ++ [.int .i64 x] := by simp [flatI]
theorem flatI_len (xs : List Int) : (flatI xs).length = xs.length := by simp [flatI]
theorem infoI : (Try.prog.info? 3).map (fun i => (i.zero, i.size, i.bytes)) = some (some (.int .i64 0), 1, 8) := by kernel_rfl
theorem info_parts' {o : Option TypeInfo} {z : Value} {s b : Nat} (h : o.map (fun i => (i.zero, i.size, i.bytes)) = some (some z, s, b)) : ∃ i, o = some i ∧ i.zero = some z ∧ i.size = s ∧ i.bytes = b := by
  cases o with
  | none => cases h
  | some i => simp only [Option.map_some, Option.some.injEq, Prod.mk.injEq] at h; exact ⟨i, rfl, h.1, h.2.1, h.2.2⟩
theorem cells_one {w : World} {x : Value} {T : TypeId} {n : Nat} (hn : n = w.heap.size) : ∀ (j : Nat) (u : Value), [x][j]? = some u → (w.alloc (.cells #[x] T)).cell? ((⟨n, 0, none⟩ : Addr).add j) = some u := by
  subst hn
  exact cell_one_new w x T


/-- The first k are equal. -/
def SameI (xs ys : List Int) (k : Nat) : Prop := ∀ i, i < k → gi xs i = gi ys i
theorem sameI_all {xs ys : List Int} (hl : xs.length = ys.length) (h : SameI xs ys xs.length) : xs = ys := by
  apply List.ext_getElem hl
  intro i h1 h2
  have := h i h1
  unfold gi at this
  simpa [List.getElem?_eq_getElem h1, List.getElem?_eq_getElem h2] using this

set_option maxRecDepth 100000 in
set_option maxHeartbeats 2000000 in
theorem equalInts_call (a a' : Option Addr) (n n' c c' : Nat) (xs ys : List Int) (w : World) (h : Ints w a n xs) (h' : Ints w a' n' ys) :
    Calls Try.prog 31 #[.slice a n c, .slice a' n' c'] w (BPost (decide (xs = ys)) w) := by
  have hm := h.bound
  have hm' := h'.bound
  have hl := h.len
  have hl' := h'.len
  by_cases hn : n = n'
  · subst hn
    have hcs := h.cells
    have hcs' := h'.cells
    clear h h'
    have HL := Lib.hid (And.intro hl hl')
    clear hl hl'
    have hnn : ((n : Int) != (n : Int)) = false := by simp
    go_enter Try.func31, Try.ntmps31
    go_wp2_with fail
    go_loopw [5] (fun k wr => ∃ j : Nat, j ≤ n ∧ k = .int .i64 j ∧ SameI xs ys j ∧ ∃ d, wr = w.drewN d) (fun k _ => n - (intOf k).toNat)
    case atStart => exact ⟨0, by omega, rfl, fun i hi => by omega, 0, rfl⟩
    case round =>
      obtain ⟨k, hk, rfl, hS, d, rfl⟩ := hrel
      have HS := Lib.hid hS
      clear hS
      by_cases hlt : k < n
      · rcases hcs with h0 | ⟨b, off, rfl, hc⟩
        · omega
        rcases hcs' with h0 | ⟨b', off', rfl, hc'⟩
        · omega
        have x0 := hc k hlt
        have y0 := hc' k hlt
        clear hc hc'
        have hk0 : (0 : Int) ≤ (k : Int) := by omega
        have hk1 : (k : Int) < (n : Int) := by omega
        by_cases hx : gi xs k = gi ys k
        · have ht : (gi xs k != gi ys k) = false := by rw [bne_eq_false_iff_eq]; exact hx
          have HX := Lib.hid hx
          clear hx
          go_wp2_with fail
          go_quiet (fail)
          go_wp2_with fail
          go_roundw
          case rel => exact ⟨k + 1, by omega, by go_num, fun i hi => by
            by_cases e : i = k
            · subst e; exact HX.out
            · exact HS.out i (by omega), _, rfl⟩
          case measure => simp [intOf]; omega
        · have ht : (gi xs k != gi ys k) = true := by rw [bne_iff_ne]; exact hx
          have HX := Lib.hid hx
          clear hx
          go_wp2_with fail
          go_quiet (fail)
          go_wp2_with fail
          go_ret
          exact bPost_of (by rw [decide_eq_false (fun e => HX.out (by rw [e]))]) (below_drewN (below_drewN (Below.refl _ _) _) _)
      · obtain rfl : k = n := by omega
        go_wp2_with fail
        go_ret
        exact bPost_of (by rw [decide_eq_true (sameI_all (HL.out.1.trans HL.out.2.symm) (by rw [HL.out.1]; exact HS.out))]) (below_drewN (Below.refl _ _) _)
  · have hnn : ((n : Int) != (n' : Int)) = true := by rw [bne_iff_ne]; omega
    have HN := Lib.hid hn
    clear hn h h'
    have HL := Lib.hid (And.intro hl hl')
    clear hl hl'
    go_enter Try.func31, Try.ntmps31
    go_wp2_with fail
    go_ret
    exact bPost_of (by rw [decide_eq_false (fun e => HN.out (by rw [← HL.out.1, ← HL.out.2, e]))]) (Below.refl _ _)


theorem ownI_ge {w : World} {base : Nat} {e : TypeId} {size : Nat} {v : Value} {n : Nat} {xs : List Value} (h : w.ownsRow base e size v n xs) {b : Nat} (hb : b < base) : v.ownBlock ≠ some b := fun e' => by
  have := (h.lt b e').1
  omega
theorem grownI {w w' : World} {base B : Nat} {e : TypeId} {size : Nat} {v : Value} {n : Nat} {xs : List Value} (h : w.ownsRow base e size v n xs) (hg : w.grownBy w' v.ownBlock) (hB : B ≤ base) (hs : B ≤ w.heap.size) : Below B w w' :=
  ⟨hg.os, hg.tape, hg.output, hg.size, fun k hk => hg.block k (by omega) (fun e' => by have := (h.lt k e'.symm).1; omega)⟩
theorem flatI_take {l : List Int} {k : Nat} (hk : k < l.length) : flatI (l.take (k + 1)) = flatI (l.take k) ++ [.int .i64 (gi l k)] := by
  unfold flatI gi
  rw [List.take_succ_eq_append_getElem hk, List.getElem?_eq_getElem hk]
  simp only [List.map_append, List.map_cons, List.map_nil, Option.getD_some]
theorem ints_own {w : World} {base : Nat} {e : TypeId} {v : Value} {l : List Int} {n : Nat} (hl : l.length = n) (h : w.ownsRow base e 1 v n (flatI l)) (hm : n ≤ 9223372036854775807) : ∃ a c, v = .slice a n c ∧ Ints w a n l := by
  rcases h.2 with ⟨rfl, h0⟩ | ⟨g, cap, cur, rfl, hg, hh, hc, hcm, hcs, htake⟩
  · exact ⟨none, 0, by rw [h0], ⟨hl, hm, Or.inl h0⟩⟩
  · refine ⟨some ⟨g, 0, none⟩, cap, rfl, ⟨hl, hm, Or.inr ⟨g, 0, rfl, fun i hi => ?_⟩⟩⟩
    have hx : (flatI l)[i]? = some (.int .i64 (gi l i)) := by
      unfold flatI gi
      rw [List.getElem?_map, List.getElem?_eq_getElem (by omega)]
      simp
    rw [← htake, List.getElem?_take_of_lt (by omega)] at hx
    rw [Nat.zero_add]
    exact cell_of_block hh (by simpa using hx)
/-- A copy came back, in new memory. -/
def CiPost (l : List Int) (n : Nat) (w : World) (e : Ending) (w' : World) : Prop := ∃ v, e = .returned v ∧ w'.ownsRow w.heap.size 3 1 v n (flatI l) ∧ Below w.heap.size w w'

set_option maxRecDepth 100000 in
set_option maxHeartbeats 4000000 in
theorem copyInts_call (a : Option Addr) (n c : Nat) (l : List Int) (w : World) (h : Ints w a n l) (hn : n ≤ 1000) :
    Calls Try.prog 28 #[.slice a n c] w (CiPost l n w) := by
  have HL := Lib.hid h
  obtain ⟨i0, hi, hiz, his, hib⟩ := info_parts' infoI
  have HI := Lib.hid (And.intro hi (And.intro hiz (And.intro his hib)))
  clear h hi hiz his hib
  go_enter Try.func28, Try.ntmps28
  go_wp2_with fail
  go_loopw [3, 4] (fun v kv wr => ∃ k : Nat, k ≤ n ∧ kv = .int .i64 k ∧ wr.ownsRow w.heap.size 3 1 v k (flatI (l.take k)) ∧ Below w.heap.size w wr) (fun _ kv _ => n - (intOf kv).toNat)
  case atStart => exact ⟨0, by omega, rfl, ⟨rfl, Or.inl ⟨rfl, rfl⟩⟩, Below.refl _ _⟩
  case round =>
    obtain ⟨k, hk, rfl, hO, hB⟩ := hrel
    have H := Lib.hid (And.intro hO hB)
    by_cases hlt : k < n
    · obtain ⟨b, off, rfl, x0⟩ := ints_at (HL.out.below hB) hlt
      have hk0 : (0 : Int) ≤ (k : Int) := by omega
      have hk1 : (k : Int) < (n : Int) := by omega
      have hz := hB.size
      have HZ := Lib.hid hz
      have hown : (wr.alloc (.cells #[.int .i64 (gi l k)] 3)).ownsRow w.heap.size 3 1 _ k (flatI (l.take k)) := ownsRow_below hO (below_alloc wr _) (Nat.le_refl _)
      have HO := Lib.hid hown
      clear hO hB hown
      go_wp2_with (refine wpList_append_src rfl _ _ 24 rfl w.heap.size 3 i0 _ 1 8 Try.underlying24 HI.out.1 HI.out.2.1 HI.out.2.2.1 HI.out.2.2.2 rfl (by decide) _ k _ rfl HO.out (some ⟨wr.heap.size, 0, none⟩) 1 1 [.int .i64 (gi l k)] rfl (fun e => by cases e) rfl ?c1 ?c2 ?c3 ?c4 ?c5 ?_; rotate_right; intro v7 w7 hown7 hgrow)
      case c1 => intro ad had; cases had; exact cells_one rfl
      case c2 => intro u hu; simp at hu; subst hu; rfl
      case c3 => unfold maxLen; omega
      case c4 => omega
      case c5 => have := HZ.out; simp; omega
      have hg' := grownI (B := w.heap.size) HO.out hgrow (Nat.le_refl _) (by have := HZ.out; simp; omega)
      go_roundw
      case rel => exact ⟨k + 1, by omega, by go_num, by rw [flatI_take (by rw [HL.out.len]; exact hlt)]; exact hown7, (H.out.2.alloc HZ.out _).trans hg'⟩
      case measure => simp [intOf]; omega
    · obtain rfl : k = n := by omega
      clear hO hB
      go_wp2_with fail
      go_ret
      exact ⟨_, rfl, by have := H.out.1; rwa [List.take_of_length_le (by rw [HL.out.len]; exact Nat.le_refl _)] at this, H.out.2⟩
def prB (p q : Int × Int) : Bool := p.1 == q.1 && p.2 == q.2
theorem pln_neq (z v z' v' : Int) (w : World) : (binOp .neq 42 (.agg #[.int .i64 z, .int .i64 v]) (.agg #[.int .i64 z', .int .i64 v'])).run Try.prog w = .ok (.bool (!prB (z, v) (z', v'))) w := by
  have u3 := Try.underlying3
  have a3 := Try.isAgg3
  have z3 := Try.sizeOf3
  have hS : Try.prog.underlying 42 = some (.struct (Try.prog.fieldsOf 42)) := by kernel_rfl
  have hp : Try.prog.stoodInHeld 42 = false := by kernel_rfl
  unfold prB
  rw [run_neq_struct, show (10000 : Nat) = 9999 + 1 from rfl, run_equalIn_agg w 9999 42 _ _ hS hp]
  simp only [Program.fieldsOf, Try.underlying42]
  go_simp
  by_cases h1 : z = z' <;> by_cases h2 : v = v' <;> simp [h1, h2]
theorem pln_eql (z v z' v' : Int) (w : World) : (binOp .eql 42 (.agg #[.int .i64 z, .int .i64 v]) (.agg #[.int .i64 z', .int .i64 v'])).run Try.prog w = .ok (.bool (prB (z, v) (z', v'))) w := by
  have u3 := Try.underlying3
  have a3 := Try.isAgg3
  have z3 := Try.sizeOf3
  have hS : Try.prog.underlying 42 = some (.struct (Try.prog.fieldsOf 42)) := by kernel_rfl
  have hp : Try.prog.stoodInHeld 42 = false := by kernel_rfl
  unfold prB
  rw [run_eql_struct, show (10000 : Nat) = 9999 + 1 from rfl, run_equalIn_agg w 9999 42 _ _ hS hp]
  simp only [Program.fieldsOf, Try.underlying42]
  go_simp
  by_cases h1 : z = z' <;> by_cases h2 : v = v' <;> simp [h1, h2]
theorem pln_guard (op : BinOp) (x y : Operand) (xs ys : Array Value) (w : World) : (eqGuard op 42 x y (.agg xs) (.agg ys)).run Try.prog w = .ok () w := run_eqGuard_agg w op _ x y xs ys (by kernel_rfl)

/-- The first k are equal. -/
def SameTo (ps qs : List (Int × Int)) (k : Nat) : Prop := ∀ i, i < k → ps[i]?.getD (0, 0) = qs[i]?.getD (0, 0)
theorem sameTo_all {ps qs : List (Int × Int)} (hl : ps.length = qs.length) (h : SameTo ps qs ps.length) : ps = qs := by
  apply List.ext_getElem hl
  intro i h1 h2
  have := h i h1
  simpa [List.getElem?_eq_getElem h1, List.getElem?_eq_getElem h2] using this
theorem prB_true {p q : Int × Int} : prB p q = true ↔ p = q := by
  unfold prB
  rw [Bool.and_eq_true, beq_iff_eq, beq_iff_eq]
  exact ⟨fun h => Prod.ext h.1 h.2, fun h => by subst h; exact ⟨rfl, rfl⟩⟩
theorem prB_false {p q : Int × Int} (h : p ≠ q) : prB p q = false := by
  cases hb : prB p q with
  | false => rfl
  | true => exact absurd (prB_true.1 hb) h

set_option maxRecDepth 100000 in
set_option maxHeartbeats 2000000 in
theorem equalPairs_call (a a' : Option Addr) (n n' c c' : Nat) (ps qs : List (Int × Int)) (w : World) (h : Prs w a n ps) (h' : Prs w a' n' qs) :
    Calls Try.prog 16 #[.slice a n c, .slice a' n' c'] w fun e w' => e = .returned (.bool (decide (ps = qs))) ∧ Below w.heap.size w w' := by
  have hm := h.bound
  have hm' := h'.bound
  have hl := h.len
  have hl' := h'.len
  by_cases hn : n = n'
  · subst hn
    have hcs := h.cells
    have hcs' := h'.cells
    clear h h'
    have HL := Lib.hid (And.intro hl hl')
    clear hl hl'
    have hnn : ((n : Int) != (n : Int)) = false := by simp
    have gd := pln_guard
    have ng := pln_neq
    go_enter Try.func16, Try.ntmps16
    go_wp2_with fail
    go_loopw [5] (fun k wr => ∃ j : Nat, j ≤ n ∧ k = .int .i64 j ∧ SameTo ps qs j ∧ ∃ d, wr = w.drewN d) (fun k _ => n - (intOf k).toNat)
    case atStart => exact ⟨0, by omega, rfl, fun i hi => by omega, 0, rfl⟩
    case round =>
      obtain ⟨k, hk, rfl, hS, d, rfl⟩ := hrel
      have HS := Lib.hid hS
      clear hS
      by_cases hlt : k < n
      · rcases hcs with h0 | ⟨b, off, rfl, hc⟩
        · omega
        rcases hcs' with h0 | ⟨b', off', rfl, hc'⟩
        · omega
        obtain ⟨x0, x1⟩ := hc k hlt
        obtain ⟨y0, y1⟩ := hc' k hlt
        clear hc hc'
        by_cases hx : ps[k]?.getD (0, 0) = qs[k]?.getD (0, 0)
        · have ht : prB ((ps[k]?.getD (0, 0)).1, (ps[k]?.getD (0, 0)).2) ((qs[k]?.getD (0, 0)).1, (qs[k]?.getD (0, 0)).2) = true := prB_true.2 hx
          have HX := Lib.hid hx
          clear hx
          go_wp2_with fail
          go_quiet (fail)
          go_wp2_with fail
          go_roundw
          case rel => exact ⟨k + 1, by omega, by go_num, fun i hi => by
            by_cases e : i = k
            · subst e; exact HX.out
            · exact HS.out i (by omega), _, rfl⟩
          case measure => simp [intOf]; omega
        · have ht : prB ((ps[k]?.getD (0, 0)).1, (ps[k]?.getD (0, 0)).2) ((qs[k]?.getD (0, 0)).1, (qs[k]?.getD (0, 0)).2) = false := prB_false hx
          have HX := Lib.hid hx
          clear hx
          go_wp2_with fail
          go_quiet (fail)
          go_wp2_with fail
          go_ret
          exact ⟨by rw [decide_eq_false (fun e => HX.out (by rw [e]))]; rfl, below_drewN (below_drewN (Below.refl _ _) _) _⟩
      · obtain rfl : k = n := by omega
        go_wp2_with fail
        go_ret
        exact ⟨by rw [decide_eq_true (sameTo_all (HL.out.1.trans HL.out.2.symm) (by rw [HL.out.1]; exact HS.out))]; rfl, below_drewN (Below.refl _ _) _⟩
  · have hnn : ((n : Int) != (n' : Int)) = true := by rw [bne_iff_ne]; omega
    have HN := Lib.hid hn
    clear hn h h'
    have HL := Lib.hid (And.intro hl hl')
    clear hl hl'
    go_enter Try.func16, Try.ntmps16
    go_wp2_with fail
    go_ret
    exact ⟨by rw [decide_eq_false (fun e => HN.out (by rw [← HL.out.1, ← HL.out.2, e]))]; rfl, Below.refl _ _⟩
theorem prs_at {w : World} {a : Option Addr} {n : Nat} {ps : List (Int × Int)} (h : Prs w a n ps) {k : Nat} (hk : k < n) : ∃ b off, a = some ⟨b, off, none⟩ ∧ w.cell? ⟨b, off + k * 2, none⟩ = some (.int .i64 (ps[k]?.getD (0, 0)).1) ∧ w.cell? ⟨b, off + k * 2 + 1, none⟩ = some (.int .i64 (ps[k]?.getD (0, 0)).2) := by
  rcases h.cells with h0 | ⟨b, off, e, hc⟩
  · omega
  · exact ⟨b, off, e, hc k hk⟩
theorem prs_src {w : World} {a : Option Addr} {n : Nat} {l : List (Int × Int)} (h : Prs w a n l) : ∀ ad, a = some ad → ∀ (j : Nat) (u : Value), (flat2 l)[j]? = some u → w.cell? (ad.add j) = some u := by
  intro ad ha j u hu
  have hlt : j < l.length * 2 := by rw [← flat2_length]; exact (List.getElem?_eq_some_iff.1 hu).1
  have hl := h.len
  obtain ⟨b', off', e, h0, h1⟩ := prs_at h (k := j / 2) (by omega)
  cases e
  cases ha
  obtain ⟨g0, g1⟩ := flat2_get l (j / 2) (by omega)
  have hadd : (⟨b', off', none⟩ : Addr).add j = ⟨b', off' + j, none⟩ := by unfold Addr.add; split <;> simp_all
  rw [hadd]
  rcases (show j = j / 2 * 2 ∨ j = j / 2 * 2 + 1 by omega) with e | e
  · rw [e, g0] at hu
    rw [e, h0]; exact hu
  · rw [e, g1] at hu
    rw [e, ← Nat.add_assoc, h1]; exact hu
theorem flat2_one (l : List (Int × Int)) : ∀ u ∈ flat2 l, u.oneCell' = true := by
  intro u hu
  unfold flat2 at hu
  obtain ⟨p, _, hp⟩ := List.mem_flatMap.1 hu
  simp at hp
  rcases hp with rfl | rfl <;> rfl

/-- A copy of pairs came back, in new memory. -/
def CpPost (ps : List (Int × Int)) (w : World) (e : Ending) (w' : World) : Prop := ∃ v, e = .returned v ∧ w'.ownsRow w.heap.size 42 2 v ps.length (flat2 ps) ∧ Below w.heap.size w w'
theorem infoPairI : (Try.prog.info? 42).map (fun i => (i.zero, i.size, i.bytes)) = some (some (.agg #[.int .i64 0, .int .i64 0]), 2, 16) := by kernel_rfl
set_option maxRecDepth 100000 in
set_option maxHeartbeats 4000000 in
theorem copyPairs_call (a : Option Addr) (n c : Nat) (ps : List (Int × Int)) (w : World) (h : Prs w a n ps) (hc : a = none → n = 0 ∧ c = 0) (hn : n ≤ 1000) :
    Calls Try.prog 21 #[.slice a n c] w (CpPost ps w) := by
  have HL := Lib.hid h
  have HC := Lib.hid hc
  obtain ⟨i0, hi, hiz, his, hib⟩ := info_parts infoPairI
  have HI := Lib.hid (And.intro hi (And.intro hiz (And.intro his hib)))
  clear h hc hi hiz his hib
  go_enter Try.func21, Try.ntmps21
  go_wp2_with (at_builtin; refine wpList_append_src rfl _ _ 27 rfl w.heap.size 42 i0 _ 2 16 Try.underlying27 HI.out.1 HI.out.2.1 HI.out.2.2.1 HI.out.2.2.2 rfl (by decide) _ 0 [] rfl ?c0 a n c (flat2 ps) rfl HC.out ?c6 ?c1 ?c2 ?c3 ?c4 ?c5 ?_; rotate_right; intro v2 w2 hown2 hgrow)
  case c0 => exact ⟨rfl, Or.inl ⟨rfl, rfl⟩⟩
  case c6 => rw [flat2_length, HL.out.len]
  case c1 => exact prs_src HL.out
  case c2 => exact flat2_one ps
  case c3 => unfold maxLen; omega
  case c4 => omega
  case c5 => exact Nat.le_refl _
  go_ret
  have hO : w.ownsRow w.heap.size 42 2 (.slice none 0 0) 0 [] := ⟨rfl, Or.inl ⟨rfl, rfl⟩⟩
  exact ⟨_, rfl, by rw [HL.out.len]; simpa using hown2, grownI hO hgrow (Nat.le_refl _) (Nat.le_refl _)⟩
end Go.Proofs.Ytbehpkggmomgeaa
