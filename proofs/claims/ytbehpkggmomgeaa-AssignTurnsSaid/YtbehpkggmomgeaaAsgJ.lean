/-
  Layer 19 (assign): matrices compared and copied; their size.
-/
import Derived.Test.YtbehpkggmomgeaaAsgI
import Derived.Deep.RegionWith
namespace Go.Proofs.Ytbehpkggmomgeaa
open Go.RowKit AsgRows MyHeap MyOwn MyCopy

/-- The first k rows are equal. -/
def SameR (L L' : List (List Int)) (k : Nat) : Prop := ∀ i, i < k → rowL L i = rowL L' i
theorem sameR_all {L L' : List (List Int)} (hl : L.length = L'.length) (h : SameR L L' L.length) : L = L' := by
  apply List.ext_getElem hl
  intro i h1 h2
  have := h i h1
  unfold rowL at this
  simpa [List.getElem?_eq_getElem h1, List.getElem?_eq_getElem h2] using this

set_option maxRecDepth 100000 in
set_option maxHeartbeats 4000000 in
theorem equalRows_call (a a' : Option Addr) (n n' c c' : Nat) (L L' : List (List Int)) (w : World) (h : Mtx w a n L) (h' : Mtx w a' n' L') :
    Calls Try.prog 18 #[.slice a n c, .slice a' n' c'] w (BPost (decide (L = L')) w) := by
  have hm := h.bound
  have hm' := h'.bound
  have hl := h.len
  have hl' := h'.len
  have HL := Lib.hid (And.intro hl hl')
  have HM := Lib.hid (And.intro h h')
  clear hl hl' h h'
  by_cases hn : n = n'
  · subst hn
    have hnn : ((n : Int) != (n : Int)) = false := by simp
    go_enter Try.func18, Try.ntmps18
    go_wp2_with fail
    go_loopw [5] (fun k wr => ∃ j : Nat, j ≤ n ∧ k = .int .i64 j ∧ SameR L L' j ∧ Below w.heap.size w wr) (fun k _ => n - (intOf k).toNat)
    case atStart => exact ⟨0, by omega, rfl, fun i hi => by omega, Below.refl _ _⟩
    case round =>
      obtain ⟨k, hk, rfl, hS, hB⟩ := hrel
      have HS := Lib.hid hS
      have B := Lib.hid hB
      clear hS hB
      by_cases hlt : k < n
      · obtain ⟨b, off, rfl, ra, rc, x0, xi⟩ := mtx_at HM.out.1 hlt
        obtain ⟨b', off', rfl, ra', rc', y0, yi⟩ := mtx_at HM.out.2 hlt
        have HX := Lib.hid (And.intro x0 y0)
        have HI := Lib.hid (And.intro xi yi)
        have hk0 : (0 : Int) ≤ (k : Int) := by omega
        have hk1 : (k : Int) < (n : Int) := by omega
        have q0 := World.block_lt_of_cell? wr _ (keep1 B.out x0)
        have q1 := World.block_lt_of_cell? wr _ (keep1 B.out y0)
        generalize (rowL L k).length = r1 at *
        generalize (rowL L' k).length = r2 at *
        clear x0 y0 xi yi
        go_wp2_with fail
        have K := Lib.hid (show Below w.heap.size w wr.drew from below_drewN B.out 1)
        cases hd : decide (rowL L k = rowL L' k) with
        | true =>
          go_region_held3 (fun w' => w'.cell? ⟨b, off + k, none⟩ = some (.slice ra r1 rc) ∧ w'.cell? ⟨b', off' + k, none⟩ = some (.slice ra' r2 rc')) (exact ⟨keep1 K.out HX.out.1, keep1 K.out HX.out.2⟩)
            ((go_at_call 31; refine (equalInts_call ra ra' r1 r2 rc rc' _ _ _ (HI.out.1.below K.out) (HI.out.2.below K.out)).mono ?_; rintro e w5 ⟨rfl, hb⟩; rw [hd]; replace K := Lib.hid (K.out.trans (hb.mono K.out.size)); clear hb))
          all_goals
            go_wp2_with fail
            go_roundw
            case rel => exact ⟨k + 1, by omega, by go_num, fun i hi => by
              by_cases e : i = k
              · subst e; exact of_decide_eq_true hd
              · exact HS.out i (by omega), K.out⟩
            case measure => simp [intOf]; omega
        | false =>
          go_region_held3 (fun w' => w'.cell? ⟨b, off + k, none⟩ = some (.slice ra r1 rc) ∧ w'.cell? ⟨b', off' + k, none⟩ = some (.slice ra' r2 rc')) (exact ⟨keep1 K.out HX.out.1, keep1 K.out HX.out.2⟩)
            ((go_at_call 31; refine (equalInts_call ra ra' r1 r2 rc rc' _ _ _ (HI.out.1.below K.out) (HI.out.2.below K.out)).mono ?_; rintro e w5 ⟨rfl, hb⟩; rw [hd]; replace K := Lib.hid (K.out.trans (hb.mono K.out.size)); clear hb))
          all_goals
            go_wp2_with fail
            go_ret
            exact bPost_of (by rw [decide_eq_false (fun e => (of_decide_eq_false hd) (by rw [e]))]) K.out
      · obtain rfl : n = k := by omega
        clear hk hlt
        go_wp2_with fail
        go_ret
        exact bPost_of (by rw [decide_eq_true (sameR_all (HL.out.1.trans HL.out.2.symm) (by rw [HL.out.1]; exact HS.out))]) B.out
  · have hnn : ((n : Int) != (n' : Int)) = true := by rw [bne_iff_ne]; omega
    have HN := Lib.hid hn
    clear hn
    go_enter Try.func18, Try.ntmps18
    go_wp2_with fail
    go_ret
    exact bPost_of (by rw [decide_eq_false (fun e => HN.out (by rw [← HL.out.1, ← HL.out.2, e]))]) (Below.refl _ _)

/-- A matrix in memory of a call's own: the rows lie in blocks of their own. -/
structure OwnM (W : World) (base : Nat) (v : Value) (vs : List Value) (L : List (List Int)) : Prop where
  len : vs.length = L.length
  top : W.ownsRow base 24 1 v L.length vs
  row : ∀ i, i < L.length → ∃ u, vs[i]? = some u ∧ W.ownsRow base 3 1 u (rowL L i).length (flatI (rowL L i))
  apart : ∀ (i j : Nat) (u u' : Value) (g : Nat), i ≠ j → vs[i]? = some u → vs[j]? = some u' → u.ownBlock = some g → u'.ownBlock ≠ some g
theorem OwnM.keep {W W' : World} {base : Nat} {v : Value} {vs : List Value} {L : List (List Int)} (h : OwnM W base v vs L) (hb : Below W.heap.size W W') : OwnM W' base v vs L :=
  ⟨h.len, ownsRow_below h.top hb (Nat.le_refl _), fun i hi => by
    obtain ⟨u, h1, h2⟩ := h.row i hi
    exact ⟨u, h1, ownsRow_below h2 hb (Nat.le_refl _)⟩, h.apart⟩
theorem OwnM.mtx {W : World} {base : Nat} {v : Value} {vs : List Value} {L : List (List Int)} (h : OwnM W base v vs L) (hn : L.length ≤ 9223372036854775807) (hr : ∀ i, i < L.length → (rowL L i).length ≤ 9223372036854775807) : ∃ a c, v = .slice a L.length c ∧ Mtx W a L.length L := by
  rcases h.top.2 with ⟨rfl, h0⟩ | ⟨g, cap, cur, rfl, hg, hh, hc, hcm, hcs, htake⟩
  · exact ⟨none, 0, by rw [h0], ⟨rfl, hn, Or.inl h0⟩⟩
  · refine ⟨some ⟨g, 0, none⟩, cap, rfl, ⟨rfl, hn, Or.inr ⟨g, 0, rfl, fun i hi => ?_⟩⟩⟩
    obtain ⟨u, h1, h2⟩ := h.row i hi
    obtain ⟨ra, rc, rfl, hI⟩ := ints_own rfl h2 (hr i hi)
    refine ⟨ra, rc, ?_, hI⟩
    rw [← htake, List.getElem?_take_of_lt (by omega)] at h1
    rw [Nat.zero_add]
    exact cell_of_block hh (by simpa using h1)
theorem own_types {W : World} {base base' : Nat} {e e' : TypeId} {s s' : Nat} {u v : Value} {n m : Nat} {xs ys : List Value} (hu : W.ownsRow base e s u n xs) (hv : W.ownsRow base' e' s' v m ys) (hne : e ≠ e') {g : Nat} (h : u.ownBlock = some g) : v.ownBlock ≠ some g := fun h' => by
  rcases hu.2 with ⟨rfl, -⟩ | ⟨g1, c1, cur1, rfl, -, h1, -⟩
  · exact absurd h (by intro q; cases q)
  · rcases hv.2 with ⟨rfl, -⟩ | ⟨g2, c2, cur2, rfl, -, h2, -⟩
    · exact absurd h' (by intro q; cases q)
    · have e1 : g1 = g := Option.some.inj h
      have e2 : g2 = g := Option.some.inj h'
      subst e1; subst e2
      rw [h1] at h2
      injection h2 with h3
      injection h3 with _ h4
      exact hne h4
/-- A row over a store to another one. -/
theorem own_over {W W' : World} {base : Nat} {e : TypeId} {s : Nat} {u : Value} {n : Nat} {xs : List Value} {r : Option Nat} (h : W.ownsRow base e s u n xs) (hg : W.grownBy W' r) (hne : ∀ g, u.ownBlock = some g → r ≠ some g) : W'.ownsRow base e s u n xs := by
  refine ⟨h.1, ?_⟩
  rcases h.2 with h2 | ⟨g, cap, cur, hv, hg', hh, r'⟩
  · exact Or.inl h2
  · exact Or.inr ⟨g, cap, cur, hv, hg', (hg.block g (Array.getElem?_eq_some_iff.1 hh).1 (fun e => hne g (by rw [hv]; rfl) e.symm)).trans hh, r'⟩
theorem rowL_take {L : List (List Int)} {k i : Nat} (hi : i < k) : rowL (L.take k) i = rowL L i := by unfold rowL; rw [List.getElem?_take_of_lt hi]
/-- One more row. -/
theorem OwnM.snoc {W W2 W7 : World} {base k : Nat} {v v7 u : Value} {vs : List Value} {L : List (List Int)} {o : Obj} (h : OwnM W base v vs (L.take k)) (hk : k < L.length) (hb : Below W.heap.size W W2) (hu : W2.ownsRow W.heap.size 3 1 u (rowL L k).length (flatI (rowL L k))) (hbase : base ≤ W.heap.size)
    (hg : (W2.alloc o).grownBy W7 v.ownBlock) (hO : W7.ownsRow base 24 1 v7 (k + 1) (vs ++ [u])) : OwnM W7 base v7 (vs ++ [u]) (L.take (k + 1)) := by
  have hl : (L.take k).length = k := by rw [List.length_take]; omega
  have hl1 : (L.take (k + 1)).length = k + 1 := by rw [List.length_take]; omega
  have hvs : vs.length = k := by rw [h.len, hl]
  have htop := (ownsRow_below h.top hb (Nat.le_refl _)).alloc o
  have hu3 := hu.alloc o
  have hlast : (vs ++ [u])[k]? = some u := by rw [List.getElem?_append_right (by omega), hvs, Nat.sub_self]; rfl
  have hlow : ∀ i, i < k → (vs ++ [u])[i]? = vs[i]? := fun i hi => List.getElem?_append_left (by omega)
  have hout : ∀ i, k < i → (vs ++ [u])[i]? = none := fun i hi => List.getElem?_eq_none (by rw [List.length_append]; simp; omega)
  have hlt : ∀ i x g, i < k → vs[i]? = some x → x.ownBlock = some g → g < W.heap.size := fun i x g hi hx hxg => by
    obtain ⟨y, h1, h2⟩ := h.row i (by rw [hl]; exact hi)
    rw [hx] at h1
    cases h1
    exact (h2.lt g hxg).2
  refine ⟨by rw [List.length_append, hvs, hl1]; rfl, by rw [hl1]; exact hO, fun i hi => ?_, fun i j x y g hij hx hy hxg hyg => ?_⟩
  · rw [hl1] at hi
    rw [rowL_take hi]
    by_cases e : i = k
    · subst e
      exact ⟨u, hlast, ownsRow_base (own_over hu3 hg (fun g hg' => own_types hu3 htop (by decide) hg')) hbase⟩
    · obtain ⟨x, h1, h2⟩ := h.row i (by rw [hl]; omega)
      rw [rowL_take (by omega)] at h2
      have h3 := (ownsRow_below h2 hb (Nat.le_refl _)).alloc o
      exact ⟨x, by rw [hlow i (by omega)]; exact h1, own_over h3 hg (fun g hg' => own_types h3 htop (by decide) hg')⟩
  · rcases Nat.lt_trichotomy i k with q | q | q
    · rw [hlow i q] at hx
      have h1 := hlt i x g q hx hxg
      rcases Nat.lt_trichotomy j k with r | r | r
      · rw [hlow j r] at hy
        exact h.apart i j x y g hij hx hy hxg hyg
      · subst r
        rw [hlast] at hy
        cases hy
        have := (hu.lt g hyg).1
        omega
      · rw [hout j r] at hy; cases hy
    · subst q
      rw [hlast] at hx
      cases hx
      have h1 := (hu.lt g hxg).1
      rcases Nat.lt_trichotomy j i with r | r | r
      · rw [hlow j r] at hy
        have := hlt j y g r hy hyg
        omega
      · exact hij r.symm
      · rw [hout j r] at hy; cases hy
    · rw [hout i q] at hx; cases hx
theorem OwnM.nil {W : World} {base : Nat} : OwnM W base (.slice none 0 0) [] [] := ⟨rfl, ⟨rfl, Or.inl ⟨rfl, rfl⟩⟩, fun i hi => absurd hi (Nat.not_lt_zero _), fun i j u u' g _ hu => by cases hu⟩
/-- A copy of a matrix came back. -/
def CrPost (L : List (List Int)) (w : World) (e : Ending) (w' : World) : Prop := ∃ v vs, e = .returned v ∧ OwnM w' w.heap.size v vs L ∧ Below w.heap.size w w'
theorem infoS : (Try.prog.info? 24).map (fun i => (i.zero, i.size, i.bytes)) = some (some (.slice none 0 0), 1, 24) := by kernel_rfl

set_option maxRecDepth 100000 in
set_option maxHeartbeats 4000000 in
theorem copyRows_call (a : Option Addr) (n c : Nat) (L : List (List Int)) (w : World) (h : Mtx w a n L) (hn : n ≤ 1000) (hr : ∀ i, i < n → (rowL L i).length ≤ 1000) :
    Calls Try.prog 11 #[.slice a n c] w (CrPost L w) := by
  have HL := Lib.hid h
  have HR := Lib.hid hr
  obtain ⟨i0, hi, hiz, his, hib⟩ := info_parts' infoS
  have HI := Lib.hid (And.intro hi (And.intro hiz (And.intro his hib)))
  clear h hr hi hiz his hib
  go_enter Try.func11, Try.ntmps11
  go_wp2_with fail
  go_loopw [3, 4] (fun v kv wr => ∃ (k : Nat) (vs : List Value), k ≤ n ∧ kv = .int .i64 k ∧ OwnM wr w.heap.size v vs (L.take k) ∧ Below w.heap.size w wr) (fun _ kv _ => n - (intOf kv).toNat)
  case atStart => exact ⟨0, [], by omega, rfl, OwnM.nil, Below.refl _ _⟩
  case round =>
    obtain ⟨k, vs, hk, rfl, hO, hB⟩ := hrel
    have H := Lib.hid (And.intro hO hB)
    clear hO hB
    by_cases hlt : k < n
    · obtain ⟨b, off, rfl, ra, rc, x0, xi⟩ := mtx_at (HL.out.below H.out.2) hlt
      have HX := Lib.hid xi
      have q0 := World.block_lt_of_cell? wr _ x0
      have hk0 : (0 : Int) ≤ (k : Int) := by omega
      have hk1 : (k : Int) < (n : Int) := by omega
      obtain ⟨rl, hrl⟩ : ∃ x, (rowL L k).length = x := ⟨_, rfl⟩
      have HRL := Lib.hid hrl
      rw [hrl] at x0
      clear xi hrl
      go_wp2_with fail
      refine (copyInts_call ra rl rc (rowL L k) _ (by rw [← HRL.out]; exact HX.out) (by rw [← HRL.out]; exact HR.out k hlt)).mono ?_
      rintro e w2 ⟨u, rfl, hu, hb⟩
      obtain ⟨a2, c2, hu2, -⟩ := ints_own HRL.out hu (by have := HR.out k hlt; have := HRL.out; omega)
      subst hu2
      have H2 := Lib.hid (And.intro hu hb)
      have HO := Lib.hid ((ownsRow_below H.out.1.top hb (Nat.le_refl _)).alloc (.cells #[.slice a2 rl c2] 24))
      have hz : w.heap.size ≤ w2.heap.size := Nat.le_trans H.out.2.size hb.size
      have hlk : (L.take k).length = k := by rw [List.length_take, HL.out.len]; omega
      have HO2 := Lib.hid (by have := HO.out; rw [hlk] at this; exact this : (w2.alloc (.cells #[.slice a2 rl c2] 24)).ownsRow w.heap.size 24 1 u3 k vs)
      clear hu hb hlk HO
      go_wp2_with (refine wpList_append_src rfl _ _ 22 rfl w.heap.size 24 i0 _ 1 24 Try.underlying22 HI.out.1 HI.out.2.1 HI.out.2.2.1 HI.out.2.2.2 rfl (by decide) _ k _ rfl HO2.out (some ⟨w2.heap.size, 0, none⟩) 1 1 [.slice a2 rl c2] rfl (fun e => by cases e) rfl ?c1 ?c2 ?c3 ?c4 ?c5 ?_; rotate_right; intro v7 w7 hown7 hgrow)
      case c1 => intro ad had; cases had; exact cells_one rfl
      case c2 => intro u hu; simp at hu; subst hu; rfl
      case c3 => unfold maxLen; omega
      case c4 => omega
      case c5 => simp <;> omega
      go_roundw
      case rel => exact ⟨k + 1, vs ++ [.slice a2 rl c2], by omega, by go_num, H.out.1.snoc (by rw [HL.out.len]; exact hlt) H2.out.2 (by rw [HRL.out]; exact H2.out.1) H.out.2.size hgrow hown7, ((H.out.2.trans (H2.out.2.mono H.out.2.size)).alloc hz _).trans (grownI HO2.out hgrow (Nat.le_refl _) (by simp; omega))⟩
      case measure => simp [intOf]; omega
    · obtain rfl : n = k := by omega
      clear hk hlt
      go_wp2_with fail
      go_ret
      have h1 := H.out.1
      rw [List.take_of_length_le (by rw [HL.out.len]; exact Nat.le_refl _)] at h1
      exact ⟨_, vs, rfl, h1, H.out.2⟩
end Go.Proofs.Ytbehpkggmomgeaa
