/-
  PtAsgVb
-/
import Derived.Test.YtikjjpjekchcjaaGreatPm18
set_option linter.all false
set_option maxRecDepth 100000
set_option maxHeartbeats 64000000
namespace Go.Proofs.YtikjjpjekchcjaaGreat.Asg
open Go.RowKit AsgRows AsgMath MyHeap MyOwn MyCopy
def Rw (W : World) (g P : Nat) (f : Nat → Int) (k : Nat) : Prop := ∃ cs : Array Value, W.heap[g]? = some (.cells cs 3 (0, 0)) ∧ cs.size = P ∧ ∀ u, u < P → cs[u]? = some (.int .i64 (if u < k then f u else 0))
theorem Rw.lt {W : World} {g P k : Nat} {f : Nat → Int} (h : Rw W g P f k) : g < W.heap.size := by
 obtain ⟨cs, h1, -⟩ := h
 exact aB h1
theorem Rw.keep {W W' : World} {g P k : Nat} {f : Nat → Int} (h : Rw W g P f k) (hb : Below W.heap.size W W') : Rw W' g P f k := by
 obtain ⟨cs, h1, h2⟩ := h
 exact ⟨cs, aN hb h1, h2⟩
theorem Rw.off {W W' : World} {g P k x : Nat} {f : Nat → Int} (h : Rw W g P f k) (ho : Only x W W') (hne : g ≠ x) : Rw W' g P f k := by
 obtain ⟨cs, h1, h2⟩ := h
 exact ⟨cs, ho.keeps h1 hne, h2⟩
theorem Rw.cell {W : World} {g P k : Nat} {f : Nat → Int} (h : Rw W g P f k) {u : Nat} (hu : u < P) : W.cell? ⟨g, u, none⟩ = some (.int .i64 (if u < k then f u else 0)) ∧ W.frozen? ⟨g, u, none⟩ = false := by
 obtain ⟨cs, h1, h2, h3⟩ := h
 exact ⟨aA h1 (h3 u hu), aF h1⟩
theorem Rw.all {W : World} {g P : Nat} {f : Nat → Int} (h : Rw W g P f P) {u : Nat} (hu : u < P) : W.cell? ⟨g, u, none⟩ = some (.int .i64 (f u)) := by
 have := (h.cell hu).1
 rwa [if_pos hu] at this
theorem Rw.set {W : World} {g P k : Nat} {f : Nat → Int} (h : Rw W g P f k) (hk : k < P) : Rw (W.setCell ⟨g, k, none⟩ (.int .i64 (f k))) g P f (k + 1) := by
 obtain ⟨cs, h1, h2, h3⟩ := h
 refine ⟨cs.setIfInBounds k (.int .i64 (f k)), aD h1, by rw [Array.size_setIfInBounds]; exact h2, fun u hu => ?_⟩
 by_cases e : u = k
 ·subst e
  rw [Array.getElem?_setIfInBounds_self_of_lt (by omega), if_pos (by omega)]
 rw [Array.getElem?_setIfInBounds_ne (fun q => e q.symm), h3 u hu]
 by_cases q : u < k
 ·rw [if_pos q, if_pos (by omega)]
 rw [if_neg q, if_neg (by omega)]
theorem rw_made {W : World} {g P : Nat} {f : Nat → Int} (h : W.heap[g]? = some (.cells (madeCells #[.int .i64 0] P) 3 (0, 0))) : Rw W g P f 0 := by
 have hl : (madeCells #[.int .i64 0] P).toList = List.replicate P (.int .i64 0) := toList_madeCells_one _ _
 refine ⟨_, h, by rw [← Array.length_toList, hl, List.length_replicate], fun u hu => ?_⟩
 rw [← Array.getElem?_toList, hl, List.getElem?_replicate, if_pos hu, if_neg (Nat.not_lt_zero _)]
theorem rw_zero {W : World} {g P : Nat} {f : Nat → Int} (h : W.heap[g]? = some (.cells (madeCells #[.int .i64 0] P) 3 (0, 0))) (hf : ∀ u, u < P → f u = 0) : Rw W g P f P := by
 obtain ⟨cs, h1, h2, h3⟩ := rw_made (f := f) h
 exact ⟨cs, h1, h2, fun u hu => by rw [h3 u hu, if_neg (Nat.not_lt_zero _), if_pos hu, hf u hu]⟩
structure Vs (W : World) (tb n m P i : Nat) (L : List (List Int)) : Prop where
 top : ∃ cs : Array Value, W.heap[tb]? = some (.cells cs 51 (0, 0)) ∧ cs.size = n + 1 ∧ ∀ j, i ≤ j → j ≤ n → ∃ g, cs[j]? = some (.slice (some ⟨g, 0, none⟩) P P) ∧ g ≠ tb ∧ Rw W g P (Vr L n m j) P
theorem Vs.lt {W : World} {tb n m P i : Nat} {L : List (List Int)} (h : Vs W tb n m P i L) : tb < W.heap.size := by
 obtain ⟨cs, h1, -⟩ := h.top
 exact aB h1
theorem Vs.keep {W W' : World} {tb n m P i : Nat} {L : List (List Int)} (h : Vs W tb n m P i L) (hb : Below W.heap.size W W') : Vs W' tb n m P i L := by
 obtain ⟨cs, h1, h2, h3⟩ := h.top
 refine ⟨cs, aN hb h1, h2, fun j hj hn => ?_⟩
 obtain ⟨g, h4, h5, h6⟩ := h3 j hj hn
 exact ⟨g, h4, h5, h6.keep hb⟩
theorem Vs.at {W : World} {tb n m P i : Nat} {L : List (List Int)} (h : Vs W tb n m P i L) {j : Nat} (hj : i ≤ j) (hn : j ≤ n) : ∃ g, W.cell? ⟨tb, j, none⟩ = some (.slice (some ⟨g, 0, none⟩) P P) ∧ g < W.heap.size ∧ ∀ u, u < P → W.cell? ⟨g, u, none⟩ = some (.int .i64 (Vr L n m j u)) := by
 obtain ⟨cs, h1, h2, h3⟩ := h.top
 obtain ⟨g, h4, h5, h6⟩ := h3 j hj hn
 exact ⟨g, aA h1 h4, h6.lt, fun u hu => h6.all hu⟩
theorem Vs.old {W : World} {tb n m P i : Nat} {L : List (List Int)} (h : Vs W tb n m P i L) {j : Nat} (hn : j ≤ n) : ∃ v, W.cell? ⟨tb, j, none⟩ = some v ∧ W.frozen? ⟨tb, j, none⟩ = false := by
 obtain ⟨cs, h1, h2, h3⟩ := h.top
 exact ⟨_, aA h1 (Array.getElem?_eq_getElem (by omega)), aF h1⟩
structure Vn (W : World) (tb g n m P i : Nat) (L : List (List Int)) (k : Nat) : Prop where
 V : Vs W tb n m P (i + 1) L
 row : W.cell? ⟨tb, i, none⟩ = some (.slice (some ⟨g, 0, none⟩) P P)
 R : Rw W g P (Vr L n m i) k
 ne : g ≠ tb
 off : ∀ j a k c, i < j → j ≤ n → W.cell? ⟨tb, j, none⟩ = some (.slice a k c) → a ≠ some ⟨g, 0, none⟩
theorem Vs.store {W : World} {tb n m P i : Nat} {L : List (List Int)} (h : Vs W tb n m P (i + 1) L) (hi : i ≤ n) :
    Vn ((W.setCell ⟨tb, i, none⟩ (.slice (some ⟨W.heap.size, 0, none⟩) P P)).alloc (.cells (madeCells #[.int .i64 0] P) 3)) tb W.heap.size n m P i L 0 := by
 obtain ⟨cs, h1, h2, h3⟩ := h.top
 have hlt := aB h1
 have o : Only tb W (W.setCell ⟨tb, i, none⟩ (.slice (some ⟨W.heap.size, 0, none⟩) P P)) := (Only.refl _ _).setCell _ _
 have hb := aC (W.setCell ⟨tb, i, none⟩ (.slice (some ⟨W.heap.size, 0, none⟩) P P)) (.cells (madeCells #[.int .i64 0] P) 3)
 have h1' := aG (o' := .cells (madeCells #[.int .i64 0] P) 3) (aD (i := i) (v := .slice (some ⟨W.heap.size, 0, none⟩) P P) h1)
 have hge : ∀ j, i < j → (cs.setIfInBounds i (.slice (some ⟨W.heap.size, 0, none⟩) P P))[j]? = cs[j]? := fun j hj => Array.getElem?_setIfInBounds_ne (by omega)
 refine ⟨⟨_, h1', by rw [Array.size_setIfInBounds]; exact h2, fun j hj hjn => ?_⟩, aA h1' (Array.getElem?_setIfInBounds_self_of_lt (by omega)), rw_made (aI _ _ (by simp)), by omega, fun j a k c hij hjn hc he => ?_⟩
 ·obtain ⟨g, h4, h5, h6⟩ := h3 j hj hjn
  exact ⟨g, by rw [hge j (by omega)]; exact h4, h5, (h6.off o h5).keep hb⟩
 obtain ⟨g, h4, h5, h6⟩ := h3 j (by omega) hjn
 rw [aA h1' ((hge j hij).trans h4)] at hc
 cases hc
 cases he
 exact absurd h6.lt (Nat.lt_irrefl _)
theorem Vn.keep {W W' : World} {tb g n m P i k : Nat} {L : List (List Int)} (h : Vn W tb g n m P i L k) (hb : Below W.heap.size W W') : Vn W' tb g n m P i L k :=
 ⟨h.V.keep hb, aS hb h.row, h.R.keep hb, h.ne, fun j a k c h1 h2 h3 => h.off j a k c h1 h2 (by rwa [hb.cell h.V.lt] at h3)⟩
theorem Vn.set {W : World} {tb g n m P i k : Nat} {L : List (List Int)} (h : Vn W tb g n m P i L k) (hk : k < P) : Vn (W.setCell ⟨g, k, none⟩ (.int .i64 (Vr L n m i k))) tb g n m P i L (k + 1) := by
 have o : Only g W (W.setCell ⟨g, k, none⟩ (.int .i64 (Vr L n m i k))) := (Only.refl _ _).setCell _ _
 obtain ⟨cs, h1, h2, h3⟩ := h.V.top
 refine ⟨⟨cs, o.keeps h1 h.ne.symm, h2, fun j hj hjn => ?_⟩, o.cell h.row h.ne.symm, h.R.set hk, h.ne, fun j a k c q1 q2 q3 => ?_⟩
 ·obtain ⟨x, h4, h5, h6⟩ := h3 j hj hjn
  refine ⟨x, h4, h5, h6.off o (fun e => ?_)⟩
  subst e
  exact h.off j _ _ _ (by omega) hjn (aA h1 h4) rfl
 obtain ⟨x, h4, h5, h6⟩ := h3 j (by omega) q2
 rw [o.cell (aA h1 h4) h.ne.symm] at q3
 cases q3
 exact h.off j _ _ _ q1 q2 (aA h1 h4)
theorem Vn.done {W : World} {tb g n m P i : Nat} {L : List (List Int)} (h : Vn W tb g n m P i L P) : Vs W tb n m P i L := by
 obtain ⟨cs, h1, h2, h3⟩ := h.V.top
 refine ⟨cs, h1, h2, fun j hj hjn => ?_⟩
 by_cases e : j = i
 ·subst e
  have hr := h.row
  refine ⟨g, ?_, h.ne, h.R⟩
  have hj2 : j < cs.size := by omega
  rw [aA h1 (Array.getElem?_eq_getElem hj2)] at hr
  rw [Array.getElem?_eq_getElem hj2, Option.some.inj hr]
 exact h3 j (by omega) hjn
theorem qJ {W : World} {tb g n m P : Nat} {L : List (List Int)} (h : W.heap[tb]? = some (.cells ((madeCells #[.slice none 0 0] (n + 1)).setIfInBounds n (.slice (some ⟨g, 0, none⟩) P P)) 51 (0, 0))) (hg : W.heap[g]? = some (.cells (madeCells #[.int .i64 0] P) 3 (0, 0))) (hne : g ≠ tb) : Vs W tb n m P n L := by
 have hl : (madeCells #[.slice none 0 0] (n + 1)).toList = List.replicate (n + 1) (.slice none 0 0) := toList_madeCells_one _ _
 have hs : (madeCells #[.slice none 0 0] (n + 1)).size = n + 1 := by rw [← Array.length_toList, hl, List.length_replicate]
 refine ⟨_, h, by rw [Array.size_setIfInBounds]; exact hs, fun j h1 h2 => ⟨g, ?_, hne, ?_⟩⟩
 ·obtain rfl : j = n := by omega
  exact Array.getElem?_setIfInBounds_self_of_lt (by omega)
 obtain rfl : j = n := by omega
 exact rw_zero hg (fun u _ => Vr_last)
theorem infoS2 : (Tryz.prog.info? 51).map (fun i => (i.zero, i.size, i.bytes)) = some (some (.slice none 0 0), 1, 24) := by kernel_rfl
theorem infoI2 : (Tryz.prog.info? 3).map (fun i => (i.zero, i.size, i.bytes)) = some (some (.int .i64 0), 1, 8) := by kernel_rfl
theorem hmkI (n : Nat) (hn : n ≤ 1000000) (W : World) : (Instr.makeSlice 51 (.int .i64 (n : Int)) (.int .i64 (n : Int))).run Tryz.prog W = .ok (.slice (some ⟨W.heap.size, 0, none⟩) n n) (W.alloc (.cells (madeCells #[.int .i64 0] n) 3)) := by
 obtain ⟨i0, hi, hiz, his, hib⟩ := cF infoI2
 have h := run_make W 51 3 i0 _ Tryz.underlying51 hi hiz .i64 .i64 (n : Int) (n : Int) (by omega) (by omega) (by rw [hib]; omega) (by omega)
 rw [Int.toNat_natCast, his, Nat.mul_one] at h
 exact h
theorem hmkS (n : Nat) (hn : n ≤ 1000000) (W : World) : (Instr.makeSlice 89 (.int .i64 (n : Int)) (.int .i64 (n : Int))).run Tryz.prog W = .ok (.slice (some ⟨W.heap.size, 0, none⟩) n n) (W.alloc (.cells (madeCells #[.slice none 0 0] n) 51)) := by
 obtain ⟨i0, hi, hiz, his, hib⟩ := cF infoS2
 have h := run_make W 89 51 i0 _ Tryz.underlying89 hi hiz .i64 .i64 (n : Int) (n : Int) (by omega) (by omega) (by rw [hib]; omega) (by omega)
 rw [Int.toNat_natCast, his, Nat.mul_one] at h
 exact h
theorem mF {k : Nat} (h : k ≤ 16) : wrap64 ((2 : Int) ^ k) = ((2 ^ k : Nat) : Int) := by
 have h1 : (2 : Nat) ^ k ≤ 65536 := Nat.pow_le_pow_right (n := 2) (by decide) h
 have h2 : ((2 : Int) ^ k) = ((2 ^ k : Nat) : Int) := by rw [Int.natCast_pow]; rfl
 rw [h2]
 generalize 2 ^ k = q at *
 unfold wrap64; omega
theorem made_at {x : Value} {n k : Nat} (h : k < n) : (madeCells #[x] n)[k]? = some x := by
 have hl : (madeCells #[x] n).toList = List.replicate n x := toList_madeCells_one _ _
 rw [← Array.getElem?_toList, hl, List.getElem?_replicate, if_pos h]
def VlPost (L : List (List Int)) (n m : Nat) (w : World) (e : Ending) (w' : World) : Prop := ∃ tb, e = .returned (.slice (some ⟨tb, 0, none⟩) (n + 1) (n + 1)) ∧ Vs w' tb n m (2 ^ m) 0 L ∧ Below w.heap.size w w'
theorem pD (a : Option Addr) (n cc m : Nat) (L : List (List Int)) (w : World) (hM : Ma w a n L m) (hm : m ≤ 16) :
    Calls Tryz.prog 69 #[.slice a n cc] w (VlPost L n m w) := by
 have HM := qh hM
 have n16 : n ≤ 16 := by have := hM.ok.n16; rw [hM.M.len] at this; exact this
 have hp9 := l5 hm
 have mkS : ∀ W : World, (Instr.makeSlice 89 (.int .i64 ((n : Int) + 1)) (.int .i64 ((n : Int) + 1))).run Tryz.prog W = .ok (.slice (some ⟨W.heap.size, 0, none⟩) (n + 1) (n + 1)) (W.alloc (.cells (madeCells #[.slice none 0 0] (n + 1)) 51)) := hmkS (n + 1) (by omega)
 obtain ⟨P, hP⟩ : ∃ P, 2 ^ m = P := ⟨_, rfl⟩
 have HP := qh hP
 have hwm : wrap64 ((2 : Int) ^ m) = (P : Int) := by rw [← hP]; exact mF (by omega)
 rw [hP] at hp9
 have mkI := hmkI P (by omega)
 clear hM hP
 rcases Nat.eq_zero_or_pos n with h0 | h0
 ·subst h0
  have hL : L = [] := List.length_eq_zero_iff.1 HM.out.M.len
  have hm0 : m = 0 := by rw [← HM.out.wd, hL]; rfl
  subst hm0
  obtain rfl : P = 1 := HP.out.symm
  have mkS1 : ∀ W : World, (Instr.makeSlice 89 (.int .i64 1) (.int .i64 1)).run Tryz.prog W = .ok (.slice (some ⟨W.heap.size, 0, none⟩) 1 1) (W.alloc (.cells (madeCells #[.slice none 0 0] 1) 51)) := hmkS 1 (by decide)
  have mkI1 : ∀ W : World, (Instr.makeSlice 51 (.int .i64 1) (.int .i64 1)).run Tryz.prog W = .ok (.slice (some ⟨W.heap.size, 0, none⟩) 1 1) (W.alloc (.cells (madeCells #[.int .i64 0] 1) 3)) := hmkI 1 (by decide)
  have HV0 := qh (show Vs ((w.alloc (.cells ((madeCells #[.slice none 0 0] 1).setIfInBounds 0 (.slice (some ⟨w.heap.size + 1, 0, none⟩) 1 1)) 51)).alloc (.cells (madeCells #[.int .i64 0] 1) 3)) w.heap.size 0 0 1 0 L ∧ Below w.heap.size w ((w.alloc (.cells ((madeCells #[.slice none 0 0] 1).setIfInBounds 0 (.slice (some ⟨w.heap.size + 1, 0, none⟩) 1 1)) 51)).alloc (.cells (madeCells #[.int .i64 0] 1) 3)) from by
   have h1 := aC w (.cells ((madeCells #[.slice none 0 0] 1).setIfInBounds 0 (.slice (some ⟨w.heap.size + 1, 0, none⟩) 1 1)) 51)
   exact ⟨qJ (n := 0) (g := w.heap.size + 1) (aG (aI _ _ rfl)) (aI _ _ (by simp)) (by omega), h1.alloc h1.size _⟩)
  have hmc := made_at (x := .slice none 0 0) (n := 1) (k := 0) (by omega)
  clear hL HM mkS mkI HP
  go_enter Tryz.func69, Tryz.ntmps69
  go_wp2_with fail
  go_loopw [5] (fun iv wr => iv = .int .i64 (-1) ∧ Vs wr w.heap.size 0 0 1 0 L ∧ Below w.heap.size w wr) (fun iv _ => 0)
  case atStart => exact ⟨rfl, HV0.out.1, HV0.out.2⟩
  case round =>
   clear HV0
   obtain ⟨rfl, hV, hB⟩ := hrel
   have K := qh (And.intro hV hB)
   clear hV hB
   go_wp2_with fail
   go_ret
   exact ⟨_, rfl, K.out.1, K.out.2⟩
 obtain ⟨b, off, r0, c0, -, -, rfl, x0, -⟩ := fW HM.out.M (i := 0) h0
 rw [HM.out.wd] at x0
 have q0 := World.block_lt_of_cell? w _ x0
 have hn0 : (0 : Int) < (n : Int) := by omega
 have hmc := made_at (x := .slice none 0 0) (n := n + 1) (k := n) (by omega)
 have HV0 := qh (show Vs ((w.alloc (.cells ((madeCells #[.slice none 0 0] (n + 1)).setIfInBounds n (.slice (some ⟨w.heap.size + 1, 0, none⟩) P P)) 51)).alloc (.cells (madeCells #[.int .i64 0] P) 3)) w.heap.size n m P n L ∧ Below w.heap.size w ((w.alloc (.cells ((madeCells #[.slice none 0 0] (n + 1)).setIfInBounds n (.slice (some ⟨w.heap.size + 1, 0, none⟩) P P)) 51)).alloc (.cells (madeCells #[.int .i64 0] P) 3)) from by
  have h1 := aC w (.cells ((madeCells #[.slice none 0 0] (n + 1)).setIfInBounds n (.slice (some ⟨w.heap.size + 1, 0, none⟩) P P)) 51)
  exact ⟨qJ (g := w.heap.size + 1) (aG (aI _ _ rfl)) (aI _ _ (by simp)) (by omega), h1.alloc h1.size _⟩)
 go_enter Tryz.func69, Tryz.ntmps69
 go_wp2_with fail
 generalize htb : w.heap.size = tb at *
 have HTB := qh htb
 clear q0 x0 hmc mkS htb
 go_loopw [5] (fun iv wr => ∃ (i : Nat), i ≤ n ∧ iv = .int .i64 ((i : Int) - 1) ∧ Vs wr tb n m P i L ∧ Below tb w wr) (fun iv _ => (intOf iv + 1).toNat)
 case atStart => exact ⟨n, Nat.le_refl _, rfl, HV0.out.1, HV0.out.2⟩
 case round =>
  clear HV0
  obtain ⟨i, hi, rfl, hV, hB⟩ := hrel
  have K := qh (And.intro hV hB)
  clear hV hB
  rcases Nat.eq_zero_or_pos i with rfl | hi0
  ·have e0 : ((0 : Nat) : Int) - 1 = -1 := by omega
   rw [e0]
   go_wp2_with fail
   go_ret
   exact ⟨tb, rfl, by rw [HP.out]; exact K.out.1, by rw [HTB.out]; exact K.out.2⟩
  obtain ⟨j, rfl⟩ : ∃ j, i = j + 1 := ⟨i - 1, by omega⟩
  have e0 : ((j + 1 : Nat) : Int) - 1 = (j : Int) := by omega
  rw [e0]
  have hj0 : (0 : Int) ≤ (j : Int) := by omega
  have hj1 : (j : Int) < (n : Int) + 1 := by omega
  have hjn : j < n + 1 := by omega
  obtain ⟨vo, hvo, hfo⟩ := K.out.1.old (j := j) (by omega)
  have HN := qh (K.out.1.store (by omega))
  have HBn := qh (show Below tb w ((wr.setCell ⟨tb, j, none⟩ (.slice (some ⟨wr.heap.size, 0, none⟩) P P)).alloc (.cells (madeCells #[.int .i64 0] P) 3)) from by
   have h1 := K.out.2.setCell (p := ⟨tb, j, none⟩) (Nat.le_refl _) (.slice (some ⟨wr.heap.size, 0, none⟩) P P)
   have h2 := K.out.1.lt
   exact h1.alloc (by simp; omega) _)
  have hlt := K.out.1.lt
  go_wp2_with fail
  generalize hg : wr.heap.size = g at *
  have HG := qh hlt
  clear K hvo hfo hlt hg
  go_loopw [6] (fun uv wr => ∃ (u : Nat), u ≤ P ∧ uv = .int .i64 (u : Int) ∧ Vn wr tb g n m P j L u ∧ Below tb w wr) (fun uv _ => P - (intOf uv).toNat)
  case atStart => exact ⟨0, Nat.zero_le _, rfl, HN.out, HBn.out⟩
  case round =>
   clear HN HBn
   obtain ⟨u, hu, rfl, hV, hB⟩ := hrel
   have K := qh (And.intro hV hB)
   clear hV hB
   by_cases huP : u < P
   ·obtain ⟨gn, hrow, hgn, hnum⟩ := K.out.1.V.at (j := j + 1) (Nat.le_refl _) (by omega)
    have hx := hnum u huP
    have hu0 : (0 : Int) ≤ (u : Int) := by omega
    have hu1 : (u : Int) < (P : Int) := by omega
    have hj2 : ((j : Int) + 1).toNat = j + 1 := by omega
    have hj3 : (j : Int) + 1 < (n : Int) + 1 := by omega
    have HNum := qh hnum
    clear hnum
    go_wp2_with fail
    go_loopw [7, 8] (fun bv kv wr' => ∃ (k : Nat), k ≤ m ∧ kv = .int .i64 (k : Int) ∧ bv = .int .i64 (Vk L n m j u k) ∧ ∃ d, wr' = wr.drewN d) (fun _ kv _ => m - (intOf kv).toNat)
    case atStart => exact ⟨0, Nat.zero_le _, rfl, rfl, 0, rfl⟩
    case round =>
     obtain ⟨k, hk, rfl, rfl, d, rfl⟩ := hrel
     have hvb := Vk_bound (L := L) (n := n) (m := m) (i := j) (u := u) (k := k) n16 HM.out.hi2
     by_cases hkm : k < m
     ·obtain ⟨bb, ob, ra, rc, b2, o2, e1, e2, x1, x2, l1, l2, y1, y2⟩ := HM.out.ent (i := j) (k := k) (by omega) hkm
      cases e1
      subst e2
      have KB := aS (show Below w.heap.size w wr from by rw [HTB.out]; exact K.out.2)  x1
      have KC := aS (show Below w.heap.size w wr from by rw [HTB.out]; exact K.out.2)  x2
      obtain ⟨X, hX⟩ : ∃ X, AsgRows.ent L j k = X := ⟨_, rfl⟩
      have HX := qh hX
      rw [hX] at KC y1 y2
      have ql1 := World.block_lt_of_cell? wr _ KB
      have ql2 := World.block_lt_of_cell? wr _ KC
      obtain ⟨Q, hQ⟩ : ∃ Q, 2 ^ k = Q := ⟨_, rfl⟩
      have HQ := qh hQ
      have hwk : wrap64 ((2 : Int) ^ k) = (Q : Int) := by rw [← hQ]; exact mF (by omega)
      have hq9 : Q ≤ 65536 := by rw [← hQ]; exact l5 (by omega)
      have htm : ((u : Int) / (2 : Int) ^ k).tmod 2 = ((u / Q % 2 : Nat) : Int) := by
       have : (u : Int) / (2 : Int) ^ k = ((u / Q : Nat) : Int) := by rw [← hQ, Int.natCast_ediv, Int.natCast_pow]; rfl
       rw [this, Int.tmod_eq_emod_of_nonneg (Int.natCast_nonneg _)]; rfl
      have hk0 : (0 : Int) ≤ (k : Int) := by omega
      have hk1 : (k : Int) < (m : Int) := by omega
      have hj1' : (j : Int) < (n : Int) := by omega
      clear x1 x2 hX hQ
      by_cases hx : 0 ≤ X
      ·by_cases hbit : u / Q % 2 = 0
       ·have d1 : (((u : Int) / (2 : Int) ^ k).tmod 2 == 0) = true := by rw [htm, hbit]; rfl
        have HBt := qh (show AsgRows.ent L j k = X ∧ 0 ≤ AsgRows.ent L j k ∧ u / 2 ^ k % 2 = 0 from ⟨HX.out, by rw [HX.out]; exact hx, by rw [HQ.out]; exact hbit⟩)
        have hlt2 : u + Q < P := by
         have := iE (u := u) (k := k) (m := m) (by rw [HP.out]; exact huP) hkm HBt.out.2.2
         rw [HQ.out, HP.out] at this
         exact this
        have hy := HNum.out (u + Q) hlt2
        obtain ⟨hy0, hy1⟩ := mV (L := L) (n := n) (m := m) (i := j + 1) (u := u + Q) n16 HM.out.hi2
        have HT := qh (Vk_take (L := L) (n := n) (m := m) (i := j) (u := u) (k := k) HBt.out.2.1 HBt.out.2.2)
        obtain ⟨Y, hY⟩ : ∃ Y, Vr L n m (j + 1) (u + Q) = Y := ⟨_, rfl⟩
        have HY := qh hY
        rw [hY] at hy hy0 hy1
        obtain ⟨B, hB⟩ : ∃ B, Vk L n m j u k = B := ⟨_, rfl⟩
        have HB := qh hB
        rw [hB] at hvb ⊢
        clear htm hbit hY hB
        go_wp2_with fail
        go_region
        all_goals
         go_wp2_with fail
         all_goals
          go_roundw
          case rel => exact ⟨k + 1, by omega, by go_num, by
           rw [HT.out, HB.out, HBt.out.1, HQ.out, HY.out]
           omega, _, rfl⟩
          case measure => simp [intOf]; omega
       have d1 : (((u : Int) / (2 : Int) ^ k).tmod 2 == 0) = false := by rw [htm, beq_eq_false_iff_ne]; omega
       have HT := qh (Vk_skip (L := L) (n := n) (m := m) (i := j) (u := u) (k := k) (fun q => by rw [HQ.out] at q; exact hbit q.2))
       clear htm hbit
       go_wp2_with fail
       go_roundw
       case rel => exact ⟨k + 1, by omega, by go_num, by rw [HT.out], _, rfl⟩
       case measure => simp [intOf]; omega
      have HT := qh (Vk_skip (L := L) (n := n) (m := m) (i := j) (u := u) (k := k) (fun q => hx (by have := q.1; rw [HX.out] at this; exact this)))
      go_wp2_with fail
      go_roundw
      case rel => exact ⟨k + 1, by omega, by go_num, by rw [HT.out], _, rfl⟩
      case measure => simp [intOf]; omega
     obtain rfl : m = k := by omega
     have hva := Vk_all (L := L) (n := n) (m := m) (i := j) (u := u) (by omega)
     rw [hva]
     clear hvb hva hk hkm
     have hsr := K.out.1.row
     obtain ⟨hs0, hs1⟩ := K.out.1.R.cell huP
     have hgl := K.out.1.R.lt
     have htl := K.out.1.V.lt
     have HS := qh (And.intro ((K.out.1.keep (aM (Below.refl _ _) d)).set huP) (jC (aM K.out.2 d) (Nat.le_of_lt HG.out) u (.int .i64 (Vr L n m j u))))
     go_wp2_with fail
     go_roundw
     case rel => exact ⟨u + 1, by omega, by go_num, HS.out.1, HS.out.2⟩
     case measure => simp [intOf]; omega
   obtain rfl : P = u := by omega
   go_wp2_with fail
   go_roundw
   case rel => exact ⟨j, by omega, rfl, K.out.1.done, K.out.2⟩
   case measure => simp [intOf] <;> omega
end Go.Proofs.YtikjjpjekchcjaaGreat.Asg
