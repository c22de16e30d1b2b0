/-
  TrkV1, PtAltP, RowLib, PairLib, SliceLib
-/
import Derived.Test.YtikjjpjekchcjaaPb34
import Derived.Test.YtikjjpjekchcjaaPb35
import Derived.Test.YtikjjpjekchcjaaPb3
import Derived.ProofKit
import Derived.OpenShut
import Derived.ShutString
import Derived.Carry
import Derived.Lib.SmallJoins
import Derived.Deep.SlicePairs
import Derived.WalkKit
section
namespace Go.Proofs.Ytikjjpjekchcjaa
open Go.RowKit TrkMath MyHeap MyOwn MyCopy
def AnyB (w : World) (e : Ending) (w' : World) : Prop := ∃ b : Bool, e = .returned (.bool b) ∧ Below w.heap.size w w'
set_option maxRecDepth 100000 in
set_option maxHeartbeats 8000000 in
theorem long_call (p : Par) (now next : Int) (a pa : Option Addr) (n c pn pc : Nat) (M : List TB) (w : World) (hT : TbI w a n M) :
    Calls Try.prog 7 #[.agg #[.int .i64 p.gate, .int .i64 p.need, .int .i64 p.most, .int .i64 p.pull, .int .i64 now, .int .i64 next, .slice a n c], .slice pa pn pc] w (AnyB w) := by
 have K := Lib.hid ((HK.nil w).alloc #[.int .i64 p.gate, .int .i64 p.need, .int .i64 p.most, .int .i64 p.pull, .int .i64 now, .int .i64 next, .slice a n c] 26)
 have TT := Lib.hid (hT.below (below_alloc w (.cells #[.int .i64 p.gate, .int .i64 p.need, .int .i64 p.most, .int .i64 p.pull, .int .i64 now, .int .i64 next, .slice a n c] 26)))
 have hb := hT.T.bound
 clear hT
 obtain ⟨t0, t1, t2, t3, t4, t5, t6⟩ := seven_new (K.out.H _ List.mem_cons_self)
 have tl := lt_of_block (K.out.H _ List.mem_cons_self)
 go_enter Try.func7, Try.ntmps7
 by_cases h1 : 20 < n
 ·have h1i : (20 : Int) < (n : Int) := by omega
  go_wp2_with fail
  go_ret
  exact ⟨_, rfl, K.out.B⟩
 have h1i : ¬ (20 : Int) < (n : Int) := by omega
 by_cases h2 : 20 < pn
 ·have h2i : (20 : Int) < (pn : Int) := by omega
  go_wp2_with fail
  go_ret
  exact ⟨_, rfl, K.out.B⟩
 have h2i : ¬ (20 : Int) < (pn : Int) := by omega
 go_wp2_with fail
 clear t0 t1 t2 t3 t4 t5 t6 tl
 obtain ⟨B1, hB1⟩ : ∃ b, b = w.heap.size := ⟨_, rfl⟩
 rw [← hB1] at K ⊢
 clear hB1
 generalize w.alloc (.cells #[.int .i64 p.gate, .int .i64 p.need, .int .i64 p.most, .int .i64 p.pull, .int .i64 now, .int .i64 next, .slice a n c] 26) = w1 at *
 go_loopw [4, 5] (fun v4 kv wr => ∃ k : Nat, k ≤ n ∧ v4 = .bool false ∧ kv = .int .i64 k ∧ HK w wr [(B1, .cells #[.int .i64 p.gate, .int .i64 p.need, .int .i64 p.most, .int .i64 p.pull, .int .i64 now, .int .i64 next, .slice a n c] 26 (0, 0))] ∧ TbI wr a n M) (fun _ kv _ => n - (intOf kv).toNat)
 case atStart => exact ⟨0, by omega, rfl, rfl, K.out, TT.out⟩
 case round =>
  clear K TT
  obtain ⟨k, hk, rfl, rfl, hK, hT⟩ := hrel
  have K := Lib.hid hK
  have TT := Lib.hid hT
  clear hK hT
  obtain ⟨t0, t1, t2, t3, t4, t5, t6⟩ := seven_new (K.out.H _ List.mem_cons_self)
  have tl := lt_of_block (K.out.H _ List.mem_cons_self)
  by_cases hlt : k < n
  ·obtain ⟨b, off, rfl, hq⟩ := trs_at TT.out.T hlt
   have x5 := hq.c5
   have x6 := hq.c6
   have xl := World.block_lt_of_cell? _ _ x5
   clear hq
   have HLt := Lib.hid hlt
   have hk0 : (0 : Int) ≤ (k : Int) := by omega
   have hk1 : (k : Int) < (n : Int) := by omega
   have hkw : IntKind.i64.wrap ((k : Int) + 1) = ((k + 1 : Nat) : Int) := by rw [IntWalk.i64_in _ (by omega)]; omega
   obtain ⟨⟨t', aL, nL, cL, aH, nH, cH⟩, hqe⟩ : ∃ q, gt M k = q := ⟨_, rfl⟩
   rw [hqe] at x5 x6
   simp only [] at x5 x6
   clear hqe hlt
   by_cases c1 : 210 < nL
   ·have c1i : (210 : Int) < (nL : Int) := by omega
    go_wp2_with fail
    go_ret
    exact ⟨_, rfl, K.out.B⟩
   have c1i : ¬ (210 : Int) < (nL : Int) := by omega
   by_cases c2 : 210 < nH
   ·have c2i : (210 : Int) < (nH : Int) := by omega
    go_wp2_with fail
    go_ret
    exact ⟨_, rfl, K.out.B⟩
   have c2i : ¬ (210 : Int) < (nH : Int) := by omega
   go_wp2_with fail
   refine ⟨⟨k + 1, HLt.out, rfl, by go_num, K.out, TT.out⟩, by simp [intOf]; have := HLt.out; omega⟩
  ·obtain rfl : n = k := by omega
   go_wp2_with fail
   go_ret
   exact ⟨_, rfl, K.out.B⟩
theorem find_yes (p : Par) {now next id : Int} (a : Option Addr) (n c : Nat) (M : List TB) (t : Tk) (W : World) (hT : TbI W a n M) (hck : ckE p now next (fsts M) = 0) (hi : Inc (fsts M)) (hm : t ∈ fsts M) (hid : t.id = id) :
    Calls Try.prog 12 #[.agg #[.int .i64 p.gate, .int .i64 p.need, .int .i64 p.most, .int .i64 p.pull, .int .i64 now, .int .i64 next, .slice a n c], .int .i64 id] W (fun e w' => ∃ sL nsL ksL sH nsH ksH, e = .returned (.tuple #[.agg #[.int .i64 t.id, .int .i64 t.addr, .int .i64 t.rg.r, .int .i64 t.rg.v, .int .i64 t.rg.n, .slice sL nsL ksL, .slice sH nsH ksH, .int .i64 t.hits, .int .i64 t.misses, .bool t.firm], .int .i64 0]) ∧ Below W.heap.size W w') := by
 have h := pFind_call p now next id a n c M W hT
 obtain ⟨k, hk, hkt⟩ := List.getElem_of_mem hm
 have hg : gk (fsts M) k = t := by
  unfold gk
  rw [List.getElem?_eq_getElem hk, Option.getD_some]
  exact hkt
 obtain ⟨e1, e2⟩ := fdE_yes (p := p) (now := now) (next := next) (id := id) hck hk (by rw [hg]; exact hid) (fun i hi2 => by have := inc_get hi hi2 hk; rw [hg, hid] at this; omega)
 rw [e1, e2, hg] at h
 refine h.mono ?_
 rintro e w' ⟨⟨sL, nL, kL, sH, nH, kH⟩, rfl, -, hb⟩
 exact ⟨sL, nL, kL, sH, nH, kH, rfl, hb⟩
theorem find_no (p : Par) {now next id : Int} (a : Option Addr) (n c : Nat) (M : List TB) (W : World) (hT : TbI W a n M) (hck : ckE p now next (fsts M) = 0) (hn : ∀ t ∈ fsts M, t.id ≠ id) :
    Calls Try.prog 12 #[.agg #[.int .i64 p.gate, .int .i64 p.need, .int .i64 p.most, .int .i64 p.pull, .int .i64 now, .int .i64 next, .slice a n c], .int .i64 id] W (fun e w' => ∃ sL nsL ksL sH nsH ksH, e = .returned (.tuple #[.agg #[.int .i64 0, .int .i64 0, .int .i64 0, .int .i64 0, .int .i64 0, .slice sL nsL ksL, .slice sH nsH ksH, .int .i64 0, .int .i64 0, .bool false], .int .i64 9]) ∧ Below W.heap.size W w') := by
 have h := pFind_call p now next id a n c M W hT
 obtain ⟨e1, e2⟩ := fdE_no (p := p) (now := now) (next := next) (id := id) hck (fun k hk => hn _ (gk_mem hk))
 rw [e1, e2] at h
 refine h.mono ?_
 rintro e w' ⟨⟨sL, nL, kL, sH, nH, kH⟩, rfl, -, hb⟩
 exact ⟨sL, nL, kL, sH, nH, kH, rfl, hb⟩
set_option maxRecDepth 100000 in
set_option maxHeartbeats 8000000 in
theorem keeps_call (p : Par) {now next now' next' id addr : Int} (a a' : Option Addr) (n c n' c' : Nat) (M M' : List TB) (t u : Tk) (w : World) (hT : TbI w a n M) (hT' : TbI w a' n' M')
    (hck : ckE p now next (fsts M) = 0) (hck' : ckE p now' next' (fsts M') = 0) (hi : Inc (fsts M)) (hi' : Inc (fsts M')) (hm : t ∈ fsts M) (hm' : u ∈ fsts M') (hid : t.id = id) (hid' : u.id = id)
    (h1 : u.addr = if t.addr < 0 then addr else t.addr) (h2 : ¬ t.addr < 0 → addr < 0 ∨ addr = t.addr) :
    Calls Try.prog 11 #[.agg #[.int .i64 p.gate, .int .i64 p.need, .int .i64 p.most, .int .i64 p.pull, .int .i64 now, .int .i64 next, .slice a n c], .agg #[.int .i64 p.gate, .int .i64 p.need, .int .i64 p.most, .int .i64 p.pull, .int .i64 now', .int .i64 next', .slice a' n' c'], .int .i64 id, .int .i64 addr] w (BoolB true w) := by
 have K := Lib.hid (((HK.nil w).alloc #[.int .i64 p.gate, .int .i64 p.need, .int .i64 p.most, .int .i64 p.pull, .int .i64 now, .int .i64 next, .slice a n c] 26).alloc #[.int .i64 p.gate, .int .i64 p.need, .int .i64 p.most, .int .i64 p.pull, .int .i64 now', .int .i64 next', .slice a' n' c'] 26)
 have HF := Lib.hid (fun W (hb : Below w.heap.size w W) (hs : w.heap.size ≤ W.heap.size) => find_yes p (now := now) (next := next) (id := id) a n c M t W (hT.below hb) hck hi hm hid)
 have HF' := Lib.hid (fun W (hb : Below w.heap.size w W) (hs : w.heap.size ≤ W.heap.size) => find_yes p (now := now') (next := next') (id := id) a' n' c' M' u W (hT'.below hb) hck' hi' hm' hid')
 have H1 := Lib.hid h1
 have H2 := Lib.hid h2
 clear hT hT' hck hck' hi hi' hm hm' hid hid' h1 h2
 go_enter Try.func11, Try.ntmps11
 obtain ⟨t0, t1, t2, t3, t4, t5, t6⟩ := seven_new (K.out.H _ (List.mem_cons_of_mem _ List.mem_cons_self))
 have tl := lt_of_block (K.out.H _ (List.mem_cons_of_mem _ List.mem_cons_self))
 go_wp2_with fail
 clear t0 t1 t2 t3 t4 t5 t6 tl
 obtain ⟨B1, hB1⟩ : ∃ b, b = w.heap.size := ⟨_, rfl⟩
 replace K := Lib.hid (show HK w ((w.alloc (.cells #[.int .i64 p.gate, .int .i64 p.need, .int .i64 p.most, .int .i64 p.pull, .int .i64 now, .int .i64 next, .slice a n c] 26)).alloc (.cells #[.int .i64 p.gate, .int .i64 p.need, .int .i64 p.most, .int .i64 p.pull, .int .i64 now', .int .i64 next', .slice a' n' c'] 26)) [(B1 + 1, .cells #[.int .i64 p.gate, .int .i64 p.need, .int .i64 p.most, .int .i64 p.pull, .int .i64 now', .int .i64 next', .slice a' n' c'] 26 (0, 0)), (B1, .cells #[.int .i64 p.gate, .int .i64 p.need, .int .i64 p.most, .int .i64 p.pull, .int .i64 now, .int .i64 next, .slice a n c] 26 (0, 0))] from by
  have h := K.out
  simp only [World.size_alloc] at h
  rw [hB1]
  exact h)
 rw [← hB1]
 clear hB1
 generalize (w.alloc (.cells #[.int .i64 p.gate, .int .i64 p.need, .int .i64 p.most, .int .i64 p.pull, .int .i64 now, .int .i64 next, .slice a n c] 26)).alloc (.cells #[.int .i64 p.gate, .int .i64 p.need, .int .i64 p.most, .int .i64 p.pull, .int .i64 now', .int .i64 next', .slice a' n' c'] 26) = w1 at *
 refine (HF.out _ K.out.B K.out.B.size).mono ?_; rintro e w2 ⟨sL, nsL, ksL, sH, nsH, ksH, rfl, hb⟩
 replace K := Lib.hid ((K.out.below hb).alloc #[.int .i64 t.id, .int .i64 t.addr, .int .i64 t.rg.r, .int .i64 t.rg.v, .int .i64 t.rg.n, .slice sL nsL ksL, .slice sH nsH ksH, .int .i64 t.hits, .int .i64 t.misses, .bool t.firm] 46)
 clear hb
 obtain ⟨t0, t1, t2, t3, t4, t5, t6⟩ := seven_new (K.out.H _ (List.mem_cons_of_mem _ List.mem_cons_self))
 have tl := lt_of_block (K.out.H _ (List.mem_cons_of_mem _ List.mem_cons_self))
 go_wp2_with fail
 clear t0 t1 t2 t3 t4 t5 t6 tl
 obtain ⟨B3, hB3⟩ : ∃ b, b = w2.heap.size := ⟨_, rfl⟩
 rw [← hB3] at K ⊢
 clear hB3
 generalize w2.alloc (.cells #[.int .i64 t.id, .int .i64 t.addr, .int .i64 t.rg.r, .int .i64 t.rg.v, .int .i64 t.rg.n, .slice sL nsL ksL, .slice sH nsH ksH, .int .i64 t.hits, .int .i64 t.misses, .bool t.firm] 46) = w3 at *
 refine (HF'.out _ K.out.B K.out.B.size).mono ?_; rintro e w4 ⟨rL, nrL, krL, rH, nrH, krH, rfl, hb⟩
 replace K := Lib.hid ((K.out.below hb).alloc #[.int .i64 u.id, .int .i64 u.addr, .int .i64 u.rg.r, .int .i64 u.rg.v, .int .i64 u.rg.n, .slice rL nrL krL, .slice rH nrH krH, .int .i64 u.hits, .int .i64 u.misses, .bool u.firm] 46)
 clear hb
 go_upto_region 3 with fail
 obtain ⟨B4, hB4⟩ : ∃ b, b = w4.heap.size := ⟨_, rfl⟩
 rw [← hB4] at K ⊢
 clear hB4
 generalize w4.alloc (.cells #[.int .i64 u.id, .int .i64 u.addr, .int .i64 u.rg.r, .int .i64 u.rg.v, .int .i64 u.rg.n, .slice rL nrL krL, .slice rH nrH krH, .int .i64 u.hits, .int .i64 u.misses, .bool u.firm] 46) = w5 at *
 obtain ⟨y0, y1, y2, y3, y4, y5, y6, y7, y8, y9⟩ := TkAt.block' (q := (u, ⟨rL, nrL, krL, rH, nrH, krH⟩)) (K.out.H _ List.mem_cons_self)
 simp only [] at y0 y1 y2 y3 y4 y5 y6 y7 y8 y9
 have yl := lt_of_block (K.out.H _ List.mem_cons_self)
 obtain ⟨z0, z1, z2, z3, z4, z5, z6, z7, z8, z9⟩ := TkAt.block' (q := (t, ⟨sL, nsL, ksL, sH, nsH, ksH⟩)) (K.out.H _ (List.mem_cons_of_mem _ List.mem_cons_self))
 simp only [] at z0 z1 z2 z3 z4 z5 z6 z7 z8 z9
 have zl := lt_of_block (K.out.H _ (List.mem_cons_of_mem _ List.mem_cons_self))
 have h1 := H1.out
 have h2 := H2.out
 by_cases d : t.addr < 0
 ·rw [if_pos d] at h1
  clear h2
  have hq : (u.addr == addr) = true := by rw [h1]; exact beq_self_eq_true _
  go_wp2_with fail
  go_ret
  exact ⟨rfl, K.out.B⟩
 ·rw [if_neg d] at h1
  rcases h2 (by omega) with f | f
  ·go_wp2_with fail
   go_ret
   exact ⟨by simp, K.out.B⟩
  ·subst f
   go_wp2_with fail
   go_ret
   exact ⟨by simp, K.out.B⟩
end Go.Proofs.Ytikjjpjekchcjaa
end
section
namespace Go.Proofs.Ytikjjpjekchcjaa.Alt
open Go.RowKit AltMath MyHeap
def CnPost (lo hi : List Int) (z v : Int) (w : World) (e : Ending) (w' : World) : Prop := e = .returned (.tuple #[.bool (cnB lo hi z v), .int .i64 (chB lo hi)]) ∧ Below w.heap.size w w'
theorem cn_ch {lo hi : List Int} {z v : Int} (h : chB lo hi ≠ 0) : cnB lo hi z v = false := by unfold cnB; rw [show (chB lo hi == 0) = false by simpa using h]; rfl
theorem cn_out {lo hi : List Int} {z v : Int} (h : v < -100 ∨ 100 < v) : cnB lo hi z v = false := by
 unfold cnB
 rcases h with h | h
 ·rw [decide_eq_false (show ¬ -100 ≤ v by omega)]; simp
 ·rw [decide_eq_false (show ¬ v ≤ 100 by omega)]; simp
theorem cn_in {lo hi : List Int} {z : Int} {j : Nat} (h : chB lo hi = 0) (hj : j < 201) : cnB lo hi z ((j : Int) - 100) = (decide (gi lo j ≤ z) && decide (z ≤ gi hi j)) := by
 unfold cnB
 rw [h, decide_eq_true (show -100 ≤ (j : Int) - 100 by omega), decide_eq_true (show (j : Int) - 100 ≤ 100 by omega), show ((j : Int) - 100 + 100).toNat = j by omega]
 simp
set_option maxRecDepth 100000 in
set_option maxHeartbeats 4000000 in
theorem pCon_ch (aL aH : Option Addr) (nL nH cL cH : Nat) (lo hi : List Int) (z v : Int) (w : World) (hL : Ints w aL nL lo) (hH : Ints w aH nH hi) (hE : chB lo hi ≠ 0) :
    Calls Try.prog 50 #[bdV aL nL cL aH nH cH, .agg #[.int .i64 z, .int .i64 v]] w (CnPost lo hi z v w) := by
 have d1 : (chB lo hi != 0) = true := bne_iff_ne.2 hE
 have HE := Lib.hid (cn_ch (z := z) (v := v) hE)
 have H := Lib.hid (And.intro hL hH)
 have B := Lib.hid ((below_alloc w (.cells (bdC aL nL cL aH nH cH) 44)).alloc (by simp) (.cells #[.int .i64 z, .int .i64 v] 66))
 clear hL hH hE
 unfold bdV
 unfold bdC at *
 go_enter Try.func50, Try.ntmps50
 go_wp2_with fail
 refine (pCheck_call aL aH nL nH cL cH lo hi _ (H.out.1.below B.out) (H.out.2.below B.out)).mono ?_; rintro e w1 ⟨rfl, hb⟩
 replace B := Lib.hid (B.out.trans (hb.mono B.out.size))
 clear hb
 go_wp2_with fail
 go_ret2
 exact ⟨by rw [HE.out]; rfl, B.out⟩
set_option maxRecDepth 100000 in
set_option maxHeartbeats 4000000 in
theorem pCon_lo (aL aH : Option Addr) (cL cH : Nat) (lo hi : List Int) (z v : Int) (w : World) (hL : Ints w aL 201 lo) (hH : Ints w aH 201 hi) (hE : chB lo hi = 0) (hv : v < -100) :
    Calls Try.prog 50 #[bdV aL 201 cL aH 201 cH, .agg #[.int .i64 z, .int .i64 v]] w (CnPost lo hi z v w) := by
 have HE := Lib.hid (And.intro hE (cn_out (lo := lo) (hi := hi) (z := z) (v := v) (by omega)))
 have H := Lib.hid (And.intro hL hH)
 have B := Lib.hid (And.intro ((below_alloc w (.cells (bdC aL 201 cL aH 201 cH) 44)).alloc (by simp) (.cells #[.int .i64 z, .int .i64 v] 66)) (block_new (w.alloc (.cells (bdC aL 201 cL aH 201 cH) 44)) (.cells #[.int .i64 z, .int .i64 v] 66) (n := w.heap.size + 1) (by simp)))
 have dA : decide (-100 ≤ v) = false := decide_eq_false (by omega)
 clear hL hH hE hv
 unfold bdV
 unfold bdC at *
 go_enter Try.func50, Try.ntmps50
 go_wp2_with fail
 refine (pCheck_call aL aH 201 201 cL cH lo hi _ (H.out.1.below B.out.1) (H.out.2.below B.out.1)).mono ?_; rintro e w1 ⟨rfl, hb⟩
 replace B := Lib.hid (And.intro (B.out.1.trans (hb.mono B.out.1.size)) (keepO hb B.out.2))
 have p0 := cell_of_block (i := 0) B.out.2 rfl
 have p1 := cell_of_block (i := 1) B.out.2 rfl
 rw [HE.out.1]
 clear hb
 go_wp2_with fail
 go_quiet (fail)
 go_wp2_with fail
 go_ret2
 exact ⟨by rw [HE.out.1, HE.out.2]; rfl, B.out.1.trans ⟨rfl, rfl, rfl, Nat.le_refl _, fun _ _ => rfl⟩⟩
set_option maxRecDepth 100000 in
set_option maxHeartbeats 4000000 in
theorem pCon_hi (aL aH : Option Addr) (cL cH : Nat) (lo hi : List Int) (z v : Int) (w : World) (hL : Ints w aL 201 lo) (hH : Ints w aH 201 hi) (hE : chB lo hi = 0) (hv : 100 < v) :
    Calls Try.prog 50 #[bdV aL 201 cL aH 201 cH, .agg #[.int .i64 z, .int .i64 v]] w (CnPost lo hi z v w) := by
 have HE := Lib.hid (And.intro hE (cn_out (lo := lo) (hi := hi) (z := z) (v := v) (by omega)))
 have H := Lib.hid (And.intro hL hH)
 have B := Lib.hid (And.intro ((below_alloc w (.cells (bdC aL 201 cL aH 201 cH) 44)).alloc (by simp) (.cells #[.int .i64 z, .int .i64 v] 66)) (block_new (w.alloc (.cells (bdC aL 201 cL aH 201 cH) 44)) (.cells #[.int .i64 z, .int .i64 v] 66) (n := w.heap.size + 1) (by simp)))
 have dA : decide (-100 ≤ v) = true := decide_eq_true (by omega)
 have dB : decide (v ≤ 100) = false := decide_eq_false (by omega)
 clear hL hH hE hv
 unfold bdV
 unfold bdC at *
 go_enter Try.func50, Try.ntmps50
 go_wp2_with fail
 refine (pCheck_call aL aH 201 201 cL cH lo hi _ (H.out.1.below B.out.1) (H.out.2.below B.out.1)).mono ?_; rintro e w1 ⟨rfl, hb⟩
 replace B := Lib.hid (And.intro (B.out.1.trans (hb.mono B.out.1.size)) (keepO hb B.out.2))
 have p0 := cell_of_block (i := 0) B.out.2 rfl
 have p1 := cell_of_block (i := 1) B.out.2 rfl
 rw [HE.out.1]
 clear hb
 go_wp2_with fail
 go_quiet (fail)
 go_wp2_with fail
 go_ret2
 exact ⟨by rw [HE.out.1, HE.out.2]; rfl, B.out.1.trans ⟨rfl, rfl, rfl, Nat.le_refl _, fun _ _ => rfl⟩⟩
set_option maxRecDepth 100000 in
set_option maxHeartbeats 8000000 in
theorem pCon_in (b1 o1 b2 o2 cL cH : Nat) (lo hi : List Int) (z : Int) (j : Nat) (w : World) (hL : Ints w (some ⟨b1, o1, none⟩) 201 lo) (hH : Ints w (some ⟨b2, o2, none⟩) 201 hi) (hE : chB lo hi = 0) (hj : j < 201) :
    Calls Try.prog 50 #[bdV (some ⟨b1, o1, none⟩) 201 cL (some ⟨b2, o2, none⟩) 201 cH, .agg #[.int .i64 z, .int .i64 ((j : Int) - 100)]] w (CnPost lo hi z ((j : Int) - 100) w) := by
 have HE := Lib.hid (And.intro hE (cn_in (z := z) hE hj))
 have H := Lib.hid (And.intro hL hH)
 have B := Lib.hid (And.intro ((below_alloc w (.cells (bdC (some ⟨b1, o1, none⟩) 201 cL (some ⟨b2, o2, none⟩) 201 cH) 44)).alloc (by simp) (.cells #[.int .i64 z, .int .i64 ((j : Int) - 100)] 66)) (And.intro (block_new (w.alloc (.cells (bdC (some ⟨b1, o1, none⟩) 201 cL (some ⟨b2, o2, none⟩) 201 cH) 44)) (.cells #[.int .i64 z, .int .i64 ((j : Int) - 100)] 66) (n := w.heap.size + 1) (by simp)) (block_alloc (o' := .cells #[.int .i64 z, .int .i64 ((j : Int) - 100)] 66) (block_new w (.cells (bdC (some ⟨b1, o1, none⟩) 201 cL (some ⟨b2, o2, none⟩) 201 cH) 44) rfl))))
 have hj0 : (0 : Int) ≤ (j : Int) := by omega
 have hj1 : (j : Int) < 201 := by omega
 have dA : decide (-100 ≤ (j : Int) - 100) = true := decide_eq_true (by omega)
 have dB : decide ((j : Int) - 100 ≤ 100) = true := decide_eq_true (by omega)
 clear hL hH hE
 unfold bdV
 unfold bdC at *
 go_enter Try.func50, Try.ntmps50
 go_wp2_with fail
 refine (pCheck_call (some ⟨b1, o1, none⟩) (some ⟨b2, o2, none⟩) 201 201 cL cH lo hi _ (H.out.1.below B.out.1) (H.out.2.below B.out.1)).mono ?_; rintro e w1 ⟨rfl, hb⟩
 replace B := Lib.hid (And.intro (B.out.1.trans (hb.mono B.out.1.size)) (And.intro (keepO hb B.out.2.1) (keepO hb B.out.2.2)))
 have p0 := cell_of_block (i := 0) B.out.2.1 rfl
 have p1 := cell_of_block (i := 1) B.out.2.1 rfl
 have k0 := cell_of_block (i := 0) B.out.2.2 rfl
 have k1 := cell_of_block (i := 1) B.out.2.2 rfl
 obtain ⟨_, _, e1, x0⟩ := ints_at (H.out.1.below B.out.1) hj
 obtain ⟨_, _, e2, y0⟩ := ints_at (H.out.2.below B.out.1) hj
 cases e1; cases e2
 obtain ⟨X, hX⟩ : ∃ X, gi lo j = X := ⟨_, rfl⟩
 obtain ⟨Y, hY⟩ : ∃ Y, gi hi j = Y := ⟨_, rfl⟩
 rw [hX, hY] at HE
 rw [hX] at x0
 rw [hY] at y0
 rw [HE.out.1]
 clear hb hX hY
 cases dC : decide (X ≤ z)
 all_goals
  go_wp2_with fail
  go_quiet (fail)
  go_wp2_with fail
  go_ret2
  exact ⟨by rw [HE.out.1, HE.out.2, dC]; rfl, B.out.1.trans ⟨rfl, rfl, rfl, Nat.le_refl _, fun _ _ => rfl⟩⟩
set_option maxRecDepth 100000 in
theorem pCon_call (aL aH : Option Addr) (nL nH cL cH : Nat) (lo hi : List Int) (z v : Int) (w : World) (hL : Ints w aL nL lo) (hH : Ints w aH nH hi) :
    Calls Try.prog 50 #[bdV aL nL cL aH nH cH, .agg #[.int .i64 z, .int .i64 v]] w (CnPost lo hi z v w) := by
 by_cases hE : chB lo hi = 0
 ·obtain ⟨e1, e2, -⟩ := chB_ok hE
  obtain rfl : nL = 201 := by rw [← hL.len]; exact e1
  obtain rfl : nH = 201 := by rw [← hH.len]; exact e2
  by_cases h1 : v < -100
  ·exact pCon_lo aL aH cL cH lo hi z v w hL hH hE h1
  ·by_cases h2 : 100 < v
   ·exact pCon_hi aL aH cL cH lo hi z v w hL hH hE h2
   ·obtain ⟨j, rfl⟩ : ∃ j : Nat, v = (j : Int) - 100 := ⟨(v + 100).toNat, by omega⟩
    obtain ⟨b1, o1, rfl, -⟩ := ints_at hL (k := 0) (by decide)
    obtain ⟨b2, o2, rfl, -⟩ := ints_at hH (k := 0) (by decide)
    exact pCon_in b1 o1 b2 o2 cL cH lo hi z j w hL hH hE (by omega)
 ·exact pCon_ch aL aH nL nH cL cH lo hi z v w hL hH hE
end Go.Proofs.Ytikjjpjekchcjaa.Alt
end
section
namespace Go.MyRow
open Go.ChangeShapes Go.WideShapes Go.ChangeAt Go.RowKit
section
variable {H : Type} {enc : TypeId × Value → H} {P : Program}
theorem trodAll_stays (hl : laidOutB P = true) {W W' : World} (hb : Below W.heap.size W W') {sp : Nat → Bool} : ∀ {ts : List TypeId} {vs : List Value} {ds : List (DataW H)} {ps : List MemPlace},
    (ts.all fun t => P.readableRec t && decide (t < P.types.size)) = true → DataW.TrodAll enc P W 0 (fun _ => true) true ts vs ds ps → (∀ p ∈ ps, p.block < W.heap.size) → (∀ p ∈ ps, sp p.block = true) →
    DataW.TrodAll enc P W' 0 sp true ts vs ds ps
 | [], [], [], _, _, h, _, _ => h
 | t :: ts, v :: vs, d :: ds, _, hr, ⟨p, q, h1, h2, e⟩, hlt, hs => by
  subst e
  simp only [List.all_cons, Bool.and_eq_true, decide_eq_true_eq] at hr
  exact ⟨p, q, WideElems.Trod_stays hl hr.1.1 hr.1.2 h1 (fun x hx => hb.same (hlt x (by simp [hx]))) (fun x hx => hs x (by simp [hx])),
   trodAll_stays hl hb hr.2 h2 (fun x hx => hlt x (by simp [hx])) (fun x hx => hs x (by simp [hx])), rfl⟩
 | [], _ :: _, _, _, _, h, _, _ => h.elim
 | [], [], _ :: _, _, _, h, _, _ => h.elim
 | _ :: _, [], _, _, _, h, _, _ => h.elim
 | _ :: _, _ :: _, [], _, _, h, _, _ => h.elim
theorem law_post {f : Func} {s : ChangeSpec} {W W' : World} {args : Array Value} {ds gs : List (DataW H)} {before : List MemPlace} {tb : TypeId}
    (hl : laidOutB P = true) (hr : (f.params.toList.all fun t => P.readableRec t && decide (t < P.types.size)) = true) (ht : f.resultTypes = #[tb]) (hb4 : P.underlying tb = some .bool)
    (hv : s.vars = []) (hres : (s.fn H (ds ++ gs)).results = [.lit (.bool true)]) (hargs : (s.fn H (ds ++ gs)).args = ds) (hvars : (s.fn H (ds ++ gs)).vars = [])
    (hW : DataW.Whole enc P f.params.toList s.vars false W args.toList ds gs before) (hb : Below W.heap.size W W') :
    s.post enc P f false true false false W args (.bool true) W' := by
 have hlt : ∀ p ∈ before, p.block < W.heap.size := fun p hp => hW.lt p hp
 have hW' := hW
 obtain ⟨p, q, hA, hV, rfl, _, _⟩ := hW
 rw [hv] at hV
 have hq : q = [] := by
  cases gs with
  | nil => exact hV
  | cons g gs => exact hV.elim
 subst hq
 refine ⟨ds, gs, _, [], p, [], hW', ?_, ?_, ?_, ?_, fun h => by cases h⟩
 ·rw [hres, ht]
  exact trodAll_cons_mk (shut_bool hb4 _) trodAll_mk0
 ·rw [hargs]
  exact trodAll_stays hl hb hr hA (fun x hx => hlt x (by simp [hx])) (fun x hx => by simpa using hlt x (by simp [hx]))
 ·rw [hv, hvars]; exact rfl
 ·exact hb.frame _
end
end Go.MyRow
end
section
namespace Go.MyPair
open Go.ChangeShapes Go.WideShapes Go.ChangeAt Go.RowKit Go.Deep
structure Rd (w : World) (a : Option Addr) (n : Nat) (ps : List (Int × Int)) : Prop where
 len : ps.length = n
 bound : n ≤ maxLen
 cells : n = 0 ∨ ∃ b off, a = some ⟨b, off, none⟩ ∧ ∀ i, i < n → w.cell? ⟨b, off + i * 2, none⟩ = some (.int .i64 (ps[i]?.getD (0, 0)).1) ∧ w.cell? ⟨b, off + i * 2 + 1, none⟩ = some (.int .i64 (ps[i]?.getD (0, 0)).2)
section
variable {H : Type} {enc : TypeId × Value → H} {P : Program}
theorem open_pair {r : Reach} {b0 : Nat} {t : TypeId} {f0 f1 : Field} {w : World} {v : Value} {d : DataW H} {p : List MemPlace} {base : Nat} {spare : Nat → Bool} {held : Bool} (hs : P.underlying t = some (.struct #[f0, f1])) (hone : oneCellFields P #[f0, f1] = true) (hC : P.cellsOf t = 2)
    (h0 : P.underlying f0.type = some (.int .i64)) (h1 : P.underlying f1.type = some (.int .i64))
    (hv : Value.okWide P w r b0 t v) (h : DataW.Trod enc P w base spare held t v d p) :
    ∃ z u : Int, v = .agg #[.int .i64 z, .int .i64 u] ∧ (Lit.int .i64 z).wf = true ∧ (Lit.int .i64 u).wf = true := by
 obtain ⟨v0, v1, y0, y1, n, rfl, _, _, g0, g1⟩ := Go.Joins.open_agg2 hs hone hC hv h
 obtain ⟨z, e0, _, w0⟩ := DataW.trod_int h0 g0
 obtain ⟨u, e1, _, w1⟩ := DataW.trod_int h1 g1
 simp only [List.cons.injEq, and_true] at e0 e1
 subst e0 e1
 exact ⟨z, u, rfl, w0, w1⟩
end
end Go.MyPair
end
section
namespace Go.MySlice
open Go.ChangeShapes Go.WideShapes Go.ChangeAt Go.RowKit
structure IntsAt (k : IntKind) (w : World) (a : Option Addr) (n : Nat) (zs : List Int) : Prop where
 len : zs.length = n
 bound : n ≤ 9223372036854775807
 cells : n = 0 ∨ ∃ b off, a = some ⟨b, off, none⟩ ∧ ∀ i, i < n → w.cell? ⟨b, off + i, none⟩ = some (.int k (zs[i]?.getD 0))
theorem IntsAt.below {k : IntKind} {w w' : World} {a : Option Addr} {n : Nat} {zs : List Int} (h : IntsAt k w a n zs) (hb : Below w.heap.size w w') : IntsAt k w' a n zs := by
 refine ⟨h.len, h.bound, ?_⟩
 rcases h.cells with h0 | ⟨b, off, rfl, hc⟩
 ·exact Or.inl h0
 ·exact Or.inr ⟨b, off, rfl, fun i hi => (hb.cell (p := ⟨b, off + i, none⟩) (World.block_lt_of_cell? w _ (hc i hi))).trans (hc i hi)⟩
section
variable {H : Type} {enc : TypeId × Value → H} {P : Program}
theorem open_intsAt {k : IntKind} {t e : TypeId} {base : Nat} {W : World} {v : Value} {d : DataW H} {ps : List MemPlace}
    (ht : P.underlying t = some (.slice e)) (he : P.underlying e = some (.int k)) (hc : P.cellsOf e = 1)
    (hv : Value.okWide P W .any base t v) (h : DataW.Trod enc P W 0 (fun _ => true) true t v d ps) :
    ∃ a n c zs, v = .slice a n c ∧ IntsAt k W a n zs ∧ n ≤ c ∧ (∀ z ∈ zs, (Lit.int k z).wf = true) := by
 obtain ⟨a0, len, cap, rfl⟩ := okWide_slice ht hv
 obtain ⟨fuel, hf⟩ := h
 rcases open_ints ht he hc hf with ⟨hcs, hx⟩ | ⟨a, len', cap', zs, hcs, _, hl, hm, hz, hx, hcell, hwz⟩
 ·simp [Value.cells] at hcs
  obtain ⟨rfl, rfl, rfl⟩ := hcs
  exact ⟨none, 0, 0, [], rfl, ⟨rfl, by omega, Or.inl rfl⟩, by omega, by simp⟩
 ·simp [Value.cells] at hcs
  obtain ⟨rfl, rfl, rfl⟩ := hcs
  simp only [if_true] at hz
  unfold maxLen at hm
  refine ⟨some a, len, cap, zs.take len, rfl, ⟨by rw [List.length_take]; omega, by omega, ?_⟩, hl, fun z hz' => hwz z (List.mem_of_mem_take hz')⟩
  by_cases h0 : len = 0
  ·exact Or.inl h0
  ·obtain ⟨b, off, rfl, hc'⟩ := ints_at hcell (by omega)
   refine Or.inr ⟨b, off, rfl, fun i hi => ?_⟩
   rw [hc' i (by omega), List.getElem?_take, if_pos hi, List.getD_eq_getElem?_getD]
end
end Go.MySlice
end
