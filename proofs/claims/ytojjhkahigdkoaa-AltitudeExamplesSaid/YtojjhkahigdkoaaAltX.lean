/-
  Layer 18 (altitude): the law's awake.
-/
import Derived.Test.YtojjhkahigdkoaaAltL
import Derived.Test.YtojjhkahigdkoaaAltW
import Derived.Test.YtojjhkahigdkoaaAltV
namespace Go.Proofs.Ytojjhkahigdkoaa
open Go.RowKit AltMath MyHeap MyCopy MyOwn

def aL1 : List Int := loK (neF 1000 25) 201
def aH1 : List Int := hiK (neF 1000 25) 201
def aL2 : List Int := loK (stF aL1 aH1 2) 201
def aH2 : List Int := hiK (stF aL1 aH1 2) 201
def aL3 : List Int := loK (maF aL2 aH2 1025 25) 201
def aH3 : List Int := hiK (maF aL2 aH2 1025 25) 201
theorem aw0 : meE 1000 25 = 0 ∧ stE aL1 aH1 2 = 0 ∧ maE aL2 aH2 1025 25 = 0 ∧ spE aL3 aH3 = 0 ∧ (spX aL3 aH3).low = 1025 ∧ (spX aL3 aH3).high = 1049 ∧ (spX aL3 aH3).slow = -1 ∧ (spX aL3 aH3).fast = 51 ∧ (beP aL3 aH3).1 = 1037 ∧ (beP aL3 aH3).2 = 25 := by
  refine ⟨?_, ?_, ?_, ?_, ?_, ?_, ?_, ?_, ?_, ?_⟩ <;> kernel_rfl
theorem aw1 : (gi aL1 0 = 1000 ∧ gi aH1 0 = 1024) ∧ (gi aL1 200 = 1000 ∧ gi aH1 200 = 1024) ∧ (gi aL2 100 = 998 ∧ gi aH2 100 = 1026) ∧ (gi aL2 110 = 1008 ∧ gi aH2 110 = 1036) ∧ (gi aL2 200 = 1098 ∧ gi aH2 200 = 1124) ∧ (gi aL3 100 = 1025 ∧ gi aH3 100 = 1026) ∧ (gi aL3 103 = 1025 ∧ gi aH3 103 = 1029) ∧ (gi aL3 98 = 1 ∧ gi aH3 98 = 0) ∧ (gi aL3 152 = 1 ∧ gi aH3 152 = 0) := by
  refine ⟨⟨?_, ?_⟩, ⟨?_, ?_⟩, ⟨?_, ?_⟩, ⟨?_, ?_⟩, ⟨?_, ?_⟩, ⟨?_, ?_⟩, ⟨?_, ?_⟩, ⟨?_, ?_⟩, ⟨?_, ?_⟩⟩ <;> kernel_rfl
theorem two_ints {base : Nat} {vL vH : Value} {lo hi : List Int} {W : World} {n m : Nat} (h : TwoOwn base vL vH lo hi W) (h1 : lo.length = n) (h2 : hi.length = m) (hn : n ≤ 9223372036854775807) (hm : m ≤ 9223372036854775807) : ∃ a c b d, vL = .slice a n c ∧ vH = .slice b m d ∧ Ints W a n lo ∧ Ints W b m hi := by
  have hL := h.L
  have hH := h.H
  rw [h1] at hL
  rw [h2] at hH
  obtain ⟨a, c, e1, i1⟩ := ints_own h1 hL hn
  obtain ⟨b, d, e2, i2⟩ := ints_own h2 hH hm
  exact ⟨a, c, b, d, e1, e2, i1, i2⟩
/-- What awake holds: a band in a block of its own. -/
def AwB (b : Nat) (aL : Option Addr) (cL : Nat) (aH : Option Addr) (cH : Nat) (lo hi : List Int) (W : World) : Prop := W.heap[b]? = some (.cells #[.slice aL 201 cL, .slice aH 201 cH] 24 (0, 0)) ∧ Ints W aL 201 lo ∧ Ints W aH 201 hi
theorem AwB.keep {b : Nat} {aL : Option Addr} {cL : Nat} {aH : Option Addr} {cH : Nat} {lo hi : List Int} {W W' : World} (h : AwB b aL cL aH cH lo hi W) (hb : Below W.heap.size W W') : AwB b aL cL aH cH lo hi W' := ⟨keepO hb h.1, h.2.1.below hb, h.2.2.below hb⟩
theorem AwB.new {aL : Option Addr} {cL : Nat} {aH : Option Addr} {cH : Nat} {lo hi : List Int} {W : World} (hL : Ints W aL 201 lo) (hH : Ints W aH 201 hi) : AwB W.heap.size aL cL aH cH lo hi (W.alloc (.cells #[.slice aL 201 cL, .slice aH 201 cH] 24)) := ⟨block_new _ _ rfl, hL.below (below_alloc _ _), hH.below (below_alloc _ _)⟩

set_option maxRecDepth 100000 in
set_option maxHeartbeats 4000000 in
theorem awake_call (w : World) : Calls Try.prog 10 #[] w (BPost true w) := by
  have F := Lib.hid aw0
  have G := Lib.hid aw1
  go_enter Try.func10, Try.ntmps10
  go_wp2_with fail
  refine (pNew_call 1000 25 _).mono ?_; rintro e w1 ⟨vL, vH, rfl, hT, -, hb⟩
  rw [F.out.1] at hT ⊢
  obtain ⟨a1, c1, d1, e1, rfl, rfl, i1, i2⟩ := two_ints (lo := aL1) (hi := aH1) (hT rfl) (loK_len _ 201) (hiK_len _ 201) (by decide) (by decide)
  have K1 := Lib.hid (AwB.new (cL := c1) (cH := e1) i1 i2)
  have B := Lib.hid (hb.alloc hb.size (.cells #[.slice a1 201 c1, .slice d1 201 e1] 24))
  clear hT hb i1 i2
  go_wp2_with fail
  refine (pStep_call a1 d1 201 201 c1 e1 aL1 aH1 2 _ K1.out.2.1 K1.out.2.2).mono ?_; rintro e w2 ⟨vL, vH, rfl, hT, -, hb⟩
  rw [F.out.2.1] at hT ⊢
  obtain ⟨a2, c2, d2, e2, rfl, rfl, i1, i2⟩ := two_ints (lo := aL2) (hi := aH2) (hT rfl) (loK_len _ 201) (hiK_len _ 201) (by decide) (by decide)
  have K2 := Lib.hid (AwB.new (cL := c2) (cH := e2) i1 i2)
  replace K1 := Lib.hid ((K1.out.keep hb).keep (below_alloc w2 (.cells #[.slice a2 201 c2, .slice d2 201 e2] 24)))
  replace B := Lib.hid ((B.out.trans (hb.mono B.out.size)).alloc (Nat.le_trans B.out.size hb.size) (.cells #[.slice a2 201 c2, .slice d2 201 e2] 24))
  clear hT hb i1 i2
  go_wp2_with fail
  refine (pMea_call a2 d2 201 201 c2 e2 aL2 aH2 1025 25 _ K2.out.2.1 K2.out.2.2).mono ?_; rintro e w3 ⟨vL, vH, rfl, hT, -, hb⟩
  rw [F.out.2.2.1] at hT ⊢
  obtain ⟨a3, c3, d3, e3, rfl, rfl, i1, i2⟩ := two_ints (lo := aL3) (hi := aH3) (hT rfl) (loK_len _ 201) (hiK_len _ 201) (by decide) (by decide)
  have K3 := Lib.hid (AwB.new (cL := c3) (cH := e3) i1 i2)
  replace K1 := Lib.hid ((K1.out.keep hb).keep (below_alloc w3 (.cells #[.slice a3 201 c3, .slice d3 201 e3] 24)))
  replace K2 := Lib.hid ((K2.out.keep hb).keep (below_alloc w3 (.cells #[.slice a3 201 c3, .slice d3 201 e3] 24)))
  replace B := Lib.hid ((B.out.trans (hb.mono B.out.size)).alloc (Nat.le_trans B.out.size hb.size) (.cells #[.slice a3 201 c3, .slice d3 201 e3] 24))
  clear hT hb i1 i2
  go_wp2_with fail
  refine (pSpread_call a3 d3 201 201 c3 e3 aL3 aH3 _ K3.out.2.1 K3.out.2.2).mono ?_; rintro e w4 ⟨rfl, hb⟩
  unfold exC
  rw [F.out.2.2.2.1, F.out.2.2.2.2.1, F.out.2.2.2.2.2.1, F.out.2.2.2.2.2.2.1, F.out.2.2.2.2.2.2.2.1]
  have hb4 := hb.alloc hb.size (.cells #[.int .i64 1025, .int .i64 1049, .int .i64 (-1), .int .i64 51] 48)
  replace K1 := Lib.hid (K1.out.keep hb4)
  replace K2 := Lib.hid (K2.out.keep hb4)
  replace K3 := Lib.hid (K3.out.keep hb4)
  replace B := Lib.hid (B.out.trans (hb4.mono B.out.size))
  have E4 := Lib.hid (block_new w4 (.cells #[.int .i64 1025, .int .i64 1049, .int .i64 (-1), .int .i64 51] 48) rfl)
  clear hb hb4
  obtain ⟨k0, k1, -, -⟩ := two_facts K3.out.1
  go_wp2_with fail
  refine (pBest_call a3 d3 201 201 c3 e3 aL3 aH3 _ K3.out.2.1 K3.out.2.2).mono ?_; rintro e w5 ⟨rfl, hb⟩
  rw [F.out.2.2.2.1, F.out.2.2.2.2.2.2.2.2.1, F.out.2.2.2.2.2.2.2.2.2]
  have hb5 := hb.alloc hb.size (.cells #[.int .i64 1037, .int .i64 25] 40)
  replace K1 := Lib.hid (K1.out.keep hb5)
  replace K2 := Lib.hid (K2.out.keep hb5)
  replace K3 := Lib.hid (K3.out.keep hb5)
  replace B := Lib.hid (B.out.trans (hb5.mono B.out.size))
  replace E4 := Lib.hid (keepO hb5 E4.out)
  have E5 := Lib.hid (block_new w5 (.cells #[.int .i64 1037, .int .i64 25] 40) rfl)
  clear hb hb5 k0 k1
  obtain ⟨a1b, a1o, rfl, -⟩ := ints_at K1.out.2.1 (k := 0) (by decide)
  obtain ⟨d1b, d1o, rfl, -⟩ := ints_at K1.out.2.2 (k := 0) (by decide)
  obtain ⟨a2b, a2o, rfl, -⟩ := ints_at K2.out.2.1 (k := 0) (by decide)
  obtain ⟨d2b, d2o, rfl, -⟩ := ints_at K2.out.2.2 (k := 0) (by decide)
  obtain ⟨a3b, a3o, rfl, -⟩ := ints_at K3.out.2.1 (k := 0) (by decide)
  obtain ⟨d3b, d3o, rfl, -⟩ := ints_at K3.out.2.2 (k := 0) (by decide)
  obtain ⟨k0, k1, -, -⟩ := two_facts K1.out.1
  obtain ⟨k2, k3, -, -⟩ := two_facts K2.out.1
  obtain ⟨k4, k5, -, -⟩ := two_facts K3.out.1
  obtain ⟨⟨e0, e1', e2', e3'⟩, -⟩ := four_facts E4.out
  obtain ⟨q0, q1, -, -⟩ := two_facts E5.out
  go_wp2_with fail
  refine (has_at a1b a1o d1b d1o c1 e1 aL1 aH1 0 1000 1024 _ (by decide) K1.out.2.1 K1.out.2.2 G.out.1.1 G.out.1.2).mono ?_; rintro e h0 ⟨rfl, hb⟩
  replace K1 := Lib.hid (K1.out.keep hb)
  replace K2 := Lib.hid (K2.out.keep hb)
  replace K3 := Lib.hid (K3.out.keep hb)
  replace B := Lib.hid (B.out.trans (hb.mono B.out.size))
  replace E4 := Lib.hid (keepO hb E4.out)
  replace E5 := Lib.hid (keepO hb E5.out)
  clear hb k0 k1 k2 k3 k4 k5 e0 e1' e2' e3' q0 q1
  obtain ⟨k0, k1, -, -⟩ := two_facts K1.out.1
  obtain ⟨k2, k3, -, -⟩ := two_facts K2.out.1
  obtain ⟨k4, k5, -, -⟩ := two_facts K3.out.1
  obtain ⟨⟨e0, e1', e2', e3'⟩, -⟩ := four_facts E4.out
  obtain ⟨q0, q1, -, -⟩ := two_facts E5.out
  go_wp2_with fail
  refine (has_at a1b a1o d1b d1o c1 e1 aL1 aH1 200 1000 1024 _ (by decide) K1.out.2.1 K1.out.2.2 G.out.2.1.1 G.out.2.1.2).mono ?_; rintro e h1 ⟨rfl, hb⟩
  replace K1 := Lib.hid (K1.out.keep hb)
  replace K2 := Lib.hid (K2.out.keep hb)
  replace K3 := Lib.hid (K3.out.keep hb)
  replace B := Lib.hid (B.out.trans (hb.mono B.out.size))
  replace E4 := Lib.hid (keepO hb E4.out)
  replace E5 := Lib.hid (keepO hb E5.out)
  clear hb k0 k1 k2 k3 k4 k5 e0 e1' e2' e3' q0 q1
  obtain ⟨k0, k1, -, -⟩ := two_facts K1.out.1
  obtain ⟨k2, k3, -, -⟩ := two_facts K2.out.1
  obtain ⟨k4, k5, -, -⟩ := two_facts K3.out.1
  obtain ⟨⟨e0, e1', e2', e3'⟩, -⟩ := four_facts E4.out
  obtain ⟨q0, q1, -, -⟩ := two_facts E5.out
  go_wp2_with fail
  refine (has_at a2b a2o d2b d2o c2 e2 aL2 aH2 100 998 1026 _ (by decide) K2.out.2.1 K2.out.2.2 G.out.2.2.1.1 G.out.2.2.1.2).mono ?_; rintro e h2 ⟨rfl, hb⟩
  replace K1 := Lib.hid (K1.out.keep hb)
  replace K2 := Lib.hid (K2.out.keep hb)
  replace K3 := Lib.hid (K3.out.keep hb)
  replace B := Lib.hid (B.out.trans (hb.mono B.out.size))
  replace E4 := Lib.hid (keepO hb E4.out)
  replace E5 := Lib.hid (keepO hb E5.out)
  clear hb k0 k1 k2 k3 k4 k5 e0 e1' e2' e3' q0 q1
  obtain ⟨k0, k1, -, -⟩ := two_facts K1.out.1
  obtain ⟨k2, k3, -, -⟩ := two_facts K2.out.1
  obtain ⟨k4, k5, -, -⟩ := two_facts K3.out.1
  obtain ⟨⟨e0, e1', e2', e3'⟩, -⟩ := four_facts E4.out
  obtain ⟨q0, q1, -, -⟩ := two_facts E5.out
  go_wp2_with fail
  refine (has_at a2b a2o d2b d2o c2 e2 aL2 aH2 110 1008 1036 _ (by decide) K2.out.2.1 K2.out.2.2 G.out.2.2.2.1.1 G.out.2.2.2.1.2).mono ?_; rintro e h3 ⟨rfl, hb⟩
  replace K1 := Lib.hid (K1.out.keep hb)
  replace K2 := Lib.hid (K2.out.keep hb)
  replace K3 := Lib.hid (K3.out.keep hb)
  replace B := Lib.hid (B.out.trans (hb.mono B.out.size))
  replace E4 := Lib.hid (keepO hb E4.out)
  replace E5 := Lib.hid (keepO hb E5.out)
  clear hb k0 k1 k2 k3 k4 k5 e0 e1' e2' e3' q0 q1
  obtain ⟨k0, k1, -, -⟩ := two_facts K1.out.1
  obtain ⟨k2, k3, -, -⟩ := two_facts K2.out.1
  obtain ⟨k4, k5, -, -⟩ := two_facts K3.out.1
  obtain ⟨⟨e0, e1', e2', e3'⟩, -⟩ := four_facts E4.out
  obtain ⟨q0, q1, -, -⟩ := two_facts E5.out
  go_wp2_with fail
  refine (has_at a2b a2o d2b d2o c2 e2 aL2 aH2 200 1098 1124 _ (by decide) K2.out.2.1 K2.out.2.2 G.out.2.2.2.2.1.1 G.out.2.2.2.2.1.2).mono ?_; rintro e h4 ⟨rfl, hb⟩
  replace K1 := Lib.hid (K1.out.keep hb)
  replace K2 := Lib.hid (K2.out.keep hb)
  replace K3 := Lib.hid (K3.out.keep hb)
  replace B := Lib.hid (B.out.trans (hb.mono B.out.size))
  replace E4 := Lib.hid (keepO hb E4.out)
  replace E5 := Lib.hid (keepO hb E5.out)
  clear hb k0 k1 k2 k3 k4 k5 e0 e1' e2' e3' q0 q1
  obtain ⟨k0, k1, -, -⟩ := two_facts K1.out.1
  obtain ⟨k2, k3, -, -⟩ := two_facts K2.out.1
  obtain ⟨k4, k5, -, -⟩ := two_facts K3.out.1
  obtain ⟨⟨e0, e1', e2', e3'⟩, -⟩ := four_facts E4.out
  obtain ⟨q0, q1, -, -⟩ := two_facts E5.out
  go_wp2_with fail
  refine (has_at a3b a3o d3b d3o c3 e3 aL3 aH3 100 1025 1026 _ (by decide) K3.out.2.1 K3.out.2.2 G.out.2.2.2.2.2.1.1 G.out.2.2.2.2.2.1.2).mono ?_; rintro e h5 ⟨rfl, hb⟩
  replace K1 := Lib.hid (K1.out.keep hb)
  replace K2 := Lib.hid (K2.out.keep hb)
  replace K3 := Lib.hid (K3.out.keep hb)
  replace B := Lib.hid (B.out.trans (hb.mono B.out.size))
  replace E4 := Lib.hid (keepO hb E4.out)
  replace E5 := Lib.hid (keepO hb E5.out)
  clear hb k0 k1 k2 k3 k4 k5 e0 e1' e2' e3' q0 q1
  obtain ⟨k0, k1, -, -⟩ := two_facts K1.out.1
  obtain ⟨k2, k3, -, -⟩ := two_facts K2.out.1
  obtain ⟨k4, k5, -, -⟩ := two_facts K3.out.1
  obtain ⟨⟨e0, e1', e2', e3'⟩, -⟩ := four_facts E4.out
  obtain ⟨q0, q1, -, -⟩ := two_facts E5.out
  go_wp2_with fail
  refine (has_at a3b a3o d3b d3o c3 e3 aL3 aH3 103 1025 1029 _ (by decide) K3.out.2.1 K3.out.2.2 G.out.2.2.2.2.2.2.1.1 G.out.2.2.2.2.2.2.1.2).mono ?_; rintro e h6 ⟨rfl, hb⟩
  replace K1 := Lib.hid (K1.out.keep hb)
  replace K2 := Lib.hid (K2.out.keep hb)
  replace K3 := Lib.hid (K3.out.keep hb)
  replace B := Lib.hid (B.out.trans (hb.mono B.out.size))
  replace E4 := Lib.hid (keepO hb E4.out)
  replace E5 := Lib.hid (keepO hb E5.out)
  clear hb k0 k1 k2 k3 k4 k5 e0 e1' e2' e3' q0 q1
  obtain ⟨k0, k1, -, -⟩ := two_facts K1.out.1
  obtain ⟨k2, k3, -, -⟩ := two_facts K2.out.1
  obtain ⟨k4, k5, -, -⟩ := two_facts K3.out.1
  obtain ⟨⟨e0, e1', e2', e3'⟩, -⟩ := four_facts E4.out
  obtain ⟨q0, q1, -, -⟩ := two_facts E5.out
  go_wp2_with fail
  refine (has_at a3b a3o d3b d3o c3 e3 aL3 aH3 98 1 0 _ (by decide) K3.out.2.1 K3.out.2.2 G.out.2.2.2.2.2.2.2.1.1 G.out.2.2.2.2.2.2.2.1.2).mono ?_; rintro e h7 ⟨rfl, hb⟩
  replace K1 := Lib.hid (K1.out.keep hb)
  replace K2 := Lib.hid (K2.out.keep hb)
  replace K3 := Lib.hid (K3.out.keep hb)
  replace B := Lib.hid (B.out.trans (hb.mono B.out.size))
  replace E4 := Lib.hid (keepO hb E4.out)
  replace E5 := Lib.hid (keepO hb E5.out)
  clear hb k0 k1 k2 k3 k4 k5 e0 e1' e2' e3' q0 q1
  obtain ⟨k0, k1, -, -⟩ := two_facts K1.out.1
  obtain ⟨k2, k3, -, -⟩ := two_facts K2.out.1
  obtain ⟨k4, k5, -, -⟩ := two_facts K3.out.1
  obtain ⟨⟨e0, e1', e2', e3'⟩, -⟩ := four_facts E4.out
  obtain ⟨q0, q1, -, -⟩ := two_facts E5.out
  go_wp2_with fail
  refine (has_at a3b a3o d3b d3o c3 e3 aL3 aH3 152 1 0 _ (by decide) K3.out.2.1 K3.out.2.2 G.out.2.2.2.2.2.2.2.2.1 G.out.2.2.2.2.2.2.2.2.2).mono ?_; rintro e h8 ⟨rfl, hb⟩
  replace K1 := Lib.hid (K1.out.keep hb)
  replace K2 := Lib.hid (K2.out.keep hb)
  replace K3 := Lib.hid (K3.out.keep hb)
  replace B := Lib.hid (B.out.trans (hb.mono B.out.size))
  replace E4 := Lib.hid (keepO hb E4.out)
  replace E5 := Lib.hid (keepO hb E5.out)
  clear hb k0 k1 k2 k3 k4 k5 e0 e1' e2' e3' q0 q1
  obtain ⟨k0, k1, -, -⟩ := two_facts K1.out.1
  obtain ⟨k2, k3, -, -⟩ := two_facts K2.out.1
  obtain ⟨k4, k5, -, -⟩ := two_facts K3.out.1
  obtain ⟨⟨e0, e1', e2', e3'⟩, -⟩ := four_facts E4.out
  obtain ⟨q0, q1, -, -⟩ := two_facts E5.out
  go_wp2_with fail
  go_ret
  exact bPost_of rfl B.out
end Go.Proofs.Ytojjhkahigdkoaa
