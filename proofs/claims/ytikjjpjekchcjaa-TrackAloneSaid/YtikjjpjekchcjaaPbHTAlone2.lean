/-
  TrkU
-/
import Derived.Test.YtikjjpjekchcjaaPbHTAlone1
import Derived.Test.YtikjjpjekchcjaaPb34
import Derived.Test.YtikjjpjekchcjaaPb31
import Derived.Test.YtikjjpjekchcjaaPb35
namespace Go.Proofs.Ytikjjpjekchcjaa
open Go.RowKit TrkMath MyHeap MyOwn MyCopy GrayMath
structure I8s (w : World) (a : Option Addr) (n : Nat) (l : List Int) : Prop where
 len : l.length = n
 bound : n ≤ 9223372036854775807
 cells : n = 0 ∨ ∃ b off, a = some ⟨b, off, none⟩ ∧ ∀ i, i < n → w.cell? ⟨b, off + i, none⟩ = some (.int .i8 (l[i]?.getD 0))
 vals : ∀ i, i < n → -128 ≤ l[i]?.getD 0 ∧ l[i]?.getD 0 ≤ 127
theorem I8s.below {w w' : World} {a : Option Addr} {n : Nat} {l : List Int} (h : I8s w a n l) (hb : Below w.heap.size w w') : I8s w' a n l := by
 refine ⟨h.len, h.bound, ?_, h.vals⟩
 rcases h.cells with h0 | ⟨b, off, e, hc⟩
 ·exact Or.inl h0
 ·exact Or.inr ⟨b, off, e, fun i hi => keep1 hb (hc i hi)⟩
theorem i8_at {w : World} {a : Option Addr} {n : Nat} {l : List Int} (h : I8s w a n l) {k : Nat} (hk : k < n) : ∃ b off, a = some ⟨b, off, none⟩ ∧ w.cell? ⟨b, off + k, none⟩ = some (.int .i8 (l[k]?.getD 0)) := by
 rcases h.cells with h0 | ⟨b, off, e, hc⟩
 ·omega
 ·exact ⟨b, off, e, hc k hk⟩
theorem pair_cells {w : World} {b : Nat} {T : TypeId} {x y : Value} {fr : Nat × Nat} (h : w.heap[b]? = some (.cells #[x, y] T fr)) : w.cell? ⟨b, 0, none⟩ = some x ∧ w.cell? ⟨b, 1, none⟩ = some y := ⟨cell_of_block h rfl, cell_of_block h rfl⟩
theorem four_cells {w : World} {b : Nat} {T : TypeId} {x y z u : Value} {fr : Nat × Nat} (h : w.heap[b]? = some (.cells #[x, y, z, u] T fr)) : w.cell? ⟨b, 0, none⟩ = some x ∧ w.cell? ⟨b, 1, none⟩ = some y ∧ w.cell? ⟨b, 2, none⟩ = some z ∧ w.cell? ⟨b, 3, none⟩ = some u := ⟨cell_of_block h rfl, cell_of_block h rfl, cell_of_block h rfl, cell_of_block h rfl⟩
structure AlX (p : Par) (s : Int) (i : Nat) (seen : Bool) (gone z v r next : Int) (L : List Tk) : Prop where
 hg : 0 ≤ gone ∧ gone ≤ i
 hv : -100 ≤ v ∧ v ≤ 100
 hq : ∃ zp vp rp, AlQ p s i seen gone zp vp rp next L ∧ (seen = true → z = zp + vp ∧ v - vp ≤ p.pull ∧ vp - v ≤ p.pull ∧ r = rp + s)
theorem AlX.start {p : Par} {s z v r : Int} (hv : -100 ≤ v ∧ v ≤ 100) : AlX p s 0 false 0 z v r 0 (fsts []) :=
 ⟨⟨Int.le_refl _, by omega⟩, hv, 0, 0, 0, ⟨rfl, rfl⟩, fun e => by cases e⟩
structure Bls (w : World) (a : Option Addr) (n : Nat) (l : List Bool) : Prop where
 len : l.length = n
 bound : n ≤ 9223372036854775807
 cells : n = 0 ∨ ∃ b off, a = some ⟨b, off, none⟩ ∧ ∀ i, i < n → w.cell? ⟨b, off + i, none⟩ = some (.bool (l[i]?.getD false))
theorem Bls.below {w w' : World} {a : Option Addr} {n : Nat} {l : List Bool} (h : Bls w a n l) (hb : Below w.heap.size w w') : Bls w' a n l := by
 refine ⟨h.len, h.bound, ?_⟩
 rcases h.cells with h0 | ⟨b, off, e, hc⟩
 ·exact Or.inl h0
 ·exact Or.inr ⟨b, off, e, fun i hi => keep1 hb (hc i hi)⟩
theorem bl_at {w : World} {a : Option Addr} {n : Nat} {l : List Bool} (h : Bls w a n l) {k : Nat} (hk : k < n) : ∃ b off, a = some ⟨b, off, none⟩ ∧ w.cell? ⟨b, off + k, none⟩ = some (.bool (l[k]?.getD false)) := by
 rcases h.cells with h0 | ⟨b, off, e, hc⟩
 ·omega
 ·exact ⟨b, off, e, hc k hk⟩
theorem AlX.nx {p : Par} {s : Int} {seen : Bool} {gone z v r next : Int} {i : Nat} {L : List Tk} (h : AlX p s i seen gone z v r next L) (hz : 0 ≤ z ∧ z ≤ 50000) (hr : 0 ≤ r ∧ r ≤ 8192) : ∃ zp vp rp, AlQ p s i seen gone zp vp rp next L ∧ (seen = true → Nx p s zp vp rp z v r) := by
 obtain ⟨zp, vp, rp, hQ, hN⟩ := h.hq
 exact ⟨zp, vp, rp, hQ, fun e => ⟨(hN e).1, (hN e).2.1, (hN e).2.2.1, h.hv, hz, (hN e).2.2.2, hr⟩⟩
theorem AlX.hit {p : Par} {s : Int} {seen : Bool} {gone z v r next : Int} {i : Nat} {L : List Tk} (h : AlX p s i seen gone z v r next L) (hs : SpOk p s) (hi : i ≤ 60) (hz : 0 ≤ z ∧ z ≤ 50000) (hr : 0 ≤ r ∧ r ≤ 8192) : cyE p (i : Int) next L [yA r z] = 0 ∧ AlQ p s (i + 1) true 0 z v r (cyX p next L [yA r z]) (cyT p next L [yA r z]) := by
 obtain ⟨zp, vp, rp, hQ, hN⟩ := h.nx hz hr
 exact hQ.hit hs hi hN h.hv hz hr
theorem AlX.mis {p : Par} {s : Int} {seen : Bool} {gone z v r next : Int} {i : Nat} {L : List Tk} (h : AlX p s i seen gone z v r next L) (hs : SpOk p s) (hi : i ≤ 60) (hz : 0 ≤ z ∧ z ≤ 50000) (hr : 0 ≤ r ∧ r ≤ 8192) (hg : seen = true → gone + 1 < p.most) : cyE p (i : Int) next L [] = 0 ∧ AlQ p s (i + 1) seen (gone + 1) z v r (cyX p next L []) (cyT p next L []) := by
 obtain ⟨zp, vp, rp, hQ, hN⟩ := h.nx hz hr
 exact hQ.mis hs hi fun e => ⟨hN e, hg e⟩
theorem AlQ.len {p : Par} {s : Int} {i : Nat} {seen : Bool} {gone z v r next : Int} {L : List Tk} (h : AlQ p s i seen gone z v r next L) : L.length ≤ 1000 := by
 unfold AlQ at h
 split at h
 ·obtain ⟨-, t, rfl, -⟩ := h
  simp
 ·obtain ⟨-, rfl⟩ := h
  simp
theorem AlQ.seen {p : Par} {s : Int} {i : Nat} {gone z v r next : Int} {L : List Tk} (h : AlQ p s i true gone z v r next L) : ∃ t, L = [t] ∧ AlS p s gone z v r t := by
 unfold AlQ at h
 rw [if_pos rfl] at h
 obtain ⟨-, t, h1, h2, -⟩ := h
 exact ⟨t, h1, h2⟩
theorem AlQ.unseen {p : Par} {s : Int} {i : Nat} {gone z v r next : Int} {L : List Tk} (h : AlQ p s i false gone z v r next L) : L = [] := by
 unfold AlQ at h
 rw [if_neg (by decide)] at h
 exact h.2
theorem HK.put {w W W' : World} {l l' : List (Nat × Obj)} {T : Nat} {o : Obj} (h : HK w W l) (hs : ∀ x ∈ l', x ∈ l) (hB : Below w.heap.size w W') (hO : Only T W W') (hn : W'.heap[T]? = some o) (hl : ∀ x ∈ l', x.1 < T) : HK w W' ((T, o) :: l') :=
 ⟨hB, fun x hx => by
  rcases List.mem_cons.1 hx with e | hx
  ·subst e; exact hn
  ·exact hO.keeps (h.H x (hs x hx)) (by have := hl x hx; omega)⟩
theorem two_lt {P T : Nat} {o1 o2 : Obj} (h : P + 1 < T) : ∀ x ∈ [(P + 1, o1), (P, o2)], x.1 < T := by
 intro x hx
 rcases List.mem_cons.1 hx with e | hx
 ·subst e; exact h
 ·rcases List.mem_cons.1 hx with e | hx
  ·subst e; show P < T; omega
  ·cases hx
theorem refFine_call' (a : Int) (w : World) : Calls Try.prog 19 #[.int .i64 a] w fun e w' => e = .returned (.tuple #[.int .i64 (fineC a), .int .i64 (errA a)]) ∧ w = w' := Gry.refFine_call a w
set_option maxRecDepth 100000 in
set_option maxHeartbeats 32000000 in
theorem Alone_call (p : Par) (z0 v0 far speed : Int) (a4 : Option Addr) (n4 c4 : Nat) (pl : List Int) (a5 : Option Addr) (n5 c5 : Nat) (ls : List Bool) (w : World) (hfar : 0 ≤ far ∧ far ≤ 65535) (hspd : -128 ≤ speed ∧ speed ≤ 127) (hP : I8s w a4 n4 pl) (hL : Bls w a5 n5 ls) :
    Calls Try.prog 6 #[parV p, .agg #[.int .i64 z0, .int .i64 v0], .int .u16 far, .int .i8 speed, .slice a4 n4 c4, .slice a5 n5 c5] w (BoolB true w) := by
 have K := Lib.hid (((HK.nil w).alloc #[.int .i64 p.gate, .int .i64 p.need, .int .i64 p.most, .int .i64 p.pull] 23).alloc #[.int .i64 z0, .int .i64 v0] 66)
 have HP := Lib.hid hP
 have HL := Lib.hid hL
 have hb4 := hP.bound
 have hb5 := hL.bound
 have w1' : IntKind.i64.wrap far = far := IntWalk.i64_in _ (by omega)
 have w2' : IntKind.i64.wrap speed = speed := IntWalk.i64_in _ (by omega)
 clear hP hL
 unfold parV
 obtain ⟨PB, hPB⟩ : ∃ b, b = w.heap.size := ⟨_, rfl⟩
 rcases parE_two p with hE | hE
 ·have HE := Lib.hid (parE_zero hE)
  have HNew := Lib.hid (show ∀ W : World, Calls Try.prog 13 #[.agg #[.int .i64 p.gate, .int .i64 p.need, .int .i64 p.most, .int .i64 p.pull]] W (fun e w' => e = .returned (.tuple #[.agg #[.int .i64 p.gate, .int .i64 p.need, .int .i64 p.most, .int .i64 p.pull, .int .i64 0, .int .i64 0, .slice none 0 0], .int .i64 0]) ∧ Below W.heap.size W w') from fun W => by
   have h := pNewT_call p W
   rw [nwP_ok hE, hE] at h
   exact h)
  clear hE
  by_cases h50 : 50 < n4
  ·have h50i : (50 : Int) < (n4 : Int) := by omega
   go_enter Try.func6, Try.ntmps6
   go_wp2_with fail
   rw [← hPB]
   replace K := Lib.hid (show HK w ((w.alloc (.cells #[.int .i64 p.gate, .int .i64 p.need, .int .i64 p.most, .int .i64 p.pull] 23)).alloc (.cells #[.int .i64 z0, .int .i64 v0] 66)) [(PB + 1, .cells #[.int .i64 z0, .int .i64 v0] 66 (0, 0)), (PB, .cells #[.int .i64 p.gate, .int .i64 p.need, .int .i64 p.most, .int .i64 p.pull] 23 (0, 0))] from by
    have h := K.out
    simp only [World.size_alloc] at h
    rw [hPB]
    exact h)
   generalize (w.alloc (.cells #[.int .i64 p.gate, .int .i64 p.need, .int .i64 p.most, .int .i64 p.pull] 23)).alloc (.cells #[.int .i64 z0, .int .i64 v0] 66) = w1 at *
   clear hPB
   refine (HNew.out _).mono ?_; rintro e w2 ⟨rfl, hb⟩
   replace K := Lib.hid (K.out.below hb)
   clear hb
   have K2 := Lib.hid (K.out.alloc #[.int .i64 p.gate, .int .i64 p.need, .int .i64 p.most, .int .i64 p.pull, .int .i64 0, .int .i64 0, .slice none 0 0] 26)
   go_wp2_with fail
   refine (awake_call _).mono ?_; rintro e w3 ⟨rfl, hb⟩
   have K3 := Lib.hid (K2.out.below hb)
   clear hb
   go_wp2_with fail
   go_ret
   exact ⟨rfl, K3.out.B⟩
  ·have h50i : ¬ (50 : Int) < (n4 : Int) := by omega
   have HN := Lib.hid (show n4 ≤ 50 by omega)
   by_cases hv1 : v0 < -100
   ·go_enter Try.func6, Try.ntmps6
    go_wp2_with fail
    rw [← hPB]
    replace K := Lib.hid (show HK w ((w.alloc (.cells #[.int .i64 p.gate, .int .i64 p.need, .int .i64 p.most, .int .i64 p.pull] 23)).alloc (.cells #[.int .i64 z0, .int .i64 v0] 66)) [(PB + 1, .cells #[.int .i64 z0, .int .i64 v0] 66 (0, 0)), (PB, .cells #[.int .i64 p.gate, .int .i64 p.need, .int .i64 p.most, .int .i64 p.pull] 23 (0, 0))] from by
     have h := K.out
     simp only [World.size_alloc] at h
     rw [hPB]
     exact h)
    generalize (w.alloc (.cells #[.int .i64 p.gate, .int .i64 p.need, .int .i64 p.most, .int .i64 p.pull] 23)).alloc (.cells #[.int .i64 z0, .int .i64 v0] 66) = w1 at *
    clear hPB
    refine (HNew.out _).mono ?_; rintro e w2 ⟨rfl, hb⟩
    replace K := Lib.hid (K.out.below hb)
    clear hb
    obtain ⟨e0, e1⟩ := pair_cells (K.out.H _ List.mem_cons_self)
    have el := lt_of_block (K.out.H _ List.mem_cons_self)
    have K2 := Lib.hid (K.out.alloc #[.int .i64 p.gate, .int .i64 p.need, .int .i64 p.most, .int .i64 p.pull, .int .i64 0, .int .i64 0, .slice none 0 0] 26)
    go_wp2_with fail
    refine (awake_call _).mono ?_; rintro e w3 ⟨rfl, hb⟩
    have K3 := Lib.hid (K2.out.below hb)
    clear hb
    go_wp2_with fail
    go_ret
    exact ⟨rfl, K3.out.B⟩
   ·by_cases hv2 : 100 < v0
    ·go_enter Try.func6, Try.ntmps6
     go_wp2_with fail
     rw [← hPB]
     replace K := Lib.hid (show HK w ((w.alloc (.cells #[.int .i64 p.gate, .int .i64 p.need, .int .i64 p.most, .int .i64 p.pull] 23)).alloc (.cells #[.int .i64 z0, .int .i64 v0] 66)) [(PB + 1, .cells #[.int .i64 z0, .int .i64 v0] 66 (0, 0)), (PB, .cells #[.int .i64 p.gate, .int .i64 p.need, .int .i64 p.most, .int .i64 p.pull] 23 (0, 0))] from by
      have h := K.out
      simp only [World.size_alloc] at h
      rw [hPB]
      exact h)
     generalize (w.alloc (.cells #[.int .i64 p.gate, .int .i64 p.need, .int .i64 p.most, .int .i64 p.pull] 23)).alloc (.cells #[.int .i64 z0, .int .i64 v0] 66) = w1 at *
     clear hPB
     refine (HNew.out _).mono ?_; rintro e w2 ⟨rfl, hb⟩
     replace K := Lib.hid (K.out.below hb)
     clear hb
     obtain ⟨e0, e1⟩ := pair_cells (K.out.H _ List.mem_cons_self)
     have el := lt_of_block (K.out.H _ List.mem_cons_self)
     have K2 := Lib.hid (K.out.alloc #[.int .i64 p.gate, .int .i64 p.need, .int .i64 p.most, .int .i64 p.pull, .int .i64 0, .int .i64 0, .slice none 0 0] 26)
     go_wp2_with fail
     refine (awake_call _).mono ?_; rintro e w3 ⟨rfl, hb⟩
     have K3 := Lib.hid (K2.out.below hb)
     clear hb
     go_wp2_with fail
     go_ret
     exact ⟨rfl, K3.out.B⟩
    ·have HV := Lib.hid (show -100 ≤ v0 ∧ v0 ≤ 100 by omega)
     go_enter Try.func6, Try.ntmps6
     go_wp2_with fail
     rw [← hPB]
     replace K := Lib.hid (show HK w ((w.alloc (.cells #[.int .i64 p.gate, .int .i64 p.need, .int .i64 p.most, .int .i64 p.pull] 23)).alloc (.cells #[.int .i64 z0, .int .i64 v0] 66)) [(PB + 1, .cells #[.int .i64 z0, .int .i64 v0] 66 (0, 0)), (PB, .cells #[.int .i64 p.gate, .int .i64 p.need, .int .i64 p.most, .int .i64 p.pull] 23 (0, 0))] from by
      have h := K.out
      simp only [World.size_alloc] at h
      rw [hPB]
      exact h)
     generalize (w.alloc (.cells #[.int .i64 p.gate, .int .i64 p.need, .int .i64 p.most, .int .i64 p.pull] 23)).alloc (.cells #[.int .i64 z0, .int .i64 v0] 66) = w1 at *
     clear hPB
     refine (HNew.out _).mono ?_; rintro e w2 ⟨rfl, hb⟩
     replace K := Lib.hid (K.out.below hb)
     clear hb
     obtain ⟨e0, e1⟩ := pair_cells (K.out.H _ List.mem_cons_self)
     have el := lt_of_block (K.out.H _ List.mem_cons_self)
     have K2 := Lib.hid (K.out.alloc #[.int .i64 p.gate, .int .i64 p.need, .int .i64 p.most, .int .i64 p.pull, .int .i64 0, .int .i64 0, .slice none 0 0] 26)
     go_wp2_with fail
     refine (awake_call _).mono ?_; rintro e w3 ⟨rfl, hb⟩
     obtain ⟨TK1, hTB⟩ : ∃ b, b = w2.heap.size := ⟨_, rfl⟩
     have HTB := Lib.hid (show w.heap.size ≤ TK1 ∧ PB + 1 < TK1 from by rw [hTB]; exact ⟨K.out.B.size, lt_of_block (K.out.H _ List.mem_cons_self)⟩)
     rw [← hTB] at K2 ⊢
     replace K := Lib.hid (K2.out.below hb)
     clear hb hTB K2 e0 e1 el
     have HS0 := Lib.hid (spS_ok HE.out speed)
     obtain ⟨q, hq⟩ : ∃ q, p.gate.tdiv p.most = q := ⟨_, rfl⟩
     have hqb := HS0.out.2
     rw [hq] at hqb
     have wq : IntKind.i64.wrap (p.gate.tdiv p.most) = q := by rw [hq]; exact IntWalk.i64_in _ (by omega)
     have hm0 : (p.most == 0) = false := beq_eq_false_iff_ne.2 (by have := HE.out.2.2.1; omega)
     have hm1 : ¬ p.most = 0 := by have := HE.out.2.2.1; omega
     have hpl := HE.out.2.2.2
     obtain ⟨s, hs⟩ : ∃ s, spS p speed = s := ⟨_, rfl⟩
     have HSp := Lib.hid (show SpOk p s from hs ▸ HS0.out.1)
     have hsb := HSp.out.b
     go_upto_region 4 with fail
     go_cut [15] (fun s15 wx => s15 = .int .i64 s ∧ wx = w3)
     case first =>
      by_cases hq64 : q ≤ 64
      ·have hmz : (q + 1 == 0) = false := beq_eq_false_iff_ne.2 (by omega)
       have hmz1 : ¬ (q + 1 = 0) := by omega
       have hss : speed.tmod (q + 1) = s := by rw [← hs]; unfold spS; rw [hq, show min q 64 = q from by omega]
       have wm : IntKind.i64.wrap (q + 1) = q + 1 := IntWalk.i64_in _ (by omega)
       have ws : IntKind.i64.wrap (speed.tmod (q + 1)) = s := by rw [hss]; exact IntWalk.i64_in _ (by omega)
       have HSS := Lib.hid (show speed.tmod (q + 1) = s from hss)
       clear hs hss hq
       obtain ⟨t0, t1, t2, t3⟩ := four_cells (K.out.H _ (List.mem_cons_of_mem _ (List.mem_cons_of_mem _ List.mem_cons_self)))
       have tl := lt_of_block (K.out.H _ (List.mem_cons_of_mem _ (List.mem_cons_of_mem _ List.mem_cons_self)))
       go_wp2_with fail
       rw [HSS.out]
       go_meet
       exact ⟨rfl, rfl⟩
      ·have hmz : (64 + 1 == 0) = false := beq_eq_false_iff_ne.2 (by omega)
       have hmz1 : ¬ (64 + 1 = 0) := by omega
       have hss : speed.tmod (64 + 1) = s := by rw [← hs]; unfold spS; rw [hq, show min q 64 = 64 from by omega]
       have wm : IntKind.i64.wrap (64 + 1) = 64 + 1 := IntWalk.i64_in _ (by omega)
       have ws : IntKind.i64.wrap (speed.tmod (64 + 1)) = s := by rw [hss]; exact IntWalk.i64_in _ (by omega)
       have HSS := Lib.hid (show speed.tmod 65 = s from hss)
       clear hs hss hq
       obtain ⟨t0, t1, t2, t3⟩ := four_cells (K.out.H _ (List.mem_cons_of_mem _ (List.mem_cons_of_mem _ List.mem_cons_self)))
       have tl := lt_of_block (K.out.H _ (List.mem_cons_of_mem _ (List.mem_cons_of_mem _ List.mem_cons_self)))
       go_wp2_with fail
       rw [HSS.out]
       go_meet
       exact ⟨rfl, rfl⟩
     case rest =>
      obtain ⟨rfl, rfl⟩ := hcut
      clear wq hm0 hm1
      obtain ⟨e0, e1⟩ := pair_cells (K.out.H _ (List.mem_cons_of_mem _ List.mem_cons_self))
      have el := lt_of_block (K.out.H _ (List.mem_cons_of_mem _ List.mem_cons_self))
      go_wp2_with fail
      go_quiet (fail)
      replace K := Lib.hid (K.out.below (below_drewN (Below.refl _ _) nq))
      clear e0 e1 el
      generalize wc.drewN nq = w4 at *
      go_wp2_with fail
      go_loopw [12, 14, 16, 17, 18, 19, 20, 21] (fun rv ev zv vv qv gv sv kv wr => ∃ (i : Nat) (z v r gone next : Int) (seen : Bool) (a : Option Addr) (n c : Nat) (M : List TB), i ≤ n4 ∧ rv = .bool false ∧ ev = .int .i64 0 ∧ zv = .int .i64 z ∧ vv = .int .i64 v ∧ qv = .int .i64 r ∧ gv = .int .i64 gone ∧ sv = .bool seen ∧ kv = .int .i64 i ∧ AlX p s i seen gone z v r next (fsts M) ∧ HK w wr [(TK1, (.cells #[.int .i64 p.gate, .int .i64 p.need, .int .i64 p.most, .int .i64 p.pull, .int .i64 (i : Int), .int .i64 next, .slice a n c] 26 (0, 0))), (PB + 1, .cells #[.int .i64 z0, .int .i64 v0] 66 (0, 0)), (PB, .cells #[.int .i64 p.gate, .int .i64 p.need, .int .i64 p.most, .int .i64 p.pull] 23 (0, 0))] ∧ TbI wr a n M) (fun _ _ _ _ _ _ _ kv _ => n4 - (intOf kv).toNat)
      case atStart => exact ⟨0, z0, v0, far, 0, 0, false, none, 0, 0, [], by omega, rfl, rfl, rfl, rfl, rfl, rfl, rfl, rfl, AlX.start HV.out, K.out, TbI.nil _ _⟩
      case round =>
       clear K
       obtain ⟨i, z, v, r, gone, next, seen, a, n, c, M, hi, rfl, rfl, rfl, rfl, rfl, rfl, rfl, rfl, hX, hK, hT⟩ := hrel
       have K := Lib.hid hK
       have X := Lib.hid hX
       have TT := Lib.hid hT
       clear hX hK hT
       by_cases hlt : i < n4
       ·have HLt := Lib.hid hlt
        have hk0 : (0 : Int) ≤ (i : Int) := by omega
        have hk1 : (i : Int) < (n4 : Int) := by omega
        have hkw : IntKind.i64.wrap ((i : Int) + 1) = ((i + 1 : Nat) : Int) := by rw [IntWalk.i64_in _ (by omega)]; omega
        by_cases hr0 : r < 0
        ·go_wp2_with fail
         go_ret
         exact ⟨rfl, K.out.B⟩
        by_cases hr1 : 8192 < r
        ·go_wp2_with fail
         go_ret
         exact ⟨rfl, K.out.B⟩
        by_cases hz0 : z < 0
        ·go_wp2_with fail
         go_ret
         exact ⟨rfl, K.out.B⟩
        by_cases hz1 : 50000 < z
        ·go_wp2_with fail
         go_ret
         exact ⟨rfl, K.out.B⟩
        have HZ := Lib.hid (show (0 ≤ z ∧ z ≤ 50000) ∧ (0 ≤ r ∧ r ≤ 8192) from by omega)
        have hgb := X.out.hg
        have hgw : IntKind.i64.wrap (gone + 1) = gone + 1 := IntWalk.i64_in _ (by omega)
        go_upto_region 13 with fail
        go_cut [22] (fun s22 wx => ∃ MB : Bool, s22 = .bool MB ∧ (MB = true → seen = true → gone + 1 < p.most) ∧ wx = wr)
        case first =>
         obtain ⟨t0, t1, t2, t3⟩ := four_cells (K.out.H _ (List.mem_cons_of_mem _ (List.mem_cons_of_mem _ List.mem_cons_self)))
         have tl := lt_of_block (K.out.H _ (List.mem_cons_of_mem _ (List.mem_cons_of_mem _ List.mem_cons_self)))
         by_cases hn5 : i < n5
         ·have hn5i : (i : Int) < (n5 : Int) := by omega
          obtain ⟨b5, o5, rfl, y0⟩ := bl_at (HL.out.below K.out.B) hn5
          have yl := World.block_lt_of_cell? _ _ y0
          obtain ⟨lb, hlb⟩ : ∃ x, ls[i]?.getD false = x := ⟨_, rfl⟩
          rw [hlb] at y0
          clear hlb
          cases lb with
          | false =>
           go_wp2_with fail
           go_meet
           exact ⟨false, rfl, fun e => (by cases e), rfl⟩
          | true =>
           cases seen with
           | false =>
            go_wp2_with fail
            go_meet
            exact ⟨true, rfl, fun _ e => (by cases e), rfl⟩
           | true =>
            by_cases hgm : gone + 1 < p.most
            ·go_wp2_with fail
             go_meet
             exact ⟨true, rfl, fun _ _ => hgm, rfl⟩
            ·go_wp2_with fail
             go_meet
             exact ⟨false, rfl, fun e => (by cases e), rfl⟩
         ·have hn5i : ¬ (i : Int) < (n5 : Int) := by omega
          go_wp2_with fail
          go_meet
          exact ⟨false, rfl, fun e => (by cases e), rfl⟩
        case rest =>
         obtain ⟨MB, rfl, hMB, rfl⟩ := hcut
         have HMB := Lib.hid hMB
         clear hMB hr0 hr1 hz0 hz1
         cases MB with
         | true =>
          obtain ⟨t0, t1, t2, t3, t4, t5, t6⟩ := seven_new (K.out.H _ List.mem_cons_self)
          have tl := lt_of_block (K.out.H _ List.mem_cons_self)
          have hkn : (i : Int) + 1 = ((i + 1 : Nat) : Int) := by omega
          have HMis := Lib.hid (X.out.mis HSp.out (by have := HLt.out; have := HN.out; omega) HZ.out.1 HZ.out.2 (HMB.out rfl))
          clear hkn
          go_wp2_with fail
          have hkn : (i : Int) + 1 = ((i + 1 : Nat) : Int) := by omega
          have HQ := Lib.hid (HMis.out)
          obtain ⟨nx, hnx⟩ : ∃ x, cyX p next (fsts M) [] = x := ⟨_, rfl⟩
          obtain ⟨L2, hL2⟩ : ∃ x, cyT p next (fsts M) [] = x := ⟨_, rfl⟩
          have hQ2 := HQ.out.2
          rw [hnx, hL2] at hQ2
          have HQ2 := Lib.hid hQ2
          have hcy := cy_call p HQ.out.1 hL2 hnx (AlQ.len hQ2) hkn a n c none 0 0 M wc TT.out rfl (pls_nil _ _)
          clear hnx hL2 hQ2
          refine hcy.mono ?_; rintro e w5 ⟨a2, c2, ea, em, ec, M2, rfl, hJ, hM2, -, hb⟩
          have HJ := Lib.hid hJ
          have HW5 := Lib.hid (show TK1 < wc.heap.size from lt_of_block (K.out.H _ List.mem_cons_self))
          replace K := Lib.hid (K.out.below hb)
          clear hcy hJ hb t0 t1 t2 t3 t4 t5 t6 tl hkn
          obtain ⟨n2, hn2⟩ : ∃ x, L2.length = x := ⟨_, rfl⟩
          rw [hn2] at HJ ⊢
          subst hM2
          obtain ⟨t0, t1, t2, t3, t4, t5, t6⟩ := seven_new (K.out.H _ List.mem_cons_self)
          obtain ⟨f0, f1, f2, f3, f4, f5, f6⟩ := seven_free (K.out.H _ List.mem_cons_self)
          have tl := lt_of_block (K.out.H _ List.mem_cons_self)
          simp only []
          go_upto_region 24 with fail
          clear t0 t1 t2 t3 t4 t5 t6 tl f0 f1 f2 f3 f4 f5 f6
          have KO := Lib.hid (tb_only w5 TK1 (.int .i64 p.gate) (.int .i64 p.need) (.int .i64 p.most) (.int .i64 p.pull) (.int .i64 ((i : Int) + 1)) (.int .i64 nx) (.slice a2 n2 c2))
          have KB := Lib.hid (tb_stored K.out.B (K.out.H _ List.mem_cons_self) HTB.out.1 (.int .i64 p.gate) (.int .i64 p.need) (.int .i64 p.most) (.int .i64 p.pull) (.int .i64 ((i : Int) + 1)) (.int .i64 nx) (.slice a2 n2 c2))
          replace K := Lib.hid (HK.put (l' := [(PB + 1, .cells #[.int .i64 z0, .int .i64 v0] 66 (0, 0)), (PB, .cells #[.int .i64 p.gate, .int .i64 p.need, .int .i64 p.most, .int .i64 p.pull] 23 (0, 0))]) K.out (fun x hx => List.mem_cons_of_mem _ hx) KB.out.1 KO.out KB.out.2 (two_lt HTB.out.2))
          replace TT := Lib.hid (HJ.out.only KO.out HW5.out)
          clear KO KB HJ HW5
          generalize (((((((w5.setCell ⟨TK1, 0, none⟩ (.int .i64 p.gate)).setCell ⟨TK1, 1, none⟩ (.int .i64 p.need)).setCell ⟨TK1, 2, none⟩ (.int .i64 p.most)).setCell ⟨TK1, 3, none⟩ (.int .i64 p.pull)).setCell ⟨TK1, 4, none⟩ (.int .i64 ((i : Int) + 1))).setCell ⟨TK1, 5, none⟩ (.int .i64 nx)).setCell ⟨TK1, 6, none⟩ (.slice a2 n2 c2)) = w6 at *
          clear HMis
          cases seen with
          | true =>
           obtain ⟨t, hLt, hS⟩ := AlQ.seen HQ2.out
           have e1 : n2 = 1 := by rw [← hn2, hLt]; rfl
           subst e1
           have hH := holds_call p ((i : Int) + 1) nx a2 c2 M2 t z v w6 TT.out hLt hS.id hS.ok.ch hS.it
           unfold tbV at hH
           clear hLt hS hn2
           obtain ⟨t0, t1, t2, t3, t4, t5, t6⟩ := seven_new (K.out.H _ List.mem_cons_self)
           have tl := lt_of_block (K.out.H _ List.mem_cons_self)
           go_wp2_with fail
           refine hH.mono ?_; rintro e w7 ⟨rfl, hb⟩
           replace K := Lib.hid (K.out.below hb)
           replace TT := Lib.hid (TT.out.below hb)
           clear hH hb t0 t1 t2 t3 t4 t5 t6 tl
           obtain ⟨t0, t1, t2, t3⟩ := four_cells (K.out.H _ (List.mem_cons_of_mem _ (List.mem_cons_of_mem _ List.mem_cons_self)))
           have tl := lt_of_block (K.out.H _ (List.mem_cons_of_mem _ (List.mem_cons_of_mem _ List.mem_cons_self)))
           go_upto_if 162 with fail
           have HB7 := Lib.hid (Below.refl w7.heap.size w7)
           obtain ⟨b4, o4, rfl, x0⟩ := i8_at (HP.out.below K.out.B) HLt.out
           have hp := HP.out.vals i HLt.out
           have xl := World.block_lt_of_cell? _ _ x0
           obtain ⟨PV, hPV⟩ : ∃ x, pl[i]?.getD 0 = x := ⟨_, rfl⟩
           rw [hPV] at x0 hp
           clear hPV
           go_cut [26] (fun s26 wx => ∃ A : Int, s26 = .int .i64 A ∧ -p.pull ≤ A ∧ A ≤ p.pull ∧ Below w7.heap.size w7 wx)
           case first =>
            by_cases hpp : 0 < p.pull
            ·have hmz : (p.pull + 1 == 0) = false := beq_eq_false_iff_ne.2 (by omega)
             have hmz1 : ¬ (p.pull + 1 = 0) := by omega
             have hA := tmod_bd (x := PV) (m := p.pull) (by omega)
             have wm : IntKind.i64.wrap (p.pull + 1) = p.pull + 1 := IntWalk.i64_in _ (by omega)
             have wp : IntKind.i64.wrap PV = PV := IntWalk.i64_in _ (by omega)
             obtain ⟨A, hAA⟩ : ∃ A, PV.tmod (p.pull + 1) = A := ⟨_, rfl⟩
             have wa : IntKind.i64.wrap (PV.tmod (p.pull + 1)) = A := by rw [hAA] at hA ⊢; exact IntWalk.i64_in _ (by omega)
             rw [hAA] at hA
             have hA0 := hA.1
             have hA1 := hA.2
             clear hA
             go_wp2_with fail
             go_quiet (fail)
             go_wp2_with fail
             go_meet
             exact ⟨A, rfl, hA0, hA1, below_drewN HB7.out nq⟩
            ·go_wp2_with fail
             go_meet
             exact ⟨0, rfl, by omega, by omega, HB7.out⟩
           case rest =>
            obtain ⟨A, rfl, hA0, hA1, hb⟩ := hcut
            replace K := Lib.hid (K.out.below hb)
            replace TT := Lib.hid (TT.out.below hb)
            clear hb t0 t1 t2 t3 tl x0 xl hp HB7
            have hv := X.out.hv
            have hz := HZ.out
            have wz : IntKind.i64.wrap (z + v) = z + v := IntWalk.i64_in _ (by omega)
            have wv : IntKind.i64.wrap (v + A) = v + A := IntWalk.i64_in _ (by omega)
            have wr' : IntKind.i64.wrap (r + s) = r + s := IntWalk.i64_in _ (by omega)
            have hgb2 := X.out.hg
            have hcast : (i : Int) + 1 = ((i + 1 : Nat) : Int) := by omega
            rw [hcast] at K
            clear hcast
            by_cases d1 : v + A < -100
            ·have HX2 := Lib.hid (show AlX p s (i + 1) true (gone + 1) (z + v) (-100) (r + s) nx (fsts M2) from ⟨by omega, by omega, z, v, r, HQ2.out, fun _ => ⟨rfl, by omega, by omega, rfl⟩⟩)
             go_wp2_with fail
             go_roundw
             case rel => exact ⟨i + 1, z + v, -100, r + s, gone + 1, nx, true, a2, _, c2, M2, HLt.out, rfl, rfl, rfl, rfl, rfl, rfl, rfl, by go_num, HX2.out, K.out, TT.out⟩
             case measure => simp [intOf]; have := HLt.out; omega
            ·by_cases d2 : 100 < v + A
             ·have HX2 := Lib.hid (show AlX p s (i + 1) true (gone + 1) (z + v) (100) (r + s) nx (fsts M2) from ⟨by omega, by omega, z, v, r, HQ2.out, fun _ => ⟨rfl, by omega, by omega, rfl⟩⟩)
              go_wp2_with fail
              go_roundw
              case rel => exact ⟨i + 1, z + v, 100, r + s, gone + 1, nx, true, a2, _, c2, M2, HLt.out, rfl, rfl, rfl, rfl, rfl, rfl, rfl, by go_num, HX2.out, K.out, TT.out⟩
              case measure => simp [intOf]; have := HLt.out; omega
             ·have HX2 := Lib.hid (show AlX p s (i + 1) true (gone + 1) (z + v) (v + A) (r + s) nx (fsts M2) from ⟨by omega, by omega, z, v, r, HQ2.out, fun _ => ⟨rfl, by omega, by omega, rfl⟩⟩)
              go_wp2_with fail
              go_roundw
              case rel => exact ⟨i + 1, z + v, v + A, r + s, gone + 1, nx, true, a2, _, c2, M2, HLt.out, rfl, rfl, rfl, rfl, rfl, rfl, rfl, by go_num, HX2.out, K.out, TT.out⟩
              case measure => simp [intOf]; have := HLt.out; omega
          | false =>
           have hLt := AlQ.unseen HQ2.out
           have e1 : n2 = 0 := by rw [← hn2, hLt]; rfl
           subst e1
           clear hLt hn2
           obtain ⟨r0, r1, r2, r3, r4, r5, r6⟩ := seven_new (K.out.H _ List.mem_cons_self)
           have rl := lt_of_block (K.out.H _ List.mem_cons_self)
           obtain ⟨t0, t1, t2, t3⟩ := four_cells (K.out.H _ (List.mem_cons_of_mem _ (List.mem_cons_of_mem _ List.mem_cons_self)))
           have tl := lt_of_block (K.out.H _ (List.mem_cons_of_mem _ (List.mem_cons_of_mem _ List.mem_cons_self)))
           go_upto_if 162 with fail
           clear r0 r1 r2 r3 r4 r5 r6 rl
           have HB7 := Lib.hid (Below.refl w6.heap.size w6)
           obtain ⟨b4, o4, rfl, x0⟩ := i8_at (HP.out.below K.out.B) HLt.out
           have hp := HP.out.vals i HLt.out
           have xl := World.block_lt_of_cell? _ _ x0
           obtain ⟨PV, hPV⟩ : ∃ x, pl[i]?.getD 0 = x := ⟨_, rfl⟩
           rw [hPV] at x0 hp
           clear hPV
           go_cut [26] (fun s26 wx => ∃ A : Int, s26 = .int .i64 A ∧ -p.pull ≤ A ∧ A ≤ p.pull ∧ Below w6.heap.size w6 wx)
           case first =>
            by_cases hpp : 0 < p.pull
            ·have hmz : (p.pull + 1 == 0) = false := beq_eq_false_iff_ne.2 (by omega)
             have hmz1 : ¬ (p.pull + 1 = 0) := by omega
             have hA := tmod_bd (x := PV) (m := p.pull) (by omega)
             have wm : IntKind.i64.wrap (p.pull + 1) = p.pull + 1 := IntWalk.i64_in _ (by omega)
             have wp : IntKind.i64.wrap PV = PV := IntWalk.i64_in _ (by omega)
             obtain ⟨A, hAA⟩ : ∃ A, PV.tmod (p.pull + 1) = A := ⟨_, rfl⟩
             have wa : IntKind.i64.wrap (PV.tmod (p.pull + 1)) = A := by rw [hAA] at hA ⊢; exact IntWalk.i64_in _ (by omega)
             rw [hAA] at hA
             have hA0 := hA.1
             have hA1 := hA.2
             clear hA
             go_wp2_with fail
             go_quiet (fail)
             go_wp2_with fail
             go_meet
             exact ⟨A, rfl, hA0, hA1, below_drewN HB7.out nq⟩
            ·go_wp2_with fail
             go_meet
             exact ⟨0, rfl, by omega, by omega, HB7.out⟩
           case rest =>
            obtain ⟨A, rfl, hA0, hA1, hb⟩ := hcut
            replace K := Lib.hid (K.out.below hb)
            replace TT := Lib.hid (TT.out.below hb)
            clear hb t0 t1 t2 t3 tl x0 xl hp HB7
            have hv := X.out.hv
            have hz := HZ.out
            have wz : IntKind.i64.wrap (z + v) = z + v := IntWalk.i64_in _ (by omega)
            have wv : IntKind.i64.wrap (v + A) = v + A := IntWalk.i64_in _ (by omega)
            have wr' : IntKind.i64.wrap (r + s) = r + s := IntWalk.i64_in _ (by omega)
            have hgb2 := X.out.hg
            have hcast : (i : Int) + 1 = ((i + 1 : Nat) : Int) := by omega
            rw [hcast] at K
            clear hcast
            by_cases d1 : v + A < -100
            ·have HX2 := Lib.hid (show AlX p s (i + 1) false (gone + 1) (z + v) (-100) (r + s) nx (fsts M2) from ⟨by omega, by omega, z, v, r, HQ2.out, fun _ => ⟨rfl, by omega, by omega, rfl⟩⟩)
             go_wp2_with fail
             go_roundw
             case rel => exact ⟨i + 1, z + v, -100, r + s, gone + 1, nx, false, a2, _, c2, M2, HLt.out, rfl, rfl, rfl, rfl, rfl, rfl, rfl, by go_num, HX2.out, K.out, TT.out⟩
             case measure => simp [intOf]; have := HLt.out; omega
            ·by_cases d2 : 100 < v + A
             ·have HX2 := Lib.hid (show AlX p s (i + 1) false (gone + 1) (z + v) (100) (r + s) nx (fsts M2) from ⟨by omega, by omega, z, v, r, HQ2.out, fun _ => ⟨rfl, by omega, by omega, rfl⟩⟩)
              go_wp2_with fail
              go_roundw
              case rel => exact ⟨i + 1, z + v, 100, r + s, gone + 1, nx, false, a2, _, c2, M2, HLt.out, rfl, rfl, rfl, rfl, rfl, rfl, rfl, by go_num, HX2.out, K.out, TT.out⟩
              case measure => simp [intOf]; have := HLt.out; omega
             ·have HX2 := Lib.hid (show AlX p s (i + 1) false (gone + 1) (z + v) (v + A) (r + s) nx (fsts M2) from ⟨by omega, by omega, z, v, r, HQ2.out, fun _ => ⟨rfl, by omega, by omega, rfl⟩⟩)
              go_wp2_with fail
              go_roundw
              case rel => exact ⟨i + 1, z + v, v + A, r + s, gone + 1, nx, false, a2, _, c2, M2, HLt.out, rfl, rfl, rfl, rfl, rfl, rfl, rfl, by go_num, HX2.out, K.out, TT.out⟩
              case measure => simp [intOf]; have := HLt.out; omega
         | false =>
          have HFi := Lib.hid (fine_lv HZ.out.1.1 HZ.out.1.2)
          have hfc := refFine_call' z
          rw [HFi.out.2.2.2.2.2] at hfc
          have hkn : (i : Int) + 1 = ((i + 1 : Nat) : Int) := by omega
          go_wp2_with fail
          refine (hfc _).mono ?_; rintro e wf ⟨rfl, rfl⟩
          replace K := Lib.hid (K.out.alloc #[.int .i64 r, .int .i64 (fineC z), .int .i64 (-1)] 40)
          replace TT := Lib.hid (TT.out.below (below_alloc wc (.cells #[.int .i64 r, .int .i64 (fineC z), .int .i64 (-1)] 40)))
          have HPl := Lib.hid (pls_one (K.out.H _ List.mem_cons_self))
          obtain ⟨t0, t1, t2, t3, t4, t5, t6⟩ := seven_new (K.out.H _ (List.mem_cons_of_mem _ List.mem_cons_self))
          have tl := lt_of_block (K.out.H _ (List.mem_cons_of_mem _ List.mem_cons_self))
          go_wp2_with fail
          obtain ⟨P1, hP1⟩ : ∃ b, b = wc.heap.size := ⟨_, rfl⟩
          rw [← hP1] at K HPl ⊢
          generalize wc.alloc (.cells #[.int .i64 r, .int .i64 (fineC z), .int .i64 (-1)] 40) = W0 at *
          clear hP1
          have HQ := Lib.hid (X.out.hit HSp.out (by have := HLt.out; have := HN.out; omega) HZ.out.1 HZ.out.2)
          obtain ⟨nx, hnx⟩ : ∃ x, cyX p next (fsts M) [yA r z] = x := ⟨_, rfl⟩
          obtain ⟨L2, hL2⟩ : ∃ x, cyT p next (fsts M) [yA r z] = x := ⟨_, rfl⟩
          have hQ2 := HQ.out.2
          rw [hnx, hL2] at hQ2
          have HQ2 := Lib.hid hQ2
          have hcy := cy_call p HQ.out.1 hL2 hnx (AlQ.len hQ2) hkn a n c (some ⟨P1, 0, none⟩) 1 1 M W0 TT.out rfl HPl.out
          clear hnx hL2 hQ2
          refine hcy.mono ?_; rintro e w5 ⟨a2, c2, ea, em, ec, M2, rfl, hJ, hM2, -, hb⟩
          have HJ := Lib.hid hJ
          have HW5 := Lib.hid (show TK1 < W0.heap.size from lt_of_block (K.out.H _ (List.mem_cons_of_mem _ List.mem_cons_self)))
          replace K := Lib.hid (K.out.below hb)
          clear hcy hJ hb t0 t1 t2 t3 t4 t5 t6 tl hkn
          obtain ⟨n2, hn2⟩ : ∃ x, L2.length = x := ⟨_, rfl⟩
          rw [hn2] at HJ ⊢
          subst hM2
          obtain ⟨t0, t1, t2, t3, t4, t5, t6⟩ := seven_new (K.out.H _ (List.mem_cons_of_mem _ List.mem_cons_self))
          obtain ⟨f0, f1, f2, f3, f4, f5, f6⟩ := seven_free (K.out.H _ (List.mem_cons_of_mem _ List.mem_cons_self))
          have tl := lt_of_block (K.out.H _ (List.mem_cons_of_mem _ List.mem_cons_self))
          simp only []
          go_upto_region 24 with fail
          clear t0 t1 t2 t3 t4 t5 t6 tl f0 f1 f2 f3 f4 f5 f6
          have KO := Lib.hid (tb_only w5 TK1 (.int .i64 p.gate) (.int .i64 p.need) (.int .i64 p.most) (.int .i64 p.pull) (.int .i64 ((i : Int) + 1)) (.int .i64 nx) (.slice a2 n2 c2))
          have KB := Lib.hid (tb_stored K.out.B (K.out.H _ (List.mem_cons_of_mem _ List.mem_cons_self)) HTB.out.1 (.int .i64 p.gate) (.int .i64 p.need) (.int .i64 p.most) (.int .i64 p.pull) (.int .i64 ((i : Int) + 1)) (.int .i64 nx) (.slice a2 n2 c2))
          replace K := Lib.hid (HK.put (l' := [(PB + 1, .cells #[.int .i64 z0, .int .i64 v0] 66 (0, 0)), (PB, .cells #[.int .i64 p.gate, .int .i64 p.need, .int .i64 p.most, .int .i64 p.pull] 23 (0, 0))]) K.out (fun x hx => List.mem_cons_of_mem _ (List.mem_cons_of_mem _ hx)) KB.out.1 KO.out KB.out.2 (two_lt HTB.out.2))
          replace TT := Lib.hid (HJ.out.only KO.out HW5.out)
          clear KO KB HJ HW5
          generalize (((((((w5.setCell ⟨TK1, 0, none⟩ (.int .i64 p.gate)).setCell ⟨TK1, 1, none⟩ (.int .i64 p.need)).setCell ⟨TK1, 2, none⟩ (.int .i64 p.most)).setCell ⟨TK1, 3, none⟩ (.int .i64 p.pull)).setCell ⟨TK1, 4, none⟩ (.int .i64 ((i : Int) + 1))).setCell ⟨TK1, 5, none⟩ (.int .i64 nx)).setCell ⟨TK1, 6, none⟩ (.slice a2 n2 c2)) = w6 at *
          clear HFi HPl
          obtain ⟨t, hLt, hS⟩ := AlQ.seen HQ2.out
          have e1 : n2 = 1 := by rw [← hn2, hLt]; rfl
          subst e1
          have hH := holds_call p ((i : Int) + 1) nx a2 c2 M2 t z v w6 TT.out hLt hS.id hS.ok.ch hS.it
          unfold tbV at hH
          clear hLt hS hn2
          obtain ⟨t0, t1, t2, t3, t4, t5, t6⟩ := seven_new (K.out.H _ List.mem_cons_self)
          have tl := lt_of_block (K.out.H _ List.mem_cons_self)
          go_wp2_with fail
          refine hH.mono ?_; rintro e w7 ⟨rfl, hb⟩
          replace K := Lib.hid (K.out.below hb)
          replace TT := Lib.hid (TT.out.below hb)
          clear hH hb t0 t1 t2 t3 t4 t5 t6 tl
          obtain ⟨t0, t1, t2, t3⟩ := four_cells (K.out.H _ (List.mem_cons_of_mem _ (List.mem_cons_of_mem _ List.mem_cons_self)))
          have tl := lt_of_block (K.out.H _ (List.mem_cons_of_mem _ (List.mem_cons_of_mem _ List.mem_cons_self)))
          go_upto_if 162 with fail
          have HB7 := Lib.hid (Below.refl w7.heap.size w7)
          obtain ⟨b4, o4, rfl, x0⟩ := i8_at (HP.out.below K.out.B) HLt.out
          have hp := HP.out.vals i HLt.out
          have xl := World.block_lt_of_cell? _ _ x0
          obtain ⟨PV, hPV⟩ : ∃ x, pl[i]?.getD 0 = x := ⟨_, rfl⟩
          rw [hPV] at x0 hp
          clear hPV
          go_cut [26] (fun s26 wx => ∃ A : Int, s26 = .int .i64 A ∧ -p.pull ≤ A ∧ A ≤ p.pull ∧ Below w7.heap.size w7 wx)
          case first =>
           by_cases hpp : 0 < p.pull
           ·have hmz : (p.pull + 1 == 0) = false := beq_eq_false_iff_ne.2 (by omega)
            have hmz1 : ¬ (p.pull + 1 = 0) := by omega
            have hA := tmod_bd (x := PV) (m := p.pull) (by omega)
            have wm : IntKind.i64.wrap (p.pull + 1) = p.pull + 1 := IntWalk.i64_in _ (by omega)
            have wp : IntKind.i64.wrap PV = PV := IntWalk.i64_in _ (by omega)
            obtain ⟨A, hAA⟩ : ∃ A, PV.tmod (p.pull + 1) = A := ⟨_, rfl⟩
            have wa : IntKind.i64.wrap (PV.tmod (p.pull + 1)) = A := by rw [hAA] at hA ⊢; exact IntWalk.i64_in _ (by omega)
            rw [hAA] at hA
            have hA0 := hA.1
            have hA1 := hA.2
            clear hA
            go_wp2_with fail
            go_quiet (fail)
            go_wp2_with fail
            go_meet
            exact ⟨A, rfl, hA0, hA1, below_drewN HB7.out nq⟩
           ·go_wp2_with fail
            go_meet
            exact ⟨0, rfl, by omega, by omega, HB7.out⟩
          case rest =>
           obtain ⟨A, rfl, hA0, hA1, hb⟩ := hcut
           replace K := Lib.hid (K.out.below hb)
           replace TT := Lib.hid (TT.out.below hb)
           clear hb t0 t1 t2 t3 tl x0 xl hp HB7
           have hv := X.out.hv
           have hz := HZ.out
           have wz : IntKind.i64.wrap (z + v) = z + v := IntWalk.i64_in _ (by omega)
           have wv : IntKind.i64.wrap (v + A) = v + A := IntWalk.i64_in _ (by omega)
           have wr' : IntKind.i64.wrap (r + s) = r + s := IntWalk.i64_in _ (by omega)
           have hgb2 := X.out.hg
           have hcast : (i : Int) + 1 = ((i + 1 : Nat) : Int) := by omega
           rw [hcast] at K
           clear hcast
           by_cases d1 : v + A < -100
           ·have HX2 := Lib.hid (show AlX p s (i + 1) true (0) (z + v) (-100) (r + s) nx (fsts M2) from ⟨by omega, by omega, z, v, r, HQ2.out, fun _ => ⟨rfl, by omega, by omega, rfl⟩⟩)
            go_wp2_with fail
            go_roundw
            case rel => exact ⟨i + 1, z + v, -100, r + s, 0, nx, true, a2, _, c2, M2, HLt.out, rfl, rfl, rfl, rfl, rfl, rfl, rfl, by go_num, HX2.out, K.out, TT.out⟩
            case measure => simp [intOf]; have := HLt.out; omega
           ·by_cases d2 : 100 < v + A
            ·have HX2 := Lib.hid (show AlX p s (i + 1) true (0) (z + v) (100) (r + s) nx (fsts M2) from ⟨by omega, by omega, z, v, r, HQ2.out, fun _ => ⟨rfl, by omega, by omega, rfl⟩⟩)
             go_wp2_with fail
             go_roundw
             case rel => exact ⟨i + 1, z + v, 100, r + s, 0, nx, true, a2, _, c2, M2, HLt.out, rfl, rfl, rfl, rfl, rfl, rfl, rfl, by go_num, HX2.out, K.out, TT.out⟩
             case measure => simp [intOf]; have := HLt.out; omega
            ·have HX2 := Lib.hid (show AlX p s (i + 1) true (0) (z + v) (v + A) (r + s) nx (fsts M2) from ⟨by omega, by omega, z, v, r, HQ2.out, fun _ => ⟨rfl, by omega, by omega, rfl⟩⟩)
             go_wp2_with fail
             go_roundw
             case rel => exact ⟨i + 1, z + v, v + A, r + s, 0, nx, true, a2, _, c2, M2, HLt.out, rfl, rfl, rfl, rfl, rfl, rfl, rfl, by go_num, HX2.out, K.out, TT.out⟩
             case measure => simp [intOf]; have := HLt.out; omega
       ·obtain rfl : n4 = i := by omega
        go_wp2_with fail
        go_ret
        exact ⟨rfl, K.out.B⟩
 ·have HE := Lib.hid hE
  have HNew := Lib.hid (show ∀ W : World, Calls Try.prog 13 #[.agg #[.int .i64 p.gate, .int .i64 p.need, .int .i64 p.most, .int .i64 p.pull]] W (fun e w' => e = .returned (.tuple #[.agg #[.int .i64 0, .int .i64 0, .int .i64 0, .int .i64 0, .int .i64 0, .int .i64 0, .slice none 0 0], .int .i64 1]) ∧ Below W.heap.size W w') from fun W => by
   have h := pNewT_call p W
   rw [nwP_bad hE, hE] at h
   exact h)
  clear hE
  go_enter Try.func6, Try.ntmps6
  go_wp2_with fail
  rw [← hPB]
  replace K := Lib.hid (show HK w ((w.alloc (.cells #[.int .i64 p.gate, .int .i64 p.need, .int .i64 p.most, .int .i64 p.pull] 23)).alloc (.cells #[.int .i64 z0, .int .i64 v0] 66)) [(PB + 1, .cells #[.int .i64 z0, .int .i64 v0] 66 (0, 0)), (PB, .cells #[.int .i64 p.gate, .int .i64 p.need, .int .i64 p.most, .int .i64 p.pull] 23 (0, 0))] from by
   have h := K.out
   simp only [World.size_alloc] at h
   rw [hPB]
   exact h)
  generalize (w.alloc (.cells #[.int .i64 p.gate, .int .i64 p.need, .int .i64 p.most, .int .i64 p.pull] 23)).alloc (.cells #[.int .i64 z0, .int .i64 v0] 66) = w1 at *
  clear hPB
  refine (HNew.out _).mono ?_; rintro e w2 ⟨rfl, hb⟩
  replace K := Lib.hid (K.out.below hb)
  clear hb
  have K2 := Lib.hid (K.out.alloc #[.int .i64 0, .int .i64 0, .int .i64 0, .int .i64 0, .int .i64 0, .int .i64 0, .slice none 0 0] 26)
  go_wp2_with fail
  refine (awake_call _).mono ?_; rintro e w3 ⟨rfl, hb⟩
  have K3 := Lib.hid (K2.out.below hb)
  clear hb
  go_wp2_with fail
  go_ret
  exact ⟨rfl, K3.out.B⟩
end Go.Proofs.Ytikjjpjekchcjaa
