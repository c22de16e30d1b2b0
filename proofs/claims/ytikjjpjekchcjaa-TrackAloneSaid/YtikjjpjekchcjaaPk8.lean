/-
  TrkF, TrkH, AltLaw, TrkI
-/
import Derived.Test.YtikjjpjekchcjaaPk7
import Derived.Test.YtikjjpjekchcjaaPk3
import Derived.Test.YtikjjpjekchcjaaPk1
import Derived.Test.YtikjjpjekchcjaaPk6
section
namespace Go.Proofs.Ytikjjpjekchcjaa
open Go.RowKit TrkMath MyHeap MyOwn
theorem rgE_two (x : Rg) : rgE x = 0 ∨ rgE x = 1 := by unfold rgE; split <;> simp
def BoolIs (b : Bool) (w : World) (e : Ending) (w' : World) : Prop := e = .returned (.bool b) ∧ w = w'
set_option maxRecDepth 100000 in
set_option maxHeartbeats 2000000 in
theorem in_t (n lo hi : Int) (w : World) (h : lo ≤ n ∧ n ≤ hi) : Calls Try.prog 22 #[.int .i64 n, .int .i64 lo, .int .i64 hi] w (BoolIs true w) := by
 obtain ⟨h1, h2⟩ := h
 go_enter Try.func22, Try.ntmps22
 go_wp2_with fail
 go_ret
 exact ⟨rfl, rfl⟩
set_option maxRecDepth 100000 in
set_option maxHeartbeats 2000000 in
theorem in_f (n lo hi : Int) (w : World) (h : ¬ (lo ≤ n ∧ n ≤ hi)) : Calls Try.prog 22 #[.int .i64 n, .int .i64 lo, .int .i64 hi] w (BoolIs false w) := by
 by_cases h1 : lo ≤ n
 ·have h2 : ¬ n ≤ hi := fun e => h ⟨h1, e⟩
  clear h
  go_enter Try.func22, Try.ntmps22
  go_wp2_with fail
  go_ret
  exact ⟨rfl, rfl⟩
 ·clear h
  go_enter Try.func22, Try.ntmps22
  go_wp2_with fail
  go_ret
  exact ⟨rfl, rfl⟩
def parV (p : Par) : Value := .agg #[.int .i64 p.gate, .int .i64 p.need, .int .i64 p.most, .int .i64 p.pull]
set_option maxRecDepth 100000 in
set_option maxHeartbeats 4000000 in
theorem pchk_call (p : Par) (w : World) : Calls Try.prog 29 #[parV p] w (NPost (parE p) w) := by
 have HB := Lib.hid (below_alloc w (.cells #[.int .i64 p.gate, .int .i64 p.need, .int .i64 p.most, .int .i64 p.pull] 23))
 unfold parV
 by_cases h0 : 1 ≤ p.gate ∧ p.gate ≤ 256
 ·have H0 := Lib.hid h0
  clear h0
  by_cases h1 : 1 ≤ p.need ∧ p.need ≤ 8
  ·have H1 := Lib.hid h1
   clear h1
   by_cases h2 : 1 ≤ p.most ∧ p.most ≤ 15
   ·have H2 := Lib.hid h2
    clear h2
    by_cases h3 : 0 ≤ p.pull ∧ p.pull ≤ 32
    ·have H3 := Lib.hid h3
     clear h3
     have HE := Lib.hid (parE_ok (p := p) ⟨H0.out, H1.out, H2.out, H3.out⟩)
     go_enter Try.func29, Try.ntmps29
     go_wp2_with fail
     refine (in_t _ _ _ _ H0.out).mono ?_; rintro e w0 ⟨rfl, rfl⟩
     go_wp2_with fail
     refine (in_t _ _ _ _ H1.out).mono ?_; rintro e w0 ⟨rfl, rfl⟩
     go_wp2_with fail
     refine (in_t _ _ _ _ H2.out).mono ?_; rintro e w0 ⟨rfl, rfl⟩
     go_wp2_with fail
     refine (in_t _ _ _ _ H3.out).mono ?_; rintro e w0 ⟨rfl, rfl⟩
     go_wp2_with fail
     go_ret
     exact nPost_of HE.out.symm HB.out
    ·have H3 := Lib.hid h3
     have HE := Lib.hid (parE_bad (p := p) (fun h => H3.out h.2.2.2))
     clear h3
     go_enter Try.func29, Try.ntmps29
     go_wp2_with fail
     refine (in_t _ _ _ _ H0.out).mono ?_; rintro e w0 ⟨rfl, rfl⟩
     go_wp2_with fail
     refine (in_t _ _ _ _ H1.out).mono ?_; rintro e w0 ⟨rfl, rfl⟩
     go_wp2_with fail
     refine (in_t _ _ _ _ H2.out).mono ?_; rintro e w0 ⟨rfl, rfl⟩
     go_wp2_with fail
     refine (in_f _ _ _ _ H3.out).mono ?_; rintro e w0 ⟨rfl, rfl⟩
     go_wp2_with fail
     go_ret
     exact nPost_of HE.out.symm HB.out
   ·have H2 := Lib.hid h2
    have HE := Lib.hid (parE_bad (p := p) (fun h => H2.out h.2.2.1))
    clear h2
    go_enter Try.func29, Try.ntmps29
    go_wp2_with fail
    refine (in_t _ _ _ _ H0.out).mono ?_; rintro e w0 ⟨rfl, rfl⟩
    go_wp2_with fail
    refine (in_t _ _ _ _ H1.out).mono ?_; rintro e w0 ⟨rfl, rfl⟩
    go_wp2_with fail
    refine (in_f _ _ _ _ H2.out).mono ?_; rintro e w0 ⟨rfl, rfl⟩
    go_wp2_with fail
    go_ret
    exact nPost_of HE.out.symm HB.out
  ·have H1 := Lib.hid h1
   have HE := Lib.hid (parE_bad (p := p) (fun h => H1.out h.2.1))
   clear h1
   go_enter Try.func29, Try.ntmps29
   go_wp2_with fail
   refine (in_t _ _ _ _ H0.out).mono ?_; rintro e w0 ⟨rfl, rfl⟩
   go_wp2_with fail
   refine (in_f _ _ _ _ H1.out).mono ?_; rintro e w0 ⟨rfl, rfl⟩
   go_wp2_with fail
   go_ret
   exact nPost_of HE.out.symm HB.out
 ·have H0 := Lib.hid h0
  have HE := Lib.hid (parE_bad (p := p) (fun h => H0.out h.1))
  clear h0
  go_enter Try.func29, Try.ntmps29
  go_wp2_with fail
  refine (in_f _ _ _ _ H0.out).mono ?_; rintro e w0 ⟨rfl, rfl⟩
  go_wp2_with fail
  go_ret
  exact nPost_of HE.out.symm HB.out
theorem tb_stored {w W : World} {b : Nat} {T : TypeId} {a0 a1 a2 a3 a4 a5 a6 : Value} (h : Below w.heap.size w W) (hb : W.heap[b]? = some (.cells #[a0, a1, a2, a3, a4, a5, a6] T (0, 0))) (hle : w.heap.size ≤ b) (x0 x1 x2 x3 x4 x5 x6 : Value) :
    Below w.heap.size w (((((((W.setCell ⟨b, 0, none⟩ x0).setCell ⟨b, 1, none⟩ x1).setCell ⟨b, 2, none⟩ x2).setCell ⟨b, 3, none⟩ x3).setCell ⟨b, 4, none⟩ x4).setCell ⟨b, 5, none⟩ x5).setCell ⟨b, 6, none⟩ x6) ∧
    (((((((W.setCell ⟨b, 0, none⟩ x0).setCell ⟨b, 1, none⟩ x1).setCell ⟨b, 2, none⟩ x2).setCell ⟨b, 3, none⟩ x3).setCell ⟨b, 4, none⟩ x4).setCell ⟨b, 5, none⟩ x5).setCell ⟨b, 6, none⟩ x6).heap[b]? = some (.cells #[x0, x1, x2, x3, x4, x5, x6] T (0, 0)) := by
 have o : Only b W (((((((W.setCell ⟨b, 0, none⟩ x0).setCell ⟨b, 1, none⟩ x1).setCell ⟨b, 2, none⟩ x2).setCell ⟨b, 3, none⟩ x3).setCell ⟨b, 4, none⟩ x4).setCell ⟨b, 5, none⟩ x5).setCell ⟨b, 6, none⟩ x6) := (((((((Only.refl _ _).setCell _ _).setCell _ _).setCell _ _).setCell _ _).setCell _ _).setCell _ _).setCell _ _
 refine ⟨h.trans (o.below hle h.size), ?_⟩
 have h1 := block_setCell (i := 6) (v := x6) (block_setCell (i := 5) (v := x5) (block_setCell (i := 4) (v := x4) (block_setCell (i := 3) (v := x3) (block_setCell (i := 2) (v := x2) (block_setCell (i := 1) (v := x1) (block_setCell (i := 0) (v := x0) hb))))))
 simpa using h1
def TbPost (p : Par) (now next : Int) (tV : Value) (E : Int) (w : World) (e : Ending) (w' : World) : Prop := e = .returned (.tuple #[tbV p now next tV, .int .i64 E]) ∧ Below w.heap.size w w'
def par0 : Par := ⟨0, 0, 0, 0⟩
def nwP (p : Par) : Par := if parE p = 0 then p else par0
theorem nwP_ok {p : Par} (h : parE p = 0) : nwP p = p := if_pos h
theorem nwP_bad {p : Par} (h : parE p = 1) : nwP p = par0 := if_neg (by rw [h]; decide)
theorem seven_new {w : World} {b : Nat} {T : TypeId} {c0 c1 c2 c3 c4 c5 c6 : Value} (h : w.heap[b]? = some (.cells #[c0, c1, c2, c3, c4, c5, c6] T (0, 0))) :
    w.cell? ⟨b, 0, none⟩ = some c0 ∧ w.cell? ⟨b, 1, none⟩ = some c1 ∧ w.cell? ⟨b, 2, none⟩ = some c2 ∧ w.cell? ⟨b, 3, none⟩ = some c3 ∧ w.cell? ⟨b, 4, none⟩ = some c4 ∧ w.cell? ⟨b, 5, none⟩ = some c5 ∧ w.cell? ⟨b, 6, none⟩ = some c6 :=
 ⟨cell_of_block h rfl, cell_of_block h rfl, cell_of_block h rfl, cell_of_block h rfl, cell_of_block h rfl, cell_of_block h rfl, cell_of_block h rfl⟩
theorem seven_free {w : World} {b : Nat} {T : TypeId} {cs : Array Value} (h : w.heap[b]? = some (.cells cs T (0, 0))) :
    w.frozen? ⟨b, 0, none⟩ = false ∧ w.frozen? ⟨b, 1, none⟩ = false ∧ w.frozen? ⟨b, 2, none⟩ = false ∧ w.frozen? ⟨b, 3, none⟩ = false ∧ w.frozen? ⟨b, 4, none⟩ = false ∧ w.frozen? ⟨b, 5, none⟩ = false ∧ w.frozen? ⟨b, 6, none⟩ = false :=
 ⟨free_of_block h, free_of_block h, free_of_block h, free_of_block h, free_of_block h, free_of_block h, free_of_block h⟩
set_option maxRecDepth 100000 in
set_option maxHeartbeats 4000000 in
theorem pNewT_call (p : Par) (w : World) : Calls Try.prog 13 #[parV p] w (TbPost (nwP p) 0 0 (.slice none 0 0) (parE p) w) := by
 have HB := Lib.hid (below_alloc w (.cells #[.int .i64 p.gate, .int .i64 p.need, .int .i64 p.most, .int .i64 p.pull] 23))
 have HB2 := Lib.hid (HB.out.alloc HB.out.size (.cells #[.int .i64 0, .int .i64 0, .int .i64 0, .int .i64 0, .int .i64 0, .int .i64 0, .slice none 0 0] 26))
 have HX0 := Lib.hid (block_alloc (o' := .cells #[.int .i64 0, .int .i64 0, .int .i64 0, .int .i64 0, .int .i64 0, .int .i64 0, .slice none 0 0] 26) (block_new w (.cells #[.int .i64 p.gate, .int .i64 p.need, .int .i64 p.most, .int .i64 p.pull] 23 (0, 0)) rfl))
 have HR0 := Lib.hid (block_new (w.alloc (.cells #[.int .i64 p.gate, .int .i64 p.need, .int .i64 p.most, .int .i64 p.pull] 23)) (.cells #[.int .i64 0, .int .i64 0, .int .i64 0, .int .i64 0, .int .i64 0, .int .i64 0, .slice none 0 0] 26 (0, 0)) (n := w.heap.size + 1) (by simp))
 unfold parV
 rcases parE_two p with hE | hE
 all_goals
  have HE := Lib.hid hE
  clear hE
  go_enter Try.func13, Try.ntmps13
  go_wp2_with fail
  refine (pchk_call p _).mono ?_; rintro e w1 ⟨rfl, hb⟩
  rw [HE.out]
  have K := Lib.hid (And.intro (HB2.out.trans (hb.mono HB2.out.size)) (And.intro (keepO hb HR0.out) (keepO hb HX0.out)))
  clear hb
  obtain ⟨r0, r1, r2, r3, r4, r5, r6⟩ := seven_new K.out.2.1
  obtain ⟨f0, f1, f2, f3, f4, f5, f6⟩ := seven_free K.out.2.1
  have rl := lt_of_block K.out.2.1
  have x0 : w1.cell? ⟨w.heap.size, 0, none⟩ = some (.int .i64 p.gate) := cell_of_block K.out.2.2 rfl
  have x1 : w1.cell? ⟨w.heap.size, 1, none⟩ = some (.int .i64 p.need) := cell_of_block K.out.2.2 rfl
  have x2 : w1.cell? ⟨w.heap.size, 2, none⟩ = some (.int .i64 p.most) := cell_of_block K.out.2.2 rfl
  have x3 : w1.cell? ⟨w.heap.size, 3, none⟩ = some (.int .i64 p.pull) := cell_of_block K.out.2.2 rfl
  go_wp2_with fail
 ·have KS := Lib.hid (tb_stored K.out.1 K.out.2.1 (Nat.le_succ _) (.int .i64 p.gate) (.int .i64 p.need) (.int .i64 p.most) (.int .i64 p.pull) (.int .i64 0) (.int .i64 0) (.slice none 0 0))
  obtain ⟨s0, s1, s2, s3, s4, s5, s6⟩ := seven_new KS.out.2
  refine bodyPost_ret (v := .tuple #[tbV p 0 0 (.slice none 0 0), .int .i64 0]) ?_ rfl ⟨by rw [nwP_ok HE.out, HE.out], KS.out.1⟩
  simp [results, Try.f13, go_sem, s0, s1, s2, s3, s4, s5, s6, tbV]
 ·have KS := Lib.hid (tb_stored K.out.1 K.out.2.1 (Nat.le_succ _) (.int .i64 0) (.int .i64 0) (.int .i64 0) (.int .i64 0) (.int .i64 0) (.int .i64 0) (.slice none 0 0))
  obtain ⟨s0, s1, s2, s3, s4, s5, s6⟩ := seven_new KS.out.2
  refine bodyPost_ret (v := .tuple #[tbV par0 0 0 (.slice none 0 0), .int .i64 1]) ?_ rfl ⟨by rw [nwP_bad HE.out, HE.out], KS.out.1⟩
  simp [results, Try.f13, go_sem, s0, s1, s2, s3, s4, s5, s6, tbV, par0]
end Go.Proofs.Ytikjjpjekchcjaa
end
section
namespace Go.Proofs.Ytikjjpjekchcjaa
open Go.RowKit TrkMath MyHeap MyOwn
theorem infoEv : (Try.prog.info? 37).map (fun i => (i.zero, i.size, i.bytes)) = some (some (.agg #[.int .u8 0, .int .i64 0, .int .i64 0]), 3, 24) := by kernel_rfl
theorem infoTk : (Try.prog.info? 46).map (fun i => (i.zero, i.size, i.bytes)) = some (some (.agg #[.int .i64 0, .int .i64 0, .int .i64 0, .int .i64 0, .int .i64 0, .slice none 0 0, .slice none 0 0, .int .i64 0, .int .i64 0, .bool false]), 10, 112) := by kernel_rfl
theorem info_pts {o : Option TypeInfo} {z : Value} {s b : Nat} (h : o.map (fun i => (i.zero, i.size, i.bytes)) = some (some z, s, b)) : ∃ i, o = some i ∧ i.zero = some z ∧ i.size = s ∧ i.bytes = b := by
 cases o with
 | none => cases h
 | some i => simp only [Option.map_some, Option.some.injEq, Prod.mk.injEq] at h; exact ⟨i, rfl, h.1, h.2.1, h.2.2⟩
theorem cells_new {w : World} {cs : List Value} {T : TypeId} {n : Nat} (hn : n = w.heap.size) : ∀ (j : Nat) (u : Value), cs[j]? = some u → (w.alloc (.cells cs.toArray T)).cell? ((⟨n, 0, none⟩ : Addr).add j) = some u := by
 subst hn
 intro j u hu
 have hadd : (⟨w.heap.size, 0, none⟩ : Addr).add j = ⟨w.heap.size, j, none⟩ := by unfold Addr.add; split <;> simp_all
 rw [hadd, World.cell?_alloc_at _ _ _ _ rfl]
 simpa using hu
theorem row_slice {w : World} {base : Nat} {e : TypeId} {size : Nat} {v : Value} {n : Nat} {xs : List Value} (h : w.ownsRow base e size v n xs) : ∃ a c, v = .slice a n c := by
 rcases h.2 with ⟨rfl, rfl⟩ | ⟨g, cap, cur, rfl, -⟩
 ·exact ⟨none, 0, rfl⟩
 ·exact ⟨_, _, rfl⟩
def RunAt (r : Nat) (p : Par) (now next : Int) (tV pV lV eV : Value) (w : World) : Prop :=
 w.heap[r]? = some (.cells #[.int .i64 p.gate, .int .i64 p.need, .int .i64 p.most, .int .i64 p.pull, .int .i64 now, .int .i64 next, tV, pV, lV, eV] 79 (0, 0))
theorem RunAt.cells {r : Nat} {p : Par} {now next : Int} {tV pV lV eV : Value} {w : World} (h : RunAt r p now next tV pV lV eV w) :
    w.cell? ⟨r, 0, none⟩ = some (.int .i64 p.gate) ∧ w.cell? ⟨r, 1, none⟩ = some (.int .i64 p.need) ∧ w.cell? ⟨r, 2, none⟩ = some (.int .i64 p.most) ∧ w.cell? ⟨r, 3, none⟩ = some (.int .i64 p.pull) ∧ w.cell? ⟨r, 4, none⟩ = some (.int .i64 now) ∧ w.cell? ⟨r, 5, none⟩ = some (.int .i64 next) ∧ w.cell? ⟨r, 6, none⟩ = some tV ∧ w.cell? ⟨r, 7, none⟩ = some pV ∧ w.cell? ⟨r, 8, none⟩ = some lV ∧ w.cell? ⟨r, 9, none⟩ = some eV :=
 ⟨cell_of_block h rfl, cell_of_block h rfl, cell_of_block h rfl, cell_of_block h rfl, cell_of_block h rfl, cell_of_block h rfl, cell_of_block h rfl, cell_of_block h rfl, cell_of_block h rfl, cell_of_block h rfl⟩
theorem RunAt.free {r i : Nat} {p : Par} {now next : Int} {tV pV lV eV : Value} {w : World} (h : RunAt r p now next tV pV lV eV w) : w.frozen? ⟨r, i, none⟩ = false := free_of_block h
theorem RunAt.lt {r : Nat} {p : Par} {now next : Int} {tV pV lV eV : Value} {w : World} (h : RunAt r p now next tV pV lV eV w) : r < w.heap.size := lt_of_block h
theorem RunAt.outs {X : List (Option Nat)} {r : Nat} {p : Par} {now next : Int} {tV pV lV eV : Value} {w w' : World} (h : RunAt r p now next tV pV lV eV w) (hb : Outs X w w') (hn : some r ∉ X) : RunAt r p now next tV pV lV eV w' := hb.keeps h hn
theorem RunAt.below {r : Nat} {p : Par} {now next : Int} {tV pV lV eV : Value} {w w' : World} (h : RunAt r p now next tV pV lV eV w) (hb : Below w.heap.size w w') : RunAt r p now next tV pV lV eV w' := keepO hb h
theorem RunAt.setE {r : Nat} {p : Par} {now next : Int} {tV pV lV eV : Value} {w : World} (h : RunAt r p now next tV pV lV eV w) (v : Value) : RunAt r p now next tV pV lV v (w.setCell ⟨r, 9, none⟩ v) := by
 have := block_setCell (i := 9) (v := v) h
 simpa [RunAt] using this
theorem RunAt.setT {r : Nat} {p : Par} {now next : Int} {tV pV lV eV : Value} {w : World} (h : RunAt r p now next tV pV lV eV w) (v : Value) : RunAt r p now next v pV lV eV (w.setCell ⟨r, 6, none⟩ v) := by
 have := block_setCell (i := 6) (v := v) h
 simpa [RunAt] using this
theorem RunAt.setNext {r : Nat} {p : Par} {now next : Int} {tV pV lV eV : Value} {w : World} (h : RunAt r p now next tV pV lV eV w) (v : Int) : RunAt r p now v tV pV lV eV (w.setCell ⟨r, 5, none⟩ (.int .i64 v)) := by
 have := block_setCell (i := 5) (v := .int .i64 v) h
 simpa [RunAt] using this
theorem RunAt.setNow {r : Nat} {p : Par} {now next : Int} {tV pV lV eV : Value} {w : World} (h : RunAt r p now next tV pV lV eV w) (v : Int) : RunAt r p v next tV pV lV eV (w.setCell ⟨r, 4, none⟩ (.int .i64 v)) := by
 have := block_setCell (i := 4) (v := .int .i64 v) h
 simpa [RunAt] using this
def EvAt (base : Nat) (eV : Value) (E : List Ev) (w : World) : Prop := w.ownsRow base 37 3 eV E.length (flatE E)
def NotePost (r base : Nat) (p : Par) (now next : Int) (tV pV lV eV : Value) (E : List Ev) (x : Ev) (w : World) (e : Ending) (w' : World) : Prop :=
 ∃ eV', e = .returned (.tuple #[]) ∧ RunAt r p now next tV pV lV eV' w' ∧ EvAt base eV' (E ++ [x]) w' ∧ (eV'.ownBlock = eV.ownBlock ∨ ∃ g, eV'.ownBlock = some g ∧ w.heap.size ≤ g) ∧ Outs [some r, eV.ownBlock] w w'
set_option maxRecDepth 100000 in
set_option maxHeartbeats 4000000 in
theorem note_call (r base : Nat) (p : Par) (now next : Int) (tV pV lV eV : Value) (E : List Ev) (x : Ev) (w : World) (hR : RunAt r p now next tV pV lV eV w) (hE : EvAt base eV E w) (hne : eV.ownBlock ≠ some r) (hbase : base ≤ w.heap.size) (hlen : E.length ≤ 1000) :
    Calls Try.prog 24 #[.pointer (some ⟨r, 0, none⟩), .int .u8 x.kind, .int .i64 x.id, .int .i64 x.plot] w (NotePost r base p now next tV pV lV eV E x w) := by
 obtain ⟨i0, hi0, hz0, hs0, hb0⟩ := info_pts infoEv
 have HI := Lib.hid (And.intro hi0 (And.intro hz0 (And.intro hs0 hb0)))
 have K := Lib.hid (And.intro hR hE)
 have HN := Lib.hid (And.intro hne (And.intro hbase hlen))
 have rl := hR.lt
 have HL := Lib.hid (fun b (e : eV.ownBlock = some b) => (hE.lt b e).2)
 have c9 : w.cell? ⟨r, 9, none⟩ = some eV := cell_of_block hR rfl
 obtain ⟨aE, nE, cE, rfl⟩ : ∃ a n c, eV = .slice a n c := by
  rcases hE.2 with ⟨e, -⟩ | ⟨g, cap, cur, e, -⟩
  ·exact ⟨_, _, _, e⟩
  ·exact ⟨_, _, _, e⟩
 have HO := Lib.hid (hE.alloc (.cells #[.int .u8 x.kind, .int .i64 x.id, .int .i64 x.plot] 37))
 clear hR hE hne hlen hi0 hz0 hs0 hb0
 go_enter Try.func24, Try.ntmps24
 go_wp2_with (at_builtin; refine wpList_append_own_at _ rfl _ _ 30 rfl base 37 i0 _ 3 24 Try.underlying30 HI.out.1 HI.out.2.1 HI.out.2.2.1 HI.out.2.2.2 rfl (by decide) _ E.length _ rfl HO.out ⟨w.heap.size, 0, none⟩ 1 1 [.int .u8 x.kind, .int .i64 x.id, .int .i64 x.plot] rfl rfl ?c1 ?c2 ?c3 ?c4 ?c5 ?_; rotate_right; intro v9 w9 hown9 hg9 _ hat9; obtain ⟨a9, m9, rfl⟩ := row_slice hown9; have HW := Lib.hid (And.intro hown9 (And.intro hg9 hat9)); have K9 := Lib.hid (hg9.block r (by simp; omega) (fun e => HN.out.1 e.symm)); clear hown9 hg9 hat9; have x9 : w9.cell? ⟨r, 9, none⟩ = some (.slice aE nE cE) := cell_of_block ((K9.out.trans (block_alloc K.out.1))) rfl; have f9 : w9.frozen? ⟨r, 9, none⟩ = false := free_of_block (K9.out.trans (block_alloc K.out.1)); have l9 : r < w9.heap.size := lt_of_block (K9.out.trans (block_alloc K.out.1)))
 case c1 => exact cells_new rfl
 case c2 => intro u hu; simp at hu; rcases hu with rfl | rfl | rfl <;> rfl
 case c3 => have := HN.out.2.2; unfold maxLen; omega
 case c4 => have := HN.out.2.2; omega
 case c5 => simp; omega
 have hR9 : RunAt r p now next tV pV lV (.slice aE nE cE) w9 := K9.out.trans (block_alloc K.out.1)
 have hO : Only r w9 (w9.setCell ⟨r, 9, none⟩ (.slice a9 (E.length + 1) m9)) := (Only.refl _ _).setCell _ _
 have hsz : w.heap.size ≤ (w.alloc (.cells #[.int .u8 x.kind, .int .i64 x.id, .int .i64 x.plot] 37)).heap.size := by simp
 have hnr : ∀ g, (Value.slice a9 (E.length + 1) m9).ownBlock = some g → g ≠ r := fun g e e2 => by
  subst e2
  rcases HW.out.2.2 with q | q
  ·exact HN.out.1 (q.symm.trans e)
  ·have : g = (w.alloc (.cells #[.int .u8 x.kind, .int .i64 x.id, .int .i64 x.plot] 37)).heap.size := by rw [q] at e; exact (Option.some.inj e).symm
   omega
 refine bodyPost_ret (v := .tuple #[]) (by simp [results, Try.f24, go_sem]) rfl ⟨_, rfl, hR9.setE _, ?_, ?_, ?_⟩
 ·have h1 := Outs.row (Outs.of_only (X := [some r]) hO (List.mem_singleton.2 rfl)) HW.out.1 (fun g e h => by
   have := List.mem_singleton.1 h
   exact hnr g e (Option.some.inj this))
  unfold EvAt
  rw [List.length_append, flatE_snoc]
  exact h1
 ·rcases HW.out.2.2 with q | q
  ·exact Or.inl q
  ·exact Or.inr ⟨_, q, hsz⟩
 ·refine ((Outs.of_below (below_alloc w _)).trans (Outs.of_grown HW.out.2.1 (fun k e => ?_))).trans (Outs.of_only hO (by simp))
  exact List.mem_cons_of_mem _ (List.mem_singleton.2 e.symm)
end Go.Proofs.Ytikjjpjekchcjaa
end
section
namespace AltMath
theorem nm_ok {p : Int × Int} (h1 : -1000 ≤ p.1) (h2 : p.2 ≤ 50000) : ¬ (¬ ((nm p).1 = 1 ∧ (nm p).2 = 0) ∧ ((nm p).1 < -1000 ∨ (nm p).2 < (nm p).1 ∨ 50000 < (nm p).2)) := by
 by_cases h : p.2 < p.1
 ·rw [nm_no h]; simp
 ·rw [nm_yes (by omega)]; omega
theorem ch_nm {f : Nat → Int × Int} (h : ∀ i, i < 201 → -1000 ≤ (f i).1 ∧ (f i).2 ≤ 50000) : chB (loK f 201) (hiK f 201) = 0 := by
 refine chB_zero (loK_len _ _) (hiK_len _ _) fun i hi => ?_
 unfold badAt nonAt
 rw [loK_get f hi, hiK_get f hi]
 exact nm_ok (h i hi).1 (h i hi).2
theorem meE_zero {alt size : Int} (h : meE alt size = 0) : -1000 ≤ alt ∧ alt ≤ 50000 ∧ (size = 25 ∨ size = 100) := by
 unfold meE at h
 by_cases hh : alt < -1000 ∨ 50000 < alt ∨ (size ≠ 25 ∧ size ≠ 100)
 ·rw [if_pos hh] at h; cases h
 ·omega
theorem maE_zero {lo hi : List Int} {alt size : Int} (h : maE lo hi alt size = 0) : chB lo hi = 0 ∧ meE alt size = 0 := by
 unfold maE at h
 by_cases hh : chB lo hi ≠ 0
 ·rw [if_pos hh] at h; exact absurd h hh
 ·rw [if_neg hh] at h; exact ⟨Decidable.not_not.1 hh, h⟩
theorem maE_ok {lo hi : List Int} {alt size : Int} (h1 : chB lo hi = 0) (h2 : meE alt size = 0) : maE lo hi alt size = 0 := by
 unfold maE
 rw [if_neg (fun e => e h1)]
 exact h2
theorem ch_ma {lo hi : List Int} {alt size : Int} (h1 : chB lo hi = 0) (h2 : meE alt size = 0) : chB (loK (maF lo hi alt size) 201) (hiK (maF lo hi alt size) 201) = 0 := by
 obtain ⟨a1, a2, a3⟩ := meE_zero h2
 refine ch_nm fun i hi => ?_
 have := ok_bd (chB_ok h1).2.2 hi
 unfold maF
 split
 ·exact ⟨by decide, by decide⟩
 ·constructor <;> (simp only []; omega)
theorem ch_st {lo hi : List Int} {p : Nat} : chB (loK (stF lo hi p) 201) (hiK (stF lo hi p) 201) = 0 := by
 refine ch_nm fun i _ => ?_
 unfold stF
 cases stA' lo hi p i (stN p i) with
 | none => exact ⟨by decide, by decide⟩
 | some q => unfold clip; constructor <;> (simp only []; omega)
def amB (lo hi lo' hi' : List Int) : Prop := ∀ i, i < 201 → gi lo i ≤ gi hi i → gi lo' i ≤ gi lo i ∧ gi hi i ≤ gi hi' i
theorem nm_le {p : Int × Int} (h : (nm p).1 ≤ (nm p).2) : nm p = p ∧ p.1 ≤ p.2 := by
 by_cases hh : p.2 < p.1
 ·rw [nm_no hh] at h; exact absurd h (by decide)
 ·exact ⟨nm_yes (by omega), by omega⟩
theorem am_ma {lo hi : List Int} {alt size : Int} : amB (loK (maF lo hi alt size) 201) (hiK (maF lo hi alt size) 201) lo hi := by
 intro i hi'
 rw [loK_get _ hi', hiK_get _ hi']
 intro h
 obtain ⟨e, h1⟩ := nm_le h
 rw [e]
 unfold maF at h1 ⊢
 by_cases hn : nonAt lo hi i
 ·rw [if_pos hn] at h1; exact absurd h1 (by decide)
 ·rw [if_neg hn] at h1 ⊢
  simp only [] at h1 ⊢
  omega
theorem acc_some {on : Nat → Prop} [DecidablePred on] {g : Nat → Int × Int} {a k : Nat} {q : Int × Int} (h : acc on g a k = some q) : (∃ i, i < k ∧ on (a + i) ∧ (g (a + i)).1 = q.1) ∧ (∃ i, i < k ∧ on (a + i) ∧ (g (a + i)).2 = q.2) := by
 induction k generalizing q with
 | zero => cases h
 | succ k ih =>
  unfold acc at h
  by_cases ho : on (a + k)
  ·rw [if_pos ho] at h
   cases hq : acc on g a k with
   | none =>
    rw [hq] at h
    have e : g (a + k) = q := by simpa [addO] using h
    exact ⟨⟨k, by omega, ho, by rw [e]⟩, ⟨k, by omega, ho, by rw [e]⟩⟩
   | some r =>
    rw [hq] at h
    have e : (min r.1 (g (a + k)).1, max r.2 (g (a + k)).2) = q := by simpa [addO] using h
    obtain ⟨⟨i, i1, i2, i3⟩, ⟨j, j1, j2, j3⟩⟩ := ih hq
    subst e
    refine ⟨?_, ?_⟩
    ·by_cases hm : r.1 ≤ (g (a + k)).1
     ·exact ⟨i, by omega, i2, by simp only []; omega⟩
     ·exact ⟨k, by omega, ho, by simp only []; omega⟩
    ·by_cases hm : (g (a + k)).2 ≤ r.2
     ·exact ⟨j, by omega, j2, by simp only []; omega⟩
     ·exact ⟨k, by omega, ho, by simp only []; omega⟩
  ·rw [if_neg ho] at h
   obtain ⟨⟨i, i1, i2, i3⟩, ⟨j, j1, j2, j3⟩⟩ := ih h
   exact ⟨⟨i, by omega, i2, i3⟩, ⟨j, by omega, j2, j3⟩⟩
theorem acc_in {on : Nat → Prop} [DecidablePred on] {g : Nat → Int × Int} {a k i : Nat} (hi : i < k) (ho : on (a + i)) : ∃ q, acc on g a k = some q ∧ q.1 ≤ (g (a + i)).1 ∧ (g (a + i)).2 ≤ q.2 := by
 induction k with
 | zero => omega
 | succ k ih =>
  unfold acc
  rcases Nat.lt_succ_iff_lt_or_eq.1 hi with h1 | rfl
  ·obtain ⟨q, e, q1, q2⟩ := ih h1
   by_cases hk : on (a + k)
   ·rw [if_pos hk, e]
    exact ⟨_, rfl, by simp only []; omega, by simp only []; omega⟩
   ·rw [if_neg hk, e]
    exact ⟨_, rfl, q1, q2⟩
  ·rw [if_pos ho]
   cases acc on g a i with
   | none => exact ⟨_, rfl, Int.le_refl _, Int.le_refl _⟩
   | some r => exact ⟨_, rfl, by simp only []; omega, by simp only []; omega⟩
theorem has_le {lo hi : List Int} (h : chB lo hi = 0) {i : Nat} (hi' : i < 201) : hasB lo hi i ↔ gi lo i ≤ gi hi i := (has_iff (chB_ok h).2.2 hi').symm
theorem st_in {lo hi : List Int} (h : chB lo hi = 0) {p v w : Nat} (hv : v < 201) (hw : w < 201) (h1 : w ≤ v + p) (h2 : v ≤ w + p) (hh : gi lo v ≤ gi hi v) :
    ∃ q, stA' lo hi p w (stN p w) = some q ∧ q.1 ≤ gi lo v + ((v : Int) - 100) ∧ gi hi v + ((v : Int) - 100) ≤ q.2 := by
 have e : stA p w + (v - stA p w) = v := by unfold stA; omega
 obtain ⟨q, hq, q1, q2⟩ := acc_in (on := hasB lo hi) (g := shG lo hi) (a := stA p w) (k := stN p w) (i := v - stA p w) (by unfold stN stA; omega) (by rw [e]; exact (has_le h hv).2 hh)
 rw [e] at q1 q2
 exact ⟨q, hq, q1, q2⟩
theorem st_of {lo hi : List Int} (h : chB lo hi = 0) {p w : Nat} {q : Int × Int} (hq : stA' lo hi p w (stN p w) = some q) :
    (∃ v, v < 201 ∧ w ≤ v + p ∧ v ≤ w + p ∧ gi lo v ≤ gi hi v ∧ gi lo v + ((v : Int) - 100) = q.1) ∧ (∃ v, v < 201 ∧ w ≤ v + p ∧ v ≤ w + p ∧ gi lo v ≤ gi hi v ∧ gi hi v + ((v : Int) - 100) = q.2) := by
 obtain ⟨⟨i, i1, i2, i3⟩, ⟨j, j1, j2, j3⟩⟩ := acc_some hq
 unfold stN at i1 j1
 have ei : stA p w + i < 201 ∧ w ≤ stA p w + i + p ∧ stA p w + i ≤ w + p := by unfold stA at *; omega
 have ej : stA p w + j < 201 ∧ w ≤ stA p w + j + p ∧ stA p w + j ≤ w + p := by unfold stA at *; omega
 exact ⟨⟨_, ei.1, ei.2.1, ei.2.2, (has_le h ei.1).1 i2, i3⟩, ⟨_, ej.1, ej.2.1, ej.2.2, (has_le h ej.1).1 j2, j3⟩⟩
theorem am_st {la ha lb hb : List Int} (hA : chB la ha = 0) (hB : chB lb hb = 0) (h : amB la ha lb hb) {p q : Nat} (hpq : p ≤ q) : amB (loK (stF la ha p) 201) (hiK (stF la ha p) 201) (loK (stF lb hb q) 201) (hiK (stF lb hb q) 201) := by
 intro w hw
 rw [loK_get _ hw, hiK_get _ hw, loK_get _ hw, hiK_get _ hw]
 intro hle
 obtain ⟨e, h1⟩ := nm_le hle
 rw [e]
 unfold stF at h1 ⊢
 cases hx : stA' la ha p w (stN p w) with
 | none => rw [hx] at h1; exact absurd h1 (by decide)
 | some r =>
  rw [hx] at h1
  obtain ⟨⟨v, v1, v2, v3, v4, v5⟩, ⟨u, u1, u2, u3, u4, u5⟩⟩ := st_of hA hx
  obtain ⟨b1, b2⟩ := h v v1 v4
  obtain ⟨c1, c2⟩ := h u u1 u4
  obtain ⟨s, es, s1, s2⟩ := st_in hB v1 hw (p := q) (by omega) (by omega) (by omega)
  obtain ⟨s', es', s1', s2'⟩ := st_in hB u1 hw (p := q) (by omega) (by omega) (by omega)
  rw [es] at es'
  cases es'
  rw [es]
  unfold clip at h1 ⊢
  simp only [] at h1 ⊢
  rw [nm_yes (by simp only []; omega)]
  simp only []
  omega
theorem ma_twice {lo hi : List Int} {alt size : Int} : loK (maF (loK (maF lo hi alt size) 201) (hiK (maF lo hi alt size) 201) alt size) 201 = loK (maF lo hi alt size) 201 ∧ hiK (maF (loK (maF lo hi alt size) 201) (hiK (maF lo hi alt size) 201) alt size) 201 = hiK (maF lo hi alt size) 201 := by
 have key : ∀ i, i < 201 → nm (maF (loK (maF lo hi alt size) 201) (hiK (maF lo hi alt size) 201) alt size i) = nm (maF lo hi alt size i) := by
  intro i hi'
  unfold maF
  by_cases hn : nonAt (loK (maF lo hi alt size) 201) (hiK (maF lo hi alt size) 201) i
  ·have e1 := hn.1
   have e2 := hn.2
   rw [loK_get _ hi'] at e1
   rw [hiK_get _ hi'] at e2
   have e3 : nm (maF lo hi alt size i) = (1, 0) := Prod.ext e1 e2
   unfold maF at hn e3
   rw [if_pos hn, e3]
   rfl
  ·have hp : ¬ (nm (maF lo hi alt size i)).2 < (nm (maF lo hi alt size i)).1 := by
    intro hc
    apply hn
    unfold nonAt
    rw [loK_get _ hi', hiK_get _ hi']
    by_cases h0 : (maF lo hi alt size i).2 < (maF lo hi alt size i).1
    ·rw [nm_no h0]; exact ⟨rfl, rfl⟩
    ·rw [nm_yes (by omega)] at hc; exact absurd hc h0
   obtain ⟨e, h1⟩ := nm_le (Int.not_lt.1 hp)
   have hz : ¬ nonAt lo hi i := by
    intro hz
    have : maF lo hi alt size i = (1, 0) := if_pos hz
    rw [this] at h1
    exact absurd h1 (by decide)
   have em : maF lo hi alt size i = (max (gi lo i) alt, min (gi hi i) (alt + size - 1)) := if_neg hz
   have g1 : gi (loK (maF lo hi alt size) 201) i = max (gi lo i) alt := by rw [loK_get _ hi', e, em]
   have g2 : gi (hiK (maF lo hi alt size) 201) i = min (gi hi i) (alt + size - 1) := by rw [hiK_get _ hi', e, em]
   unfold maF at hn g1 g2
   rw [if_neg hn, if_neg hz, g1, g2]
   congr 1
   refine Prod.ext ?_ ?_ <;> (simp only []; omega)
 exact ⟨loK_congr key, hiK_congr key⟩
def inB (lo hi : List Int) (z v : Int) : Prop := -100 ≤ v ∧ v ≤ 100 ∧ gi lo (v + 100).toNat ≤ z ∧ z ≤ gi hi (v + 100).toNat
theorem in_new {z v alt : Int} {size : Int} (hv : -100 ≤ v ∧ v ≤ 100) (h1 : alt ≤ z) (h2 : z ≤ alt + size - 1) (h3 : z ≤ 50000) : inB (loK (neF alt size) 201) (hiK (neF alt size) 201) z v := by
 refine ⟨hv.1, hv.2, ?_, ?_⟩
 ·rw [loK_get _ (by omega), nm_yes (by unfold neF; simp only []; omega)]
  exact h1
 ·rw [hiK_get _ (by omega), nm_yes (by unfold neF; simp only []; omega)]
  unfold neF
  simp only []
  omega
theorem in_step {lo hi : List Int} (h : chB lo hi = 0) {z v z' v' : Int} {p : Nat} (hin : inB lo hi z v) (hz : z' = z + v) (z1 : -1000 ≤ z') (z2 : z' ≤ 50000) (v1 : -100 ≤ v') (v2 : v' ≤ 100) (d1 : v' - v ≤ p) (d2 : v - v' ≤ p) :
    inB (loK (stF lo hi p) 201) (hiK (stF lo hi p) 201) z' v' := by
 obtain ⟨i1, i2, i3, i4⟩ := hin
 obtain ⟨q, hq, q1, q2⟩ := st_in h (p := p) (v := (v + 100).toNat) (w := (v' + 100).toNat) (by omega) (by omega) (by omega) (by omega) (by omega)
 have e1 : (((v + 100).toNat : Nat) : Int) = v + 100 := by omega
 rw [e1] at q1 q2
 refine ⟨v1, v2, ?_, ?_⟩
 ·rw [loK_get _ (by omega)]
  unfold stF
  rw [hq]
  unfold clip
  simp only []
  rw [nm_yes (by simp only []; omega)]
  simp only []
  omega
 ·rw [hiK_get _ (by omega)]
  unfold stF
  rw [hq]
  unfold clip
  simp only []
  rw [nm_yes (by simp only []; omega)]
  simp only []
  omega
theorem in_mea {lo hi : List Int} (h : chB lo hi = 0) {z v alt size : Int} (hin : inB lo hi z v) (h1 : alt ≤ z) (h2 : z ≤ alt + size - 1) : inB (loK (maF lo hi alt size) 201) (hiK (maF lo hi alt size) 201) z v := by
 obtain ⟨i1, i2, i3, i4⟩ := hin
 have hn : ¬ nonAt lo hi (v + 100).toNat := (has_iff (chB_ok h).2.2 (by omega)).1 (by omega)
 have em : maF lo hi alt size (v + 100).toNat = (max (gi lo (v + 100).toNat) alt, min (gi hi (v + 100).toNat) (alt + size - 1)) := if_neg hn
 refine ⟨i1, i2, ?_, ?_⟩
 ·rw [loK_get _ (by omega), em, nm_yes (by simp only []; omega)]
  simp only []
  omega
 ·rw [hiK_get _ (by omega), em, nm_yes (by simp only []; omega)]
  simp only []
  omega
theorem in_con {lo hi : List Int} (h : chB lo hi = 0) {z v : Int} (hin : inB lo hi z v) : cnB lo hi z v = true := by
 obtain ⟨i1, i2, i3, i4⟩ := hin
 unfold cnB
 rw [h, decide_eq_true i1, decide_eq_true i2, decide_eq_true i3, decide_eq_true i4]
 rfl
theorem in_spread {lo hi : List Int} (h : chB lo hi = 0) {z v : Int} (hin : inB lo hi z v) : spE lo hi = 0 ∧ (spX lo hi).low ≤ z ∧ z ≤ (spX lo hi).high ∧ (spX lo hi).slow ≤ v ∧ v ≤ (spX lo hi).fast := by
 obtain ⟨i1, i2, i3, i4⟩ := hin
 have ho : hasB lo hi (0 + (v + 100).toNat) := by rw [Nat.zero_add]; exact (has_le h (by omega)).2 (by omega)
 obtain ⟨q, hq, q1, q2⟩ := acc_in (on := hasB lo hi) (g := fun i => (gi lo i, gi hi i)) (a := 0) (k := 201) (by omega) ho
 obtain ⟨r, hr, r1, r2⟩ := acc_in (on := hasB lo hi) (g := fun i => ((i : Int) - 100, (i : Int) - 100)) (a := 0) (k := 201) (by omega) ho
 rw [Nat.zero_add] at q1 q2 r1 r2
 have eZ : spZ lo hi 201 = some q := hq
 have eV : spV lo hi 201 = some r := hr
 have e0 : spE lo hi = 0 := by unfold spE; rw [if_neg (fun e => e h), eZ]; rfl
 refine ⟨e0, ?_⟩
 unfold spX
 rw [if_pos e0, eZ, eV]
 unfold vals
 simp only [Option.getD_some] at *
 omega
def leS (z size : Int) : Int := z - z % size
theorem leS_bd {z size : Int} (hs : 0 < size) : leS z size ≤ z ∧ z ≤ leS z size + size - 1 := by
 unfold leS
 have h1 := Int.emod_nonneg z (show size ≠ 0 by omega)
 have h2 := Int.emod_lt_of_pos z hs
 omega
theorem leS_min {z : Int} (h : -1000 ≤ z) : -1000 ≤ leS z 25 := by unfold leS; omega
def onF (z v : Int) (i : Nat) : Int × Int := if (i : Int) - 100 = v then (z, z) else (1, 0)
theorem onF_yes {z v : Int} {i : Nat} (h : (i : Int) - 100 = v) : onF z v i = (z, z) := if_pos h
theorem onF_no {z v : Int} {i : Nat} (h : ¬ (i : Int) - 100 = v) : onF z v i = (1, 0) := if_neg h
theorem nm_onF (z v : Int) (i : Nat) : nm (onF z v i) = onF z v i := by
 by_cases h : (i : Int) - 100 = v
 ·rw [onF_yes h]; exact nm_yes (Int.le_refl _)
 ·rw [onF_no h]; rfl
def onL (z v : Int) : List Int := loK (onF z v) 201
def onH (z v : Int) : List Int := hiK (onF z v) 201
theorem on_get {z v : Int} {i : Nat} (h : i < 201) : gi (onL z v) i = (onF z v i).1 ∧ gi (onH z v) i = (onF z v i).2 := by
 unfold onL onH
 rw [loK_get _ h, hiK_get _ h, nm_onF]
 exact ⟨rfl, rfl⟩
theorem on_ch {z v : Int} (h1 : -1000 ≤ z) (h2 : z ≤ 50000) : chB (onL z v) (onH z v) = 0 := by
 refine ch_nm fun i _ => ?_
 by_cases h : (i : Int) - 100 = v
 ·rw [onF_yes h]; exact ⟨h1, h2⟩
 ·rw [onF_no h]; exact ⟨by decide, by decide⟩
theorem on_in {z v : Int} (h1 : -100 ≤ v) (h2 : v ≤ 100) : inB (onL z v) (onH z v) z v := by
 obtain ⟨e1, e2⟩ := on_get (z := z) (v := v) (i := (v + 100).toNat) (by omega)
 rw [onF_yes (by omega)] at e1 e2
 exact ⟨h1, h2, by rw [e1]; exact Int.le_refl _, by rw [e2]; exact Int.le_refl _⟩
theorem on_has {z v : Int} (h1 : -1000 ≤ z) (h2 : z ≤ 50000) {i : Nat} (hi : i < 201) (h : hasB (onL z v) (onH z v) i) : (i : Int) - 100 = v := by
 have hl := (has_le (on_ch h1 h2) hi).1 h
 obtain ⟨e1, e2⟩ := on_get (z := z) (v := v) hi
 by_cases hv : (i : Int) - 100 = v
 ·exact hv
 ·rw [onF_no hv] at e1 e2
  rw [e1, e2] at hl
  exact absurd hl (by decide)
theorem on_spread {z v : Int} (h1 : -1000 ≤ z) (h2 : z ≤ 50000) (v1 : -100 ≤ v) (v2 : v ≤ 100) : spE (onL z v) (onH z v) = 0 ∧ spX (onL z v) (onH z v) = ⟨z, z, v, v⟩ := by
 obtain ⟨e0, b1, b2, b3, b4⟩ := in_spread (on_ch h1 h2) (on_in (z := z) v1 v2)
 refine ⟨e0, ?_⟩
 have ho : hasB (onL z v) (onH z v) (0 + (v + 100).toNat) := by
  rw [Nat.zero_add]
  have := on_in (z := z) v1 v2
  obtain ⟨_, _, i3, i4⟩ := this
  exact (has_le (on_ch h1 h2) (by omega)).2 (by omega)
 obtain ⟨q, hq, _, _⟩ := acc_in (on := hasB (onL z v) (onH z v)) (g := fun i => (gi (onL z v) i, gi (onH z v) i)) (a := 0) (k := 201) (by omega) ho
 obtain ⟨r, hr, _, _⟩ := acc_in (on := hasB (onL z v) (onH z v)) (g := fun i => ((i : Int) - 100, (i : Int) - 100)) (a := 0) (k := 201) (by omega) ho
 obtain ⟨⟨i, i1, i2, i3⟩, ⟨j, j1, j2, j3⟩⟩ := acc_some hq
 obtain ⟨⟨i', i1', i2', i3'⟩, ⟨j', j1', j2', j3'⟩⟩ := acc_some hr
 rw [Nat.zero_add] at i2 i3 j2 j3 i2' i3' j2' j3'
 have eZ : spZ (onL z v) (onH z v) 201 = some q := hq
 have eV : spV (onL z v) (onH z v) 201 = some r := hr
 have f1 := on_has h1 h2 i1 i2
 have f2 := on_has h1 h2 j1 j2
 have f3 := on_has h1 h2 i1' i2'
 have f4 := on_has h1 h2 j1' j2'
 rw [(on_get i1).1, onF_yes f1] at i3
 rw [(on_get j1).2, onF_yes f2] at j3
 simp only [] at i3 j3 i3' j3'
 unfold spX
 rw [if_pos e0, eZ, eV]
 unfold vals
 simp only [Option.getD_some]
 rw [← i3, ← j3, ← i3', ← j3', f3, f4]
theorem on_best {z v : Int} {k : Nat} : beV (onL z v) (onH z v) v v k = v := by
 induction k with
 | zero => rfl
 | succ k ih =>
  unfold beV
  rw [ih, if_neg]
  rintro ⟨-, h⟩
  unfold farV at h
  omega
theorem on_step {z v : Int} (h1 : -1000 ≤ z) (h2 : z ≤ 50000) {w : Nat} (hw : w < 201) : nm (stF (onL z v) (onH z v) 0 w) = if -1000 ≤ z + v ∧ z + v ≤ 50000 then onF (z + v) v w else (1, 0) := by
 unfold stF
 cases hx : stA' (onL z v) (onH z v) 0 w (stN 0 w) with
 | none =>
  have hn : ¬ (w : Int) - 100 = v := by
   intro hv
   obtain ⟨e1, e2⟩ := on_get (z := z) (v := v) hw
   rw [onF_yes hv] at e1 e2
   obtain ⟨q, hq, _⟩ := st_in (on_ch h1 h2 (v := v)) (p := 0) hw hw (by omega) (by omega) (by rw [e1, e2]; exact Int.le_refl _)
   rw [hx] at hq
   cases hq
  rw [onF_no hn]
  split <;> rfl
 | some q =>
  obtain ⟨⟨i, i1, i2, i3, i4, i5⟩, ⟨j, j1, j2, j3, j4, j5⟩⟩ := st_of (on_ch h1 h2 (v := v)) hx
  obtain rfl : i = w := by omega
  obtain rfl : j = i := by omega
  have hv := on_has h1 h2 hw ((has_le (on_ch h1 h2) hw).2 i4)
  obtain ⟨e1, e2⟩ := on_get (z := z) (v := v) hw
  rw [onF_yes hv] at e1 e2
  rw [e1] at i5
  rw [e2] at j5
  simp only [] at i5 j5
  rw [onF_yes hv]
  unfold clip
  simp only []
  by_cases hb : -1000 ≤ z + v ∧ z + v ≤ 50000
  ·rw [if_pos hb, nm_yes (by simp only []; omega)]
   refine Prod.ext ?_ ?_ <;> (simp only []; omega)
  ·rw [if_neg hb, nm_no (by simp only []; omega)]
theorem on_next {z v : Int} (h1 : -1000 ≤ z) (h2 : z ≤ 50000) (h : -1000 ≤ z + v ∧ z + v ≤ 50000) : loK (stF (onL z v) (onH z v) 0) 201 = onL (z + v) v ∧ hiK (stF (onL z v) (onH z v) 0) 201 = onH (z + v) v := by
 have key : ∀ i, i < 201 → nm (stF (onL z v) (onH z v) 0 i) = nm (onF (z + v) v i) := fun i hi => by rw [on_step h1 h2 hi, if_pos h, nm_onF]
 exact ⟨loK_congr key, hiK_congr key⟩
theorem on_gone {z v : Int} (h1 : -1000 ≤ z) (h2 : z ≤ 50000) (h : ¬ (-1000 ≤ z + v ∧ z + v ≤ 50000)) : spE (loK (stF (onL z v) (onH z v) 0) 201) (hiK (stF (onL z v) (onH z v) 0) 201) = 9 := by
 have hc : chB (loK (stF (onL z v) (onH z v) 0) 201) (hiK (stF (onL z v) (onH z v) 0) 201) = 0 := ch_st
 unfold spE
 rw [if_neg (fun e => e hc)]
 cases hz : spZ (loK (stF (onL z v) (onH z v) 0) 201) (hiK (stF (onL z v) (onH z v) 0) 201) 201 with
 | none => rfl
 | some q =>
  obtain ⟨⟨i, i1, i2, _⟩, _⟩ := acc_some hz
  rw [Nat.zero_add] at i2
  exfalso
  have := (has_le hc i1).1 i2
  rw [loK_get _ i1, hiK_get _ i1, on_step h1 h2 i1, if_neg h] at this
  exact absurd this (by decide)
end AltMath
end
section
namespace Go.Proofs.Ytikjjpjekchcjaa
open Go.RowKit TrkMath MyHeap MyOwn
theorem ch_mea {lo hi : List Int} {l : Lv} (h : AltMath.chB lo hi = 0) (hl : LvOk l) : AltMath.chB (meaL lo hi l) (meaH lo hi l) = 0 := by
 by_cases hs : 0 < l.2
 ·rw [(mea_yes hs).1, (mea_yes hs).2]; exact AltMath.ch_ma h (hl hs)
 ·rw [(mea_no hs).1, (mea_no hs).2]; exact h
def LvAt (g : Nat) (LV : List Lv) (w : World) : Prop := ∃ cs : Array Value, w.heap[g]? = some (.cells cs 84 (0, 0)) ∧ cs.toList = flat2 LV
theorem LvAt.below {g : Nat} {LV : List Lv} {w w' : World} (h : LvAt g LV w) (hb : Below w.heap.size w w') : LvAt g LV w' := by
 obtain ⟨cs, h1, h2⟩ := h
 exact ⟨cs, keepO hb h1, h2⟩
theorem LvAt.outs {X : List (Option Nat)} {g : Nat} {LV : List Lv} {w w' : World} (h : LvAt g LV w) (hb : Outs X w w') (hn : some g ∉ X) : LvAt g LV w' := by
 obtain ⟨cs, h1, h2⟩ := h
 exact ⟨cs, hb.keeps h1 hn, h2⟩
theorem LvAt.at {g : Nat} {LV : List Lv} {w : World} (h : LvAt g LV w) {k : Nat} (hk : k < LV.length) : w.cell? ⟨g, k * 2, none⟩ = some (.int .i64 (gl LV k).1) ∧ w.cell? ⟨g, k * 2 + 1, none⟩ = some (.int .i64 (gl LV k).2) := by
 obtain ⟨cs, h1, h2⟩ := h
 have hx := flat2_get LV k hk
 rw [← h2] at hx
 exact ⟨cell_of_block h1 (by simpa [gl] using hx.1), cell_of_block h1 (by simpa [gl] using hx.2)⟩
def bdV' (s : Bs) : Value := .agg #[.slice s.aL s.nL s.cL, .slice s.aH s.nH s.cH]
def MePost (t : Tk) (s : Bs) (lo' hi' : List Int) (w : World) (e : Ending) (w' : World) : Prop :=
 ∃ s' : Bs, e = .returned (.tuple #[bdV' s', .bool (!emptyB lo' hi')]) ∧ Below w.heap.size w w' ∧
  ∀ (B : Nat) (X : List (Option Nat)), B ≤ w.heap.size → (∀ g, some g ∈ X → g < w.heap.size) → BdX B X w (t, s) → BdX B X w' ({ t with lo := lo', hi := hi' }, s')
theorem two_stored {W : World} {b : Nat} {T : TypeId} {c0 c1 : Value} (h : W.heap[b]? = some (.cells #[c0, c1] T (0, 0))) (x y : Value) : ((W.setCell ⟨b, 0, none⟩ x).setCell ⟨b, 1, none⟩ y).heap[b]? = some (.cells #[x, y] T (0, 0)) := by
 have := block_setCell (i := 1) (v := y) (block_setCell (i := 0) (v := x) h)
 simpa using this
theorem two_only (W : World) (b : Nat) (x y : Value) : Only b W ((W.setCell ⟨b, 0, none⟩ x).setCell ⟨b, 1, none⟩ y) := ((Only.refl _ W).setCell 0 x).setCell 1 y
theorem me_own {w W : World} {b0 : Nat} {t : Tk} {lo' hi' : List Int} {aP aQ : Option Addr} {cP cQ : Nat} (h : Alt.TwoOwn b0 (.slice aP 201 cP) (.slice aQ 201 cQ) lo' hi' W) (hb : w.heap.size ≤ b0) (l1 : lo'.length = 201) (l2 : hi'.length = 201) :
    ∀ (B : Nat) (X : List (Option Nat)), B ≤ w.heap.size → (∀ g, some g ∈ X → g < w.heap.size) → BdX B X W ({ t with lo := lo', hi := hi' }, ⟨aP, 201, cP, aQ, 201, cQ⟩) := by
 intro B X hB hX
 obtain ⟨⟨a1, n1, d1, a2, n2, d2⟩, e1, e2, hb1⟩ := BdX.of_own (X := X) (t := { t with lo := lo', hi := hi' }) h (Nat.le_of_eq l1) (Nat.le_of_eq l2) (fun g hg => Nat.lt_of_lt_of_le (hX g hg) hb)
 simp only [Value.slice.injEq] at e1 e2
 obtain ⟨rfl, rfl, rfl⟩ := e1
 obtain ⟨rfl, rfl, rfl⟩ := e2
 exact hb1.base (Nat.le_trans hB hb)
theorem mePost_of {t : Tk} {s s' : Bs} {lo' hi' : List Int} {b : Bool} {w w' : World} (h0 : b = !emptyB lo' hi') (h1 : Below w.heap.size w w') (h2 : ∀ (B : Nat) (X : List (Option Nat)), B ≤ w.heap.size → (∀ g, some g ∈ X → g < w.heap.size) → BdX B X w (t, s) → BdX B X w' ({ t with lo := lo', hi := hi' }, s')) :
    MePost t s lo' hi' w (.returned (.tuple #[bdV' s', .bool b])) w' := by subst h0; exact ⟨s', rfl, h1, h2⟩
set_option maxRecDepth 100000 in
set_option maxHeartbeats 8000000 in
theorem measure_call (r g n c : Nat) (p : Par) (now next : Int) (tV pV eV : Value) (LV : List Lv) (t : Tk) (s : Bs) (k : Nat) (w : World) (hR : RunAt r p now next tV pV (.slice (some ⟨g, 0, none⟩) n c) eV w) (hL : LvAt g LV w) (hn : LV.length = n) (hk : k < n) (hl : LvOk (gl LV k)) (hC : AltMath.chB t.lo t.hi = 0) (hI : BdI w (t, s)) :
    Calls Try.prog 61 #[.pointer (some ⟨r, 0, none⟩), bdV' s, .int .i64 (k : Int)] w (MePost t s (meaL t.lo t.hi (gl LV k)) (meaH t.lo t.hi (gl LV k)) w) := by
 obtain ⟨c0, c1⟩ := hL.at (k := k) (by omega)
 obtain ⟨⟨A, S⟩, hA⟩ : ∃ l, gl LV k = l := ⟨_, rfl⟩
 rw [hA] at c0 c1 hl ⊢
 obtain ⟨aL, nL, cL, aH, nH, cH⟩ := s
 obtain ⟨-, -, -, -, -, -, -, -, r8, -⟩ := hR.cells
 have HI := Lib.hid hI
 have HC := Lib.hid (And.intro hC hl)
 have rl := hR.lt
 have gq := World.block_lt_of_cell? _ _ c0
 have hk0 : (0 : Int) ≤ (k : Int) := by omega
 have hk1 : (k : Int) < (n : Int) := by omega
 have HB := Lib.hid (((below_alloc w (.cells #[.slice aL nL cL, .slice aH nH cH] 44)).alloc (by simp) (.cells #[.slice none 0 0, .slice none 0 0] 44)).alloc (by simp; omega) (.cells #[.int .i64 A, .int .i64 S] 84))
 have HX := Lib.hid (show (((w.alloc (.cells #[.slice aL nL cL, .slice aH nH cH] 44)).alloc (.cells #[.slice none 0 0, .slice none 0 0] 44)).alloc (.cells #[.int .i64 A, .int .i64 S] 84)).heap[w.heap.size]? = some (.cells #[.slice aL nL cL, .slice aH nH cH] 44 (0, 0)) ∧
     (((w.alloc (.cells #[.slice aL nL cL, .slice aH nH cH] 44)).alloc (.cells #[.slice none 0 0, .slice none 0 0] 44)).alloc (.cells #[.int .i64 A, .int .i64 S] 84)).heap[w.heap.size + 1]? = some (.cells #[.slice none 0 0, .slice none 0 0] 44 (0, 0)) ∧
     (((w.alloc (.cells #[.slice aL nL cL, .slice aH nH cH] 44)).alloc (.cells #[.slice none 0 0, .slice none 0 0] 44)).alloc (.cells #[.int .i64 A, .int .i64 S] 84)).heap[w.heap.size + 1 + 1]? = some (.cells #[.int .i64 A, .int .i64 S] 84 (0, 0))
  from ⟨block_alloc (block_alloc (block_new _ _ rfl)), block_alloc (block_new _ _ (by simp)), block_new _ _ (by simp)⟩)
 clear hR hL hI hC hl hA
 unfold bdV'
 simp only []
 by_cases hs : 0 < S
 ·have HS := Lib.hid hs
  have HM := Lib.hid (show meaL t.lo t.hi (A, S) = AltMath.loK (AltMath.maF t.lo t.hi A S) 201 ∧ meaH t.lo t.hi (A, S) = AltMath.hiK (AltMath.maF t.lo t.hi A S) 201 from mea_yes (l := (A, S)) hs)
  go_enter Try.func61, Try.ntmps61
  go_wp2_with fail
  obtain ⟨lo', hlo⟩ : ∃ l, AltMath.loK (AltMath.maF t.lo t.hi A S) 201 = l := ⟨_, rfl⟩
  obtain ⟨hi', hhi⟩ : ∃ l, AltMath.hiK (AltMath.maF t.lo t.hi A S) 201 = l := ⟨_, rfl⟩
  have l1 : lo'.length = 201 := by rw [← hlo]; exact AltMath.loK_len _ _
  have l2 : hi'.length = 201 := by rw [← hhi]; exact AltMath.hiK_len _ _
  have HE0 := Lib.hid (show AltMath.maE t.lo t.hi A S = 0 from AltMath.maE_ok HC.out.1 (HC.out.2 HS.out))
  rw [hlo, hhi] at HM
  have hcall := Alt.pMea_call aL aH nL nH cL cH t.lo t.hi A S _ (HI.out.L.below HB.out) (HI.out.H.below HB.out)
  rw [hlo, hhi, HE0.out] at hcall
  have HCh := Lib.hid (show AltMath.chB lo' hi' = 0 from by rw [← hlo, ← hhi]; exact AltMath.ch_ma HC.out.1 (HC.out.2 HS.out))
  clear hlo hhi
  refine hcall.mono ?_; rintro e w1 ⟨vL, vH, rfl, hT, -, hb⟩
  clear hcall
  replace hT := hT rfl
  obtain ⟨aP, cP, rfl⟩ := row_slice (l1 ▸ hT.L)
  obtain ⟨aQ, cQ, rfl⟩ := row_slice (l2 ▸ hT.H)
  have HLn := Lib.hid (And.intro l1 l2)
  clear l1 l2
  have HT := Lib.hid hT
  have HZ := Lib.hid hb.size
  have K := Lib.hid (And.intro (HB.out.trans (hb.mono HB.out.size)) (And.intro (keepO hb HX.out.1) (keepO hb HX.out.2.1)))
  obtain ⟨x0, x1, f0, f1⟩ := Alt.two_facts K.out.2.1
  have xl := lt_of_block K.out.2.1
  clear hb hT r8 rl gq c0 c1 hk0 hk1
  go_wp2_with fail
  have hO := two_only w1 w.heap.size (.slice aP 201 cP) (.slice aQ 201 cQ)
  have hsz : ∀ W : World, (((w.alloc (.cells #[.slice aL nL cL, .slice aH nH cH] 44)).alloc (.cells #[.slice none 0 0, .slice none 0 0] 44)).alloc (.cells #[.int .i64 A, .int .i64 S] 84)).heap.size ≤ W.heap.size → w.heap.size + 1 + 1 < W.heap.size := fun W h => by simp at h; omega
  have K2 := Lib.hid (And.intro (K.out.1.trans (hO.below (Nat.le_refl _) K.out.1.size)) (And.intro (two_stored K.out.2.1 (.slice aP 201 cP) (.slice aQ 201 cQ)) (hO.keeps K.out.2.2 (Nat.succ_ne_self _))))
  have HT2 := Lib.hid (show Alt.TwoOwn (((w.alloc (.cells #[.slice aL nL cL, .slice aH nH cH] 44)).alloc (.cells #[.slice none 0 0, .slice none 0 0] 44)).alloc (.cells #[.int .i64 A, .int .i64 S] 84)).heap.size (.slice aP 201 cP) (.slice aQ 201 cQ) lo' hi' _ from
   ⟨Outs.row (Outs.of_only (X := [some w.heap.size]) hO (List.mem_singleton.2 rfl)) HT.out.L (fun g e h => by have h1 := (HT.out.L.lt g e).1; have h2 := Option.some.inj (List.mem_singleton.1 h); simp at h1; omega), Outs.row (Outs.of_only (X := [some w.heap.size]) hO (List.mem_singleton.2 rfl)) HT.out.H (fun g e h => by have h1 := (HT.out.H.lt g e).1; have h2 := Option.some.inj (List.mem_singleton.1 h); simp at h1; omega), HT.out.A⟩)
  clear x0 x1 f0 f1 xl hO
  obtain ⟨a1, d1, e1, hI1⟩ := ints_own HT2.out.L (by rw [HLn.out.1]; decide)
  obtain ⟨a2, d2, e2, hI2⟩ := ints_own HT2.out.H (by rw [HLn.out.2]; decide)
  rw [HLn.out.1] at e1 hI1
  rw [HLn.out.2] at e2 hI2
  cases e1
  cases e2
  generalize (w1.setCell ⟨w.heap.size, 0, none⟩ (.slice aP 201 cP)).setCell ⟨w.heap.size, 1, none⟩ (.slice aQ 201 cQ) = w2 at *
  refine (Alt.pEmpty_call _ _ 201 201 _ _ lo' hi' _ hI1 hI2).mono ?_; rintro e w3 ⟨rfl, hb⟩
  replace K2 := Lib.hid (And.intro (K2.out.1.trans (hb.mono K2.out.1.size)) (And.intro (keepO hb K2.out.2.1) (keepO hb K2.out.2.2)))
  replace HT2 := Lib.hid (HT2.out.below hb)
  obtain ⟨x0, x1, f0, f1⟩ := Alt.two_facts K2.out.2.1
  have xl := lt_of_block K2.out.2.1
  obtain ⟨z0, z1, g0, g1⟩ := Alt.two_facts K2.out.2.2
  have zl := lt_of_block K2.out.2.2
  obtain ⟨EB, hEB⟩ : ∃ b, Alt.emB lo' hi' = b := ⟨_, rfl⟩
  have HEB := Lib.hid (show emptyB lo' hi' = EB from hEB)
  rw [hEB]
  clear hb hEB
  go_wp2_with fail
  have hO := two_only w3 (w.heap.size + 1) (.slice aP 201 cP) (.slice aQ 201 cQ)
  have hx := two_stored K2.out.2.2 (.slice aP 201 cP) (.slice aQ 201 cQ)
  have s0 := cell_of_block (i := 0) (v := .slice aP 201 cP) hx rfl
  have s1 := cell_of_block (i := 1) (v := .slice aQ 201 cQ) hx rfl
  refine bodyPost_ret (v := .tuple #[.agg #[.slice aP 201 cP, .slice aQ 201 cQ], .bool (!EB)]) ?_ rfl ?_
  ·simp [results, Try.f61, go_sem, s0, s1]
  ·rw [HM.out.1, HM.out.2]
   refine mePost_of (s' := ⟨aP, 201, cP, aQ, 201, cQ⟩) (by rw [HEB.out]) (K2.out.1.trans (hO.below (Nat.le_succ _) K2.out.1.size)) ?_
   have hT9 : Alt.TwoOwn _ _ _ lo' hi' _ := ⟨Outs.row (Outs.of_only (X := [some (w.heap.size + 1)]) hO (List.mem_singleton.2 rfl)) HT2.out.L (fun g e h => by have h1 := (HT2.out.L.lt g e).1; have h2 := Option.some.inj (List.mem_singleton.1 h); simp at h1; omega), Outs.row (Outs.of_only (X := [some (w.heap.size + 1)]) hO (List.mem_singleton.2 rfl)) HT2.out.H (fun g e h => by have h1 := (HT2.out.H.lt g e).1; have h2 := Option.some.inj (List.mem_singleton.1 h); simp at h1; omega), HT2.out.A⟩
   exact fun B X hB hX _ => me_own (t := t) hT9 (by simp; omega) HLn.out.1 HLn.out.2 B X hB hX
 ·have HM := Lib.hid (show meaL t.lo t.hi (A, S) = t.lo ∧ meaH t.lo t.hi (A, S) = t.hi from mea_no (l := (A, S)) hs)
  have HI2 := Lib.hid (And.intro (HI.out.L.below HB.out) (HI.out.H.below HB.out))
  go_enter Try.func61, Try.ntmps61
  go_wp2_with fail
  refine (Alt.pEmpty_call aL aH nL nH cL cH t.lo t.hi _ HI2.out.1 HI2.out.2).mono ?_; rintro e w3 ⟨rfl, hb⟩
  have K2 := Lib.hid (And.intro HB.out (And.intro HX.out.1 HX.out.2.1))
  replace K2 := Lib.hid (And.intro (K2.out.1.trans (hb.mono K2.out.1.size)) (And.intro (keepO hb K2.out.2.1) (keepO hb K2.out.2.2)))
  clear r8 rl gq c0 c1 hk0 hk1
  obtain ⟨x0, x1, f0, f1⟩ := Alt.two_facts K2.out.2.1
  have xl := lt_of_block K2.out.2.1
  obtain ⟨z0, z1, g0, g1⟩ := Alt.two_facts K2.out.2.2
  have zl := lt_of_block K2.out.2.2
  obtain ⟨EB, hEB⟩ : ∃ b, Alt.emB t.lo t.hi = b := ⟨_, rfl⟩
  have HEB := Lib.hid (show emptyB t.lo t.hi = EB from hEB)
  rw [hEB]
  clear hb hEB
  go_wp2_with fail
  have hO := two_only w3 (w.heap.size + 1) (.slice aL nL cL) (.slice aH nH cH)
  have hx := two_stored K2.out.2.2 (.slice aL nL cL) (.slice aH nH cH)
  have s0 := cell_of_block (i := 0) (v := .slice aL nL cL) hx rfl
  have s1 := cell_of_block (i := 1) (v := .slice aH nH cH) hx rfl
  refine bodyPost_ret (v := .tuple #[.agg #[.slice aL nL cL, .slice aH nH cH], .bool (!EB)]) ?_ rfl ?_
  ·simp [results, Try.f61, go_sem, s0, s1]
  ·rw [HM.out.1, HM.out.2]
   refine mePost_of (s' := ⟨aL, nL, cL, aH, nH, cH⟩) (by rw [HEB.out]) (K2.out.1.trans (hO.below (Nat.le_succ _) K2.out.1.size)) ?_
   intro B X hB hX hbd
   exact hbd.outs (Outs.of_below (K2.out.1.trans (hO.below (Nat.le_succ _) K2.out.1.size)))
end Go.Proofs.Ytikjjpjekchcjaa
end
