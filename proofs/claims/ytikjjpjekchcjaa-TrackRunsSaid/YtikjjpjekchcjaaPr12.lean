/-
  TrkF, TrkH, AltLaw
-/
import Derived.Test.YtikjjpjekchcjaaPr11
import Derived.Test.YtikjjpjekchcjaaPr3
import Derived.Test.YtikjjpjekchcjaaPr1
set_option linter.all false
set_option maxRecDepth 100000
set_option maxHeartbeats 64000000
section
namespace Go.Proofs.Ytikjjpjekchcjaa
open Go.RowKit TrkMath MyHeap MyOwn
theorem rgE_two (x : Rg) : rgE x = 0 ∨ rgE x = 1 := by unfold rgE; split <;> simp
def BoolIs (b : Bool) (w : World) (e : Ending) (w' : World) : Prop := e = .returned (.bool b) ∧ w = w'
theorem in_t (n lo hi : Int) (w : World) (h : lo ≤ n ∧ n ≤ hi) : Calls Try.prog 22 #[.int .i64 n, .int .i64 lo, .int .i64 hi] w (BoolIs true w) := by
 obtain ⟨h1, h2⟩ := h
 go_enter Try.func22, Try.ntmps22
 go_wp2_with fail
 go_ret
 exact ⟨rfl, rfl⟩
theorem in_f (n lo hi : Int) (w : World) (h : ¬ (lo ≤ n ∧ n ≤ hi)) : Calls Try.prog 22 #[.int .i64 n, .int .i64 lo, .int .i64 hi] w (BoolIs false w) := by
 by_cases h1 : lo ≤ n
 ·have h2 : ¬ n ≤ hi := fun e => h ⟨h1, e⟩
  clear h
  go_enter Try.func22, Try.ntmps22
  go_wp2_with fail
  go_ret
  exact ⟨rfl, rfl⟩
 clear h
 go_enter Try.func22, Try.ntmps22
 go_wp2_with fail
 go_ret
 exact ⟨rfl, rfl⟩
def parV (p : Par) : Value := .agg #[.int .i64 p.gate, .int .i64 p.need, .int .i64 p.most, .int .i64 p.pull]
theorem pchk_call (p : Par) (w : World) : Calls Try.prog 29 #[parV p] w (NPost (parE p) w) := by
 have HB := qh (below_alloc w (.cells #[.int .i64 p.gate, .int .i64 p.need, .int .i64 p.most, .int .i64 p.pull] 23))
 unfold parV
 by_cases h0 : 1 ≤ p.gate ∧ p.gate ≤ 256
 ·have H0 := qh h0
  clear h0
  by_cases h1 : 1 ≤ p.need ∧ p.need ≤ 8
  ·have H1 := qh h1
   clear h1
   by_cases h2 : 1 ≤ p.most ∧ p.most ≤ 15
   ·have H2 := qh h2
    clear h2
    by_cases h3 : 0 ≤ p.pull ∧ p.pull ≤ 32
    ·have H3 := qh h3
     clear h3
     have HE := qh (parE_ok (p := p) ⟨H0.out, H1.out, H2.out, H3.out⟩)
     go_enter Try.func29, Try.ntmps29
     go_wp2_with fail
     refine (in_t _ _ _ _ H0.out).mono ?_; rintro e w0 ⟨rfl, rfl⟩
     go_wp2_with fail
     refine (in_t _ _ _ _ H1.out).mono ?_; rintro e w0 ⟨rfl, rfl⟩
     go_wp2_with fail
     refine (in_t _ _ _ _ H2.out).mono ?_; rintro e w0 ⟨rfl, rfl⟩
     go_wp2_with fail
     refine (in_t _ _ _ _ H3.out).mono ?_; rintro e w0 ⟨rfl, rfl⟩
     go_wp2_with fail
     go_ret
     exact nPost_of HE.out.symm HB.out
    have H3 := qh h3
    have HE := qh (parE_bad (p := p) (fun h => H3.out h.2.2.2))
    clear h3
    go_enter Try.func29, Try.ntmps29
    go_wp2_with fail
    refine (in_t _ _ _ _ H0.out).mono ?_; rintro e w0 ⟨rfl, rfl⟩
    go_wp2_with fail
    refine (in_t _ _ _ _ H1.out).mono ?_; rintro e w0 ⟨rfl, rfl⟩
    go_wp2_with fail
    refine (in_t _ _ _ _ H2.out).mono ?_; rintro e w0 ⟨rfl, rfl⟩
    go_wp2_with fail
    refine (in_f _ _ _ _ H3.out).mono ?_; rintro e w0 ⟨rfl, rfl⟩
    go_wp2_with fail
    go_ret
    exact nPost_of HE.out.symm HB.out
   have H2 := qh h2
   have HE := qh (parE_bad (p := p) (fun h => H2.out h.2.2.1))
   clear h2
   go_enter Try.func29, Try.ntmps29
   go_wp2_with fail
   refine (in_t _ _ _ _ H0.out).mono ?_; rintro e w0 ⟨rfl, rfl⟩
   go_wp2_with fail
   refine (in_t _ _ _ _ H1.out).mono ?_; rintro e w0 ⟨rfl, rfl⟩
   go_wp2_with fail
   refine (in_f _ _ _ _ H2.out).mono ?_; rintro e w0 ⟨rfl, rfl⟩
   go_wp2_with fail
   go_ret
   exact nPost_of HE.out.symm HB.out
  have H1 := qh h1
  have HE := qh (parE_bad (p := p) (fun h => H1.out h.2.1))
  clear h1
  go_enter Try.func29, Try.ntmps29
  go_wp2_with fail
  refine (in_t _ _ _ _ H0.out).mono ?_; rintro e w0 ⟨rfl, rfl⟩
  go_wp2_with fail
  refine (in_f _ _ _ _ H1.out).mono ?_; rintro e w0 ⟨rfl, rfl⟩
  go_wp2_with fail
  go_ret
  exact nPost_of HE.out.symm HB.out
 have H0 := qh h0
 have HE := qh (parE_bad (p := p) (fun h => H0.out h.1))
 clear h0
 go_enter Try.func29, Try.ntmps29
 go_wp2_with fail
 refine (in_f _ _ _ _ H0.out).mono ?_; rintro e w0 ⟨rfl, rfl⟩
 go_wp2_with fail
 go_ret
 exact nPost_of HE.out.symm HB.out
theorem tb_stored {w W : World} {b : Nat} {T : TypeId} {a0 a1 a2 a3 a4 a5 a6 : Value} (h : Below w.heap.size w W) (hb : W.heap[b]? = some (.cells #[a0, a1, a2, a3, a4, a5, a6] T (0, 0))) (hle : w.heap.size ≤ b) (x0 x1 x2 x3 x4 x5 x6 : Value) :
    Below w.heap.size w (((((((W.setCell ⟨b, 0, none⟩ x0).setCell ⟨b, 1, none⟩ x1).setCell ⟨b, 2, none⟩ x2).setCell ⟨b, 3, none⟩ x3).setCell ⟨b, 4, none⟩ x4).setCell ⟨b, 5, none⟩ x5).setCell ⟨b, 6, none⟩ x6) ∧
    (((((((W.setCell ⟨b, 0, none⟩ x0).setCell ⟨b, 1, none⟩ x1).setCell ⟨b, 2, none⟩ x2).setCell ⟨b, 3, none⟩ x3).setCell ⟨b, 4, none⟩ x4).setCell ⟨b, 5, none⟩ x5).setCell ⟨b, 6, none⟩ x6).heap[b]? = some (.cells #[x0, x1, x2, x3, x4, x5, x6] T (0, 0)) := by
 have o : Only b W (((((((W.setCell ⟨b, 0, none⟩ x0).setCell ⟨b, 1, none⟩ x1).setCell ⟨b, 2, none⟩ x2).setCell ⟨b, 3, none⟩ x3).setCell ⟨b, 4, none⟩ x4).setCell ⟨b, 5, none⟩ x5).setCell ⟨b, 6, none⟩ x6) := (((((((Only.refl _ _).setCell _ _).setCell _ _).setCell _ _).setCell _ _).setCell _ _).setCell _ _).setCell _ _
 refine ⟨h.trans (o.below hle h.size), ?_⟩
 have h1 := block_setCell (i := 6) (v := x6) (block_setCell (i := 5) (v := x5) (block_setCell (i := 4) (v := x4) (block_setCell (i := 3) (v := x3) (block_setCell (i := 2) (v := x2) (block_setCell (i := 1) (v := x1) (block_setCell (i := 0) (v := x0) hb))))))
 simpa using h1
def TbPost (p : Par) (now next : Int) (tV : Value) (E : Int) (w : World) (e : Ending) (w' : World) : Prop := e = .returned (.tuple #[tbV p now next tV, .int .i64 E]) ∧ Below w.heap.size w w'
def par0 : Par := ⟨0, 0, 0, 0⟩
def nwP (p : Par) : Par := if parE p = 0 then p else par0
theorem nwP_ok {p : Par} (h : parE p = 0) : nwP p = p := if_pos h
theorem nwP_bad {p : Par} (h : parE p = 1) : nwP p = par0 := if_neg (by rw [h]; decide)
theorem seven_new {w : World} {b : Nat} {T : TypeId} {c0 c1 c2 c3 c4 c5 c6 : Value} (h : w.heap[b]? = some (.cells #[c0, c1, c2, c3, c4, c5, c6] T (0, 0))) :
    w.cell? ⟨b, 0, none⟩ = some c0 ∧ w.cell? ⟨b, 1, none⟩ = some c1 ∧ w.cell? ⟨b, 2, none⟩ = some c2 ∧ w.cell? ⟨b, 3, none⟩ = some c3 ∧ w.cell? ⟨b, 4, none⟩ = some c4 ∧ w.cell? ⟨b, 5, none⟩ = some c5 ∧ w.cell? ⟨b, 6, none⟩ = some c6 :=
 ⟨cell_of_block h rfl, cell_of_block h rfl, cell_of_block h rfl, cell_of_block h rfl, cell_of_block h rfl, cell_of_block h rfl, cell_of_block h rfl⟩
theorem seven_free {w : World} {b : Nat} {T : TypeId} {cs : Array Value} (h : w.heap[b]? = some (.cells cs T (0, 0))) :
    w.frozen? ⟨b, 0, none⟩ = false ∧ w.frozen? ⟨b, 1, none⟩ = false ∧ w.frozen? ⟨b, 2, none⟩ = false ∧ w.frozen? ⟨b, 3, none⟩ = false ∧ w.frozen? ⟨b, 4, none⟩ = false ∧ w.frozen? ⟨b, 5, none⟩ = false ∧ w.frozen? ⟨b, 6, none⟩ = false :=
 ⟨free_of_block h, free_of_block h, free_of_block h, free_of_block h, free_of_block h, free_of_block h, free_of_block h⟩
theorem pNewT_call (p : Par) (w : World) : Calls Try.prog 13 #[parV p] w (TbPost (nwP p) 0 0 (.slice none 0 0) (parE p) w) := by
 have HB := qh (below_alloc w (.cells #[.int .i64 p.gate, .int .i64 p.need, .int .i64 p.most, .int .i64 p.pull] 23))
 have HB2 := qh (HB.out.alloc HB.out.size (.cells #[.int .i64 0, .int .i64 0, .int .i64 0, .int .i64 0, .int .i64 0, .int .i64 0, .slice none 0 0] 26))
 have HX0 := qh (block_alloc (o' := .cells #[.int .i64 0, .int .i64 0, .int .i64 0, .int .i64 0, .int .i64 0, .int .i64 0, .slice none 0 0] 26) (block_new w (.cells #[.int .i64 p.gate, .int .i64 p.need, .int .i64 p.most, .int .i64 p.pull] 23 (0, 0)) rfl))
 have HR0 := qh (block_new (w.alloc (.cells #[.int .i64 p.gate, .int .i64 p.need, .int .i64 p.most, .int .i64 p.pull] 23)) (.cells #[.int .i64 0, .int .i64 0, .int .i64 0, .int .i64 0, .int .i64 0, .int .i64 0, .slice none 0 0] 26 (0, 0)) (n := w.heap.size + 1) (by simp))
 unfold parV
 rcases parE_two p with hE | hE
 all_goals
  have HE := qh hE
  clear hE
  go_enter Try.func13, Try.ntmps13
  go_wp2_with fail
  refine (pchk_call p _).mono ?_; rintro e w1 ⟨rfl, hb⟩
  rw [HE.out]
  have K := qh (And.intro (HB2.out.trans (hb.mono HB2.out.size)) (And.intro (keepO hb HR0.out) (keepO hb HX0.out)))
  clear hb
  obtain ⟨r0, r1, r2, r3, r4, r5, r6⟩ := seven_new K.out.2.1
  obtain ⟨f0, f1, f2, f3, f4, f5, f6⟩ := seven_free K.out.2.1
  have rl := lt_of_block K.out.2.1
  have x0 : w1.cell? ⟨w.heap.size, 0, none⟩ = some (.int .i64 p.gate) := cell_of_block K.out.2.2 rfl
  have x1 : w1.cell? ⟨w.heap.size, 1, none⟩ = some (.int .i64 p.need) := cell_of_block K.out.2.2 rfl
  have x2 : w1.cell? ⟨w.heap.size, 2, none⟩ = some (.int .i64 p.most) := cell_of_block K.out.2.2 rfl
  have x3 : w1.cell? ⟨w.heap.size, 3, none⟩ = some (.int .i64 p.pull) := cell_of_block K.out.2.2 rfl
  go_wp2_with fail
 ·have KS := qh (tb_stored K.out.1 K.out.2.1 (Nat.le_succ _) (.int .i64 p.gate) (.int .i64 p.need) (.int .i64 p.most) (.int .i64 p.pull) (.int .i64 0) (.int .i64 0) (.slice none 0 0))
  obtain ⟨s0, s1, s2, s3, s4, s5, s6⟩ := seven_new KS.out.2
  refine bodyPost_ret (v := .tuple #[tbV p 0 0 (.slice none 0 0), .int .i64 0]) ?_ rfl ⟨by rw [nwP_ok HE.out, HE.out], KS.out.1⟩
  simp [results, Try.f13, go_sem, s0, s1, s2, s3, s4, s5, s6, tbV]
 have KS := qh (tb_stored K.out.1 K.out.2.1 (Nat.le_succ _) (.int .i64 0) (.int .i64 0) (.int .i64 0) (.int .i64 0) (.int .i64 0) (.int .i64 0) (.slice none 0 0))
 obtain ⟨s0, s1, s2, s3, s4, s5, s6⟩ := seven_new KS.out.2
 refine bodyPost_ret (v := .tuple #[tbV par0 0 0 (.slice none 0 0), .int .i64 1]) ?_ rfl ⟨by rw [nwP_bad HE.out, HE.out], KS.out.1⟩
 simp [results, Try.f13, go_sem, s0, s1, s2, s3, s4, s5, s6, tbV, par0]
end Go.Proofs.Ytikjjpjekchcjaa
end
section
namespace Go.Proofs.Ytikjjpjekchcjaa
open Go.RowKit TrkMath MyHeap MyOwn
theorem infoEv : (Try.prog.info? 37).map (fun i => (i.zero, i.size, i.bytes)) = some (some (.agg #[.int .u8 0, .int .i64 0, .int .i64 0]), 3, 24) := by kernel_rfl
theorem infoTk : (Try.prog.info? 46).map (fun i => (i.zero, i.size, i.bytes)) = some (some (.agg #[.int .i64 0, .int .i64 0, .int .i64 0, .int .i64 0, .int .i64 0, .slice none 0 0, .slice none 0 0, .int .i64 0, .int .i64 0, .bool false]), 10, 112) := by kernel_rfl
theorem info_pts {o : Option TypeInfo} {z : Value} {s b : Nat} (h : o.map (fun i => (i.zero, i.size, i.bytes)) = some (some z, s, b)) : ∃ i, o = some i ∧ i.zero = some z ∧ i.size = s ∧ i.bytes = b := by
 cases o with
 | none => cases h
 | some i => simp only [Option.map_some, Option.some.injEq, Prod.mk.injEq] at h; exact ⟨i, rfl, h.1, h.2.1, h.2.2⟩
theorem cells_new {w : World} {cs : List Value} {T : TypeId} {n : Nat} (hn : n = w.heap.size) : ∀ (j : Nat) (u : Value), cs[j]? = some u → (w.alloc (.cells cs.toArray T)).cell? ((⟨n, 0, none⟩ : Addr).add j) = some u := by
 subst hn
 intro j u hu
 have hadd : (⟨w.heap.size, 0, none⟩ : Addr).add j = ⟨w.heap.size, j, none⟩ := by unfold Addr.add; split <;> simp_all
 rw [hadd, World.cell?_alloc_at _ _ _ _ rfl]
 simpa using hu
theorem row_slice {w : World} {base : Nat} {e : TypeId} {size : Nat} {v : Value} {n : Nat} {xs : List Value} (h : w.ownsRow base e size v n xs) : ∃ a c, v = .slice a n c := by
 rcases h.2 with ⟨rfl, rfl⟩ | ⟨g, cap, cur, rfl, -⟩
 ·exact ⟨none, 0, rfl⟩
 exact ⟨_, _, rfl⟩
def RunAt (r : Nat) (p : Par) (now next : Int) (tV pV lV eV : Value) (w : World) : Prop :=
 w.heap[r]? = some (.cells #[.int .i64 p.gate, .int .i64 p.need, .int .i64 p.most, .int .i64 p.pull, .int .i64 now, .int .i64 next, tV, pV, lV, eV] 79 (0, 0))
theorem RunAt.cells {r : Nat} {p : Par} {now next : Int} {tV pV lV eV : Value} {w : World} (h : RunAt r p now next tV pV lV eV w) :
    w.cell? ⟨r, 0, none⟩ = some (.int .i64 p.gate) ∧ w.cell? ⟨r, 1, none⟩ = some (.int .i64 p.need) ∧ w.cell? ⟨r, 2, none⟩ = some (.int .i64 p.most) ∧ w.cell? ⟨r, 3, none⟩ = some (.int .i64 p.pull) ∧ w.cell? ⟨r, 4, none⟩ = some (.int .i64 now) ∧ w.cell? ⟨r, 5, none⟩ = some (.int .i64 next) ∧ w.cell? ⟨r, 6, none⟩ = some tV ∧ w.cell? ⟨r, 7, none⟩ = some pV ∧ w.cell? ⟨r, 8, none⟩ = some lV ∧ w.cell? ⟨r, 9, none⟩ = some eV :=
 ⟨cell_of_block h rfl, cell_of_block h rfl, cell_of_block h rfl, cell_of_block h rfl, cell_of_block h rfl, cell_of_block h rfl, cell_of_block h rfl, cell_of_block h rfl, cell_of_block h rfl, cell_of_block h rfl⟩
theorem RunAt.free {r i : Nat} {p : Par} {now next : Int} {tV pV lV eV : Value} {w : World} (h : RunAt r p now next tV pV lV eV w) : w.frozen? ⟨r, i, none⟩ = false := free_of_block h
theorem RunAt.lt {r : Nat} {p : Par} {now next : Int} {tV pV lV eV : Value} {w : World} (h : RunAt r p now next tV pV lV eV w) : r < w.heap.size := lt_of_block h
theorem RunAt.outs {X : List (Option Nat)} {r : Nat} {p : Par} {now next : Int} {tV pV lV eV : Value} {w w' : World} (h : RunAt r p now next tV pV lV eV w) (hb : Outs X w w') (hn : some r ∉ X) : RunAt r p now next tV pV lV eV w' := hb.keeps h hn
theorem RunAt.below {r : Nat} {p : Par} {now next : Int} {tV pV lV eV : Value} {w w' : World} (h : RunAt r p now next tV pV lV eV w) (hb : Below w.heap.size w w') : RunAt r p now next tV pV lV eV w' := keepO hb h
theorem RunAt.setE {r : Nat} {p : Par} {now next : Int} {tV pV lV eV : Value} {w : World} (h : RunAt r p now next tV pV lV eV w) (v : Value) : RunAt r p now next tV pV lV v (w.setCell ⟨r, 9, none⟩ v) := by
 have := block_setCell (i := 9) (v := v) h
 simpa [RunAt] using this
theorem RunAt.setT {r : Nat} {p : Par} {now next : Int} {tV pV lV eV : Value} {w : World} (h : RunAt r p now next tV pV lV eV w) (v : Value) : RunAt r p now next v pV lV eV (w.setCell ⟨r, 6, none⟩ v) := by
 have := block_setCell (i := 6) (v := v) h
 simpa [RunAt] using this
theorem RunAt.setNext {r : Nat} {p : Par} {now next : Int} {tV pV lV eV : Value} {w : World} (h : RunAt r p now next tV pV lV eV w) (v : Int) : RunAt r p now v tV pV lV eV (w.setCell ⟨r, 5, none⟩ (.int .i64 v)) := by
 have := block_setCell (i := 5) (v := .int .i64 v) h
 simpa [RunAt] using this
theorem RunAt.setNow {r : Nat} {p : Par} {now next : Int} {tV pV lV eV : Value} {w : World} (h : RunAt r p now next tV pV lV eV w) (v : Int) : RunAt r p v next tV pV lV eV (w.setCell ⟨r, 4, none⟩ (.int .i64 v)) := by
 have := block_setCell (i := 4) (v := .int .i64 v) h
 simpa [RunAt] using this
def EvAt (base : Nat) (eV : Value) (E : List Ev) (w : World) : Prop := w.ownsRow base 37 3 eV E.length (flatE E)
def NotePost (r base : Nat) (p : Par) (now next : Int) (tV pV lV eV : Value) (E : List Ev) (x : Ev) (w : World) (e : Ending) (w' : World) : Prop :=
 ∃ eV', e = .returned (.tuple #[]) ∧ RunAt r p now next tV pV lV eV' w' ∧ EvAt base eV' (E ++ [x]) w' ∧ (eV'.ownBlock = eV.ownBlock ∨ ∃ g, eV'.ownBlock = some g ∧ w.heap.size ≤ g) ∧ Outs [some r, eV.ownBlock] w w'
theorem note_call (r base : Nat) (p : Par) (now next : Int) (tV pV lV eV : Value) (E : List Ev) (x : Ev) (w : World) (hR : RunAt r p now next tV pV lV eV w) (hE : EvAt base eV E w) (hne : eV.ownBlock ≠ some r) (hbase : base ≤ w.heap.size) (hlen : E.length ≤ 1000) :
    Calls Try.prog 24 #[.pointer (some ⟨r, 0, none⟩), .int .u8 x.kind, .int .i64 x.id, .int .i64 x.plot] w (NotePost r base p now next tV pV lV eV E x w) := by
 obtain ⟨i0, hi0, hz0, hs0, hb0⟩ := info_pts infoEv
 have HI := qh (And.intro hi0 (And.intro hz0 (And.intro hs0 hb0)))
 have K := qh (And.intro hR hE)
 have HN := qh (And.intro hne (And.intro hbase hlen))
 have rl := hR.lt
 have HL := qh (fun b (e : eV.ownBlock = some b) => (hE.lt b e).2)
 have c9 : w.cell? ⟨r, 9, none⟩ = some eV := cell_of_block hR rfl
 obtain ⟨aE, nE, cE, rfl⟩ : ∃ a n c, eV = .slice a n c := by
  rcases hE.2 with ⟨e, -⟩ | ⟨g, cap, cur, e, -⟩
  ·exact ⟨_, _, _, e⟩
  exact ⟨_, _, _, e⟩
 have HO := qh (hE.alloc (.cells #[.int .u8 x.kind, .int .i64 x.id, .int .i64 x.plot] 37))
 clear hR hE hne hlen hi0 hz0 hs0 hb0
 go_enter Try.func24, Try.ntmps24
 go_wp2_with (at_builtin; refine wpList_append_own_at _ rfl _ _ 30 rfl base 37 i0 _ 3 24 Try.underlying30 HI.out.1 HI.out.2.1 HI.out.2.2.1 HI.out.2.2.2 rfl (by decide) _ E.length _ rfl HO.out ⟨w.heap.size, 0, none⟩ 1 1 [.int .u8 x.kind, .int .i64 x.id, .int .i64 x.plot] rfl rfl ?c1 ?c2 ?c3 ?c4 ?c5 ?_; rotate_right; intro v9 w9 hown9 hg9 _ hat9; obtain ⟨a9, m9, rfl⟩ := row_slice hown9; have HW := qh (And.intro hown9 (And.intro hg9 hat9)); have K9 := qh (hg9.block r (by simp; omega) (fun e => HN.out.1 e.symm)); clear hown9 hg9 hat9; have x9 : w9.cell? ⟨r, 9, none⟩ = some (.slice aE nE cE) := cell_of_block ((K9.out.trans (block_alloc K.out.1))) rfl; have f9 : w9.frozen? ⟨r, 9, none⟩ = false := free_of_block (K9.out.trans (block_alloc K.out.1)); have l9 : r < w9.heap.size := lt_of_block (K9.out.trans (block_alloc K.out.1)))
 case c1 => exact cells_new rfl
 case c2 => intro u hu; simp at hu; rcases hu with rfl | rfl | rfl <;> rfl
 case c3 => have := HN.out.2.2; unfold maxLen; omega
 case c4 => have := HN.out.2.2; omega
 case c5 => simp; omega
 have hR9 : RunAt r p now next tV pV lV (.slice aE nE cE) w9 := K9.out.trans (block_alloc K.out.1)
 have hO : Only r w9 (w9.setCell ⟨r, 9, none⟩ (.slice a9 (E.length + 1) m9)) := (Only.refl _ _).setCell _ _
 have hsz : w.heap.size ≤ (w.alloc (.cells #[.int .u8 x.kind, .int .i64 x.id, .int .i64 x.plot] 37)).heap.size := by simp
 have hnr : ∀ g, (Value.slice a9 (E.length + 1) m9).ownBlock = some g → g ≠ r := fun g e e2 => by
  subst e2
  rcases HW.out.2.2 with q | q
  ·exact HN.out.1 (q.symm.trans e)
  have : g = (w.alloc (.cells #[.int .u8 x.kind, .int .i64 x.id, .int .i64 x.plot] 37)).heap.size := by rw [q] at e; exact (Option.some.inj e).symm
  omega
 refine bodyPost_ret (v := .tuple #[]) (by simp [results, Try.f24, go_sem]) rfl ⟨_, rfl, hR9.setE _, ?_, ?_, ?_⟩
 ·have h1 := Outs.row (Outs.of_only (X := [some r]) hO (List.mem_singleton.2 rfl)) HW.out.1 (fun g e h => by
   have := List.mem_singleton.1 h
   exact hnr g e (Option.some.inj this))
  unfold EvAt
  rw [List.length_append, flatE_snoc]
  exact h1
 ·rcases HW.out.2.2 with q | q
  ·exact Or.inl q
  exact Or.inr ⟨_, q, hsz⟩
 refine ((Outs.of_below (below_alloc w _)).trans (Outs.of_grown HW.out.2.1 (fun k e => ?_))).trans (Outs.of_only hO (by simp))
 exact List.mem_cons_of_mem _ (List.mem_singleton.2 e.symm)
end Go.Proofs.Ytikjjpjekchcjaa
end
section
namespace AltMath
theorem nm_ok {p : Int × Int} (h1 : -1000 ≤ p.1) (h2 : p.2 ≤ 50000) : ¬ (¬ ((nm p).1 = 1 ∧ (nm p).2 = 0) ∧ ((nm p).1 < -1000 ∨ (nm p).2 < (nm p).1 ∨ 50000 < (nm p).2)) := by
 by_cases h : p.2 < p.1
 ·rw [nm_no h]; simp
 rw [nm_yes (by omega)]; omega
theorem ch_nm {f : Nat → Int × Int} (h : ∀ i, i < 201 → -1000 ≤ (f i).1 ∧ (f i).2 ≤ 50000) : chB (loK f 201) (hiK f 201) = 0 := by
 refine chB_zero (loK_len _ _) (hiK_len _ _) fun i hi => ?_
 unfold badAt nonAt
 rw [loK_get f hi, hiK_get f hi]
 exact nm_ok (h i hi).1 (h i hi).2
theorem meE_zero {alt size : Int} (h : meE alt size = 0) : -1000 ≤ alt ∧ alt ≤ 50000 ∧ (size = 25 ∨ size = 100) := by
 unfold meE at h
 by_cases hh : alt < -1000 ∨ 50000 < alt ∨ (size ≠ 25 ∧ size ≠ 100)
 ·rw [if_pos hh] at h; cases h
 omega
theorem maE_ok {lo hi : List Int} {alt size : Int} (h1 : chB lo hi = 0) (h2 : meE alt size = 0) : maE lo hi alt size = 0 := by
 unfold maE
 rw [if_neg (fun e => e h1)]
 exact h2
theorem ch_ma {lo hi : List Int} {alt size : Int} (h1 : chB lo hi = 0) (h2 : meE alt size = 0) : chB (loK (maF lo hi alt size) 201) (hiK (maF lo hi alt size) 201) = 0 := by
 obtain ⟨a1, a2, a3⟩ := meE_zero h2
 refine ch_nm fun i hi => ?_
 have := ok_bd (chB_ok h1).2.2 hi
 unfold maF
 split
 ·exact ⟨by decide, by decide⟩
 constructor <;> (simp only []; omega)
theorem ch_st {lo hi : List Int} {p : Nat} : chB (loK (stF lo hi p) 201) (hiK (stF lo hi p) 201) = 0 := by
 refine ch_nm fun i _ => ?_
 unfold stF
 cases stA' lo hi p i (stN p i) with
 | none => exact ⟨by decide, by decide⟩
 | some q => unfold clip; constructor <;> (simp only []; omega)
theorem acc_in {on : Nat → Prop} [DecidablePred on] {g : Nat → Int × Int} {a k i : Nat} (hi : i < k) (ho : on (a + i)) : ∃ q, acc on g a k = some q ∧ q.1 ≤ (g (a + i)).1 ∧ (g (a + i)).2 ≤ q.2 := by
 induction k with
 | zero => omega
 | succ k ih =>
  unfold acc
  rcases Nat.lt_succ_iff_lt_or_eq.1 hi with h1 | rfl
  ·obtain ⟨q, e, q1, q2⟩ := ih h1
   by_cases hk : on (a + k)
   ·rw [if_pos hk, e]
    exact ⟨_, rfl, by simp only []; omega, by simp only []; omega⟩
   rw [if_neg hk, e]
   exact ⟨_, rfl, q1, q2⟩
  rw [if_pos ho]
  cases acc on g a i with
  | none => exact ⟨_, rfl, Int.le_refl _, Int.le_refl _⟩
  | some r => exact ⟨_, rfl, by simp only []; omega, by simp only []; omega⟩
theorem has_le {lo hi : List Int} (h : chB lo hi = 0) {i : Nat} (hi' : i < 201) : hasB lo hi i ↔ gi lo i ≤ gi hi i := (has_iff (chB_ok h).2.2 hi').symm
theorem st_in {lo hi : List Int} (h : chB lo hi = 0) {p v w : Nat} (hv : v < 201) (hw : w < 201) (h1 : w ≤ v + p) (h2 : v ≤ w + p) (hh : gi lo v ≤ gi hi v) :
    ∃ q, stA' lo hi p w (stN p w) = some q ∧ q.1 ≤ gi lo v + ((v : Int) - 100) ∧ gi hi v + ((v : Int) - 100) ≤ q.2 := by
 have e : stA p w + (v - stA p w) = v := by unfold stA; omega
 obtain ⟨q, hq, q1, q2⟩ := acc_in (on := hasB lo hi) (g := shG lo hi) (a := stA p w) (k := stN p w) (i := v - stA p w) (by unfold stN stA; omega) (by rw [e]; exact (has_le h hv).2 hh)
 rw [e] at q1 q2
 exact ⟨q, hq, q1, q2⟩
def inB (lo hi : List Int) (z v : Int) : Prop := -100 ≤ v ∧ v ≤ 100 ∧ gi lo (v + 100).toNat ≤ z ∧ z ≤ gi hi (v + 100).toNat
theorem in_new {z v alt : Int} {size : Int} (hv : -100 ≤ v ∧ v ≤ 100) (h1 : alt ≤ z) (h2 : z ≤ alt + size - 1) (h3 : z ≤ 50000) : inB (loK (neF alt size) 201) (hiK (neF alt size) 201) z v := by
 refine ⟨hv.1, hv.2, ?_, ?_⟩
 ·rw [loK_get _ (by omega), nm_yes (by unfold neF; simp only []; omega)]
  exact h1
 rw [hiK_get _ (by omega), nm_yes (by unfold neF; simp only []; omega)]
 unfold neF
 simp only []
 omega
theorem in_step {lo hi : List Int} (h : chB lo hi = 0) {z v z' v' : Int} {p : Nat} (hin : inB lo hi z v) (hz : z' = z + v) (z1 : -1000 ≤ z') (z2 : z' ≤ 50000) (v1 : -100 ≤ v') (v2 : v' ≤ 100) (d1 : v' - v ≤ p) (d2 : v - v' ≤ p) :
    inB (loK (stF lo hi p) 201) (hiK (stF lo hi p) 201) z' v' := by
 obtain ⟨i1, i2, i3, i4⟩ := hin
 obtain ⟨q, hq, q1, q2⟩ := st_in h (p := p) (v := (v + 100).toNat) (w := (v' + 100).toNat) (by omega) (by omega) (by omega) (by omega) (by omega)
 have e1 : (((v + 100).toNat : Nat) : Int) = v + 100 := by omega
 rw [e1] at q1 q2
 refine ⟨v1, v2, ?_, ?_⟩
 ·rw [loK_get _ (by omega)]
  unfold stF
  rw [hq]
  unfold clip
  simp only []
  rw [nm_yes (by simp only []; omega)]
  simp only []
  omega
 rw [hiK_get _ (by omega)]
 unfold stF
 rw [hq]
 unfold clip
 simp only []
 rw [nm_yes (by simp only []; omega)]
 simp only []
 omega
theorem in_spread {lo hi : List Int} (h : chB lo hi = 0) {z v : Int} (hin : inB lo hi z v) : spE lo hi = 0 ∧ (spX lo hi).low ≤ z ∧ z ≤ (spX lo hi).high ∧ (spX lo hi).slow ≤ v ∧ v ≤ (spX lo hi).fast := by
 obtain ⟨i1, i2, i3, i4⟩ := hin
 have ho : hasB lo hi (0 + (v + 100).toNat) := by rw [Nat.zero_add]; exact (has_le h (by omega)).2 (by omega)
 obtain ⟨q, hq, q1, q2⟩ := acc_in (on := hasB lo hi) (g := fun i => (gi lo i, gi hi i)) (a := 0) (k := 201) (by omega) ho
 obtain ⟨r, hr, r1, r2⟩ := acc_in (on := hasB lo hi) (g := fun i => ((i : Int) - 100, (i : Int) - 100)) (a := 0) (k := 201) (by omega) ho
 rw [Nat.zero_add] at q1 q2 r1 r2
 have eZ : spZ lo hi 201 = some q := hq
 have eV : spV lo hi 201 = some r := hr
 have e0 : spE lo hi = 0 := by unfold spE; rw [if_neg (fun e => e h), eZ]; rfl
 refine ⟨e0, ?_⟩
 unfold spX
 rw [if_pos e0, eZ, eV]
 unfold vals
 simp only [Option.getD_some] at *
 omega
end AltMath
end
