/-
  TrkF, TrkH, AltLaw, TrkI
-/
import Derived.Test.YtikjjpjekchcjaaGreatPm11
set_option linter.all false
set_option maxRecDepth 100000
set_option maxHeartbeats 64000000
section
namespace Go.Proofs.YtikjjpjekchcjaaGreat
open Go.RowKit TrkMath MyHeap MyOwn
theorem rgE_two (x : Rg) : rgE x = 0 ∨ rgE x = 1 := by unfold rgE; split <;> simp
def BoolIs (b : Bool) (w : World) (e : Ending) (w' : World) : Prop := e = .returned (.bool b) ∧ w = w'
theorem fH (n lo hi : Int) (w : World) (h : lo ≤ n ∧ n ≤ hi) : Calls Tryz.prog 23 #[.int .i64 n, .int .i64 lo, .int .i64 hi] w (BoolIs true w) := by
 obtain ⟨h1, h2⟩ := h
 go_enter Tryz.func23, Tryz.ntmps23
 go_wp2_with fail
 go_ret
 exact ⟨rfl, rfl⟩
theorem in_f (n lo hi : Int) (w : World) (h : ¬ (lo ≤ n ∧ n ≤ hi)) : Calls Tryz.prog 23 #[.int .i64 n, .int .i64 lo, .int .i64 hi] w (BoolIs false w) := by
 by_cases h1 : lo ≤ n
 ·have h2 : ¬ n ≤ hi := fun e => h ⟨h1, e⟩
  clear h
  go_enter Tryz.func23, Tryz.ntmps23
  go_wp2_with fail
  go_ret
  exact ⟨rfl, rfl⟩
 clear h
 go_enter Tryz.func23, Tryz.ntmps23
 go_wp2_with fail
 go_ret
 exact ⟨rfl, rfl⟩
def parV (p : Par) : Value := .agg #[.int .i64 p.gate, .int .i64 p.need, .int .i64 p.most, .int .i64 p.pull]
theorem fA (p : Par) (w : World) : Calls Tryz.prog 39 #[parV p] w (NPost (parE p) w) := by
 have HB := qh (aC w (.cells #[.int .i64 p.gate, .int .i64 p.need, .int .i64 p.most, .int .i64 p.pull] 23))
 unfold parV
 by_cases h0 : 1 ≤ p.gate ∧ p.gate ≤ 256
 ·have H0 := qh h0
  clear h0
  by_cases h1 : 1 ≤ p.need ∧ p.need ≤ 8
  ·have H1 := qh h1
   clear h1
   by_cases h2 : 1 ≤ p.most ∧ p.most ≤ 15
   ·have H2 := qh h2
    clear h2
    by_cases h3 : 0 ≤ p.pull ∧ p.pull ≤ 32
    ·have H3 := qh h3
     clear h3
     have HE := qh (kE (p := p) ⟨H0.out, H1.out, H2.out, H3.out⟩)
     go_enter Tryz.func39, Tryz.ntmps39
     go_wp2_with fail
     refine (fH _ _ _ _ H0.out).mono ?_; rintro e w0 ⟨rfl, rfl⟩
     go_wp2_with fail
     refine (fH _ _ _ _ H1.out).mono ?_; rintro e w0 ⟨rfl, rfl⟩
     go_wp2_with fail
     refine (fH _ _ _ _ H2.out).mono ?_; rintro e w0 ⟨rfl, rfl⟩
     go_wp2_with fail
     refine (fH _ _ _ _ H3.out).mono ?_; rintro e w0 ⟨rfl, rfl⟩
     go_wp2_with fail
     go_ret
     exact aJ HE.out.symm HB.out
    have H3 := qh h3
    have HE := qh (dE (p := p) (fun h => H3.out h.2.2.2))
    clear h3
    go_enter Tryz.func39, Tryz.ntmps39
    go_wp2_with fail
    refine (fH _ _ _ _ H0.out).mono ?_; rintro e w0 ⟨rfl, rfl⟩
    go_wp2_with fail
    refine (fH _ _ _ _ H1.out).mono ?_; rintro e w0 ⟨rfl, rfl⟩
    go_wp2_with fail
    refine (fH _ _ _ _ H2.out).mono ?_; rintro e w0 ⟨rfl, rfl⟩
    go_wp2_with fail
    refine (in_f _ _ _ _ H3.out).mono ?_; rintro e w0 ⟨rfl, rfl⟩
    go_wp2_with fail
    go_ret
    exact aJ HE.out.symm HB.out
   have H2 := qh h2
   have HE := qh (dE (p := p) (fun h => H2.out h.2.2.1))
   clear h2
   go_enter Tryz.func39, Tryz.ntmps39
   go_wp2_with fail
   refine (fH _ _ _ _ H0.out).mono ?_; rintro e w0 ⟨rfl, rfl⟩
   go_wp2_with fail
   refine (fH _ _ _ _ H1.out).mono ?_; rintro e w0 ⟨rfl, rfl⟩
   go_wp2_with fail
   refine (in_f _ _ _ _ H2.out).mono ?_; rintro e w0 ⟨rfl, rfl⟩
   go_wp2_with fail
   go_ret
   exact aJ HE.out.symm HB.out
  have H1 := qh h1
  have HE := qh (dE (p := p) (fun h => H1.out h.2.1))
  clear h1
  go_enter Tryz.func39, Tryz.ntmps39
  go_wp2_with fail
  refine (fH _ _ _ _ H0.out).mono ?_; rintro e w0 ⟨rfl, rfl⟩
  go_wp2_with fail
  refine (in_f _ _ _ _ H1.out).mono ?_; rintro e w0 ⟨rfl, rfl⟩
  go_wp2_with fail
  go_ret
  exact aJ HE.out.symm HB.out
 have H0 := qh h0
 have HE := qh (dE (p := p) (fun h => H0.out h.1))
 clear h0
 go_enter Tryz.func39, Tryz.ntmps39
 go_wp2_with fail
 refine (in_f _ _ _ _ H0.out).mono ?_; rintro e w0 ⟨rfl, rfl⟩
 go_wp2_with fail
 go_ret
 exact aJ HE.out.symm HB.out
theorem bX {w W : World} {b : Nat} {T : TypeId} {a0 a1 a2 a3 a4 a5 a6 : Value} (h : Below w.heap.size w W) (hb : W.heap[b]? = some (.cells #[a0, a1, a2, a3, a4, a5, a6] T (0, 0))) (hle : w.heap.size ≤ b) (x0 x1 x2 x3 x4 x5 x6 : Value) :
    Below w.heap.size w (((((((W.setCell ⟨b, 0, none⟩ x0).setCell ⟨b, 1, none⟩ x1).setCell ⟨b, 2, none⟩ x2).setCell ⟨b, 3, none⟩ x3).setCell ⟨b, 4, none⟩ x4).setCell ⟨b, 5, none⟩ x5).setCell ⟨b, 6, none⟩ x6) ∧
    (((((((W.setCell ⟨b, 0, none⟩ x0).setCell ⟨b, 1, none⟩ x1).setCell ⟨b, 2, none⟩ x2).setCell ⟨b, 3, none⟩ x3).setCell ⟨b, 4, none⟩ x4).setCell ⟨b, 5, none⟩ x5).setCell ⟨b, 6, none⟩ x6).heap[b]? = some (.cells #[x0, x1, x2, x3, x4, x5, x6] T (0, 0)) := by
 have o : Only b W (((((((W.setCell ⟨b, 0, none⟩ x0).setCell ⟨b, 1, none⟩ x1).setCell ⟨b, 2, none⟩ x2).setCell ⟨b, 3, none⟩ x3).setCell ⟨b, 4, none⟩ x4).setCell ⟨b, 5, none⟩ x5).setCell ⟨b, 6, none⟩ x6) := (((((((Only.refl _ _).setCell _ _).setCell _ _).setCell _ _).setCell _ _).setCell _ _).setCell _ _).setCell _ _
 refine ⟨h.trans (o.below hle h.size), ?_⟩
 have h1 := aD (i := 6) (v := x6) (aD (i := 5) (v := x5) (aD (i := 4) (v := x4) (aD (i := 3) (v := x3) (aD (i := 2) (v := x2) (aD (i := 1) (v := x1) (aD (i := 0) (v := x0) hb))))))
 simpa using h1
def TbPost (p : Par) (now next : Int) (tV : Value) (E : Int) (w : World) (e : Ending) (w' : World) : Prop := e = .returned (.tuple #[tbV p now next tV, .int .i64 E]) ∧ Below w.heap.size w w'
def par0 : Par := ⟨0, 0, 0, 0⟩
def nwP (p : Par) : Par := if parE p = 0 then p else par0
theorem nwP_ok {p : Par} (h : parE p = 0) : nwP p = p := if_pos h
theorem nwP_bad {p : Par} (h : parE p = 1) : nwP p = par0 := if_neg (by rw [h]; decide)
theorem aK {w : World} {b : Nat} {T : TypeId} {c0 c1 c2 c3 c4 c5 c6 : Value} (h : w.heap[b]? = some (.cells #[c0, c1, c2, c3, c4, c5, c6] T (0, 0))) :
    w.cell? ⟨b, 0, none⟩ = some c0 ∧ w.cell? ⟨b, 1, none⟩ = some c1 ∧ w.cell? ⟨b, 2, none⟩ = some c2 ∧ w.cell? ⟨b, 3, none⟩ = some c3 ∧ w.cell? ⟨b, 4, none⟩ = some c4 ∧ w.cell? ⟨b, 5, none⟩ = some c5 ∧ w.cell? ⟨b, 6, none⟩ = some c6 :=
 ⟨aA h rfl, aA h rfl, aA h rfl, aA h rfl, aA h rfl, aA h rfl, aA h rfl⟩
theorem bT {w : World} {b : Nat} {T : TypeId} {cs : Array Value} (h : w.heap[b]? = some (.cells cs T (0, 0))) :
    w.frozen? ⟨b, 0, none⟩ = false ∧ w.frozen? ⟨b, 1, none⟩ = false ∧ w.frozen? ⟨b, 2, none⟩ = false ∧ w.frozen? ⟨b, 3, none⟩ = false ∧ w.frozen? ⟨b, 4, none⟩ = false ∧ w.frozen? ⟨b, 5, none⟩ = false ∧ w.frozen? ⟨b, 6, none⟩ = false :=
 ⟨aF h, aF h, aF h, aF h, aF h, aF h, aF h⟩
theorem pNewT_call (p : Par) (w : World) : Calls Tryz.prog 20 #[parV p] w (TbPost (nwP p) 0 0 (.slice none 0 0) (parE p) w) := by
 have HB := qh (aC w (.cells #[.int .i64 p.gate, .int .i64 p.need, .int .i64 p.most, .int .i64 p.pull] 23))
 have HB2 := qh (HB.out.alloc HB.out.size (.cells #[.int .i64 0, .int .i64 0, .int .i64 0, .int .i64 0, .int .i64 0, .int .i64 0, .slice none 0 0] 26))
 have HX0 := qh (aG (o' := .cells #[.int .i64 0, .int .i64 0, .int .i64 0, .int .i64 0, .int .i64 0, .int .i64 0, .slice none 0 0] 26) (aI w (.cells #[.int .i64 p.gate, .int .i64 p.need, .int .i64 p.most, .int .i64 p.pull] 23 (0, 0)) rfl))
 have HR0 := qh (aI (w.alloc (.cells #[.int .i64 p.gate, .int .i64 p.need, .int .i64 p.most, .int .i64 p.pull] 23)) (.cells #[.int .i64 0, .int .i64 0, .int .i64 0, .int .i64 0, .int .i64 0, .int .i64 0, .slice none 0 0] 26 (0, 0)) (n := w.heap.size + 1) (by simp))
 unfold parV
 rcases mJ p with hE | hE
 all_goals
  have HE := qh hE
  clear hE
  go_enter Tryz.func20, Tryz.ntmps20
  go_wp2_with fail
  refine (fA p _).mono ?_; rintro e w1 ⟨rfl, hb⟩
  rw [HE.out]
  have K := qh (And.intro (HB2.out.trans (hb.mono HB2.out.size)) (And.intro (aN hb HR0.out) (aN hb HX0.out)))
  clear hb
  obtain ⟨r0, r1, r2, r3, r4, r5, r6⟩ := aK K.out.2.1
  obtain ⟨f0, f1, f2, f3, f4, f5, f6⟩ := bT K.out.2.1
  have rl := aB K.out.2.1
  have x0 : w1.cell? ⟨w.heap.size, 0, none⟩ = some (.int .i64 p.gate) := aA K.out.2.2 rfl
  have x1 : w1.cell? ⟨w.heap.size, 1, none⟩ = some (.int .i64 p.need) := aA K.out.2.2 rfl
  have x2 : w1.cell? ⟨w.heap.size, 2, none⟩ = some (.int .i64 p.most) := aA K.out.2.2 rfl
  have x3 : w1.cell? ⟨w.heap.size, 3, none⟩ = some (.int .i64 p.pull) := aA K.out.2.2 rfl
  go_wp2_with fail
 ·have KS := qh (bX K.out.1 K.out.2.1 (Nat.le_succ _) (.int .i64 p.gate) (.int .i64 p.need) (.int .i64 p.most) (.int .i64 p.pull) (.int .i64 0) (.int .i64 0) (.slice none 0 0))
  obtain ⟨s0, s1, s2, s3, s4, s5, s6⟩ := aK KS.out.2
  refine bodyPost_ret (v := .tuple #[tbV p 0 0 (.slice none 0 0), .int .i64 0]) ?_ rfl ⟨by rw [nwP_ok HE.out, HE.out], KS.out.1⟩
  simp [results, Tryz.f20, go_sem, s0, s1, s2, s3, s4, s5, s6, tbV]
 have KS := qh (bX K.out.1 K.out.2.1 (Nat.le_succ _) (.int .i64 0) (.int .i64 0) (.int .i64 0) (.int .i64 0) (.int .i64 0) (.int .i64 0) (.slice none 0 0))
 obtain ⟨s0, s1, s2, s3, s4, s5, s6⟩ := aK KS.out.2
 refine bodyPost_ret (v := .tuple #[tbV par0 0 0 (.slice none 0 0), .int .i64 1]) ?_ rfl ⟨by rw [nwP_bad HE.out, HE.out], KS.out.1⟩
 simp [results, Tryz.f20, go_sem, s0, s1, s2, s3, s4, s5, s6, tbV, par0]
end Go.Proofs.YtikjjpjekchcjaaGreat
end
section
namespace Go.Proofs.YtikjjpjekchcjaaGreat
open Go.RowKit TrkMath MyHeap MyOwn
theorem infoEv : (Tryz.prog.info? 48).map (fun i => (i.zero, i.size, i.bytes)) = some (some (.agg #[.int .u8 0, .int .i64 0, .int .i64 0]), 3, 24) := by kernel_rfl
theorem kB : (Tryz.prog.info? 55).map (fun i => (i.zero, i.size, i.bytes)) = some (some (.agg #[.int .i64 0, .int .i64 0, .int .i64 0, .int .i64 0, .int .i64 0, .slice none 0 0, .slice none 0 0, .int .i64 0, .int .i64 0, .bool false]), 10, 112) := by kernel_rfl
theorem b6 {o : Option TypeInfo} {z : Value} {s b : Nat} (h : o.map (fun i => (i.zero, i.size, i.bytes)) = some (some z, s, b)) : ∃ i, o = some i ∧ i.zero = some z ∧ i.size = s ∧ i.bytes = b := by
 cases o with
 | none => cases h
 | some i => simp only [Option.map_some, Option.some.injEq, Prod.mk.injEq] at h; exact ⟨i, rfl, h.1, h.2.1, h.2.2⟩
theorem bA {w : World} {cs : List Value} {T : TypeId} {n : Nat} (hn : n = w.heap.size) : ∀ (j : Nat) (u : Value), cs[j]? = some u → (w.alloc (.cells cs.toArray T)).cell? ((⟨n, 0, none⟩ : Addr).add j) = some u := by
 subst hn
 intro j u hu
 have hadd : (⟨w.heap.size, 0, none⟩ : Addr).add j = ⟨w.heap.size, j, none⟩ := by unfold Addr.add; split <;> simp_all
 rw [hadd, World.cell?_alloc_at _ _ _ _ rfl]
 simpa using hu
theorem aU {w : World} {base : Nat} {e : TypeId} {size : Nat} {v : Value} {n : Nat} {xs : List Value} (h : w.ownsRow base e size v n xs) : ∃ a c, v = .slice a n c := by
 rcases h.2 with ⟨rfl, rfl⟩ | ⟨g, cap, cur, rfl, -⟩
 ·exact ⟨none, 0, rfl⟩
 exact ⟨_, _, rfl⟩
def RunAt (r : Nat) (p : Par) (now next : Int) (tV pV lV eV : Value) (w : World) : Prop :=
 w.heap[r]? = some (.cells #[.int .i64 p.gate, .int .i64 p.need, .int .i64 p.most, .int .i64 p.pull, .int .i64 now, .int .i64 next, tV, pV, lV, eV] 73 (0, 0))
theorem RunAt.cells {r : Nat} {p : Par} {now next : Int} {tV pV lV eV : Value} {w : World} (h : RunAt r p now next tV pV lV eV w) :
    w.cell? ⟨r, 0, none⟩ = some (.int .i64 p.gate) ∧ w.cell? ⟨r, 1, none⟩ = some (.int .i64 p.need) ∧ w.cell? ⟨r, 2, none⟩ = some (.int .i64 p.most) ∧ w.cell? ⟨r, 3, none⟩ = some (.int .i64 p.pull) ∧ w.cell? ⟨r, 4, none⟩ = some (.int .i64 now) ∧ w.cell? ⟨r, 5, none⟩ = some (.int .i64 next) ∧ w.cell? ⟨r, 6, none⟩ = some tV ∧ w.cell? ⟨r, 7, none⟩ = some pV ∧ w.cell? ⟨r, 8, none⟩ = some lV ∧ w.cell? ⟨r, 9, none⟩ = some eV :=
 ⟨aA h rfl, aA h rfl, aA h rfl, aA h rfl, aA h rfl, aA h rfl, aA h rfl, aA h rfl, aA h rfl, aA h rfl⟩
theorem RunAt.free {r i : Nat} {p : Par} {now next : Int} {tV pV lV eV : Value} {w : World} (h : RunAt r p now next tV pV lV eV w) : w.frozen? ⟨r, i, none⟩ = false := aF h
theorem RunAt.lt {r : Nat} {p : Par} {now next : Int} {tV pV lV eV : Value} {w : World} (h : RunAt r p now next tV pV lV eV w) : r < w.heap.size := aB h
theorem RunAt.outs {X : List (Option Nat)} {r : Nat} {p : Par} {now next : Int} {tV pV lV eV : Value} {w w' : World} (h : RunAt r p now next tV pV lV eV w) (hb : Outs X w w') (hn : some r ∉ X) : RunAt r p now next tV pV lV eV w' := hb.keeps h hn
theorem RunAt.below {r : Nat} {p : Par} {now next : Int} {tV pV lV eV : Value} {w w' : World} (h : RunAt r p now next tV pV lV eV w) (hb : Below w.heap.size w w') : RunAt r p now next tV pV lV eV w' := aN hb h
theorem RunAt.setE {r : Nat} {p : Par} {now next : Int} {tV pV lV eV : Value} {w : World} (h : RunAt r p now next tV pV lV eV w) (v : Value) : RunAt r p now next tV pV lV v (w.setCell ⟨r, 9, none⟩ v) := by
 have := aD (i := 9) (v := v) h
 simpa [RunAt] using this
theorem RunAt.setT {r : Nat} {p : Par} {now next : Int} {tV pV lV eV : Value} {w : World} (h : RunAt r p now next tV pV lV eV w) (v : Value) : RunAt r p now next v pV lV eV (w.setCell ⟨r, 6, none⟩ v) := by
 have := aD (i := 6) (v := v) h
 simpa [RunAt] using this
theorem RunAt.setNext {r : Nat} {p : Par} {now next : Int} {tV pV lV eV : Value} {w : World} (h : RunAt r p now next tV pV lV eV w) (v : Int) : RunAt r p now v tV pV lV eV (w.setCell ⟨r, 5, none⟩ (.int .i64 v)) := by
 have := aD (i := 5) (v := .int .i64 v) h
 simpa [RunAt] using this
theorem RunAt.setNow {r : Nat} {p : Par} {now next : Int} {tV pV lV eV : Value} {w : World} (h : RunAt r p now next tV pV lV eV w) (v : Int) : RunAt r p v next tV pV lV eV (w.setCell ⟨r, 4, none⟩ (.int .i64 v)) := by
 have := aD (i := 4) (v := .int .i64 v) h
 simpa [RunAt] using this
def EvAt (base : Nat) (eV : Value) (E : List Ev) (w : World) : Prop := w.ownsRow base 48 3 eV E.length (flatE E)
def NotePost (r base : Nat) (p : Par) (now next : Int) (tV pV lV eV : Value) (E : List Ev) (x : Ev) (w : World) (e : Ending) (w' : World) : Prop :=
 ∃ eV', e = .returned (.tuple #[]) ∧ RunAt r p now next tV pV lV eV' w' ∧ EvAt base eV' (E ++ [x]) w' ∧ (eV'.ownBlock = eV.ownBlock ∨ ∃ g, eV'.ownBlock = some g ∧ w.heap.size ≤ g) ∧ Outs [some r, eV.ownBlock] w w'
theorem cG (r base : Nat) (p : Par) (now next : Int) (tV pV lV eV : Value) (E : List Ev) (x : Ev) (w : World) (hR : RunAt r p now next tV pV lV eV w) (hE : EvAt base eV E w) (hne : eV.ownBlock ≠ some r) (hbase : base ≤ w.heap.size) (hlen : E.length ≤ 1000) :
    Calls Tryz.prog 25 #[.pointer (some ⟨r, 0, none⟩), .int .u8 x.kind, .int .i64 x.id, .int .i64 x.plot] w (NotePost r base p now next tV pV lV eV E x w) := by
 obtain ⟨i0, hi0, hz0, hs0, hb0⟩ := b6 infoEv
 have HI := qh (And.intro hi0 (And.intro hz0 (And.intro hs0 hb0)))
 have K := qh (And.intro hR hE)
 have HN := qh (And.intro hne (And.intro hbase hlen))
 have rl := hR.lt
 have HL := qh (fun b (e : eV.ownBlock = some b) => (hE.lt b e).2)
 have c9 : w.cell? ⟨r, 9, none⟩ = some eV := aA hR rfl
 obtain ⟨aE, nE, cE, rfl⟩ : ∃ a n c, eV = .slice a n c := by
  rcases hE.2 with ⟨e, -⟩ | ⟨g, cap, cur, e, -⟩
  ·exact ⟨_, _, _, e⟩
  exact ⟨_, _, _, e⟩
 have HO := qh (hE.alloc (.cells #[.int .u8 x.kind, .int .i64 x.id, .int .i64 x.plot] 48))
 clear hR hE hne hlen hi0 hz0 hs0 hb0
 go_enter Tryz.func25, Tryz.ntmps25
 go_wp2_with (at_builtin; refine wpList_append_own_at _ rfl _ _ 32 rfl base 48 i0 _ 3 24 Tryz.underlying32 HI.out.1 HI.out.2.1 HI.out.2.2.1 HI.out.2.2.2 rfl (by decide) _ E.length _ rfl HO.out ⟨w.heap.size, 0, none⟩ 1 1 [.int .u8 x.kind, .int .i64 x.id, .int .i64 x.plot] rfl rfl ?c1 ?c2 ?c3 ?c4 ?c5 ?_; rotate_right; intro v9 w9 hown9 hg9 _ hat9; obtain ⟨a9, m9, rfl⟩ := aU hown9; have HW := qh (And.intro hown9 (And.intro hg9 hat9)); have K9 := qh (hg9.block r (by simp; omega) (fun e => HN.out.1 e.symm)); clear hown9 hg9 hat9; have x9 : w9.cell? ⟨r, 9, none⟩ = some (.slice aE nE cE) := aA ((K9.out.trans (aG K.out.1))) rfl; have f9 : w9.frozen? ⟨r, 9, none⟩ = false := aF (K9.out.trans (aG K.out.1)); have l9 : r < w9.heap.size := aB (K9.out.trans (aG K.out.1)))
 case c1 => exact bA rfl
 case c2 => intro u hu; simp at hu; rcases hu with rfl | rfl | rfl <;> rfl
 case c3 => have := HN.out.2.2; unfold maxLen; omega
 case c4 => have := HN.out.2.2; omega
 case c5 => simp; omega
 have hR9 : RunAt r p now next tV pV lV (.slice aE nE cE) w9 := K9.out.trans (aG K.out.1)
 have hO : Only r w9 (w9.setCell ⟨r, 9, none⟩ (.slice a9 (E.length + 1) m9)) := (Only.refl _ _).setCell _ _
 have hsz : w.heap.size ≤ (w.alloc (.cells #[.int .u8 x.kind, .int .i64 x.id, .int .i64 x.plot] 48)).heap.size := by simp
 have hnr : ∀ g, (Value.slice a9 (E.length + 1) m9).ownBlock = some g → g ≠ r := fun g e e2 => by
  subst e2
  rcases HW.out.2.2 with q | q
  ·exact HN.out.1 (q.symm.trans e)
  have : g = (w.alloc (.cells #[.int .u8 x.kind, .int .i64 x.id, .int .i64 x.plot] 48)).heap.size := by rw [q] at e; exact (Option.some.inj e).symm
  omega
 refine bodyPost_ret (v := .tuple #[]) (by simp [results, Tryz.f25, go_sem]) rfl ⟨_, rfl, hR9.setE _, ?_, ?_, ?_⟩
 ·have h1 := Outs.row (Outs.of_only (X := [some r]) hO (List.mem_singleton.2 rfl)) HW.out.1 (fun g e h => by
   have := List.mem_singleton.1 h
   exact hnr g e (Option.some.inj this))
  unfold EvAt
  rw [List.length_append, lP]
  exact h1
 ·rcases HW.out.2.2 with q | q
  ·exact Or.inl q
  exact Or.inr ⟨_, q, hsz⟩
 refine ((Outs.of_below (aC w _)).trans (Outs.of_grown HW.out.2.1 (fun k e => ?_))).trans (Outs.of_only hO (by simp))
 exact List.mem_cons_of_mem _ (List.mem_singleton.2 e.symm)
end Go.Proofs.YtikjjpjekchcjaaGreat
end
section
namespace AltMath
theorem nm_ok {p : Int × Int} (h1 : -1000 ≤ p.1) (h2 : p.2 ≤ 50000) : ¬ (¬ ((nm p).1 = 1 ∧ (nm p).2 = 0) ∧ ((nm p).1 < -1000 ∨ (nm p).2 < (nm p).1 ∨ 50000 < (nm p).2)) := by
 by_cases h : p.2 < p.1
 ·rw [nm_no h]; simp
 rw [gU (by omega)]; omega
theorem ch_nm {f : Nat → Int × Int} (h : ∀ i, i < 201 → -1000 ≤ (f i).1 ∧ (f i).2 ≤ 50000) : chB (loK f 201) (hiK f 201) = 0 := by
 refine mS (loK_len _ _) (hiK_len _ _) fun i hi => ?_
 unfold badAt nonAt
 rw [oZ f hi, o7 f hi]
 exact nm_ok (h i hi).1 (h i hi).2
theorem rF {alt size : Int} (h : meE alt size = 0) : -1000 ≤ alt ∧ alt ≤ 50000 ∧ (size = 25 ∨ size = 100) := by
 unfold meE at h
 by_cases hh : alt < -1000 ∨ 50000 < alt ∨ (size ≠ 25 ∧ size ≠ 100)
 ·rw [if_pos hh] at h; cases h
 omega
theorem maE_ok {lo hi : List Int} {alt size : Int} (h1 : chB lo hi = 0) (h2 : meE alt size = 0) : maE lo hi alt size = 0 := by
 unfold maE
 rw [if_neg (fun e => e h1)]
 exact h2
theorem ch_ma {lo hi : List Int} {alt size : Int} (h1 : chB lo hi = 0) (h2 : meE alt size = 0) : chB (loK (maF lo hi alt size) 201) (hiK (maF lo hi alt size) 201) = 0 := by
 obtain ⟨a1, a2, a3⟩ := rF h2
 refine ch_nm fun i hi => ?_
 have := ok_bd (chB_ok h1).2.2 hi
 unfold maF
 split
 ·exact ⟨by decide, by decide⟩
 constructor <;> (simp only []; omega)
theorem ch_st {lo hi : List Int} {p : Nat} : chB (loK (stF lo hi p) 201) (hiK (stF lo hi p) 201) = 0 := by
 refine ch_nm fun i _ => ?_
 unfold stF
 cases stA' lo hi p i (stN p i) with
 | none => exact ⟨by decide, by decide⟩
 | some q => unfold clip; constructor <;> (simp only []; omega)
theorem acc_in {on : Nat → Prop} [DecidablePred on] {g : Nat → Int × Int} {a k i : Nat} (hi : i < k) (ho : on (a + i)) : ∃ q, acc on g a k = some q ∧ q.1 ≤ (g (a + i)).1 ∧ (g (a + i)).2 ≤ q.2 := by
 induction k with
 | zero => omega
 | succ k ih =>
  unfold acc
  rcases Nat.lt_succ_iff_lt_or_eq.1 hi with h1 | rfl
  ·obtain ⟨q, e, q1, q2⟩ := ih h1
   by_cases hk : on (a + k)
   ·rw [if_pos hk, e]
    exact ⟨_, rfl, by simp only []; omega, by simp only []; omega⟩
   rw [if_neg hk, e]
   exact ⟨_, rfl, q1, q2⟩
  rw [if_pos ho]
  cases acc on g a i with
  | none => exact ⟨_, rfl, Int.le_refl _, Int.le_refl _⟩
  | some r => exact ⟨_, rfl, by simp only []; omega, by simp only []; omega⟩
theorem has_le {lo hi : List Int} (h : chB lo hi = 0) {i : Nat} (hi' : i < 201) : hasB lo hi i ↔ gi lo i ≤ gi hi i := (fI (chB_ok h).2.2 hi').symm
theorem st_in {lo hi : List Int} (h : chB lo hi = 0) {p v w : Nat} (hv : v < 201) (hw : w < 201) (h1 : w ≤ v + p) (h2 : v ≤ w + p) (hh : gi lo v ≤ gi hi v) :
    ∃ q, stA' lo hi p w (stN p w) = some q ∧ q.1 ≤ gi lo v + ((v : Int) - 100) ∧ gi hi v + ((v : Int) - 100) ≤ q.2 := by
 have e : stA p w + (v - stA p w) = v := by unfold stA; omega
 obtain ⟨q, hq, q1, q2⟩ := acc_in (on := hasB lo hi) (g := shG lo hi) (a := stA p w) (k := stN p w) (i := v - stA p w) (by unfold stN stA; omega) (by rw [e]; exact (has_le h hv).2 hh)
 rw [e] at q1 q2
 exact ⟨q, hq, q1, q2⟩
def inB (lo hi : List Int) (z v : Int) : Prop := -100 ≤ v ∧ v ≤ 100 ∧ gi lo (v + 100).toNat ≤ z ∧ z ≤ gi hi (v + 100).toNat
theorem in_new {z v alt : Int} {size : Int} (hv : -100 ≤ v ∧ v ≤ 100) (h1 : alt ≤ z) (h2 : z ≤ alt + size - 1) (h3 : z ≤ 50000) : inB (loK (neF alt size) 201) (hiK (neF alt size) 201) z v := by
 refine ⟨hv.1, hv.2, ?_, ?_⟩
 ·rw [oZ _ (by omega), gU (by unfold neF; simp only []; omega)]
  exact h1
 rw [o7 _ (by omega), gU (by unfold neF; simp only []; omega)]
 unfold neF
 simp only []
 omega
theorem in_step {lo hi : List Int} (h : chB lo hi = 0) {z v z' v' : Int} {p : Nat} (hin : inB lo hi z v) (hz : z' = z + v) (z1 : -1000 ≤ z') (z2 : z' ≤ 50000) (v1 : -100 ≤ v') (v2 : v' ≤ 100) (d1 : v' - v ≤ p) (d2 : v - v' ≤ p) :
    inB (loK (stF lo hi p) 201) (hiK (stF lo hi p) 201) z' v' := by
 obtain ⟨i1, i2, i3, i4⟩ := hin
 obtain ⟨q, hq, q1, q2⟩ := st_in h (p := p) (v := (v + 100).toNat) (w := (v' + 100).toNat) (by omega) (by omega) (by omega) (by omega) (by omega)
 have e1 : (((v + 100).toNat : Nat) : Int) = v + 100 := by omega
 rw [e1] at q1 q2
 refine ⟨v1, v2, ?_, ?_⟩
 ·rw [oZ _ (by omega)]
  unfold stF
  rw [hq]
  unfold clip
  simp only []
  rw [gU (by simp only []; omega)]
  simp only []
  omega
 rw [o7 _ (by omega)]
 unfold stF
 rw [hq]
 unfold clip
 simp only []
 rw [gU (by simp only []; omega)]
 simp only []
 omega
theorem in_spread {lo hi : List Int} (h : chB lo hi = 0) {z v : Int} (hin : inB lo hi z v) : spE lo hi = 0 ∧ (spX lo hi).low ≤ z ∧ z ≤ (spX lo hi).high ∧ (spX lo hi).slow ≤ v ∧ v ≤ (spX lo hi).fast := by
 obtain ⟨i1, i2, i3, i4⟩ := hin
 have ho : hasB lo hi (0 + (v + 100).toNat) := by rw [Nat.zero_add]; exact (has_le h (by omega)).2 (by omega)
 obtain ⟨q, hq, q1, q2⟩ := acc_in (on := hasB lo hi) (g := fun i => (gi lo i, gi hi i)) (a := 0) (k := 201) (by omega) ho
 obtain ⟨r, hr, r1, r2⟩ := acc_in (on := hasB lo hi) (g := fun i => ((i : Int) - 100, (i : Int) - 100)) (a := 0) (k := 201) (by omega) ho
 rw [Nat.zero_add] at q1 q2 r1 r2
 have eZ : spZ lo hi 201 = some q := hq
 have eV : spV lo hi 201 = some r := hr
 have e0 : spE lo hi = 0 := by unfold spE; rw [if_neg (fun e => e h), eZ]; rfl
 refine ⟨e0, ?_⟩
 unfold spX
 rw [if_pos e0, eZ, eV]
 unfold vals
 simp only [Option.getD_some] at *
 omega
end AltMath
end
section
namespace Go.Proofs.YtikjjpjekchcjaaGreat
open Go.RowKit TrkMath MyHeap MyOwn
def LvAt (g : Nat) (LV : List Lv) (w : World) : Prop := ∃ cs : Array Value, w.heap[g]? = some (.cells cs 78 (0, 0)) ∧ cs.toList = flat2 LV
theorem LvAt.below {g : Nat} {LV : List Lv} {w w' : World} (h : LvAt g LV w) (hb : Below w.heap.size w w') : LvAt g LV w' := by
 obtain ⟨cs, h1, h2⟩ := h
 exact ⟨cs, aN hb h1, h2⟩
theorem LvAt.outs {X : List (Option Nat)} {g : Nat} {LV : List Lv} {w w' : World} (h : LvAt g LV w) (hb : Outs X w w') (hn : some g ∉ X) : LvAt g LV w' := by
 obtain ⟨cs, h1, h2⟩ := h
 exact ⟨cs, hb.keeps h1 hn, h2⟩
theorem LvAt.at {g : Nat} {LV : List Lv} {w : World} (h : LvAt g LV w) {k : Nat} (hk : k < LV.length) : w.cell? ⟨g, k * 2, none⟩ = some (.int .i64 (gl LV k).1) ∧ w.cell? ⟨g, k * 2 + 1, none⟩ = some (.int .i64 (gl LV k).2) := by
 obtain ⟨cs, h1, h2⟩ := h
 have hx := oB LV k hk
 rw [← h2] at hx
 exact ⟨aA h1 (by simpa [gl] using hx.1), aA h1 (by simpa [gl] using hx.2)⟩
def bdV' (s : Bs) : Value := .agg #[.slice s.aL s.nL s.cL, .slice s.aH s.nH s.cH]
def MePost (t : Tk) (s : Bs) (lo' hi' : List Int) (w : World) (e : Ending) (w' : World) : Prop :=
 ∃ s' : Bs, e = .returned (.tuple #[bdV' s', .bool (!emptyB lo' hi')]) ∧ Below w.heap.size w w' ∧
  ∀ (B : Nat) (X : List (Option Nat)), B ≤ w.heap.size → (∀ g, some g ∈ X → g < w.heap.size) → BdX B X w (t, s) → BdX B X w' ({ t with lo := lo', hi := hi' }, s')
theorem fE {W : World} {b : Nat} {T : TypeId} {c0 c1 : Value} (h : W.heap[b]? = some (.cells #[c0, c1] T (0, 0))) (x y : Value) : ((W.setCell ⟨b, 0, none⟩ x).setCell ⟨b, 1, none⟩ y).heap[b]? = some (.cells #[x, y] T (0, 0)) := by
 have := aD (i := 1) (v := y) (aD (i := 0) (v := x) h)
 simpa using this
theorem iN (W : World) (b : Nat) (x y : Value) : Only b W ((W.setCell ⟨b, 0, none⟩ x).setCell ⟨b, 1, none⟩ y) := ((Only.refl _ W).setCell 0 x).setCell 1 y
theorem kA {w W : World} {b0 : Nat} {t : Tk} {lo' hi' : List Int} {aP aQ : Option Addr} {cP cQ : Nat} (h : Alt.TwoOwn b0 (.slice aP 201 cP) (.slice aQ 201 cQ) lo' hi' W) (hb : w.heap.size ≤ b0) (l1 : lo'.length = 201) (l2 : hi'.length = 201) :
    ∀ (B : Nat) (X : List (Option Nat)), B ≤ w.heap.size → (∀ g, some g ∈ X → g < w.heap.size) → BdX B X W ({ t with lo := lo', hi := hi' }, ⟨aP, 201, cP, aQ, 201, cQ⟩) := by
 intro B X hB hX
 obtain ⟨⟨a1, n1, d1, a2, n2, d2⟩, e1, e2, hb1⟩ := BdX.of_own (X := X) (t := { t with lo := lo', hi := hi' }) h (Nat.le_of_eq l1) (Nat.le_of_eq l2) (fun g hg => Nat.lt_of_lt_of_le (hX g hg) hb)
 simp only [Value.slice.injEq] at e1 e2
 obtain ⟨rfl, rfl, rfl⟩ := e1
 obtain ⟨rfl, rfl, rfl⟩ := e2
 exact hb1.base (Nat.le_trans hB hb)
theorem nV {t : Tk} {s s' : Bs} {lo' hi' : List Int} {b : Bool} {w w' : World} (h0 : b = !emptyB lo' hi') (h1 : Below w.heap.size w w') (h2 : ∀ (B : Nat) (X : List (Option Nat)), B ≤ w.heap.size → (∀ g, some g ∈ X → g < w.heap.size) → BdX B X w (t, s) → BdX B X w' ({ t with lo := lo', hi := hi' }, s')) :
    MePost t s lo' hi' w (.returned (.tuple #[bdV' s', .bool b])) w' := by subst h0; exact ⟨s', rfl, h1, h2⟩
theorem bN (r g n c : Nat) (p : Par) (now next : Int) (tV pV eV : Value) (LV : List Lv) (t : Tk) (s : Bs) (k : Nat) (w : World) (hR : RunAt r p now next tV pV (.slice (some ⟨g, 0, none⟩) n c) eV w) (hL : LvAt g LV w) (hn : LV.length = n) (hk : k < n) (hl : LvOk (gl LV k)) (hC : AltMath.chB t.lo t.hi = 0) (hI : BdI w (t, s)) :
    Calls Tryz.prog 58 #[.pointer (some ⟨r, 0, none⟩), bdV' s, .int .i64 (k : Int)] w (MePost t s (meaL t.lo t.hi (gl LV k)) (meaH t.lo t.hi (gl LV k)) w) := by
 obtain ⟨c0, c1⟩ := hL.at (k := k) (by omega)
 obtain ⟨⟨A, S⟩, hA⟩ : ∃ l, gl LV k = l := ⟨_, rfl⟩
 rw [hA] at c0 c1 hl ⊢
 obtain ⟨aL, nL, cL, aH, nH, cH⟩ := s
 obtain ⟨-, -, -, -, -, -, -, -, r8, -⟩ := hR.cells
 have HI := qh hI
 have HC := qh (And.intro hC hl)
 have rl := hR.lt
 have gq := World.block_lt_of_cell? _ _ c0
 have hk0 : (0 : Int) ≤ (k : Int) := by omega
 have hk1 : (k : Int) < (n : Int) := by omega
 have HB := qh (((aC w (.cells #[.slice aL nL cL, .slice aH nH cH] 53)).alloc (by simp) (.cells #[.slice none 0 0, .slice none 0 0] 53)).alloc (by simp; omega) (.cells #[.int .i64 A, .int .i64 S] 78))
 have HX := qh (show (((w.alloc (.cells #[.slice aL nL cL, .slice aH nH cH] 53)).alloc (.cells #[.slice none 0 0, .slice none 0 0] 53)).alloc (.cells #[.int .i64 A, .int .i64 S] 78)).heap[w.heap.size]? = some (.cells #[.slice aL nL cL, .slice aH nH cH] 53 (0, 0)) ∧
     (((w.alloc (.cells #[.slice aL nL cL, .slice aH nH cH] 53)).alloc (.cells #[.slice none 0 0, .slice none 0 0] 53)).alloc (.cells #[.int .i64 A, .int .i64 S] 78)).heap[w.heap.size + 1]? = some (.cells #[.slice none 0 0, .slice none 0 0] 53 (0, 0)) ∧
     (((w.alloc (.cells #[.slice aL nL cL, .slice aH nH cH] 53)).alloc (.cells #[.slice none 0 0, .slice none 0 0] 53)).alloc (.cells #[.int .i64 A, .int .i64 S] 78)).heap[w.heap.size + 1 + 1]? = some (.cells #[.int .i64 A, .int .i64 S] 78 (0, 0))
  from ⟨aG (aG (aI _ _ rfl)), aG (aI _ _ (by simp)), aI _ _ (by simp)⟩)
 clear hR hL hI hC hl hA
 unfold bdV'
 simp only []
 by_cases hs : 0 < S
 ·have HS := qh hs
  have HM := qh (show meaL t.lo t.hi (A, S) = AltMath.loK (AltMath.maF t.lo t.hi A S) 201 ∧ meaH t.lo t.hi (A, S) = AltMath.hiK (AltMath.maF t.lo t.hi A S) 201 from mea_yes (l := (A, S)) hs)
  go_enter Tryz.func58, Tryz.ntmps58
  go_wp2_with fail
  obtain ⟨lo', hlo⟩ : ∃ l, AltMath.loK (AltMath.maF t.lo t.hi A S) 201 = l := ⟨_, rfl⟩
  obtain ⟨hi', hhi⟩ : ∃ l, AltMath.hiK (AltMath.maF t.lo t.hi A S) 201 = l := ⟨_, rfl⟩
  have l1 : lo'.length = 201 := by rw [← hlo]; exact AltMath.loK_len _ _
  have l2 : hi'.length = 201 := by rw [← hhi]; exact AltMath.hiK_len _ _
  have HE0 := qh (show AltMath.maE t.lo t.hi A S = 0 from AltMath.maE_ok HC.out.1 (HC.out.2 HS.out))
  rw [hlo, hhi] at HM
  have hcall := Alt.pMea_call aL aH nL nH cL cH t.lo t.hi A S _ (HI.out.L.below HB.out) (HI.out.H.below HB.out)
  rw [hlo, hhi, HE0.out] at hcall
  have HCh := qh (show AltMath.chB lo' hi' = 0 from by rw [← hlo, ← hhi]; exact AltMath.ch_ma HC.out.1 (HC.out.2 HS.out))
  clear hlo hhi
  refine hcall.mono ?_; rintro e w1 ⟨vL, vH, rfl, hT, -, hb⟩
  clear hcall
  replace hT := hT rfl
  obtain ⟨aP, cP, rfl⟩ := aU (l1 ▸ hT.L)
  obtain ⟨aQ, cQ, rfl⟩ := aU (l2 ▸ hT.H)
  have HLn := qh (And.intro l1 l2)
  clear l1 l2
  have HT := qh hT
  have HZ := qh hb.size
  have K := qh (And.intro (HB.out.trans (hb.mono HB.out.size)) (And.intro (aN hb HX.out.1) (aN hb HX.out.2.1)))
  obtain ⟨x0, x1, f0, f1⟩ := Alt.two_facts K.out.2.1
  have xl := aB K.out.2.1
  clear hb hT r8 rl gq c0 c1 hk0 hk1
  go_wp2_with fail
  have hO := iN w1 w.heap.size (.slice aP 201 cP) (.slice aQ 201 cQ)
  have hsz : ∀ W : World, (((w.alloc (.cells #[.slice aL nL cL, .slice aH nH cH] 53)).alloc (.cells #[.slice none 0 0, .slice none 0 0] 53)).alloc (.cells #[.int .i64 A, .int .i64 S] 78)).heap.size ≤ W.heap.size → w.heap.size + 1 + 1 < W.heap.size := fun W h => by simp at h; omega
  have K2 := qh (And.intro (K.out.1.trans (hO.below (Nat.le_refl _) K.out.1.size)) (And.intro (fE K.out.2.1 (.slice aP 201 cP) (.slice aQ 201 cQ)) (hO.keeps K.out.2.2 (Nat.succ_ne_self _))))
  have HT2 := qh (show Alt.TwoOwn (((w.alloc (.cells #[.slice aL nL cL, .slice aH nH cH] 53)).alloc (.cells #[.slice none 0 0, .slice none 0 0] 53)).alloc (.cells #[.int .i64 A, .int .i64 S] 78)).heap.size (.slice aP 201 cP) (.slice aQ 201 cQ) lo' hi' _ from
   ⟨Outs.row (Outs.of_only (X := [some w.heap.size]) hO (List.mem_singleton.2 rfl)) HT.out.L (fun g e h => by have h1 := (HT.out.L.lt g e).1; have h2 := Option.some.inj (List.mem_singleton.1 h); simp at h1; omega), Outs.row (Outs.of_only (X := [some w.heap.size]) hO (List.mem_singleton.2 rfl)) HT.out.H (fun g e h => by have h1 := (HT.out.H.lt g e).1; have h2 := Option.some.inj (List.mem_singleton.1 h); simp at h1; omega), HT.out.A⟩)
  clear x0 x1 f0 f1 xl hO
  obtain ⟨a1, d1, e1, hI1⟩ := ints_own HT2.out.L (by rw [HLn.out.1]; decide)
  obtain ⟨a2, d2, e2, hI2⟩ := ints_own HT2.out.H (by rw [HLn.out.2]; decide)
  rw [HLn.out.1] at e1 hI1
  rw [HLn.out.2] at e2 hI2
  cases e1
  cases e2
  generalize (w1.setCell ⟨w.heap.size, 0, none⟩ (.slice aP 201 cP)).setCell ⟨w.heap.size, 1, none⟩ (.slice aQ 201 cQ) = w2 at *
  refine (Alt.pEmpty_call _ _ 201 201 _ _ lo' hi' _ hI1 hI2).mono ?_; rintro e w3 ⟨rfl, hb⟩
  replace K2 := qh (And.intro (K2.out.1.trans (hb.mono K2.out.1.size)) (And.intro (aN hb K2.out.2.1) (aN hb K2.out.2.2)))
  replace HT2 := qh (HT2.out.below hb)
  obtain ⟨x0, x1, f0, f1⟩ := Alt.two_facts K2.out.2.1
  have xl := aB K2.out.2.1
  obtain ⟨z0, z1, g0, g1⟩ := Alt.two_facts K2.out.2.2
  have zl := aB K2.out.2.2
  obtain ⟨EB, hEB⟩ : ∃ b, Alt.emB lo' hi' = b := ⟨_, rfl⟩
  have HEB := qh (show emptyB lo' hi' = EB from hEB)
  rw [hEB]
  clear hb hEB
  go_wp2_with fail
  have hO := iN w3 (w.heap.size + 1) (.slice aP 201 cP) (.slice aQ 201 cQ)
  have hx := fE K2.out.2.2 (.slice aP 201 cP) (.slice aQ 201 cQ)
  have s0 := aA (i := 0) (v := .slice aP 201 cP) hx rfl
  have s1 := aA (i := 1) (v := .slice aQ 201 cQ) hx rfl
  refine bodyPost_ret (v := .tuple #[.agg #[.slice aP 201 cP, .slice aQ 201 cQ], .bool (!EB)]) ?_ rfl ?_
  ·simp [results, Tryz.f58, go_sem, s0, s1]
  rw [HM.out.1, HM.out.2]
  refine nV (s' := ⟨aP, 201, cP, aQ, 201, cQ⟩) (by rw [HEB.out]) (K2.out.1.trans (hO.below (Nat.le_succ _) K2.out.1.size)) ?_
  have hT9 : Alt.TwoOwn _ _ _ lo' hi' _ := ⟨Outs.row (Outs.of_only (X := [some (w.heap.size + 1)]) hO (List.mem_singleton.2 rfl)) HT2.out.L (fun g e h => by have h1 := (HT2.out.L.lt g e).1; have h2 := Option.some.inj (List.mem_singleton.1 h); simp at h1; omega), Outs.row (Outs.of_only (X := [some (w.heap.size + 1)]) hO (List.mem_singleton.2 rfl)) HT2.out.H (fun g e h => by have h1 := (HT2.out.H.lt g e).1; have h2 := Option.some.inj (List.mem_singleton.1 h); simp at h1; omega), HT2.out.A⟩
  exact fun B X hB hX _ => kA (t := t) hT9 (by simp; omega) HLn.out.1 HLn.out.2 B X hB hX
 have HM := qh (show meaL t.lo t.hi (A, S) = t.lo ∧ meaH t.lo t.hi (A, S) = t.hi from p8 (l := (A, S)) hs)
 have HI2 := qh (And.intro (HI.out.L.below HB.out) (HI.out.H.below HB.out))
 go_enter Tryz.func58, Tryz.ntmps58
 go_wp2_with fail
 refine (Alt.pEmpty_call aL aH nL nH cL cH t.lo t.hi _ HI2.out.1 HI2.out.2).mono ?_; rintro e w3 ⟨rfl, hb⟩
 have K2 := qh (And.intro HB.out (And.intro HX.out.1 HX.out.2.1))
 replace K2 := qh (And.intro (K2.out.1.trans (hb.mono K2.out.1.size)) (And.intro (aN hb K2.out.2.1) (aN hb K2.out.2.2)))
 clear r8 rl gq c0 c1 hk0 hk1
 obtain ⟨x0, x1, f0, f1⟩ := Alt.two_facts K2.out.2.1
 have xl := aB K2.out.2.1
 obtain ⟨z0, z1, g0, g1⟩ := Alt.two_facts K2.out.2.2
 have zl := aB K2.out.2.2
 obtain ⟨EB, hEB⟩ : ∃ b, Alt.emB t.lo t.hi = b := ⟨_, rfl⟩
 have HEB := qh (show emptyB t.lo t.hi = EB from hEB)
 rw [hEB]
 clear hb hEB
 go_wp2_with fail
 have hO := iN w3 (w.heap.size + 1) (.slice aL nL cL) (.slice aH nH cH)
 have hx := fE K2.out.2.2 (.slice aL nL cL) (.slice aH nH cH)
 have s0 := aA (i := 0) (v := .slice aL nL cL) hx rfl
 have s1 := aA (i := 1) (v := .slice aH nH cH) hx rfl
 refine bodyPost_ret (v := .tuple #[.agg #[.slice aL nL cL, .slice aH nH cH], .bool (!EB)]) ?_ rfl ?_
 ·simp [results, Tryz.f58, go_sem, s0, s1]
 rw [HM.out.1, HM.out.2]
 refine nV (s' := ⟨aL, nL, cL, aH, nH, cH⟩) (by rw [HEB.out]) (K2.out.1.trans (hO.below (Nat.le_succ _) K2.out.1.size)) ?_
 intro B X hB hX hbd
 exact hbd.outs (Outs.of_below (K2.out.1.trans (hO.below (Nat.le_succ _) K2.out.1.size)))
end Go.Proofs.YtikjjpjekchcjaaGreat
end
