/-
  A range over a function whose left side is a variable in memory: what the assignment leaves, 'Mid', need not be what held between two rounds. No program in sight.
-/
import Derived.RangeFuncNested
namespace Go.MyRange
open Go.RowKit

section
variable {F : Fence} {n : Nat} {P : Program} {α : Type}

/-- The two blocks that the loop lays: its record at l, in state r; the block for deferred calls at d, still open. -/
def Laid (l d : Nat) (r : Loop) (W : World) : Prop := W.heap[l]? = some (.loop r) ∧ W.heap[d]? = some (.deferred (some []))
theorem Laid.kept {l d B : Nat} {r : Loop} {W W' : World} (h : Laid l d r W) (k : KeepsFrom B W W') (hl : B ≤ l) (hd : B ≤ d) : Laid l d r W' := ⟨k.same _ _ hl h.1 rfl, k.same _ _ hd h.2 rfl⟩
theorem Laid.turn {l d : Nat} {r r' : Loop} {W : World} (h : Laid l d r W) (hne : d ≠ l) : Laid l d r' (W.putObj l (.loop r')) :=
  ⟨World.putObj_heap_same (Array.getElem?_eq_some_iff.1 h.1).1, (World.putObj_heap_other hne).trans h.2⟩
theorem Laid.abides {l d : Nat} {r : Loop} {W W' : World} {row : Option Nat} (h : Laid l d r W) (hg : W.grownBy W' row) (hr : ∀ q, row = some q → ∃ o : Obj, W.heap[q]? = some o ∧ o.isWalk = true) : Laid l d r W' :=
  ⟨(grownBy_keeps hg hr h.1 rfl).trans h.1, (grownBy_keeps hg hr h.2 rfl).trans h.2⟩

/-- How a round ends, by the way its body was left. -/
theorem round_ends {l d : Nat} {rec : LoopState → Option Code → Loop} (hrec : ∀ st pe, rec st pe = { rec .ready none with state := st, pending := pe }) {W3 : World} (h : Laid l d { rec .ready none with state := .busy } W3) (hne : d ≠ l) (jump : Option Code) :
    (Instr.endRound l jump).run P W3 = .ok (.bool jump.isNone) (W3.putObj l (.loop (rec (if jump.isNone then .ready else .done) jump))) ∧ Laid l d (rec (if jump.isNone then .ready else .done) jump) (W3.putObj l (.loop (rec (if jump.isNone then .ready else .done) jump))) := by
  have hrun := run_endRound (P := P) jump h.1
  rw [hrec (if jump.isNone then .ready else .done) jump]
  exact ⟨hrun, h.turn hne⟩

theorem wpIn_rangeFunc_mid {g : Operand} {ps : Array Tmp} {assign body : Code} {Q : Exit → Act → World → Prop} {a : Act} {w : World}
    (hro : F.round = none) (h1 : 1 ≤ n) {gf : Nat} {lb : Array Value} (hg : a.eval g = .func (.func gf) #[] lb) (hFg : F.fn gf) (eg : ∀ args w, (callFunc gf args).run P w = .ok (.enter gf args) w)
    {encs : α → Array Value} {Kp : World → World → Prop} {S Sp : List α → Prop} {N : Nat} (hseq : SeqStopsK F (n - 1) P gf lb encs Kp S Sp N w)
    (hKt : ∀ {A B C : World}, Kp A B → Kp B C → Kp A C) (hKb : ∀ (W : World) (l : Nat) (o o' : Obj), w.heap.size ≤ l → W.heap[l]? = some o → o.isCells = false → o.isWalk = false → Kp W (W.putObj l o')) (hps : ∀ x, (encs x).size = ps.size)
    (I : List α → World → Prop) (Ix : Code → List α → World → Prop) (hI : OwnFrom w.heap.size I) (hIx : ∀ c, OwnFrom w.heap.size (Ix c)) (h0 : I [] w)
    (Mid : List α → α → Act → World → Prop) (hMid : ∀ pre x a', OwnFrom w.heap.size (fun (_ : Unit) W => Mid pre x a' W))
    (hassign : ∀ (l : Nat) (pre : List α) (x : α) (W : World) (K : Act → World → Prop), I pre W → (∀ a' W', KeepsFrom w.heap.size W W' → Kp W W' → Mid pre x a' W' → K a' W') →
      assign.wpIn (F.inRound l) (n - 1 - 1) P (Exit.then K (fun _ _ _ => False)) { tmps := (ps.zip (encs x)).foldl (fun t (p, v) => t.setIfInBounds p v) a.tmps, defers := [] } W)
    (hbody : ∀ (l : Nat) (pre : List α) (x : α) (a' : Act) (W : World), Mid pre x a' W → pre.length < N → body.wpIn (F.inRound l) (n - 1 - 1) P (ownPostG w.heap.size Kp I Ix (pre ++ [x]) W) a' W)
    (hdone : ∀ (D : Nat) (xs : List α) (W : World), w.heap.size ≤ D → S xs → I xs W → W.heap[D]? = some (.deferred (some [])) → Q .normal { a with defers := { target := .collected D, args := #[] } :: a.defers } W)
    (hstop : ∀ (D : Nat) (c : Code) (pre : List α) (W : World), w.heap.size ≤ D → Sp pre → Ix c pre W → W.heap[D]? = some (.deferred (some [])) → c.wpIn F n P Q { a with defers := { target := .collected D, args := #[] } :: a.defers } W) :
    (Code.rangeFunc g ps assign body).wpIn F n P Q a w := by
  refine wpIn_rangeFunc fun fn hfn => ?_
  rw [hro]
  generalize hd : w.heap.size = d at *
  obtain ⟨rec, hrec⟩ : ∃ rec : LoopState → Option Code → Loop, rec = fun st pe => { state := st, pending := pe, fn, tmps := a.tmps, params := ps, assign, body, defers := d } := ⟨_, rfl⟩
  have hrs : ∀ st pe, rec st pe = { rec .ready none with state := st, pending := pe } := fun st pe => by rw [hrec]
  have hne : d ≠ d + 1 := by omega
  -- the world behind the loop's own two blocks
  have hlaid : Laid (d + 1) d (rec .ready none) ((w.alloc (.deferred (some []))).alloc (.loop (rec .ready none))) := by
    subst hd
    refine ⟨?_, (Below.heap_alloc _ _ _ (by simp)).trans (World.alloc_heap_new w _)⟩
    have := World.alloc_heap_new (w.alloc (.deferred (some []))) (.loop (rec .ready none))
    rwa [World.size_alloc] at this
  have hb1 : Below d w ((w.alloc (.deferred (some []))).alloc (.loop (rec .ready none))) := by
    subst hd
    exact ((Below.refl _ w).alloc (Nat.le_refl _) _).alloc (by simp) _
  have hsz : ((w.alloc (.deferred (some []))).alloc (.loop (rec .ready none))).heap.size = d + 2 := by simp [hd]
  have hi1 := hI.alloc (.loop (rec .ready none)) (hI.alloc (.deferred (some [])) h0)
  generalize hW1 : (w.alloc (.deferred (some []))).alloc (.loop (rec .ready none)) = W1 at *
  refine ⟨d + 1, [{ target := .collected d, args := #[] }], W1, { target := .fn (.func gf) lb, args := #[.func (.yield (d + 1)) #[] #[]] }, W1, gf, #[.func (.yield (d + 1)) #[] #[]] ++ lb, W1, ?_, ?_, ?_, ?_, fun _ => h1, ?_⟩
  · rw [← hW1, hrec]; subst hd; exact run_enterLoop_outer _ _ _ _ _
  · simp only [resolve, hg]
    simp [go_sem]
  · intro f' hf'
    simp [Target.leads] at hf'
    subst hf'
    exact hFg
  · simp [invoke, go_sem, eg]
  have far : ∀ {A B : World} {row : Option Nat}, (∀ r, row = some r → W1.heap.size ≤ r ∧ ∃ o : Obj, A.heap[r]? = some o ∧ o.isWalk = true) → (∀ r, row = some r → d ≤ r ∧ ∃ o : Obj, A.heap[r]? = some o ∧ o.isCells = false) := fun hr r e => by
    obtain ⟨h2, o, ho, hw⟩ := hr r e
    exact ⟨by omega, o, ho, Obj.not_cells_of_walk hw⟩
  refine (hseq (d + 1) (fun pre W => I pre W ∧ Laid (d + 1) d (rec .ready none) W) (fun pre W => ∃ c, Ix c pre W ∧ Laid (d + 1) d (rec .done (some c)) W) W1 (by rw [hd]; exact hb1)
    (fun s A B row hs hg' hr => ⟨hI s A B row hs.1 hg' (far (B := B) hr), hs.2.abides hg' fun q e => (hr q e).2⟩)
    (fun s A B row hs hg' hr => by
      obtain ⟨c, hc, hl⟩ := hs
      exact ⟨c, hIx c s A B row hc hg' (far (B := B) hr), hl.abides hg' fun q e => (hr q e).2⟩)
    ?_ ⟨hi1, hlaid⟩).mono ?_
  · rintro pre x W ⟨hi, hl⟩ hlen
    have hy := run_yield (P := P) (args := encs x) hl.1 (by rw [hrec]; exact hps x)
    rw [hrec] at hy
    refine ⟨fn, _, assign, body, hy, roundIn_of_wpIn hfn (hassign _ pre x W _ hi fun a' Wa hk1 hp1 hm => ?_)⟩
    have hla := hl.kept hk1 (by omega) (Nat.le_refl _)
    refine ⟨_, run_beginRound hla.1 (by rw [hrec]), ?_⟩
    have hlb : Laid (d + 1) d { rec .ready none with state := .busy } (Wa.putObj (d + 1) (.loop { rec .ready none with state := .busy })) := hla.turn hne
    have hpb := hKb Wa (d + 1) _ (.loop { rec .ready none with state := .busy }) (by omega) hla.1 rfl rfl
    refine wpIn_mono (hbody _ pre x a' _ ((hMid pre x a').putObj (s := ()) _ hm (by omega) hla.1 rfl) hlen) ?_
    rintro e a3 W3 hp
    have ends : KeepsFrom d (Wa.putObj (d + 1) (.loop { rec .ready none with state := .busy })) W3 → ∀ jump : Option Code, (Instr.endRound (d + 1) jump).run P W3 = .ok (.bool jump.isNone) (W3.putObj (d + 1) (.loop (rec (if jump.isNone then .ready else .done) jump))) ∧ Laid (d + 1) d (rec (if jump.isNone then .ready else .done) jump) (W3.putObj (d + 1) (.loop (rec (if jump.isNone then .ready else .done) jump))) ∧ W3.heap[d + 1]? = some (.loop { rec .ready none with state := .busy }) := fun hk3 jump => by
      have h3 := hlb.kept hk3 (by omega) (Nat.le_refl _)
      have := round_ends (P := P) hrs h3 hne jump
      exact ⟨this.1, this.2, h3.1⟩
    have leave : ∀ c : Code, KeepsFrom d (Wa.putObj (d + 1) (.loop { rec .ready none with state := .busy })) W3 → Ix c (pre ++ [x]) W3 → ∃ c', Ix c' (pre ++ [x]) (W3.putObj (d + 1) (.loop (rec .done (some c)))) ∧ Laid (d + 1) d (rec .done (some c')) (W3.putObj (d + 1) (.loop (rec .done (some c)))) := fun c hk3 hc => by
      obtain ⟨_, h4, h3⟩ := ends hk3 (some c)
      exact ⟨c, (hIx c).putObj _ hc (by omega) h3 rfl, h4⟩
    cases e with
    | normal =>
      obtain ⟨hk3, hp3, hi3⟩ := hp
      obtain ⟨hr, h4, h3⟩ := ends hk3 none
      exact ⟨_, _, hr, .inl ⟨rfl, ⟨hI.putObj _ hi3 (by omega) h3 rfl, h4⟩, hKt hp1 (hKt (hKt hpb hp3) (hKb _ _ _ _ (by omega) h3 rfl rfl))⟩⟩
    | ret => exact ⟨_, _, (ends hp.1 (some .ret)).1, .inr ⟨rfl, leave _ hp.1 hp.2⟩⟩
    | exit id => exact ⟨_, _, (ends hp.1 (some (.exit id))).1, .inr ⟨rfl, leave _ hp.1 hp.2⟩⟩
    | goto t => exact ⟨_, _, (ends hp.1 (some (.goto t))).1, .inr ⟨rfl, leave _ hp.1 hp.2⟩⟩
    | panic ch => exact hp.elim
    | outgrown => exact hp.elim
  · rintro e W2 ⟨⟨v, rfl⟩, (⟨xs, hS, hi, hl⟩ | ⟨pre, hSp, c, hi, hl⟩)⟩
    · exact ⟨none, _, by have := run_endLoop (P := P) hl.1 (by rw [hrec]; simp); rw [hrec] at this; exact this, hdone _ xs _ (Nat.le_refl _) hS (hI.putObj _ hi (by omega) hl.1 rfl) ((World.putObj_heap_other hne).trans hl.2)⟩
    · exact ⟨some c, _, by have := run_endLoop (P := P) hl.1 (by rw [hrec]; simp); rw [hrec] at this; exact this, hstop _ c pre _ (Nat.le_refl _) hSp ((hIx c).putObj _ hi (by omega) hl.1 rfl) ((World.putObj_heap_other hne).trans hl.2)⟩
end
end Go.MyRange
