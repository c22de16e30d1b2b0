/-
  HeldEr, HeldFr
-/
import Derived.Test.YtikjjpjekchcjaaGreatPm2
set_option linter.all false
set_option maxRecDepth 100000
set_option maxHeartbeats 64000000
section
namespace Go.MyHeldE
variable {P : Program} {ops : Array Oper} {Q : Exit → Act → World → Prop} {md : Region.Mode} {S : World → Prop} {late : List Nat}
def Ends (P : Program) (md : Region.Mode) (ops : Array Oper) (Q : Exit → Act → World → Prop) (S : World → Prop) (late : List Nat) : Nat → Array Bool → Act → World → Prop
 | 0, ls, a, w => Region.ready md ops ls = [] ∧ Q .normal a w
 | n + 1, ls, a, w => (Region.ready md ops ls = [] → Q .normal a w) ∧ ∀ i ∈ Region.ready md ops ls, wpOp P ops Q i (fun b x => (late.contains i = false → S x) ∧ Ends P md ops Q S late n (ls.setIfInBounds i true) b x) a w
theorem Ends.any : ∀ (n : Nat) (ls : Array Bool) (a : Act) (w : World), Ends P md ops Q S late n ls a w → wpAny P md ops Q n ls a w
 | 0, _, _, _, h => h
 | n + 1, _, _, _, h => ⟨h.1, fun i hi => wpOp_mono (fun b x k => Ends.any n _ b x k.2) (h.2 i hi)⟩
def Shut (md : Region.Mode) (ops : Array Oper) (ls : Array Bool) : Prop := ∀ k o, ops[k]? = some o → ls.getD k false = true → ∀ e ∈ o.after, Region.binds md e = true → ls.getD e.on false = true
def shutB (md : Region.Mode) (ops : Array Oper) (ls : Array Bool) : Bool := (List.range ops.size).all fun k => match ops[k]? with
 | none => true
 | some o => !(ls.getD k false) || o.after.toList.all fun e => !(Region.binds md e) || ls.getD e.on false
theorem shut_of {ls : Array Bool} (h : shutB md ops ls = true) : Shut md ops ls := by
 intro k o ho hk e he hb
 have hlt : k < ops.size := (Array.getElem?_eq_some_iff.1 ho).1
 have h1 := List.all_eq_true.1 h k (List.mem_range.2 hlt)
 rw [ho] at h1
 simp only [hk, Bool.not_true, Bool.false_or] at h1
 have h2 := List.all_eq_true.1 h1 e (Array.mem_toList_iff.2 he)
 simp only [hb, Bool.not_true, Bool.false_or] at h2
 exact h2
theorem Shut.next {ls : Array Bool} {j : Nat} (h : Shut md ops ls) (hj : j ∈ Region.ready md ops ls) : Shut md ops (ls.setIfInBounds j true) := by
 intro k o ho hk e he hb
 obtain ⟨_, oj, hoj, hall⟩ := mem_ready.1 hj
 by_cases hjk : j = k
 ·subst hjk
  rw [hoj] at ho
  cases ho
  exact getD_set_true (hall e he hb)
 rw [getD_set_ne false hjk] at hk
 exact getD_set_true (h k o ho hk e he hb)
def waits (md : Region.Mode) (ops : Array Oper) : Nat → Nat → Nat → Bool
 | 0, _, _ => false
 | n + 1, j, i => match ops[j]? with
  | none => false
  | some o => o.after.toList.any fun e => Region.binds md e && (e.on == i || waits md ops n e.on i)
theorem jR {ls : Array Bool} (h : Shut md ops ls) : ∀ (n j i : Nat), waits md ops n j i = true → (∀ o, ops[j]? = some o → ∀ e ∈ o.after, Region.binds md e = true → ls.getD e.on false = true) → ls.getD i false = true := by
 intro n
 induction n with
 | zero => intro j i hw; cases hw
 | succ n ih =>
  intro j i hw hd
  unfold waits at hw
  cases ho : ops[j]? with
  | none => rw [ho] at hw; cases hw
  | some o =>
   rw [ho] at hw
   obtain ⟨e, he, hx⟩ := List.any_eq_true.1 hw
   rw [Bool.and_eq_true, Bool.or_eq_true] at hx
   have hl := hd o ho e (Array.mem_toList_iff.1 he) hx.1
   rcases hx.2 with h1 | h1
   ·rw [beq_iff_eq] at h1
    rw [← h1]
    exact hl
   exact ih e.on i h1 fun o' ho' e' he' hb' => h e.on o' ho' hl e' he' hb'
theorem ends_first {i : Nat} {oi : Oper} {v : Value} (hi : ops[i]? = some oi) (hsel : ∀ (j : Nat) (o : Oper) cs b, ops[j]? = some o → o.op ≠ .select cs b)
    (hQ : ∀ c a w, Q (.panic c) (a.put oi.dst v) w → Q (.panic c) a w) {m : Nat} (hw : ∀ j, late.contains j = true → waits md ops m j i = true) :
    ∀ (n : Nat) (ls : Array Bool) (a : Act) (w : World), Shut md ops ls →
     (∀ j oj, ops[j]? = some oj → j ≠ i → ls.getD j true = false → (∀ e ∈ oj.after, Region.binds md e = true → e.on ≠ i) → oi.apart ops oj = true) →
     i ∈ Region.ready md ops ls → YieldsIf P ops S oi v a → S w →
     Ends P md ops Q S late n (ls.setIfInBounds i true) (a.put oi.dst v) w → Ends P md ops Q S late (n + 1) ls a w := by
 intro n
 induction n with
 | zero =>
  intro ls a w _ _ hr hy hS H
  refine ⟨fun h => (by rw [h] at hr; cases hr), fun j hj => ?_⟩
  by_cases hji : j = i
  ·subst hji; exact hy.wpOp hi hS ⟨fun _ => hS, H⟩
  have := ready_mono hj hji
  rw [H.1] at this
  cases this
 | succ n ih =>
  intro ls a w hsh hfree hr hy hS H
  refine ⟨fun h => (by rw [h] at hr; cases hr), fun j hj => ?_⟩
  by_cases hji : j = i
  ·subst hji; exact hy.wpOp hi hS ⟨fun _ => hS, H⟩
  have h1 := H.2 j (ready_mono hj hji)
  obtain ⟨hjun, oj, hoj, hall⟩ := mem_ready.1 hj
  have hun : ls.getD i false = false := by
   have h0 := (mem_ready.1 hr).1
   rcases Nat.lt_or_ge i ls.size with h' | h'
   ·simp [h'] at h0 ⊢; exact h0
   simp [Array.getElem?_eq_none h'] at h0
  have hnot : ∀ e ∈ oj.after, Region.binds md e = true → e.on ≠ i := fun e he hb heq => by
   have h2 := hall e he hb
   rw [heq, hun] at h2
   cases h2
  have hj0 : late.contains j = false := by
   cases hc : late.contains j with
   | false => rfl
   | true =>
    have := jR hsh m j i (hw j hc) fun o ho e he hb => by
     rw [hoj] at ho
     cases ho
     exact hall e he hb
    rw [hun] at this
    cases this
  have h2 := wpOp_putIf hoj (hfree j oj hoj hji hjun hnot) (fun cs b => hsel i oi cs b hi) (fun cs b => hsel j oj cs b hoj) hQ hy h1
  have hfree' : ∀ k ok, ops[k]? = some ok → k ≠ i → (ls.setIfInBounds j true).getD k true = false →
      (∀ e ∈ ok.after, Region.binds md e = true → e.on ≠ i) → oi.apart ops ok = true := fun k ok hk hki hk2 hno => by
   refine hfree k ok hk hki ?_ hno
   by_cases hjk : j = k
   ·subst hjk; exact hjun
   rw [getD_set_ne true hjk] at hk2; exact hk2
  refine wpOp_mono (fun b x h3 => ⟨h3.2.1, ih (ls.setIfInBounds j true) b x (hsh.next hj) hfree' (ready_mono hr (Ne.symm hji)) h3.1 (h3.2.1 hj0) ?_⟩) h2
  rw [Array.setIfInBounds_comm _ _ hji]
  exact h3.2.2
section
variable {l : List Oper}
open Go.MyHeld (At jE)
theorem take (i : Nat) {oi : Oper} {v : Value} {n : Nat} {ls : Array Bool} {a : Act} {w : World} (hi : At l i oi) (hc : shutB md l.toArray ls = true) (hw : (late.all fun j => waits md l.toArray l.length j i) = true)
    (hs : Region.noSelect l.toArray = true) (hf : Region.free md l.toArray ls i = true) (hr : (Region.ready md l.toArray ls).contains i = true)
    (hQ : ∀ c a w, Q (.panic c) (a.put oi.dst v) w → Q (.panic c) a w) (hwt : Region.wanted oi (yielded l.toArray a.tmps) = true) (hS : S w)
    (hy : ∀ w, S w → (execOp a.eval oi).run P w = .ok (.value v) w)
    (h : Ends P md l.toArray Q S late n (ls.setIfInBounds i true) (a.put oi.dst v) w) : Ends P md l.toArray Q S late (n + 1) ls a w :=
 ends_first (jE hi) (Region.noSelect_spec hs) hQ (m := l.length) (fun j hj => List.all_eq_true.1 hw j (List.contains_iff_mem.1 hj)) n ls a w (shut_of hc) (Region.free_spec (jE hi) hf) (by simpa using hr) (Or.inl ⟨hwt, hy⟩) hS h
def All (P : Program) (md : Region.Mode) (ops : Array Oper) (Q : Exit → Act → World → Prop) (S : World → Prop) (late : List Nat) (n : Nat) (ls : Array Bool) (a : Act) (w : World) (rs : List Nat) : Prop :=
 ∀ i ∈ rs, wpOp P ops Q i (fun b x => (late.contains i = false → S x) ∧ Ends P md ops Q S late n (ls.setIfInBounds i true) b x) a w
theorem All.nil {n : Nat} {ls : Array Bool} {a : Act} {w : World} : All P md ops Q S late n ls a w [] := fun _ h => by cases h
theorem next (i : Nat) {n : Nat} {ls : Array Bool} {a : Act} {w : World} {o : Oper} {rs : List Nat} (ho : At l i o)
    (h : ∀ K' : Act → World → Prop, Go.Shut (∀ b x, (late.contains i = false → S x) → Ends P md l.toArray Q S late n (ls.setIfInBounds i true) b x → K' b x) → if Region.wanted o (yielded l.toArray a.tmps) = true then Oper.wp P o a w K' Q else K' (a.put o.dst undef) w)
    (hs : All P md l.toArray Q S late n ls a w rs) : All P md l.toArray Q S late n ls a w (i :: rs) := fun j hj => by
 rcases List.mem_cons.1 hj with rfl | hj
 ·exact wpOp_step (jE ho) (fun K' hK => h K' (fun b x hS hW => hK b x ⟨hS, hW⟩))
 exact hs j hj
theorem ready {rs : List Nat} {n : Nat} {ls : Array Bool} {a : Act} {w : World} (hr : Region.ready md ops ls = rs) (hne : rs ≠ []) (h : All P md ops Q S late n ls a w rs) : Ends P md ops Q S late (n + 1) ls a w :=
 ⟨fun h0 => absurd (hr ▸ h0) hne, hr ▸ h⟩
theorem done {ls : Array Bool} {a : Act} {w : World} (hr : Region.ready md ops ls = []) (h : Q .normal a w) : ∀ n, Ends P md ops Q S late n ls a w
 | 0 => ⟨hr, h⟩
 | _ + 1 => ⟨fun _ => h, by rw [hr]; simp⟩
theorem start (S : World → Prop) (late : List Nat) {id : Nat} {a : Act} {w : World} (hm : P.follows .mixedOrders = true) (h : Ends P .any ops Q S late ops.size (Array.replicate ops.size false) a w.drew) : (Code.region id ops true).wp P Q a w :=
 wp_region_any hm (Ends.any _ _ _ _ h)
end
end Go.MyHeldE
end
section
namespace Go.MyHeldE
open Go.MyHeld (At jE)
variable {P : Program} {ops : Array Oper} {Q : Exit → Act → World → Prop} {md : Region.Mode} {S : World → Prop} {late : List Nat}
theorem pP {i : Nat} {oi : Oper} {v : Value} (hi : ops[i]? = some oi) (hsel : ∀ (j : Nat) (o : Oper) cs b, ops[j]? = some o → o.op ≠ .select cs b)
    (hQ : ∀ c a w, Q (.panic c) (a.put oi.dst v) w → Q (.panic c) a w) {m : Nat} :
    ∀ (n : Nat) (ls : Array Bool) (a : Act) (w : World), (∀ j, late.contains j = true → ls.getD j false = true ∨ waits md ops m j i = true) → Shut md ops ls →
     (∀ j oj, ops[j]? = some oj → j ≠ i → ls.getD j true = false → (∀ e ∈ oj.after, Region.binds md e = true → e.on ≠ i) → oi.apart ops oj = true) →
     i ∈ Region.ready md ops ls → YieldsIf P ops S oi v a → S w →
     Ends P md ops Q S late n (ls.setIfInBounds i true) (a.put oi.dst v) w → Ends P md ops Q S late (n + 1) ls a w := by
 intro n
 induction n with
 | zero =>
  intro ls a w _ _ _ hr hy hS H
  refine ⟨fun h => (by rw [h] at hr; cases hr), fun j hj => ?_⟩
  by_cases hji : j = i
  ·subst hji; exact hy.wpOp hi hS ⟨fun _ => hS, H⟩
  have := ready_mono hj hji
  rw [H.1] at this
  cases this
 | succ n ih =>
  intro ls a w hw hsh hfree hr hy hS H
  refine ⟨fun h => (by rw [h] at hr; cases hr), fun j hj => ?_⟩
  by_cases hji : j = i
  ·subst hji; exact hy.wpOp hi hS ⟨fun _ => hS, H⟩
  have h1 := H.2 j (ready_mono hj hji)
  obtain ⟨hjun, oj, hoj, hall⟩ := mem_ready.1 hj
  have hun : ls.getD i false = false := by
   have h0 := (mem_ready.1 hr).1
   rcases Nat.lt_or_ge i ls.size with h' | h'
   ·simp [h'] at h0 ⊢; exact h0
   simp [Array.getElem?_eq_none h'] at h0
  have hjf : ls.getD j false = false := by
   have h0 := hjun
   rcases Nat.lt_or_ge j ls.size with h' | h'
   ·simp [h'] at h0 ⊢; exact h0
   simp [Array.getElem?_eq_none h'] at h0
  have hnot : ∀ e ∈ oj.after, Region.binds md e = true → e.on ≠ i := fun e he hb heq => by
   have h2 := hall e he hb
   rw [heq, hun] at h2
   cases h2
  have hj0 : late.contains j = false := by
   cases hc : late.contains j with
   | false => rfl
   | true =>
    rcases hw j hc with hl | hl
    ·rw [hjf] at hl
     cases hl
    have := jR hsh m j i hl fun o ho e he hb => by
     rw [hoj] at ho
     cases ho
     exact hall e he hb
    rw [hun] at this
    cases this
  have h2 := wpOp_putIf hoj (hfree j oj hoj hji hjun hnot) (fun cs b => hsel i oi cs b hi) (fun cs b => hsel j oj cs b hoj) hQ hy h1
  have hfree' : ∀ k ok, ops[k]? = some ok → k ≠ i → (ls.setIfInBounds j true).getD k true = false →
      (∀ e ∈ ok.after, Region.binds md e = true → e.on ≠ i) → oi.apart ops ok = true := fun k ok hk hki hk2 hno => by
   refine hfree k ok hk hki ?_ hno
   by_cases hjk : j = k
   ·subst hjk; exact hjun
   rw [getD_set_ne true hjk] at hk2; exact hk2
  refine wpOp_mono (fun b x h3 => ⟨h3.2.1, ih (ls.setIfInBounds j true) b x (fun k hk => ?_) (hsh.next hj) hfree' (ready_mono hr (Ne.symm hji)) h3.1 (h3.2.1 hj0) ?_⟩) h2
  ·rcases hw k hk with hl | hl
   ·by_cases hjk : j = k
    ·subst hjk; rw [hjf] at hl; cases hl
    exact Or.inl (by rw [getD_set_ne false hjk]; exact hl)
   exact Or.inr hl
  rw [Array.setIfInBounds_comm _ _ hji]
  exact h3.2.2
theorem ends_any {i : Nat} {oi : Oper} {v : Value} (hi : ops[i]? = some oi) (hl : late.contains i = true) (hsel : ∀ (j : Nat) (o : Oper) cs b, ops[j]? = some o → o.op ≠ .select cs b)
    (hQ : ∀ c a w, Q (.panic c) (a.put oi.dst v) w → Q (.panic c) a w) :
    ∀ (n : Nat) (ls : Array Bool) (a : Act) (w : World),
     (∀ j oj, ops[j]? = some oj → j ≠ i → ls.getD j true = false → (∀ e ∈ oj.after, Region.binds md e = true → e.on ≠ i) → oi.apart ops oj = true) →
     i ∈ Region.ready md ops ls → YieldsIf P ops (fun _ => True) oi v a →
     Ends P md ops Q S late n (ls.setIfInBounds i true) (a.put oi.dst v) w → Ends P md ops Q S late (n + 1) ls a w := by
 intro n
 induction n with
 | zero =>
  intro ls a w _ hr hy H
  refine ⟨fun h => (by rw [h] at hr; cases hr), fun j hj => ?_⟩
  by_cases hji : j = i
  ·subst hji; exact hy.wpOp hi trivial ⟨fun e => (by rw [hl] at e; cases e), H⟩
  have := ready_mono hj hji
  rw [H.1] at this
  cases this
 | succ n ih =>
  intro ls a w hfree hr hy H
  refine ⟨fun h => (by rw [h] at hr; cases hr), fun j hj => ?_⟩
  by_cases hji : j = i
  ·subst hji; exact hy.wpOp hi trivial ⟨fun e => (by rw [hl] at e; cases e), H⟩
  have h1 := H.2 j (ready_mono hj hji)
  obtain ⟨hjun, oj, hoj, hall⟩ := mem_ready.1 hj
  have hun : ls.getD i false = false := by
   have h0 := (mem_ready.1 hr).1
   rcases Nat.lt_or_ge i ls.size with h' | h'
   ·simp [h'] at h0 ⊢; exact h0
   simp [Array.getElem?_eq_none h'] at h0
  have hnot : ∀ e ∈ oj.after, Region.binds md e = true → e.on ≠ i := fun e he hb heq => by
   have h2 := hall e he hb
   rw [heq, hun] at h2
   cases h2
  have h2 := wpOp_putIf hoj (hfree j oj hoj hji hjun hnot) (fun cs b => hsel i oi cs b hi) (fun cs b => hsel j oj cs b hoj) hQ hy h1
  have hfree' : ∀ k ok, ops[k]? = some ok → k ≠ i → (ls.setIfInBounds j true).getD k true = false →
      (∀ e ∈ ok.after, Region.binds md e = true → e.on ≠ i) → oi.apart ops ok = true := fun k ok hk hki hk2 hno => by
   refine hfree k ok hk hki ?_ hno
   by_cases hjk : j = k
   ·subst hjk; exact hjun
   rw [getD_set_ne true hjk] at hk2; exact hk2
  refine wpOp_mono (fun b x h3 => ⟨h3.2.1, ih (ls.setIfInBounds j true) b x hfree' (ready_mono hr (Ne.symm hji)) h3.1 ?_⟩) h2
  rw [Array.setIfInBounds_comm _ _ hji]
  exact h3.2.2
section
variable {l : List Oper}
theorem take2 (i : Nat) {oi : Oper} {v : Value} {n : Nat} {ls : Array Bool} {a : Act} {w : World} (hi : At l i oi) (hc : shutB md l.toArray ls = true) (hw : (late.all fun j => ls.getD j false || waits md l.toArray l.length j i) = true)
    (hs : Region.noSelect l.toArray = true) (hf : Region.free md l.toArray ls i = true) (hr : (Region.ready md l.toArray ls).contains i = true)
    (hQ : ∀ c a w, Q (.panic c) (a.put oi.dst v) w → Q (.panic c) a w) (hwt : Region.wanted oi (yielded l.toArray a.tmps) = true) (hS : S w)
    (hy : ∀ w, S w → (execOp a.eval oi).run P w = .ok (.value v) w)
    (h : Ends P md l.toArray Q S late n (ls.setIfInBounds i true) (a.put oi.dst v) w) : Ends P md l.toArray Q S late (n + 1) ls a w :=
 pP (jE hi) (Region.noSelect_spec hs) hQ (m := l.length) n ls a w (fun j hj => by
  have := List.all_eq_true.1 hw j (List.contains_iff_mem.1 hj)
  rwa [Bool.or_eq_true] at this) (shut_of hc) (Region.free_spec (jE hi) hf) (by simpa using hr) (Or.inl ⟨hwt, hy⟩) hS h
theorem take0 (i : Nat) {oi : Oper} {v : Value} {n : Nat} {ls : Array Bool} {a : Act} {w : World} (hi : At l i oi) (hl : late.contains i = true)
    (hs : Region.noSelect l.toArray = true) (hf : Region.free md l.toArray ls i = true) (hr : (Region.ready md l.toArray ls).contains i = true)
    (hQ : ∀ c a w, Q (.panic c) (a.put oi.dst v) w → Q (.panic c) a w) (hwt : Region.wanted oi (yielded l.toArray a.tmps) = true)
    (hy : ∀ w, (execOp a.eval oi).run P w = .ok (.value v) w)
    (h : Ends P md l.toArray Q S late n (ls.setIfInBounds i true) (a.put oi.dst v) w) : Ends P md l.toArray Q S late (n + 1) ls a w :=
 ends_any (jE hi) hl (Region.noSelect_spec hs) hQ n ls a w (Region.free_spec (jE hi) hf) (by simpa using hr) (Or.inl ⟨hwt, fun w _ => hy w⟩) h
open Go.MyHeld (at_rfl)
theorem tk (i : Nat) {oi : Oper} {v : Value} {n : Nat} {ls : Array Bool} {a a' : Act} {w : World} (h : Ends P md l.toArray Q S late n (ls.setIfInBounds i true) a' w) (hi : l[i]? = some oi := by rfl) (hy : ∀ w, S w → (execOp a.eval oi).run P w = .ok (.value v) w := by intro w hSw; (try dsimp only at hSw); go_simp; (try with_reducible rfl))
    (hp : a.put oi.dst v = a' := by (try simp only [Act.put, List.setIfInBounds_toArray, List.set_cons_zero, List.set_cons_succ]); exact rfl) (hS : S w := by assumption)
    (hQ : ∀ c a w, Q (.panic c) (a.put oi.dst v) w → Q (.panic c) a w := by intro _ _ _ h; exact h) (hwt : Region.wanted oi (yielded l.toArray a.tmps) = true := by rfl) (hc : shutB md l.toArray ls = true := by kernel_rfl) (hw : (late.all fun j => waits md l.toArray l.length j i) = true := by kernel_rfl)
    (hs : Region.noSelect l.toArray = true := by kernel_rfl) (hf : Region.free md l.toArray ls i = true := by kernel_rfl) (hr : (Region.ready md l.toArray ls).contains i = true := by kernel_rfl) : Ends P md l.toArray Q S late (n + 1) ls a w := take i (at_rfl hi) hc hw hs hf hr hQ hwt hS hy (hp ▸ h)
theorem tk2 (i : Nat) {oi : Oper} {v : Value} {n : Nat} {ls : Array Bool} {a a' : Act} {w : World} (h : Ends P md l.toArray Q S late n (ls.setIfInBounds i true) a' w) (hi : l[i]? = some oi := by rfl) (hy : ∀ w, S w → (execOp a.eval oi).run P w = .ok (.value v) w := by intro w hSw; (try dsimp only at hSw); go_simp; (try with_reducible rfl))
    (hp : a.put oi.dst v = a' := by (try simp only [Act.put, List.setIfInBounds_toArray, List.set_cons_zero, List.set_cons_succ]); exact rfl) (hS : S w := by assumption)
    (hQ : ∀ c a w, Q (.panic c) (a.put oi.dst v) w → Q (.panic c) a w := by intro _ _ _ h; exact h) (hwt : Region.wanted oi (yielded l.toArray a.tmps) = true := by rfl) (hc : shutB md l.toArray ls = true := by kernel_rfl) (hw : (late.all fun j => ls.getD j false || waits md l.toArray l.length j i) = true := by kernel_rfl)
    (hs : Region.noSelect l.toArray = true := by kernel_rfl) (hf : Region.free md l.toArray ls i = true := by kernel_rfl) (hr : (Region.ready md l.toArray ls).contains i = true := by kernel_rfl) : Ends P md l.toArray Q S late (n + 1) ls a w := take2 i (at_rfl hi) hc hw hs hf hr hQ hwt hS hy (hp ▸ h)
theorem tk0 (i : Nat) {oi : Oper} {v : Value} {n : Nat} {ls : Array Bool} {a a' : Act} {w : World} (h : Ends P md l.toArray Q S late n (ls.setIfInBounds i true) a' w) (hi : l[i]? = some oi := by rfl) (hy : ∀ w, (execOp a.eval oi).run P w = .ok (.value v) w := by intro w; go_simp; (try with_reducible rfl))
    (hp : a.put oi.dst v = a' := by (try simp only [Act.put, List.setIfInBounds_toArray, List.set_cons_zero, List.set_cons_succ]); exact rfl)
    (hQ : ∀ c a w, Q (.panic c) (a.put oi.dst v) w → Q (.panic c) a w := by intro _ _ _ h; exact h) (hwt : Region.wanted oi (yielded l.toArray a.tmps) = true := by rfl) (hl : late.contains i = true := by kernel_rfl)
    (hs : Region.noSelect l.toArray = true := by kernel_rfl) (hf : Region.free md l.toArray ls i = true := by kernel_rfl) (hr : (Region.ready md l.toArray ls).contains i = true := by kernel_rfl) : Ends P md l.toArray Q S late (n + 1) ls a w := take0 i (at_rfl hi) hl hs hf hr hQ hwt hy (hp ▸ h)
end
end Go.MyHeldE
end
