/-
  TrkT
-/
import Derived.Test.YtikjjpjekchcjaaGreatPm44
set_option linter.all false
set_option maxRecDepth 100000
set_option maxHeartbeats 64000000
namespace Go.Proofs.YtikjjpjekchcjaaGreat
open Go.RowKit TrkMath MyHeap MyOwn MyCopy
structure HK (w W : World) (l : List (Nat × Obj)) : Prop where
 B : Below w.heap.size w W
 H : ∀ x ∈ l, W.heap[x.1]? = some x.2
theorem HK.below {w W W' : World} {l : List (Nat × Obj)} (h : HK w W l) (hb : Below W.heap.size W W') : HK w W' l := ⟨h.B.trans (hb.mono h.B.size), fun x hx => aN hb (h.H x hx)⟩
theorem HK.nil (w : World) : HK w w [] := ⟨Below.refl _ _, fun x hx => by cases hx⟩
theorem HK.alloc {w W : World} {l : List (Nat × Obj)} (h : HK w W l) (cs : Array Value) (T : TypeId) : HK w (W.alloc (.cells cs T)) ((W.heap.size, .cells cs T (0, 0)) :: l) :=
 ⟨h.B.alloc h.B.size _, fun x hx => by
  rcases List.mem_cons.1 hx with e | hx
  ·subst e; exact aI _ _ rfl
  exact aG (h.H x hx)⟩
def CyN (R : TbR) (n m : Nat) (V : List Ev) (E : Int) (w : World) (e : Ending) (w' : World) : Prop :=
 ∃ a c ea ec M, e = .returned (.tuple #[tbV R.par R.now R.next (.slice a n c), .slice ea m ec, .int .i64 E]) ∧ TbI w' a n M ∧ fsts M = R.tk ∧ EvI w' ea m V ∧ Below w.heap.size w w'
theorem CyPost.N {ty : TypeId} {R : TbR} {V : List Ev} {E : Int} {w w' : World} {e : Ending} {n m : Nat} (h : CyPost ty R V E w e w') (hn : R.tk.length = n) (hm : V.length = m) (h1 : n ≤ 1000) : CyN R n m V E w e w' := by
 obtain ⟨a, c, ea, ec, M, rfl, hT, hM, hE, hB⟩ := h.I (by omega)
 have : M.length = n := by rw [← hn, ← hM, aY]
 rw [this] at hT ⊢
 rw [hm] at hE ⊢
 exact ⟨a, c, ea, ec, M, rfl, hT, hM, hE, hB⟩
theorem oW {w : World} {b : Nat} {T : TypeId} {r c a : Int} (h : w.heap[b]? = some (.cells #[.int .i64 r, .int .i64 c, .int .i64 a] T (0, 0))) : Pls w (some ⟨b, 0, none⟩) 1 [⟨r, c, a⟩] :=
 ⟨rfl, by decide, Or.inr ⟨b, 0, rfl, fun i hi => by
  have : i = 0 := by omega
  subst this
  exact ⟨aA h rfl, aA h rfl, aA h rfl⟩⟩⟩
theorem oX (w : World) (a : Option Addr) : Pls w a 0 [] := ⟨rfl, by decide, Or.inl rfl⟩
theorem l8 {w : World} {b : Nat} {T : TypeId} {k i p : Int} (h : w.heap[b]? = some (.cells #[.int .u8 k, .int .i64 i, .int .i64 p] T (0, 0))) : EvI w (some ⟨b, 0, none⟩) 1 [⟨k, i, p⟩] :=
 ⟨rfl, Or.inr ⟨b, 0, rfl, fun j hj => by
  have : j = 0 := by omega
  subst this
  exact ⟨aA h rfl, aA h rfl, aA h rfl⟩⟩⟩
theorem evi_two {w : World} {b : Nat} {T : TypeId} {k i p k' i' p' : Int} (h : w.heap[b]? = some (.cells #[.int .u8 k, .int .i64 i, .int .i64 p, .int .u8 k', .int .i64 i', .int .i64 p'] T (0, 0))) : EvI w (some ⟨b, 0, none⟩) 2 [⟨k, i, p⟩, ⟨k', i', p'⟩] :=
 ⟨rfl, Or.inr ⟨b, 0, rfl, fun j hj => by
  rcases (show j = 0 ∨ j = 1 by omega) with e | e
  ·subst e; exact ⟨aA h rfl, aA h rfl, aA h rfl⟩
  subst e; exact ⟨aA h rfl, aA h rfl, aA h rfl⟩⟩⟩
theorem fdE_t2 : fdE pG 2 1 [t2] 0 = 0 ∧ fdT pG 2 1 [t2] 0 = t2 := o8 (k := 0) (aw2.ck id2 (by decide)) (by simp) id2 (fun i hi => absurd hi (Nat.not_lt_zero _))
theorem jJ {now next now' next' : Int} {L L' : List Tk} {P : List Pl} {V : List Ev} {n n' m pn : Nat} (h : cyE pG now next L P = 0 ∧ cyT pG next L P = L' ∧ cyV pG next L P = V ∧ cyX pG next L P = next') (hnow : now + 1 = now') (hn' : L'.length = n') (hm : V.length = m) (h1 : n' ≤ 1000)
    (a : Option Addr) (c : Nat) (pa : Option Addr) (pc : Nat) (M : List TB) (W : World) (hT : TbI W a n M) (hM : fsts M = L) (hP : Pls W pa pn P) :
    Calls Tryz.prog 8 #[.agg #[.int .i64 8, .int .i64 2, .int .i64 3, .int .i64 4, .int .i64 now, .int .i64 next, .slice a n c], .slice pa pn pc] W (fun e w' => ∃ a' c' ea ec M', e = .returned (.tuple #[.agg #[.int .i64 8, .int .i64 2, .int .i64 3, .int .i64 4, .int .i64 now', .int .i64 next', .slice a' n' c'], .slice ea m ec, .int .i64 0]) ∧ TbI w' a' n' M' ∧ fsts M' = L' ∧ EvI w' ea m V ∧ Below W.heap.size W w') := by
 obtain ⟨h0, hT', hV', hX'⟩ := h
 have hc := iC pG now next a n c pa pn pc M P W hT.T hT.B hP
 rw [hM, h0, (jQ h0).1, (jQ h0).2, hT', hV', hX', hnow] at hc
 refine hc.mono ?_
 intro e w' hpost
 exact hpost.N hn' hm h1
theorem find_t2 (a : Option Addr) (c : Nat) (M : List TB) (W : World) (hT : TbI W a 1 M) (hM : fsts M = [t2]) :
    Calls Tryz.prog 14 #[.agg #[.int .i64 8, .int .i64 2, .int .i64 3, .int .i64 4, .int .i64 2, .int .i64 1, .slice a 1 c], .int .i64 0] W (fun e w' => ∃ sL nL kL sH nH kH, e = .returned (.tuple #[.agg #[.int .i64 0, .int .i64 9, .int .i64 27392, .int .i64 1792, .int .i64 2, .slice sL nL kL, .slice sH nH kH, .int .i64 2, .int .i64 0, .bool true], .int .i64 0]) ∧ Below W.heap.size W w') := by
 have h := lG pG 2 1 0 a 1 c M W hT
 rw [hM, fdE_t2.1, fdE_t2.2, t2_eq] at h
 refine h.mono ?_
 rintro e w' ⟨⟨sL, nL, kL, sH, nH, kH⟩, rfl, -, hb⟩
 exact ⟨sL, nL, kL, sH, nH, kH, rfl, hb⟩
theorem lR (w : World) : Calls Tryz.prog 5 #[] w (BoolB true w) := by
 have HNew := qh (show ∀ W : World, Calls Tryz.prog 20 #[.agg #[.int .i64 8, .int .i64 2, .int .i64 3, .int .i64 4]] W (fun e w' => e = .returned (.tuple #[.agg #[.int .i64 8, .int .i64 2, .int .i64 3, .int .i64 4, .int .i64 0, .int .i64 0, .slice none 0 0], .int .i64 0]) ∧ Below W.heap.size W w') from fun W => by
  have h := pNewT_call pG W
  rw [nwP_ok (kE nC), kE nC] at h
  exact h)
 go_enter Tryz.func5, Tryz.ntmps5
 go_wp2_with fail
 refine (HNew.out _).mono ?_; rintro e w1 ⟨rfl, hb⟩
 have K := qh ((HK.nil w).below hb)
 clear hb
 replace K := qh (K.out.alloc #[.int .i64 8, .int .i64 2, .int .i64 3, .int .i64 4, .int .i64 0, .int .i64 0, .slice none 0 0] 26)
 replace K := qh (K.out.alloc #[.int .i64 100, .int .i64 4156, .int .i64 (-1)] 63)
 go_wp2_with fail
 obtain ⟨B1, hB1⟩ : ∃ b, b = w1.heap.size := ⟨_, rfl⟩
 obtain ⟨P1, hP1⟩ : ∃ b, b = w1.heap.size + 1 := ⟨_, rfl⟩
 replace K := qh (show HK w ((w1.alloc (.cells #[.int .i64 8, .int .i64 2, .int .i64 3, .int .i64 4, .int .i64 0, .int .i64 0, .slice none 0 0] 26)).alloc (.cells #[.int .i64 100, .int .i64 4156, .int .i64 (-1)] 63)) [(P1, (.cells #[.int .i64 100, .int .i64 4156, .int .i64 (-1)] 63 (0, 0))), (B1, (.cells #[.int .i64 8, .int .i64 2, .int .i64 3, .int .i64 4, .int .i64 0, .int .i64 0, .slice none 0 0] 26 (0, 0)))] from by
  have h := K.out
  try simp only [World.size_alloc] at h
  rw [hB1, hP1]
  exact h)
 rw [← hP1, ← hB1]
 generalize ((w1.alloc (.cells #[.int .i64 8, .int .i64 2, .int .i64 3, .int .i64 4, .int .i64 0, .int .i64 0, .slice none 0 0] 26)).alloc (.cells #[.int .i64 100, .int .i64 4156, .int .i64 (-1)] 63)) = wa at *
 clear hB1 hP1
 have hc := jJ (now := 0) (next := 0) (now' := 1) (next' := 1) (L := []) (L' := [t1]) (P := [y1]) (V := [⟨5, 0, 0⟩]) (n := 0) (n' := 1) (m := 1) ex1 (by decide) rfl rfl (by decide) none 0 (some ⟨P1, 0, none⟩) 1 [] wa (TbI.nil _ _) rfl (oW (K.out.H _ (List.mem_cons_self)))
 refine hc.mono ?_; rintro e w2 ⟨a1, c1, ea1, ec1, M1, rfl, hT', hM', hE', hb⟩
 have T1 := qh hT'
 have T1m := qh hM'
 have E1 := qh hE'
 clear hc hT' hM' hE'
 replace K := qh (K.out.below hb)
 clear hb
 replace K := qh (K.out.alloc #[.int .i64 8, .int .i64 2, .int .i64 3, .int .i64 4, .int .i64 1, .int .i64 1, .slice a1 1 c1] 26)
 replace T1 := qh (T1.out.below (aC _ (.cells #[.int .i64 8, .int .i64 2, .int .i64 3, .int .i64 4, .int .i64 1, .int .i64 1, .slice a1 1 c1] 26)))
 replace E1 := qh (E1.out.below (aC _ (.cells #[.int .i64 8, .int .i64 2, .int .i64 3, .int .i64 4, .int .i64 1, .int .i64 1, .slice a1 1 c1] 26)))
 replace K := qh (K.out.alloc #[.int .u8 5, .int .i64 0, .int .i64 0] 48)
 replace T1 := qh (T1.out.below (aC _ (.cells #[.int .u8 5, .int .i64 0, .int .i64 0] 48)))
 replace E1 := qh (E1.out.below (aC _ (.cells #[.int .u8 5, .int .i64 0, .int .i64 0] 48)))
 go_wp2_with fail
 obtain ⟨B3, hB3⟩ : ∃ b, b = w2.heap.size := ⟨_, rfl⟩
 obtain ⟨V1, hV1⟩ : ∃ b, b = w2.heap.size + 1 := ⟨_, rfl⟩
 replace K := qh (show HK w ((w2.alloc (.cells #[.int .i64 8, .int .i64 2, .int .i64 3, .int .i64 4, .int .i64 1, .int .i64 1, .slice a1 1 c1] 26)).alloc (.cells #[.int .u8 5, .int .i64 0, .int .i64 0] 48)) [(V1, (.cells #[.int .u8 5, .int .i64 0, .int .i64 0] 48 (0, 0))), (B3, (.cells #[.int .i64 8, .int .i64 2, .int .i64 3, .int .i64 4, .int .i64 1, .int .i64 1, .slice a1 1 c1] 26 (0, 0))), (P1, (.cells #[.int .i64 100, .int .i64 4156, .int .i64 (-1)] 63 (0, 0))), (B1, (.cells #[.int .i64 8, .int .i64 2, .int .i64 3, .int .i64 4, .int .i64 0, .int .i64 0, .slice none 0 0] 26 (0, 0)))] from by
  have h := K.out
  try simp only [World.size_alloc] at h
  rw [hB3, hV1]
  exact h)
 rw [← hV1, ← hB3]
 generalize ((w2.alloc (.cells #[.int .i64 8, .int .i64 2, .int .i64 3, .int .i64 4, .int .i64 1, .int .i64 1, .slice a1 1 c1] 26)).alloc (.cells #[.int .u8 5, .int .i64 0, .int .i64 0] 48)) = wb at *
 clear hB3 hV1
 refine (eB ea1 (some ⟨V1, 0, none⟩) 1 ec1 1 [⟨5, 0, 0⟩] wb E1.out (l8 (K.out.H _ (List.mem_cons_self))) (by decide)).mono ?_; rintro e w3 ⟨rfl, hb⟩
 replace K := qh (K.out.below hb)
 replace T1 := qh (T1.out.below hb)
 replace E1 := qh (E1.out.below hb)
 clear hb
 obtain ⟨q0, q1, q2, q3, q4, q5, q6⟩ := aK (K.out.H _ (List.mem_cons_of_mem _ (List.mem_cons_self)))
 have ql := aB (K.out.H _ (List.mem_cons_of_mem _ (List.mem_cons_self)))
 replace K := qh (K.out.alloc #[.int .i64 107, .int .i64 (-1), .int .i64 9] 63)
 replace T1 := qh (T1.out.below (aC _ (.cells #[.int .i64 107, .int .i64 (-1), .int .i64 9] 63)))
 replace E1 := qh (E1.out.below (aC _ (.cells #[.int .i64 107, .int .i64 (-1), .int .i64 9] 63)))
 go_wp2_with fail
 obtain ⟨P2, hP2⟩ : ∃ b, b = w3.heap.size := ⟨_, rfl⟩
 replace K := qh (show HK w (w3.alloc (.cells #[.int .i64 107, .int .i64 (-1), .int .i64 9] 63)) [(P2, (.cells #[.int .i64 107, .int .i64 (-1), .int .i64 9] 63 (0, 0))), (V1, (.cells #[.int .u8 5, .int .i64 0, .int .i64 0] 48 (0, 0))), (B3, (.cells #[.int .i64 8, .int .i64 2, .int .i64 3, .int .i64 4, .int .i64 1, .int .i64 1, .slice a1 1 c1] 26 (0, 0))), (P1, (.cells #[.int .i64 100, .int .i64 4156, .int .i64 (-1)] 63 (0, 0))), (B1, (.cells #[.int .i64 8, .int .i64 2, .int .i64 3, .int .i64 4, .int .i64 0, .int .i64 0, .slice none 0 0] 26 (0, 0)))] from by
  have h := K.out
  try simp only [World.size_alloc] at h
  rw [hP2]
  exact h)
 rw [← hP2]
 generalize (w3.alloc (.cells #[.int .i64 107, .int .i64 (-1), .int .i64 9] 63)) = wc at *
 clear hP2
 clear q0 q1 q2 q3 q4 q5 q6 ql
 have hc := jJ (now := 1) (next := 1) (now' := 2) (next' := 1) (L := [t1]) (L' := [t2]) (P := [y2]) (V := [⟨1, 0, 0⟩, ⟨2, 0, 0⟩]) (n := 1) (n' := 1) (m := 2) ex2 (by decide) rfl rfl (by decide) a1 c1 (some ⟨P2, 0, none⟩) 1 M1 wc T1.out T1m.out (oW (K.out.H _ (List.mem_cons_self)))
 refine hc.mono ?_; rintro e w4 ⟨a2, c2, ea2, ec2, M2, rfl, hT', hM', hE', hb⟩
 have T2 := qh hT'
 have T2m := qh hM'
 have E2 := qh hE'
 clear hc hT' hM' hE'
 replace K := qh (K.out.below hb)
 replace T1 := qh (T1.out.below hb)
 replace E1 := qh (E1.out.below hb)
 clear hb
 replace K := qh (K.out.alloc #[.int .i64 8, .int .i64 2, .int .i64 3, .int .i64 4, .int .i64 2, .int .i64 1, .slice a2 1 c2] 26)
 replace T1 := qh (T1.out.below (aC _ (.cells #[.int .i64 8, .int .i64 2, .int .i64 3, .int .i64 4, .int .i64 2, .int .i64 1, .slice a2 1 c2] 26)))
 replace E1 := qh (E1.out.below (aC _ (.cells #[.int .i64 8, .int .i64 2, .int .i64 3, .int .i64 4, .int .i64 2, .int .i64 1, .slice a2 1 c2] 26)))
 replace T2 := qh (T2.out.below (aC _ (.cells #[.int .i64 8, .int .i64 2, .int .i64 3, .int .i64 4, .int .i64 2, .int .i64 1, .slice a2 1 c2] 26)))
 replace E2 := qh (E2.out.below (aC _ (.cells #[.int .i64 8, .int .i64 2, .int .i64 3, .int .i64 4, .int .i64 2, .int .i64 1, .slice a2 1 c2] 26)))
 go_wp2_with fail
 obtain ⟨B6, hB6⟩ : ∃ b, b = w4.heap.size := ⟨_, rfl⟩
 replace K := qh (show HK w (w4.alloc (.cells #[.int .i64 8, .int .i64 2, .int .i64 3, .int .i64 4, .int .i64 2, .int .i64 1, .slice a2 1 c2] 26)) [(B6, (.cells #[.int .i64 8, .int .i64 2, .int .i64 3, .int .i64 4, .int .i64 2, .int .i64 1, .slice a2 1 c2] 26 (0, 0))), (P2, (.cells #[.int .i64 107, .int .i64 (-1), .int .i64 9] 63 (0, 0))), (V1, (.cells #[.int .u8 5, .int .i64 0, .int .i64 0] 48 (0, 0))), (B3, (.cells #[.int .i64 8, .int .i64 2, .int .i64 3, .int .i64 4, .int .i64 1, .int .i64 1, .slice a1 1 c1] 26 (0, 0))), (P1, (.cells #[.int .i64 100, .int .i64 4156, .int .i64 (-1)] 63 (0, 0))), (B1, (.cells #[.int .i64 8, .int .i64 2, .int .i64 3, .int .i64 4, .int .i64 0, .int .i64 0, .slice none 0 0] 26 (0, 0)))] from by
  have h := K.out
  try simp only [World.size_alloc] at h
  rw [hB6]
  exact h)
 rw [← hB6]
 generalize (w4.alloc (.cells #[.int .i64 8, .int .i64 2, .int .i64 3, .int .i64 4, .int .i64 2, .int .i64 1, .slice a2 1 c2] 26)) = wd at *
 clear hB6
 refine (find_t2 a2 c2 M2 wd T2.out T2m.out).mono ?_; rintro e w5 ⟨sL, nL, kL, sH, nH, kH, rfl, hb⟩
 replace K := qh (K.out.below hb)
 replace T1 := qh (T1.out.below hb)
 replace E1 := qh (E1.out.below hb)
 replace T2 := qh (T2.out.below hb)
 replace E2 := qh (E2.out.below hb)
 clear hb
 replace K := qh (K.out.alloc #[.int .i64 0, .int .i64 9, .int .i64 27392, .int .i64 1792, .int .i64 2, .slice sL nL kL, .slice sH nH kH, .int .i64 2, .int .i64 0, .bool true] 55)
 replace T1 := qh (T1.out.below (aC _ (.cells #[.int .i64 0, .int .i64 9, .int .i64 27392, .int .i64 1792, .int .i64 2, .slice sL nL kL, .slice sH nH kH, .int .i64 2, .int .i64 0, .bool true] 55)))
 replace E1 := qh (E1.out.below (aC _ (.cells #[.int .i64 0, .int .i64 9, .int .i64 27392, .int .i64 1792, .int .i64 2, .slice sL nL kL, .slice sH nH kH, .int .i64 2, .int .i64 0, .bool true] 55)))
 replace T2 := qh (T2.out.below (aC _ (.cells #[.int .i64 0, .int .i64 9, .int .i64 27392, .int .i64 1792, .int .i64 2, .slice sL nL kL, .slice sH nH kH, .int .i64 2, .int .i64 0, .bool true] 55)))
 replace E2 := qh (E2.out.below (aC _ (.cells #[.int .i64 0, .int .i64 9, .int .i64 27392, .int .i64 1792, .int .i64 2, .slice sL nL kL, .slice sH nH kH, .int .i64 2, .int .i64 0, .bool true] 55)))
 replace K := qh (K.out.alloc #[.int .u8 1, .int .i64 0, .int .i64 0, .int .u8 2, .int .i64 0, .int .i64 0] 48)
 replace T1 := qh (T1.out.below (aC _ (.cells #[.int .u8 1, .int .i64 0, .int .i64 0, .int .u8 2, .int .i64 0, .int .i64 0] 48)))
 replace E1 := qh (E1.out.below (aC _ (.cells #[.int .u8 1, .int .i64 0, .int .i64 0, .int .u8 2, .int .i64 0, .int .i64 0] 48)))
 replace T2 := qh (T2.out.below (aC _ (.cells #[.int .u8 1, .int .i64 0, .int .i64 0, .int .u8 2, .int .i64 0, .int .i64 0] 48)))
 replace E2 := qh (E2.out.below (aC _ (.cells #[.int .u8 1, .int .i64 0, .int .i64 0, .int .u8 2, .int .i64 0, .int .i64 0] 48)))
 go_wp2_with fail
 obtain ⟨B9, hB9⟩ : ∃ b, b = w5.heap.size := ⟨_, rfl⟩
 obtain ⟨V2, hV2⟩ : ∃ b, b = w5.heap.size + 1 := ⟨_, rfl⟩
 replace K := qh (show HK w ((w5.alloc (.cells #[.int .i64 0, .int .i64 9, .int .i64 27392, .int .i64 1792, .int .i64 2, .slice sL nL kL, .slice sH nH kH, .int .i64 2, .int .i64 0, .bool true] 55)).alloc (.cells #[.int .u8 1, .int .i64 0, .int .i64 0, .int .u8 2, .int .i64 0, .int .i64 0] 48)) [(V2, (.cells #[.int .u8 1, .int .i64 0, .int .i64 0, .int .u8 2, .int .i64 0, .int .i64 0] 48 (0, 0))), (B9, (.cells #[.int .i64 0, .int .i64 9, .int .i64 27392, .int .i64 1792, .int .i64 2, .slice sL nL kL, .slice sH nH kH, .int .i64 2, .int .i64 0, .bool true] 55 (0, 0))), (B6, (.cells #[.int .i64 8, .int .i64 2, .int .i64 3, .int .i64 4, .int .i64 2, .int .i64 1, .slice a2 1 c2] 26 (0, 0))), (P2, (.cells #[.int .i64 107, .int .i64 (-1), .int .i64 9] 63 (0, 0))), (V1, (.cells #[.int .u8 5, .int .i64 0, .int .i64 0] 48 (0, 0))), (B3, (.cells #[.int .i64 8, .int .i64 2, .int .i64 3, .int .i64 4, .int .i64 1, .int .i64 1, .slice a1 1 c1] 26 (0, 0))), (P1, (.cells #[.int .i64 100, .int .i64 4156, .int .i64 (-1)] 63 (0, 0))), (B1, (.cells #[.int .i64 8, .int .i64 2, .int .i64 3, .int .i64 4, .int .i64 0, .int .i64 0, .slice none 0 0] 26 (0, 0)))] from by
  have h := K.out
  try simp only [World.size_alloc] at h
  rw [hB9, hV2]
  exact h)
 rw [← hV2, ← hB9]
 generalize ((w5.alloc (.cells #[.int .i64 0, .int .i64 9, .int .i64 27392, .int .i64 1792, .int .i64 2, .slice sL nL kL, .slice sH nH kH, .int .i64 2, .int .i64 0, .bool true] 55)).alloc (.cells #[.int .u8 1, .int .i64 0, .int .i64 0, .int .u8 2, .int .i64 0, .int .i64 0] 48)) = we at *
 clear hB9 hV2
 refine (eB ea2 (some ⟨V2, 0, none⟩) 2 ec2 2 [⟨1, 0, 0⟩, ⟨2, 0, 0⟩] we E2.out (evi_two (K.out.H _ (List.mem_cons_self))) (by decide)).mono ?_; rintro e w6 ⟨rfl, hb⟩
 replace K := qh (K.out.below hb)
 replace T1 := qh (T1.out.below hb)
 replace E1 := qh (E1.out.below hb)
 replace T2 := qh (T2.out.below hb)
 replace E2 := qh (E2.out.below hb)
 clear hb
 obtain ⟨z0, z1, z2, z3, z4, z5, z6, z7, z8, z9⟩ := TkAt.block' (q := (⟨0, 9, ⟨27392, 1792, 2⟩, [], [], 2, 0, true⟩, ⟨sL, nL, kL, sH, nH, kH⟩)) (K.out.H _ (List.mem_cons_of_mem _ (List.mem_cons_self)))
 simp only [] at z0 z1 z2 z3 z4 z5 z6 z7 z8 z9
 have zl := aB (K.out.H _ (List.mem_cons_of_mem _ (List.mem_cons_self)))
 obtain ⟨q0, q1, q2, q3, q4, q5, q6⟩ := aK (K.out.H _ (List.mem_cons_of_mem _ (List.mem_cons_of_mem _ (List.mem_cons_self))))
 have ql := aB (K.out.H _ (List.mem_cons_of_mem _ (List.mem_cons_of_mem _ (List.mem_cons_self))))
 go_wp2_with fail
 clear q0 q1 q2 q3 q4 q5 q6 ql
 clear z0 z1 z2 z3 z4 z5 z6 z7 z8 z9 zl
 have hc := jJ (now := 2) (next := 1) (now' := 3) (next' := 1) (L := [t2]) (L' := [t3]) (P := []) (V := [⟨3, 0, -1⟩]) (n := 1) (n' := 1) (m := 1) ex3 (by decide) rfl rfl (by decide) a2 c2 none 0 M2 w6 T2.out T2m.out (oX _ _)
 refine hc.mono ?_; rintro e w7 ⟨a3, c3, ea3, ec3, M3, rfl, hT', hM', hE', hb⟩
 have T3 := qh hT'
 have T3m := qh hM'
 have E3 := qh hE'
 clear hc hT' hM' hE'
 replace K := qh (K.out.below hb)
 replace T1 := qh (T1.out.below hb)
 replace E1 := qh (E1.out.below hb)
 replace T2 := qh (T2.out.below hb)
 replace E2 := qh (E2.out.below hb)
 clear hb
 replace K := qh (K.out.alloc #[.int .i64 8, .int .i64 2, .int .i64 3, .int .i64 4, .int .i64 3, .int .i64 1, .slice a3 1 c3] 26)
 replace T1 := qh (T1.out.below (aC _ (.cells #[.int .i64 8, .int .i64 2, .int .i64 3, .int .i64 4, .int .i64 3, .int .i64 1, .slice a3 1 c3] 26)))
 replace E1 := qh (E1.out.below (aC _ (.cells #[.int .i64 8, .int .i64 2, .int .i64 3, .int .i64 4, .int .i64 3, .int .i64 1, .slice a3 1 c3] 26)))
 replace T2 := qh (T2.out.below (aC _ (.cells #[.int .i64 8, .int .i64 2, .int .i64 3, .int .i64 4, .int .i64 3, .int .i64 1, .slice a3 1 c3] 26)))
 replace E2 := qh (E2.out.below (aC _ (.cells #[.int .i64 8, .int .i64 2, .int .i64 3, .int .i64 4, .int .i64 3, .int .i64 1, .slice a3 1 c3] 26)))
 replace T3 := qh (T3.out.below (aC _ (.cells #[.int .i64 8, .int .i64 2, .int .i64 3, .int .i64 4, .int .i64 3, .int .i64 1, .slice a3 1 c3] 26)))
 replace E3 := qh (E3.out.below (aC _ (.cells #[.int .i64 8, .int .i64 2, .int .i64 3, .int .i64 4, .int .i64 3, .int .i64 1, .slice a3 1 c3] 26)))
 go_wp2_with fail
 obtain ⟨B11, hB11⟩ : ∃ b, b = w7.heap.size := ⟨_, rfl⟩
 replace K := qh (show HK w (w7.alloc (.cells #[.int .i64 8, .int .i64 2, .int .i64 3, .int .i64 4, .int .i64 3, .int .i64 1, .slice a3 1 c3] 26)) [(B11, (.cells #[.int .i64 8, .int .i64 2, .int .i64 3, .int .i64 4, .int .i64 3, .int .i64 1, .slice a3 1 c3] 26 (0, 0))), (V2, (.cells #[.int .u8 1, .int .i64 0, .int .i64 0, .int .u8 2, .int .i64 0, .int .i64 0] 48 (0, 0))), (B9, (.cells #[.int .i64 0, .int .i64 9, .int .i64 27392, .int .i64 1792, .int .i64 2, .slice sL nL kL, .slice sH nH kH, .int .i64 2, .int .i64 0, .bool true] 55 (0, 0))), (B6, (.cells #[.int .i64 8, .int .i64 2, .int .i64 3, .int .i64 4, .int .i64 2, .int .i64 1, .slice a2 1 c2] 26 (0, 0))), (P2, (.cells #[.int .i64 107, .int .i64 (-1), .int .i64 9] 63 (0, 0))), (V1, (.cells #[.int .u8 5, .int .i64 0, .int .i64 0] 48 (0, 0))), (B3, (.cells #[.int .i64 8, .int .i64 2, .int .i64 3, .int .i64 4, .int .i64 1, .int .i64 1, .slice a1 1 c1] 26 (0, 0))), (P1, (.cells #[.int .i64 100, .int .i64 4156, .int .i64 (-1)] 63 (0, 0))), (B1, (.cells #[.int .i64 8, .int .i64 2, .int .i64 3, .int .i64 4, .int .i64 0, .int .i64 0, .slice none 0 0] 26 (0, 0)))] from by
  have h := K.out
  try simp only [World.size_alloc] at h
  rw [hB11]
  exact h)
 rw [← hB11]
 generalize (w7.alloc (.cells #[.int .i64 8, .int .i64 2, .int .i64 3, .int .i64 4, .int .i64 3, .int .i64 1, .slice a3 1 c3] 26)) = wf at *
 clear hB11
 have hc := jJ (now := 3) (next := 1) (now' := 4) (next' := 1) (L := [t3]) (L' := [t4]) (P := []) (V := [⟨3, 0, -1⟩]) (n := 1) (n' := 1) (m := 1) ex4 (by decide) rfl rfl (by decide) a3 c3 none 0 M3 wf T3.out T3m.out (oX _ _)
 refine hc.mono ?_; rintro e w8 ⟨a4, c4, ea4, ec4, M4, rfl, hT', hM', hE', hb⟩
 have T4 := qh hT'
 have T4m := qh hM'
 have E4 := qh hE'
 clear hc hT' hM' hE'
 replace K := qh (K.out.below hb)
 replace T1 := qh (T1.out.below hb)
 replace E1 := qh (E1.out.below hb)
 replace T2 := qh (T2.out.below hb)
 replace E2 := qh (E2.out.below hb)
 replace T3 := qh (T3.out.below hb)
 replace E3 := qh (E3.out.below hb)
 clear hb
 replace K := qh (K.out.alloc #[.int .i64 8, .int .i64 2, .int .i64 3, .int .i64 4, .int .i64 4, .int .i64 1, .slice a4 1 c4] 26)
 replace T1 := qh (T1.out.below (aC _ (.cells #[.int .i64 8, .int .i64 2, .int .i64 3, .int .i64 4, .int .i64 4, .int .i64 1, .slice a4 1 c4] 26)))
 replace E1 := qh (E1.out.below (aC _ (.cells #[.int .i64 8, .int .i64 2, .int .i64 3, .int .i64 4, .int .i64 4, .int .i64 1, .slice a4 1 c4] 26)))
 replace T2 := qh (T2.out.below (aC _ (.cells #[.int .i64 8, .int .i64 2, .int .i64 3, .int .i64 4, .int .i64 4, .int .i64 1, .slice a4 1 c4] 26)))
 replace E2 := qh (E2.out.below (aC _ (.cells #[.int .i64 8, .int .i64 2, .int .i64 3, .int .i64 4, .int .i64 4, .int .i64 1, .slice a4 1 c4] 26)))
 replace T3 := qh (T3.out.below (aC _ (.cells #[.int .i64 8, .int .i64 2, .int .i64 3, .int .i64 4, .int .i64 4, .int .i64 1, .slice a4 1 c4] 26)))
 replace E3 := qh (E3.out.below (aC _ (.cells #[.int .i64 8, .int .i64 2, .int .i64 3, .int .i64 4, .int .i64 4, .int .i64 1, .slice a4 1 c4] 26)))
 replace T4 := qh (T4.out.below (aC _ (.cells #[.int .i64 8, .int .i64 2, .int .i64 3, .int .i64 4, .int .i64 4, .int .i64 1, .slice a4 1 c4] 26)))
 replace E4 := qh (E4.out.below (aC _ (.cells #[.int .i64 8, .int .i64 2, .int .i64 3, .int .i64 4, .int .i64 4, .int .i64 1, .slice a4 1 c4] 26)))
 go_wp2_with fail
 obtain ⟨B14, hB14⟩ : ∃ b, b = w8.heap.size := ⟨_, rfl⟩
 replace K := qh (show HK w (w8.alloc (.cells #[.int .i64 8, .int .i64 2, .int .i64 3, .int .i64 4, .int .i64 4, .int .i64 1, .slice a4 1 c4] 26)) [(B14, (.cells #[.int .i64 8, .int .i64 2, .int .i64 3, .int .i64 4, .int .i64 4, .int .i64 1, .slice a4 1 c4] 26 (0, 0))), (B11, (.cells #[.int .i64 8, .int .i64 2, .int .i64 3, .int .i64 4, .int .i64 3, .int .i64 1, .slice a3 1 c3] 26 (0, 0))), (V2, (.cells #[.int .u8 1, .int .i64 0, .int .i64 0, .int .u8 2, .int .i64 0, .int .i64 0] 48 (0, 0))), (B9, (.cells #[.int .i64 0, .int .i64 9, .int .i64 27392, .int .i64 1792, .int .i64 2, .slice sL nL kL, .slice sH nH kH, .int .i64 2, .int .i64 0, .bool true] 55 (0, 0))), (B6, (.cells #[.int .i64 8, .int .i64 2, .int .i64 3, .int .i64 4, .int .i64 2, .int .i64 1, .slice a2 1 c2] 26 (0, 0))), (P2, (.cells #[.int .i64 107, .int .i64 (-1), .int .i64 9] 63 (0, 0))), (V1, (.cells #[.int .u8 5, .int .i64 0, .int .i64 0] 48 (0, 0))), (B3, (.cells #[.int .i64 8, .int .i64 2, .int .i64 3, .int .i64 4, .int .i64 1, .int .i64 1, .slice a1 1 c1] 26 (0, 0))), (P1, (.cells #[.int .i64 100, .int .i64 4156, .int .i64 (-1)] 63 (0, 0))), (B1, (.cells #[.int .i64 8, .int .i64 2, .int .i64 3, .int .i64 4, .int .i64 0, .int .i64 0, .slice none 0 0] 26 (0, 0)))] from by
  have h := K.out
  try simp only [World.size_alloc] at h
  rw [hB14]
  exact h)
 rw [← hB14]
 generalize (w8.alloc (.cells #[.int .i64 8, .int .i64 2, .int .i64 3, .int .i64 4, .int .i64 4, .int .i64 1, .slice a4 1 c4] 26)) = wg at *
 clear hB14
 have hc := jJ (now := 4) (next := 1) (now' := 5) (next' := 1) (L := [t4]) (L' := []) (P := []) (V := [⟨4, 0, -1⟩]) (n := 1) (n' := 0) (m := 1) ex5 (by decide) rfl rfl (by decide) a4 c4 none 0 M4 wg T4.out T4m.out (oX _ _)
 refine hc.mono ?_; rintro e w9 ⟨a5, c5, ea5, ec5, M5, rfl, hT', hM', hE', hb⟩
 have T5 := qh hT'
 have T5m := qh hM'
 have E5 := qh hE'
 clear hc hT' hM' hE'
 replace K := qh (K.out.below hb)
 replace T1 := qh (T1.out.below hb)
 replace E1 := qh (E1.out.below hb)
 replace T2 := qh (T2.out.below hb)
 replace E2 := qh (E2.out.below hb)
 replace T3 := qh (T3.out.below hb)
 replace E3 := qh (E3.out.below hb)
 replace T4 := qh (T4.out.below hb)
 replace E4 := qh (E4.out.below hb)
 clear hb
 obtain ⟨q0, q1, q2, q3, q4, q5, q6⟩ := aK (K.out.H _ (List.mem_cons_of_mem _ (List.mem_cons_of_mem _ (List.mem_cons_of_mem _ (List.mem_cons_of_mem _ (List.mem_cons_of_mem _ (List.mem_cons_of_mem _ (List.mem_cons_of_mem _ (List.mem_cons_of_mem _ (List.mem_cons_of_mem _ (List.mem_cons_self)))))))))))
 have ql := aB (K.out.H _ (List.mem_cons_of_mem _ (List.mem_cons_of_mem _ (List.mem_cons_of_mem _ (List.mem_cons_of_mem _ (List.mem_cons_of_mem _ (List.mem_cons_of_mem _ (List.mem_cons_of_mem _ (List.mem_cons_of_mem _ (List.mem_cons_of_mem _ (List.mem_cons_self)))))))))))
 replace K := qh (K.out.alloc #[.int .i64 8, .int .i64 2, .int .i64 3, .int .i64 4, .int .i64 5, .int .i64 1, .slice a5 0 c5] 26)
 replace T1 := qh (T1.out.below (aC _ (.cells #[.int .i64 8, .int .i64 2, .int .i64 3, .int .i64 4, .int .i64 5, .int .i64 1, .slice a5 0 c5] 26)))
 replace E1 := qh (E1.out.below (aC _ (.cells #[.int .i64 8, .int .i64 2, .int .i64 3, .int .i64 4, .int .i64 5, .int .i64 1, .slice a5 0 c5] 26)))
 replace T2 := qh (T2.out.below (aC _ (.cells #[.int .i64 8, .int .i64 2, .int .i64 3, .int .i64 4, .int .i64 5, .int .i64 1, .slice a5 0 c5] 26)))
 replace E2 := qh (E2.out.below (aC _ (.cells #[.int .i64 8, .int .i64 2, .int .i64 3, .int .i64 4, .int .i64 5, .int .i64 1, .slice a5 0 c5] 26)))
 replace T3 := qh (T3.out.below (aC _ (.cells #[.int .i64 8, .int .i64 2, .int .i64 3, .int .i64 4, .int .i64 5, .int .i64 1, .slice a5 0 c5] 26)))
 replace E3 := qh (E3.out.below (aC _ (.cells #[.int .i64 8, .int .i64 2, .int .i64 3, .int .i64 4, .int .i64 5, .int .i64 1, .slice a5 0 c5] 26)))
 replace T4 := qh (T4.out.below (aC _ (.cells #[.int .i64 8, .int .i64 2, .int .i64 3, .int .i64 4, .int .i64 5, .int .i64 1, .slice a5 0 c5] 26)))
 replace E4 := qh (E4.out.below (aC _ (.cells #[.int .i64 8, .int .i64 2, .int .i64 3, .int .i64 4, .int .i64 5, .int .i64 1, .slice a5 0 c5] 26)))
 replace T5 := qh (T5.out.below (aC _ (.cells #[.int .i64 8, .int .i64 2, .int .i64 3, .int .i64 4, .int .i64 5, .int .i64 1, .slice a5 0 c5] 26)))
 replace E5 := qh (E5.out.below (aC _ (.cells #[.int .i64 8, .int .i64 2, .int .i64 3, .int .i64 4, .int .i64 5, .int .i64 1, .slice a5 0 c5] 26)))
 replace K := qh (K.out.alloc #[.int .i64 5, .int .i64 (-1), .int .i64 3] 63)
 replace T1 := qh (T1.out.below (aC _ (.cells #[.int .i64 5, .int .i64 (-1), .int .i64 3] 63)))
 replace E1 := qh (E1.out.below (aC _ (.cells #[.int .i64 5, .int .i64 (-1), .int .i64 3] 63)))
 replace T2 := qh (T2.out.below (aC _ (.cells #[.int .i64 5, .int .i64 (-1), .int .i64 3] 63)))
 replace E2 := qh (E2.out.below (aC _ (.cells #[.int .i64 5, .int .i64 (-1), .int .i64 3] 63)))
 replace T3 := qh (T3.out.below (aC _ (.cells #[.int .i64 5, .int .i64 (-1), .int .i64 3] 63)))
 replace E3 := qh (E3.out.below (aC _ (.cells #[.int .i64 5, .int .i64 (-1), .int .i64 3] 63)))
 replace T4 := qh (T4.out.below (aC _ (.cells #[.int .i64 5, .int .i64 (-1), .int .i64 3] 63)))
 replace E4 := qh (E4.out.below (aC _ (.cells #[.int .i64 5, .int .i64 (-1), .int .i64 3] 63)))
 replace T5 := qh (T5.out.below (aC _ (.cells #[.int .i64 5, .int .i64 (-1), .int .i64 3] 63)))
 replace E5 := qh (E5.out.below (aC _ (.cells #[.int .i64 5, .int .i64 (-1), .int .i64 3] 63)))
 go_wp2_with fail
 obtain ⟨B17, hB17⟩ : ∃ b, b = w9.heap.size := ⟨_, rfl⟩
 obtain ⟨P3, hP3⟩ : ∃ b, b = w9.heap.size + 1 := ⟨_, rfl⟩
 replace K := qh (show HK w ((w9.alloc (.cells #[.int .i64 8, .int .i64 2, .int .i64 3, .int .i64 4, .int .i64 5, .int .i64 1, .slice a5 0 c5] 26)).alloc (.cells #[.int .i64 5, .int .i64 (-1), .int .i64 3] 63)) [(P3, (.cells #[.int .i64 5, .int .i64 (-1), .int .i64 3] 63 (0, 0))), (B17, (.cells #[.int .i64 8, .int .i64 2, .int .i64 3, .int .i64 4, .int .i64 5, .int .i64 1, .slice a5 0 c5] 26 (0, 0))), (B14, (.cells #[.int .i64 8, .int .i64 2, .int .i64 3, .int .i64 4, .int .i64 4, .int .i64 1, .slice a4 1 c4] 26 (0, 0))), (B11, (.cells #[.int .i64 8, .int .i64 2, .int .i64 3, .int .i64 4, .int .i64 3, .int .i64 1, .slice a3 1 c3] 26 (0, 0))), (V2, (.cells #[.int .u8 1, .int .i64 0, .int .i64 0, .int .u8 2, .int .i64 0, .int .i64 0] 48 (0, 0))), (B9, (.cells #[.int .i64 0, .int .i64 9, .int .i64 27392, .int .i64 1792, .int .i64 2, .slice sL nL kL, .slice sH nH kH, .int .i64 2, .int .i64 0, .bool true] 55 (0, 0))), (B6, (.cells #[.int .i64 8, .int .i64 2, .int .i64 3, .int .i64 4, .int .i64 2, .int .i64 1, .slice a2 1 c2] 26 (0, 0))), (P2, (.cells #[.int .i64 107, .int .i64 (-1), .int .i64 9] 63 (0, 0))), (V1, (.cells #[.int .u8 5, .int .i64 0, .int .i64 0] 48 (0, 0))), (B3, (.cells #[.int .i64 8, .int .i64 2, .int .i64 3, .int .i64 4, .int .i64 1, .int .i64 1, .slice a1 1 c1] 26 (0, 0))), (P1, (.cells #[.int .i64 100, .int .i64 4156, .int .i64 (-1)] 63 (0, 0))), (B1, (.cells #[.int .i64 8, .int .i64 2, .int .i64 3, .int .i64 4, .int .i64 0, .int .i64 0, .slice none 0 0] 26 (0, 0)))] from by
  have h := K.out
  try simp only [World.size_alloc] at h
  rw [hB17, hP3]
  exact h)
 rw [← hP3, ← hB17]
 generalize ((w9.alloc (.cells #[.int .i64 8, .int .i64 2, .int .i64 3, .int .i64 4, .int .i64 5, .int .i64 1, .slice a5 0 c5] 26)).alloc (.cells #[.int .i64 5, .int .i64 (-1), .int .i64 3] 63)) = wh at *
 clear hB17 hP3
 clear q0 q1 q2 q3 q4 q5 q6 ql
 have hc := jJ (now := 0) (next := 0) (now' := 1) (next' := 0) (L := []) (L' := []) (P := [y3]) (V := []) (n := 0) (n' := 0) (m := 0) ex6 (by decide) rfl rfl (by decide) none 0 (some ⟨P3, 0, none⟩) 1 [] wh (TbI.nil _ _) rfl (oW (K.out.H _ (List.mem_cons_self)))
 refine hc.mono ?_; rintro e w10 ⟨a6, c6, ea6, ec6, M6, rfl, hT', hM', hE', hb⟩
 have T6 := qh hT'
 have T6m := qh hM'
 have E6 := qh hE'
 clear hc hT' hM' hE'
 replace K := qh (K.out.below hb)
 replace T1 := qh (T1.out.below hb)
 replace E1 := qh (E1.out.below hb)
 replace T2 := qh (T2.out.below hb)
 replace E2 := qh (E2.out.below hb)
 replace T3 := qh (T3.out.below hb)
 replace E3 := qh (E3.out.below hb)
 replace T4 := qh (T4.out.below hb)
 replace E4 := qh (E4.out.below hb)
 replace T5 := qh (T5.out.below hb)
 replace E5 := qh (E5.out.below hb)
 clear hb
 replace K := qh (K.out.alloc #[.int .i64 8, .int .i64 2, .int .i64 3, .int .i64 4, .int .i64 1, .int .i64 0, .slice a6 0 c6] 26)
 replace T1 := qh (T1.out.below (aC _ (.cells #[.int .i64 8, .int .i64 2, .int .i64 3, .int .i64 4, .int .i64 1, .int .i64 0, .slice a6 0 c6] 26)))
 replace E1 := qh (E1.out.below (aC _ (.cells #[.int .i64 8, .int .i64 2, .int .i64 3, .int .i64 4, .int .i64 1, .int .i64 0, .slice a6 0 c6] 26)))
 replace T2 := qh (T2.out.below (aC _ (.cells #[.int .i64 8, .int .i64 2, .int .i64 3, .int .i64 4, .int .i64 1, .int .i64 0, .slice a6 0 c6] 26)))
 replace E2 := qh (E2.out.below (aC _ (.cells #[.int .i64 8, .int .i64 2, .int .i64 3, .int .i64 4, .int .i64 1, .int .i64 0, .slice a6 0 c6] 26)))
 replace T3 := qh (T3.out.below (aC _ (.cells #[.int .i64 8, .int .i64 2, .int .i64 3, .int .i64 4, .int .i64 1, .int .i64 0, .slice a6 0 c6] 26)))
 replace E3 := qh (E3.out.below (aC _ (.cells #[.int .i64 8, .int .i64 2, .int .i64 3, .int .i64 4, .int .i64 1, .int .i64 0, .slice a6 0 c6] 26)))
 replace T4 := qh (T4.out.below (aC _ (.cells #[.int .i64 8, .int .i64 2, .int .i64 3, .int .i64 4, .int .i64 1, .int .i64 0, .slice a6 0 c6] 26)))
 replace E4 := qh (E4.out.below (aC _ (.cells #[.int .i64 8, .int .i64 2, .int .i64 3, .int .i64 4, .int .i64 1, .int .i64 0, .slice a6 0 c6] 26)))
 replace T5 := qh (T5.out.below (aC _ (.cells #[.int .i64 8, .int .i64 2, .int .i64 3, .int .i64 4, .int .i64 1, .int .i64 0, .slice a6 0 c6] 26)))
 replace E5 := qh (E5.out.below (aC _ (.cells #[.int .i64 8, .int .i64 2, .int .i64 3, .int .i64 4, .int .i64 1, .int .i64 0, .slice a6 0 c6] 26)))
 replace T6 := qh (T6.out.below (aC _ (.cells #[.int .i64 8, .int .i64 2, .int .i64 3, .int .i64 4, .int .i64 1, .int .i64 0, .slice a6 0 c6] 26)))
 replace E6 := qh (E6.out.below (aC _ (.cells #[.int .i64 8, .int .i64 2, .int .i64 3, .int .i64 4, .int .i64 1, .int .i64 0, .slice a6 0 c6] 26)))
 replace K := qh (K.out.alloc #[.int .u8 3, .int .i64 0, .int .i64 (-1)] 48)
 replace T1 := qh (T1.out.below (aC _ (.cells #[.int .u8 3, .int .i64 0, .int .i64 (-1)] 48)))
 replace E1 := qh (E1.out.below (aC _ (.cells #[.int .u8 3, .int .i64 0, .int .i64 (-1)] 48)))
 replace T2 := qh (T2.out.below (aC _ (.cells #[.int .u8 3, .int .i64 0, .int .i64 (-1)] 48)))
 replace E2 := qh (E2.out.below (aC _ (.cells #[.int .u8 3, .int .i64 0, .int .i64 (-1)] 48)))
 replace T3 := qh (T3.out.below (aC _ (.cells #[.int .u8 3, .int .i64 0, .int .i64 (-1)] 48)))
 replace E3 := qh (E3.out.below (aC _ (.cells #[.int .u8 3, .int .i64 0, .int .i64 (-1)] 48)))
 replace T4 := qh (T4.out.below (aC _ (.cells #[.int .u8 3, .int .i64 0, .int .i64 (-1)] 48)))
 replace E4 := qh (E4.out.below (aC _ (.cells #[.int .u8 3, .int .i64 0, .int .i64 (-1)] 48)))
 replace T5 := qh (T5.out.below (aC _ (.cells #[.int .u8 3, .int .i64 0, .int .i64 (-1)] 48)))
 replace E5 := qh (E5.out.below (aC _ (.cells #[.int .u8 3, .int .i64 0, .int .i64 (-1)] 48)))
 replace T6 := qh (T6.out.below (aC _ (.cells #[.int .u8 3, .int .i64 0, .int .i64 (-1)] 48)))
 replace E6 := qh (E6.out.below (aC _ (.cells #[.int .u8 3, .int .i64 0, .int .i64 (-1)] 48)))
 replace K := qh (K.out.alloc #[.int .u8 3, .int .i64 0, .int .i64 (-1)] 48)
 replace T1 := qh (T1.out.below (aC _ (.cells #[.int .u8 3, .int .i64 0, .int .i64 (-1)] 48)))
 replace E1 := qh (E1.out.below (aC _ (.cells #[.int .u8 3, .int .i64 0, .int .i64 (-1)] 48)))
 replace T2 := qh (T2.out.below (aC _ (.cells #[.int .u8 3, .int .i64 0, .int .i64 (-1)] 48)))
 replace E2 := qh (E2.out.below (aC _ (.cells #[.int .u8 3, .int .i64 0, .int .i64 (-1)] 48)))
 replace T3 := qh (T3.out.below (aC _ (.cells #[.int .u8 3, .int .i64 0, .int .i64 (-1)] 48)))
 replace E3 := qh (E3.out.below (aC _ (.cells #[.int .u8 3, .int .i64 0, .int .i64 (-1)] 48)))
 replace T4 := qh (T4.out.below (aC _ (.cells #[.int .u8 3, .int .i64 0, .int .i64 (-1)] 48)))
 replace E4 := qh (E4.out.below (aC _ (.cells #[.int .u8 3, .int .i64 0, .int .i64 (-1)] 48)))
 replace T5 := qh (T5.out.below (aC _ (.cells #[.int .u8 3, .int .i64 0, .int .i64 (-1)] 48)))
 replace E5 := qh (E5.out.below (aC _ (.cells #[.int .u8 3, .int .i64 0, .int .i64 (-1)] 48)))
 replace T6 := qh (T6.out.below (aC _ (.cells #[.int .u8 3, .int .i64 0, .int .i64 (-1)] 48)))
 replace E6 := qh (E6.out.below (aC _ (.cells #[.int .u8 3, .int .i64 0, .int .i64 (-1)] 48)))
 go_wp2_with fail
 obtain ⟨B20, hB20⟩ : ∃ b, b = w10.heap.size := ⟨_, rfl⟩
 obtain ⟨B23, hB23⟩ : ∃ b, b = w10.heap.size + 1 := ⟨_, rfl⟩
 obtain ⟨V3, hV3⟩ : ∃ b, b = w10.heap.size + 1 + 1 := ⟨_, rfl⟩
 replace K := qh (show HK w (((w10.alloc (.cells #[.int .i64 8, .int .i64 2, .int .i64 3, .int .i64 4, .int .i64 1, .int .i64 0, .slice a6 0 c6] 26)).alloc (.cells #[.int .u8 3, .int .i64 0, .int .i64 (-1)] 48)).alloc (.cells #[.int .u8 3, .int .i64 0, .int .i64 (-1)] 48)) [(V3, (.cells #[.int .u8 3, .int .i64 0, .int .i64 (-1)] 48 (0, 0))), (B23, (.cells #[.int .u8 3, .int .i64 0, .int .i64 (-1)] 48 (0, 0))), (B20, (.cells #[.int .i64 8, .int .i64 2, .int .i64 3, .int .i64 4, .int .i64 1, .int .i64 0, .slice a6 0 c6] 26 (0, 0))), (P3, (.cells #[.int .i64 5, .int .i64 (-1), .int .i64 3] 63 (0, 0))), (B17, (.cells #[.int .i64 8, .int .i64 2, .int .i64 3, .int .i64 4, .int .i64 5, .int .i64 1, .slice a5 0 c5] 26 (0, 0))), (B14, (.cells #[.int .i64 8, .int .i64 2, .int .i64 3, .int .i64 4, .int .i64 4, .int .i64 1, .slice a4 1 c4] 26 (0, 0))), (B11, (.cells #[.int .i64 8, .int .i64 2, .int .i64 3, .int .i64 4, .int .i64 3, .int .i64 1, .slice a3 1 c3] 26 (0, 0))), (V2, (.cells #[.int .u8 1, .int .i64 0, .int .i64 0, .int .u8 2, .int .i64 0, .int .i64 0] 48 (0, 0))), (B9, (.cells #[.int .i64 0, .int .i64 9, .int .i64 27392, .int .i64 1792, .int .i64 2, .slice sL nL kL, .slice sH nH kH, .int .i64 2, .int .i64 0, .bool true] 55 (0, 0))), (B6, (.cells #[.int .i64 8, .int .i64 2, .int .i64 3, .int .i64 4, .int .i64 2, .int .i64 1, .slice a2 1 c2] 26 (0, 0))), (P2, (.cells #[.int .i64 107, .int .i64 (-1), .int .i64 9] 63 (0, 0))), (V1, (.cells #[.int .u8 5, .int .i64 0, .int .i64 0] 48 (0, 0))), (B3, (.cells #[.int .i64 8, .int .i64 2, .int .i64 3, .int .i64 4, .int .i64 1, .int .i64 1, .slice a1 1 c1] 26 (0, 0))), (P1, (.cells #[.int .i64 100, .int .i64 4156, .int .i64 (-1)] 63 (0, 0))), (B1, (.cells #[.int .i64 8, .int .i64 2, .int .i64 3, .int .i64 4, .int .i64 0, .int .i64 0, .slice none 0 0] 26 (0, 0)))] from by
  have h := K.out
  try simp only [World.size_alloc] at h
  rw [hB20, hB23, hV3]
  exact h)
 rw [← hV3, ← hB23, ← hB20]
 generalize (((w10.alloc (.cells #[.int .i64 8, .int .i64 2, .int .i64 3, .int .i64 4, .int .i64 1, .int .i64 0, .slice a6 0 c6] 26)).alloc (.cells #[.int .u8 3, .int .i64 0, .int .i64 (-1)] 48)).alloc (.cells #[.int .u8 3, .int .i64 0, .int .i64 (-1)] 48)) = wi at *
 clear hB20 hB23 hV3
 refine (eB ea3 (some ⟨V3, 0, none⟩) 1 ec3 1 [⟨3, 0, -1⟩] wi E3.out (l8 (K.out.H _ (List.mem_cons_self))) (by decide)).mono ?_; rintro e w11 ⟨rfl, hb⟩
 replace K := qh (K.out.below hb)
 replace T1 := qh (T1.out.below hb)
 replace E1 := qh (E1.out.below hb)
 replace T2 := qh (T2.out.below hb)
 replace E2 := qh (E2.out.below hb)
 replace T3 := qh (T3.out.below hb)
 replace E3 := qh (E3.out.below hb)
 replace T4 := qh (T4.out.below hb)
 replace E4 := qh (E4.out.below hb)
 replace T5 := qh (T5.out.below hb)
 replace E5 := qh (E5.out.below hb)
 replace T6 := qh (T6.out.below hb)
 replace E6 := qh (E6.out.below hb)
 clear hb
 obtain ⟨y0, y1, y2⟩ := cB (K.out.H _ (List.mem_cons_of_mem _ (List.mem_cons_self)))
 have yl := aB (K.out.H _ (List.mem_cons_of_mem _ (List.mem_cons_self)))
 replace K := qh (K.out.alloc #[.int .u8 3, .int .i64 0, .int .i64 (-1)] 48)
 replace T1 := qh (T1.out.below (aC _ (.cells #[.int .u8 3, .int .i64 0, .int .i64 (-1)] 48)))
 replace E1 := qh (E1.out.below (aC _ (.cells #[.int .u8 3, .int .i64 0, .int .i64 (-1)] 48)))
 replace T2 := qh (T2.out.below (aC _ (.cells #[.int .u8 3, .int .i64 0, .int .i64 (-1)] 48)))
 replace E2 := qh (E2.out.below (aC _ (.cells #[.int .u8 3, .int .i64 0, .int .i64 (-1)] 48)))
 replace T3 := qh (T3.out.below (aC _ (.cells #[.int .u8 3, .int .i64 0, .int .i64 (-1)] 48)))
 replace E3 := qh (E3.out.below (aC _ (.cells #[.int .u8 3, .int .i64 0, .int .i64 (-1)] 48)))
 replace T4 := qh (T4.out.below (aC _ (.cells #[.int .u8 3, .int .i64 0, .int .i64 (-1)] 48)))
 replace E4 := qh (E4.out.below (aC _ (.cells #[.int .u8 3, .int .i64 0, .int .i64 (-1)] 48)))
 replace T5 := qh (T5.out.below (aC _ (.cells #[.int .u8 3, .int .i64 0, .int .i64 (-1)] 48)))
 replace E5 := qh (E5.out.below (aC _ (.cells #[.int .u8 3, .int .i64 0, .int .i64 (-1)] 48)))
 replace T6 := qh (T6.out.below (aC _ (.cells #[.int .u8 3, .int .i64 0, .int .i64 (-1)] 48)))
 replace E6 := qh (E6.out.below (aC _ (.cells #[.int .u8 3, .int .i64 0, .int .i64 (-1)] 48)))
 go_wp2_with fail
 obtain ⟨V4, hV4⟩ : ∃ b, b = w11.heap.size := ⟨_, rfl⟩
 replace K := qh (show HK w (w11.alloc (.cells #[.int .u8 3, .int .i64 0, .int .i64 (-1)] 48)) [(V4, (.cells #[.int .u8 3, .int .i64 0, .int .i64 (-1)] 48 (0, 0))), (V3, (.cells #[.int .u8 3, .int .i64 0, .int .i64 (-1)] 48 (0, 0))), (B23, (.cells #[.int .u8 3, .int .i64 0, .int .i64 (-1)] 48 (0, 0))), (B20, (.cells #[.int .i64 8, .int .i64 2, .int .i64 3, .int .i64 4, .int .i64 1, .int .i64 0, .slice a6 0 c6] 26 (0, 0))), (P3, (.cells #[.int .i64 5, .int .i64 (-1), .int .i64 3] 63 (0, 0))), (B17, (.cells #[.int .i64 8, .int .i64 2, .int .i64 3, .int .i64 4, .int .i64 5, .int .i64 1, .slice a5 0 c5] 26 (0, 0))), (B14, (.cells #[.int .i64 8, .int .i64 2, .int .i64 3, .int .i64 4, .int .i64 4, .int .i64 1, .slice a4 1 c4] 26 (0, 0))), (B11, (.cells #[.int .i64 8, .int .i64 2, .int .i64 3, .int .i64 4, .int .i64 3, .int .i64 1, .slice a3 1 c3] 26 (0, 0))), (V2, (.cells #[.int .u8 1, .int .i64 0, .int .i64 0, .int .u8 2, .int .i64 0, .int .i64 0] 48 (0, 0))), (B9, (.cells #[.int .i64 0, .int .i64 9, .int .i64 27392, .int .i64 1792, .int .i64 2, .slice sL nL kL, .slice sH nH kH, .int .i64 2, .int .i64 0, .bool true] 55 (0, 0))), (B6, (.cells #[.int .i64 8, .int .i64 2, .int .i64 3, .int .i64 4, .int .i64 2, .int .i64 1, .slice a2 1 c2] 26 (0, 0))), (P2, (.cells #[.int .i64 107, .int .i64 (-1), .int .i64 9] 63 (0, 0))), (V1, (.cells #[.int .u8 5, .int .i64 0, .int .i64 0] 48 (0, 0))), (B3, (.cells #[.int .i64 8, .int .i64 2, .int .i64 3, .int .i64 4, .int .i64 1, .int .i64 1, .slice a1 1 c1] 26 (0, 0))), (P1, (.cells #[.int .i64 100, .int .i64 4156, .int .i64 (-1)] 63 (0, 0))), (B1, (.cells #[.int .i64 8, .int .i64 2, .int .i64 3, .int .i64 4, .int .i64 0, .int .i64 0, .slice none 0 0] 26 (0, 0)))] from by
  have h := K.out
  try simp only [World.size_alloc] at h
  rw [hV4]
  exact h)
 rw [← hV4]
 generalize (w11.alloc (.cells #[.int .u8 3, .int .i64 0, .int .i64 (-1)] 48)) = wj at *
 clear hV4
 clear y0 y1 y2 yl
 refine (eB ea4 (some ⟨V4, 0, none⟩) 1 ec4 1 [⟨3, 0, -1⟩] wj E4.out (l8 (K.out.H _ (List.mem_cons_self))) (by decide)).mono ?_; rintro e w12 ⟨rfl, hb⟩
 replace K := qh (K.out.below hb)
 replace T1 := qh (T1.out.below hb)
 replace E1 := qh (E1.out.below hb)
 replace T2 := qh (T2.out.below hb)
 replace E2 := qh (E2.out.below hb)
 replace T3 := qh (T3.out.below hb)
 replace E3 := qh (E3.out.below hb)
 replace T4 := qh (T4.out.below hb)
 replace E4 := qh (E4.out.below hb)
 replace T5 := qh (T5.out.below hb)
 replace E5 := qh (E5.out.below hb)
 replace T6 := qh (T6.out.below hb)
 replace E6 := qh (E6.out.below hb)
 clear hb
 replace K := qh (K.out.alloc #[.int .u8 4, .int .i64 0, .int .i64 (-1)] 48)
 replace T1 := qh (T1.out.below (aC _ (.cells #[.int .u8 4, .int .i64 0, .int .i64 (-1)] 48)))
 replace E1 := qh (E1.out.below (aC _ (.cells #[.int .u8 4, .int .i64 0, .int .i64 (-1)] 48)))
 replace T2 := qh (T2.out.below (aC _ (.cells #[.int .u8 4, .int .i64 0, .int .i64 (-1)] 48)))
 replace E2 := qh (E2.out.below (aC _ (.cells #[.int .u8 4, .int .i64 0, .int .i64 (-1)] 48)))
 replace T3 := qh (T3.out.below (aC _ (.cells #[.int .u8 4, .int .i64 0, .int .i64 (-1)] 48)))
 replace E3 := qh (E3.out.below (aC _ (.cells #[.int .u8 4, .int .i64 0, .int .i64 (-1)] 48)))
 replace T4 := qh (T4.out.below (aC _ (.cells #[.int .u8 4, .int .i64 0, .int .i64 (-1)] 48)))
 replace E4 := qh (E4.out.below (aC _ (.cells #[.int .u8 4, .int .i64 0, .int .i64 (-1)] 48)))
 replace T5 := qh (T5.out.below (aC _ (.cells #[.int .u8 4, .int .i64 0, .int .i64 (-1)] 48)))
 replace E5 := qh (E5.out.below (aC _ (.cells #[.int .u8 4, .int .i64 0, .int .i64 (-1)] 48)))
 replace T6 := qh (T6.out.below (aC _ (.cells #[.int .u8 4, .int .i64 0, .int .i64 (-1)] 48)))
 replace E6 := qh (E6.out.below (aC _ (.cells #[.int .u8 4, .int .i64 0, .int .i64 (-1)] 48)))
 go_wp2_with fail
 obtain ⟨V5, hV5⟩ : ∃ b, b = w12.heap.size := ⟨_, rfl⟩
 replace K := qh (show HK w (w12.alloc (.cells #[.int .u8 4, .int .i64 0, .int .i64 (-1)] 48)) [(V5, (.cells #[.int .u8 4, .int .i64 0, .int .i64 (-1)] 48 (0, 0))), (V4, (.cells #[.int .u8 3, .int .i64 0, .int .i64 (-1)] 48 (0, 0))), (V3, (.cells #[.int .u8 3, .int .i64 0, .int .i64 (-1)] 48 (0, 0))), (B23, (.cells #[.int .u8 3, .int .i64 0, .int .i64 (-1)] 48 (0, 0))), (B20, (.cells #[.int .i64 8, .int .i64 2, .int .i64 3, .int .i64 4, .int .i64 1, .int .i64 0, .slice a6 0 c6] 26 (0, 0))), (P3, (.cells #[.int .i64 5, .int .i64 (-1), .int .i64 3] 63 (0, 0))), (B17, (.cells #[.int .i64 8, .int .i64 2, .int .i64 3, .int .i64 4, .int .i64 5, .int .i64 1, .slice a5 0 c5] 26 (0, 0))), (B14, (.cells #[.int .i64 8, .int .i64 2, .int .i64 3, .int .i64 4, .int .i64 4, .int .i64 1, .slice a4 1 c4] 26 (0, 0))), (B11, (.cells #[.int .i64 8, .int .i64 2, .int .i64 3, .int .i64 4, .int .i64 3, .int .i64 1, .slice a3 1 c3] 26 (0, 0))), (V2, (.cells #[.int .u8 1, .int .i64 0, .int .i64 0, .int .u8 2, .int .i64 0, .int .i64 0] 48 (0, 0))), (B9, (.cells #[.int .i64 0, .int .i64 9, .int .i64 27392, .int .i64 1792, .int .i64 2, .slice sL nL kL, .slice sH nH kH, .int .i64 2, .int .i64 0, .bool true] 55 (0, 0))), (B6, (.cells #[.int .i64 8, .int .i64 2, .int .i64 3, .int .i64 4, .int .i64 2, .int .i64 1, .slice a2 1 c2] 26 (0, 0))), (P2, (.cells #[.int .i64 107, .int .i64 (-1), .int .i64 9] 63 (0, 0))), (V1, (.cells #[.int .u8 5, .int .i64 0, .int .i64 0] 48 (0, 0))), (B3, (.cells #[.int .i64 8, .int .i64 2, .int .i64 3, .int .i64 4, .int .i64 1, .int .i64 1, .slice a1 1 c1] 26 (0, 0))), (P1, (.cells #[.int .i64 100, .int .i64 4156, .int .i64 (-1)] 63 (0, 0))), (B1, (.cells #[.int .i64 8, .int .i64 2, .int .i64 3, .int .i64 4, .int .i64 0, .int .i64 0, .slice none 0 0] 26 (0, 0)))] from by
  have h := K.out
  try simp only [World.size_alloc] at h
  rw [hV5]
  exact h)
 rw [← hV5]
 generalize (w12.alloc (.cells #[.int .u8 4, .int .i64 0, .int .i64 (-1)] 48)) = wk at *
 clear hV5
 refine (eB ea5 (some ⟨V5, 0, none⟩) 1 ec5 1 [⟨4, 0, -1⟩] wk E5.out (l8 (K.out.H _ (List.mem_cons_self))) (by decide)).mono ?_; rintro e w13 ⟨rfl, hb⟩
 replace K := qh (K.out.below hb)
 replace T1 := qh (T1.out.below hb)
 replace E1 := qh (E1.out.below hb)
 replace T2 := qh (T2.out.below hb)
 replace E2 := qh (E2.out.below hb)
 replace T3 := qh (T3.out.below hb)
 replace E3 := qh (E3.out.below hb)
 replace T4 := qh (T4.out.below hb)
 replace E4 := qh (E4.out.below hb)
 replace T5 := qh (T5.out.below hb)
 replace E5 := qh (E5.out.below hb)
 replace T6 := qh (T6.out.below hb)
 replace E6 := qh (E6.out.below hb)
 clear hb
 obtain ⟨q0, q1, q2, q3, q4, q5, q6⟩ := aK (K.out.H _ (List.mem_cons_of_mem _ (List.mem_cons_of_mem _ (List.mem_cons_of_mem _ (List.mem_cons_of_mem _ (List.mem_cons_of_mem _ (List.mem_cons_of_mem _ (List.mem_cons_self))))))))
 have ql := aB (K.out.H _ (List.mem_cons_of_mem _ (List.mem_cons_of_mem _ (List.mem_cons_of_mem _ (List.mem_cons_of_mem _ (List.mem_cons_of_mem _ (List.mem_cons_of_mem _ (List.mem_cons_self))))))))
 obtain ⟨p0, p1, p2, p3, p4, p5, p6⟩ := aK (K.out.H _ (List.mem_cons_of_mem _ (List.mem_cons_of_mem _ (List.mem_cons_of_mem _ (List.mem_cons_of_mem _ (List.mem_cons_self))))))
 have pl := aB (K.out.H _ (List.mem_cons_of_mem _ (List.mem_cons_of_mem _ (List.mem_cons_of_mem _ (List.mem_cons_of_mem _ (List.mem_cons_self))))))
 go_wp2_with fail
 go_ret
 exact ⟨rfl, K.out.B⟩
end Go.Proofs.YtikjjpjekchcjaaGreat
