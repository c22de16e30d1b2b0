/-
  Layer 37 (pilot): next, walked. Printed by genPilotE.py.
-/
import Derived.Test.YtjidpkcoaoflbaaPilotD
namespace Go.Proofs.Ytjidpkcoaoflbaa
open Go.RowKit PilotMath MyHeap MyCopyWide

/-- What next leaves. -/
def NxPost (y : St) (w : World) (e : Ending) (w' : World) : Prop := ∃ a c, e = .returned (stV (.slice a y.q.length c) y) ∧ QNew w' w.heap.size a c y.q ∧ Below w.heap.size w w'
theorem nx_same {ms : Int} {q : List Adv} {due fl a : Adv} {c : Int} (h : nxFirst ⟨q, due, fl, c⟩ a = due) : nx ms ⟨q, due, fl, c⟩ a = ⟨(q ++ [a]).tail, due, fl, c⟩ := if_pos h
theorem nx_fly {ms : Int} {q : List Adv} {due fl a f : Adv} {c c' : Int} (hf : nxFirst ⟨q, due, fl, c⟩ a = f) (h : f ≠ due) (hc : min (c + 1) 1073741824 = c') (hm : ms = 0 ∨ c' % ms ≠ 0) : nx ms ⟨q, due, fl, c⟩ a = ⟨(q ++ [a]).tail, f, f, c'⟩ := by
  subst hf hc
  have hm' : ms = 0 ∨ nxCount ⟨q, due, fl, c⟩ % ms ≠ 0 := hm
  unfold nx
  rw [if_neg h, if_pos hm']; rfl
theorem nx_miss {ms : Int} {q : List Adv} {due fl a f : Adv} {c c' : Int} (hf : nxFirst ⟨q, due, fl, c⟩ a = f) (h : f ≠ due) (hc : min (c + 1) 1073741824 = c') (hm : ¬ (ms = 0 ∨ c' % ms ≠ 0)) : nx ms ⟨q, due, fl, c⟩ a = ⟨(q ++ [a]).tail, f, fl, c'⟩ := by
  subst hf hc
  have hm' : ¬ (ms = 0 ∨ nxCount ⟨q, due, fl, c⟩ % ms ≠ 0) := hm
  unfold nx
  rw [if_neg h, if_neg hm']; rfl
theorem nxPost_nil {y : St} {due fl : Adv} {c : Int} {w w' : World} (h : y = ⟨[], due, fl, c⟩) (hB : Below w.heap.size w w') : NxPost y w (.returned (.agg #[.slice none 0 0, .int .u8 due.s, .int .i64 due.r, .bool due.k, .int .u8 fl.s, .int .i64 fl.r, .bool fl.k, .int .i64 c])) w' := by
  subst h
  exact ⟨none, 0, rfl, qNew_nil _ _, hB⟩
theorem nxPost_row {y : St} {q : List Adv} {due fl : Adv} {c : Int} {w w' : World} {b n : Nat} {cs : Array Value} {T : TypeId} (h : y = ⟨q, due, fl, c⟩) (hn : q.length = n) (hb : w'.heap[b]? = some (.cells cs T (0, 0))) (hcs : cs.toList = flat3 q) (hm : n ≤ 9223372036854775807) (hbb : w.heap.size ≤ b) (hB : Below w.heap.size w w') : NxPost y w (.returned (.agg #[.slice (some ⟨b, 0, none⟩) n n, .int .u8 due.s, .int .i64 due.r, .bool due.k, .int .u8 fl.s, .int .i64 fl.r, .bool fl.k, .int .i64 c])) w' := by
  subst h hn
  exact ⟨some ⟨b, 0, none⟩, q.length, rfl, qNew_block hb hcs hm hbb, hB⟩
theorem row_done {X : Array Value} {n : Nat} {rest : List Adv} {a : Adv} (hX : X.toList = flat3 rest ++ (madeCells #[.int .u8 0, .int .i64 0, .bool false] ((n + 1) * 3)).toList.drop (flat3 rest).length) (hn : rest.length = n) : (((X.setIfInBounds (n * 3) (.int .u8 a.s)).setIfInBounds (n * 3 + 1) (.int .i64 a.r)).setIfInBounds (n * 3 + 2) (.bool a.k)).toList = flat3 (rest ++ [a]) := by
  subst hn
  rw [made3, flat3_length] at hX
  have hd : (flat3 (List.replicate (rest.length + 1) adv0)).drop (rest.length * 3) = flat3 [adv0] := by
    rw [List.replicate_succ', flat3_append, List.drop_append, List.drop_eq_nil_of_le (by rw [flat3_length]; simp), flat3_length]
    simp
  rw [hd] at hX
  rw [flat3_append]
  simp only [Array.toList_setIfInBounds, hX]
  have hl : (flat3 rest).length = rest.length * 3 := flat3_length rest
  rw [List.set_append_right _ _ (by omega), List.set_append_right _ _ (by omega), List.set_append_right _ _ (by omega), hl]
  rw [show rest.length * 3 - rest.length * 3 = 0 by omega, show rest.length * 3 + 1 - rest.length * 3 = 1 by omega, show rest.length * 3 + 2 - rest.length * 3 = 2 by omega]
  rfl
theorem row_size {X : Array Value} {n : Nat} {rest : List Adv} (hX : X.toList = flat3 rest ++ (madeCells #[.int .u8 0, .int .i64 0, .bool false] ((n + 1) * 3)).toList.drop (flat3 rest).length) (hn : rest.length = n) : X.size = (n + 1) * 3 := by
  subst hn
  have := congrArg List.length hX
  rw [List.length_append, List.length_drop, flat3_length] at this
  simp [madeCells] at this
  omega

set_option maxRecDepth 100000 in
set_option maxHeartbeats 16000000 in
theorem next_z_same (pl ms : Int) (aq : Option Addr) (c : Nat) (due fl : Adv) (cnt : Int) (a : Adv) (w : World) (hs : a = due) :
    Calls Try.prog 29 #[.agg #[.int .i64 0, .int .i64 pl, .int .i64 ms], stV (.slice aq 0 c) ⟨[], due, fl, cnt⟩, .agg #[.int .u8 a.s, .int .i64 a.r, .bool a.k]] w (NxPost (nx ms ⟨[], due, fl, cnt⟩ a) w) := by
  have hb : advB ⟨a.s, a.r, a.k⟩ ⟨due.s, due.r, due.k⟩ = true := advB_true.2 hs
  have HN := Lib.hid (show nx ms ⟨[], due, fl, cnt⟩ a = ⟨[], due, fl, cnt⟩ from nx_same hs)
  have ng := adv_neq
  have gd := adv_guard
  unfold stV
  clear hs
  go_enter Try.func29, Try.ntmps29
  go_wp2
  all_goals go_returns
  all_goals exact nxPost_nil HN.out (by go_grown)

set_option maxRecDepth 100000 in
set_option maxHeartbeats 16000000 in
theorem next_z_u0 (pl ms : Int) (aq : Option Addr) (c : Nat) (due fl : Adv) (cnt : Int) (a : Adv) (w : World) (hs : a ≠ due) (h0 : 0 ≤ cnt) (h1 : cnt < 1073741824) (hm : ms = 0) :
    Calls Try.prog 29 #[.agg #[.int .i64 0, .int .i64 pl, .int .i64 ms], stV (.slice aq 0 c) ⟨[], due, fl, cnt⟩, .agg #[.int .u8 a.s, .int .i64 a.r, .bool a.k]] w (NxPost (nx ms ⟨[], due, fl, cnt⟩ a) w) := by
  have hb : advB ⟨a.s, a.r, a.k⟩ ⟨due.s, due.r, due.k⟩ = false := advB_false hs
  have hmin : min (cnt + 1) 1073741824 = cnt + 1 := by omega
  have HN := Lib.hid (show nx ms ⟨[], due, fl, cnt⟩ a = ⟨[], a, a, (cnt + 1)⟩ from nx_fly rfl hs hmin (Or.inl hm))
  have ng := adv_neq
  have gd := adv_guard
  unfold stV
  subst hm
  clear hs hmin
  go_enter Try.func29, Try.ntmps29
  go_wp2
  all_goals go_returns
  all_goals exact nxPost_nil HN.out (by go_grown)

set_option maxRecDepth 100000 in
set_option maxHeartbeats 16000000 in
theorem next_z_ue (pl ms : Int) (aq : Option Addr) (c : Nat) (due fl : Adv) (cnt : Int) (a : Adv) (w : World) (hs : a ≠ due) (h0 : 0 ≤ cnt) (h1 : cnt < 1073741824) (hm0 : 0 < ms) (hm1 : ms ≤ 100) (hm : (cnt + 1) % ms = 0) :
    Calls Try.prog 29 #[.agg #[.int .i64 0, .int .i64 pl, .int .i64 ms], stV (.slice aq 0 c) ⟨[], due, fl, cnt⟩, .agg #[.int .u8 a.s, .int .i64 a.r, .bool a.k]] w (NxPost (nx ms ⟨[], due, fl, cnt⟩ a) w) := by
  have hb : advB ⟨a.s, a.r, a.k⟩ ⟨due.s, due.r, due.k⟩ = false := advB_false hs
  have hmin : min (cnt + 1) 1073741824 = cnt + 1 := by omega
  have HN := Lib.hid (show nx ms ⟨[], due, fl, cnt⟩ a = ⟨[], a, fl, (cnt + 1)⟩ from nx_miss rfl hs hmin (fun e => e.elim (fun e => by omega) (fun e => e hm)))
  have ng := adv_neq
  have gd := adv_guard
  unfold stV
  have hz : (ms == 0) = false := by simp; omega
  have ht : (cnt + 1).tmod ms = (cnt + 1) % ms := Int.tmod_eq_emod_of_nonneg (by omega)
  have hr : ((cnt + 1) % ms != 0) = false := by simp [hm]
  clear hs hmin hm
  go_enter Try.func29, Try.ntmps29
  go_wp2
  all_goals go_returns
  all_goals exact nxPost_nil HN.out (by go_grown)

set_option maxRecDepth 100000 in
set_option maxHeartbeats 16000000 in
theorem next_z_un (pl ms : Int) (aq : Option Addr) (c : Nat) (due fl : Adv) (cnt : Int) (a : Adv) (w : World) (hs : a ≠ due) (h0 : 0 ≤ cnt) (h1 : cnt < 1073741824) (hm0 : 0 < ms) (hm1 : ms ≤ 100) (hm : (cnt + 1) % ms ≠ 0) :
    Calls Try.prog 29 #[.agg #[.int .i64 0, .int .i64 pl, .int .i64 ms], stV (.slice aq 0 c) ⟨[], due, fl, cnt⟩, .agg #[.int .u8 a.s, .int .i64 a.r, .bool a.k]] w (NxPost (nx ms ⟨[], due, fl, cnt⟩ a) w) := by
  have hb : advB ⟨a.s, a.r, a.k⟩ ⟨due.s, due.r, due.k⟩ = false := advB_false hs
  have hmin : min (cnt + 1) 1073741824 = cnt + 1 := by omega
  have HN := Lib.hid (show nx ms ⟨[], due, fl, cnt⟩ a = ⟨[], a, a, (cnt + 1)⟩ from nx_fly rfl hs hmin (Or.inr hm))
  have ng := adv_neq
  have gd := adv_guard
  unfold stV
  have hz : (ms == 0) = false := by simp; omega
  have ht : (cnt + 1).tmod ms = (cnt + 1) % ms := Int.tmod_eq_emod_of_nonneg (by omega)
  have hr : ((cnt + 1) % ms != 0) = true := by simp [hm]
  clear hs hmin hm
  go_enter Try.func29, Try.ntmps29
  go_wp2
  all_goals go_returns
  all_goals exact nxPost_nil HN.out (by go_grown)

set_option maxRecDepth 100000 in
set_option maxHeartbeats 16000000 in
theorem next_z_o0 (pl ms : Int) (aq : Option Addr) (c : Nat) (due fl : Adv) (cnt : Int) (a : Adv) (w : World) (hs : a ≠ due) (h1 : cnt = 1073741824) (hm : ms = 0) :
    Calls Try.prog 29 #[.agg #[.int .i64 0, .int .i64 pl, .int .i64 ms], stV (.slice aq 0 c) ⟨[], due, fl, cnt⟩, .agg #[.int .u8 a.s, .int .i64 a.r, .bool a.k]] w (NxPost (nx ms ⟨[], due, fl, cnt⟩ a) w) := by
  have hb : advB ⟨a.s, a.r, a.k⟩ ⟨due.s, due.r, due.k⟩ = false := advB_false hs
  have hmin : min (cnt + 1) 1073741824 = 1073741824 := by omega
  have HN := Lib.hid (show nx ms ⟨[], due, fl, cnt⟩ a = ⟨[], a, a, 1073741824⟩ from nx_fly rfl hs hmin (Or.inl hm))
  have ng := adv_neq
  have gd := adv_guard
  unfold stV
  subst h1
  subst hm
  clear hs hmin
  go_enter Try.func29, Try.ntmps29
  go_wp2
  all_goals go_returns
  all_goals exact nxPost_nil HN.out (by go_grown)

set_option maxRecDepth 100000 in
set_option maxHeartbeats 16000000 in
theorem next_z_oe (pl ms : Int) (aq : Option Addr) (c : Nat) (due fl : Adv) (cnt : Int) (a : Adv) (w : World) (hs : a ≠ due) (h1 : cnt = 1073741824) (hm0 : 0 < ms) (hm1 : ms ≤ 100) (hm : 1073741824 % ms = 0) :
    Calls Try.prog 29 #[.agg #[.int .i64 0, .int .i64 pl, .int .i64 ms], stV (.slice aq 0 c) ⟨[], due, fl, cnt⟩, .agg #[.int .u8 a.s, .int .i64 a.r, .bool a.k]] w (NxPost (nx ms ⟨[], due, fl, cnt⟩ a) w) := by
  have hb : advB ⟨a.s, a.r, a.k⟩ ⟨due.s, due.r, due.k⟩ = false := advB_false hs
  have hmin : min (cnt + 1) 1073741824 = 1073741824 := by omega
  have HN := Lib.hid (show nx ms ⟨[], due, fl, cnt⟩ a = ⟨[], a, fl, 1073741824⟩ from nx_miss rfl hs hmin (fun e => e.elim (fun e => by omega) (fun e => e hm)))
  have ng := adv_neq
  have gd := adv_guard
  unfold stV
  subst h1
  have hz : (ms == 0) = false := by simp; omega
  have ht : (1073741824 : Int).tmod ms = 1073741824 % ms := Int.tmod_eq_emod_of_nonneg (by decide)
  have hr : ((1073741824 : Int) % ms != 0) = false := by simp [hm]
  clear hs hmin hm
  go_enter Try.func29, Try.ntmps29
  go_wp2
  all_goals go_returns
  all_goals exact nxPost_nil HN.out (by go_grown)

set_option maxRecDepth 100000 in
set_option maxHeartbeats 16000000 in
theorem next_z_on (pl ms : Int) (aq : Option Addr) (c : Nat) (due fl : Adv) (cnt : Int) (a : Adv) (w : World) (hs : a ≠ due) (h1 : cnt = 1073741824) (hm0 : 0 < ms) (hm1 : ms ≤ 100) (hm : 1073741824 % ms ≠ 0) :
    Calls Try.prog 29 #[.agg #[.int .i64 0, .int .i64 pl, .int .i64 ms], stV (.slice aq 0 c) ⟨[], due, fl, cnt⟩, .agg #[.int .u8 a.s, .int .i64 a.r, .bool a.k]] w (NxPost (nx ms ⟨[], due, fl, cnt⟩ a) w) := by
  have hb : advB ⟨a.s, a.r, a.k⟩ ⟨due.s, due.r, due.k⟩ = false := advB_false hs
  have hmin : min (cnt + 1) 1073741824 = 1073741824 := by omega
  have HN := Lib.hid (show nx ms ⟨[], due, fl, cnt⟩ a = ⟨[], a, a, 1073741824⟩ from nx_fly rfl hs hmin (Or.inr hm))
  have ng := adv_neq
  have gd := adv_guard
  unfold stV
  subst h1
  have hz : (ms == 0) = false := by simp; omega
  have ht : (1073741824 : Int).tmod ms = 1073741824 % ms := Int.tmod_eq_emod_of_nonneg (by decide)
  have hr : ((1073741824 : Int) % ms != 0) = true := by simp [hm]
  clear hs hmin hm
  go_enter Try.func29, Try.ntmps29
  go_wp2
  all_goals go_returns
  all_goals exact nxPost_nil HN.out (by go_grown)

set_option maxRecDepth 100000 in
set_option maxHeartbeats 16000000 in
theorem next_p_same (pl ms : Int) (aq : Option Addr) (c : Nat) (n : Nat) (f : Adv) (rest : List Adv) (due fl : Adv) (cnt : Int) (a : Adv) (w : World) (hq : Advs w aq (n + 1) (f :: rest)) (hn : n ≤ 15) (hcap : n + 1 ≤ c) (hs : f = due) :
    Calls Try.prog 29 #[.agg #[.int .i64 ((n + 1 : Nat) : Int), .int .i64 pl, .int .i64 ms], stV (.slice aq (n + 1) c) ⟨(f :: rest), due, fl, cnt⟩, .agg #[.int .u8 a.s, .int .i64 a.r, .bool a.k]] w (NxPost (nx ms ⟨(f :: rest), due, fl, cnt⟩ a) w) := by
  have hb : advB ⟨f.s, f.r, f.k⟩ ⟨due.s, due.r, due.k⟩ = true := advB_true.2 hs
  have HN := Lib.hid (show nx ms ⟨(f :: rest), due, fl, cnt⟩ a = ⟨(rest ++ [a]), due, fl, cnt⟩ from nx_same hs)
  have ng := adv_neq
  have gd := adv_guard
  unfold stV
  have hrl : rest.length = n := by have := hq.len; simpa using this
  have HQ := Lib.hid hq
  have HR := Lib.hid hrl
  obtain ⟨b, off, e', x0, x1, x2⟩ := advs_at hq (k := 0) (by omega)
  subst e'
  rw [show off + 0 * 3 = off by omega] at x0 x1 x2
  have ga0 : ga (f :: rest) 0 = f := rfl
  rw [ga0] at x0 x1 x2
  clear hq hrl ga0 hs
  have hlt : b < w.heap.size := World.block_lt_of_cell? w _ x0
  have l1 : b < w.heap.size + 1 := by omega
  have l2 : b < w.heap.size + 1 + 1 := by omega
  have l3 : b < w.heap.size + 1 + 1 + 1 := by omega
  have l4 : b < w.heap.size + 1 + 1 + 1 + 1 := by omega
  have l5 : b < w.heap.size + 1 + 1 + 1 + 1 + 1 := by omega
  by_cases hc1 : c = 1
  · obtain rfl := hc1
    obtain rfl : n = 0 := by omega
    have mk := hmk3 1 (by omega)
    push_cast at mk
    go_enter Try.func29, Try.ntmps29
    go_wp2_with (refine wpList_copy_fresh rfl (.tmp 20) (.tmp 23) 26 26 rfl 36 3 Try.underlying26 (by kernel_rfl) (by decide) (w.heap.size + 1 + 1 + 1 + 1 + 1) _ _ _ _ _ rfl rfl _ _ (by simp) (flat3 rest) (by rw [flat3_length, HR.out]; simp) (fun h => absurd h (by rw [flat3_length, HR.out]; decide)) (by rw [flat3_length, HR.out]; simp [madeCells] <;> omega) (flat3_cell rest) ?_; intro X hX; have hsz := row_size (n := 0) hX.out HR.out; obtain ⟨u0, hu0⟩ : ∃ u, X[0 * 3]? = some u := ⟨_, Array.getElem?_eq_getElem (by omega)⟩; obtain ⟨u1, hu1⟩ : ∃ u, X[0 * 3 + 1]? = some u := ⟨_, Array.getElem?_eq_getElem (by omega)⟩; obtain ⟨u2, hu2⟩ : ∃ u, X[0 * 3 + 2]? = some u := ⟨_, Array.getElem?_eq_getElem (by omega)⟩; clear hsz)
    all_goals go_returns
    all_goals exact nxPost_row (n := 0 + 1) HN.out (by rw [List.length_append, HR.out]; rfl) (block_new _ _ (by simp)) (row_done (n := 0) hX.out HR.out) (by omega) (by omega) (by go_grown)
  · have hc2 : 1 < c := by omega
    have hc3 : (c == 1) = false := by simp [hc1]
    have mk := hmk3 (n + 1) (by omega)
    push_cast at mk
    go_enter Try.func29, Try.ntmps29
    go_wp2_with (refine wpList_copy_fresh rfl (.tmp 20) (.tmp 23) 26 26 rfl 36 3 Try.underlying26 (by kernel_rfl) (by decide) (w.heap.size + 1 + 1 + 1 + 1 + 1) _ _ _ _ _ rfl rfl _ _ (by simp) (flat3 rest) (by rw [flat3_length, HR.out]; simp) (fun _ => ⟨⟨b, off + 3, none⟩, rfl, fun j v hj => keep1 (W := w) (by go_grown) (advs_src (advs_tail HQ.out) _ rfl j v hj)⟩) (by rw [flat3_length, HR.out]; simp [madeCells] <;> omega) (flat3_cell rest) ?_; intro X hX; have hsz := row_size (n := n) hX.out HR.out; obtain ⟨u0, hu0⟩ : ∃ u, X[n * 3]? = some u := ⟨_, Array.getElem?_eq_getElem (by omega)⟩; obtain ⟨u1, hu1⟩ : ∃ u, X[n * 3 + 1]? = some u := ⟨_, Array.getElem?_eq_getElem (by omega)⟩; obtain ⟨u2, hu2⟩ : ∃ u, X[n * 3 + 2]? = some u := ⟨_, Array.getElem?_eq_getElem (by omega)⟩; clear hsz)
    all_goals go_returns
    all_goals exact nxPost_row (n := n + 1) HN.out (by rw [List.length_append, HR.out]; rfl) (block_new _ _ (by simp)) (row_done (n := n) hX.out HR.out) (by omega) (by omega) (by go_grown)

set_option maxRecDepth 100000 in
set_option maxHeartbeats 16000000 in
theorem next_p_u0 (pl ms : Int) (aq : Option Addr) (c : Nat) (n : Nat) (f : Adv) (rest : List Adv) (due fl : Adv) (cnt : Int) (a : Adv) (w : World) (hq : Advs w aq (n + 1) (f :: rest)) (hn : n ≤ 15) (hcap : n + 1 ≤ c) (hs : f ≠ due) (h0 : 0 ≤ cnt) (h1 : cnt < 1073741824) (hm : ms = 0) :
    Calls Try.prog 29 #[.agg #[.int .i64 ((n + 1 : Nat) : Int), .int .i64 pl, .int .i64 ms], stV (.slice aq (n + 1) c) ⟨(f :: rest), due, fl, cnt⟩, .agg #[.int .u8 a.s, .int .i64 a.r, .bool a.k]] w (NxPost (nx ms ⟨(f :: rest), due, fl, cnt⟩ a) w) := by
  have hb : advB ⟨f.s, f.r, f.k⟩ ⟨due.s, due.r, due.k⟩ = false := advB_false hs
  have hmin : min (cnt + 1) 1073741824 = cnt + 1 := by omega
  have HN := Lib.hid (show nx ms ⟨(f :: rest), due, fl, cnt⟩ a = ⟨(rest ++ [a]), f, f, (cnt + 1)⟩ from nx_fly rfl hs hmin (Or.inl hm))
  have ng := adv_neq
  have gd := adv_guard
  unfold stV
  subst hm
  have hrl : rest.length = n := by have := hq.len; simpa using this
  have HQ := Lib.hid hq
  have HR := Lib.hid hrl
  obtain ⟨b, off, e', x0, x1, x2⟩ := advs_at hq (k := 0) (by omega)
  subst e'
  rw [show off + 0 * 3 = off by omega] at x0 x1 x2
  have ga0 : ga (f :: rest) 0 = f := rfl
  rw [ga0] at x0 x1 x2
  clear hq hrl ga0 hs hmin
  have hlt : b < w.heap.size := World.block_lt_of_cell? w _ x0
  have l1 : b < w.heap.size + 1 := by omega
  have l2 : b < w.heap.size + 1 + 1 := by omega
  have l3 : b < w.heap.size + 1 + 1 + 1 := by omega
  have l4 : b < w.heap.size + 1 + 1 + 1 + 1 := by omega
  have l5 : b < w.heap.size + 1 + 1 + 1 + 1 + 1 := by omega
  by_cases hc1 : c = 1
  · obtain rfl := hc1
    obtain rfl : n = 0 := by omega
    have mk := hmk3 1 (by omega)
    push_cast at mk
    go_enter Try.func29, Try.ntmps29
    go_wp2_with (refine wpList_copy_fresh rfl (.tmp 20) (.tmp 23) 26 26 rfl 36 3 Try.underlying26 (by kernel_rfl) (by decide) (w.heap.size + 1 + 1 + 1 + 1 + 1) _ _ _ _ _ rfl rfl _ _ (by simp) (flat3 rest) (by rw [flat3_length, HR.out]; simp) (fun h => absurd h (by rw [flat3_length, HR.out]; decide)) (by rw [flat3_length, HR.out]; simp [madeCells] <;> omega) (flat3_cell rest) ?_; intro X hX; have hsz := row_size (n := 0) hX.out HR.out; obtain ⟨u0, hu0⟩ : ∃ u, X[0 * 3]? = some u := ⟨_, Array.getElem?_eq_getElem (by omega)⟩; obtain ⟨u1, hu1⟩ : ∃ u, X[0 * 3 + 1]? = some u := ⟨_, Array.getElem?_eq_getElem (by omega)⟩; obtain ⟨u2, hu2⟩ : ∃ u, X[0 * 3 + 2]? = some u := ⟨_, Array.getElem?_eq_getElem (by omega)⟩; clear hsz)
    all_goals go_returns
    all_goals exact nxPost_row (n := 0 + 1) HN.out (by rw [List.length_append, HR.out]; rfl) (block_new _ _ (by simp)) (row_done (n := 0) hX.out HR.out) (by omega) (by omega) (by go_grown)
  · have hc2 : 1 < c := by omega
    have hc3 : (c == 1) = false := by simp [hc1]
    have mk := hmk3 (n + 1) (by omega)
    push_cast at mk
    go_enter Try.func29, Try.ntmps29
    go_wp2_with (refine wpList_copy_fresh rfl (.tmp 20) (.tmp 23) 26 26 rfl 36 3 Try.underlying26 (by kernel_rfl) (by decide) (w.heap.size + 1 + 1 + 1 + 1 + 1) _ _ _ _ _ rfl rfl _ _ (by simp) (flat3 rest) (by rw [flat3_length, HR.out]; simp) (fun _ => ⟨⟨b, off + 3, none⟩, rfl, fun j v hj => keep1 (W := w) (by go_grown) (advs_src (advs_tail HQ.out) _ rfl j v hj)⟩) (by rw [flat3_length, HR.out]; simp [madeCells] <;> omega) (flat3_cell rest) ?_; intro X hX; have hsz := row_size (n := n) hX.out HR.out; obtain ⟨u0, hu0⟩ : ∃ u, X[n * 3]? = some u := ⟨_, Array.getElem?_eq_getElem (by omega)⟩; obtain ⟨u1, hu1⟩ : ∃ u, X[n * 3 + 1]? = some u := ⟨_, Array.getElem?_eq_getElem (by omega)⟩; obtain ⟨u2, hu2⟩ : ∃ u, X[n * 3 + 2]? = some u := ⟨_, Array.getElem?_eq_getElem (by omega)⟩; clear hsz)
    all_goals go_returns
    all_goals exact nxPost_row (n := n + 1) HN.out (by rw [List.length_append, HR.out]; rfl) (block_new _ _ (by simp)) (row_done (n := n) hX.out HR.out) (by omega) (by omega) (by go_grown)

set_option maxRecDepth 100000 in
set_option maxHeartbeats 16000000 in
theorem next_p_ue (pl ms : Int) (aq : Option Addr) (c : Nat) (n : Nat) (f : Adv) (rest : List Adv) (due fl : Adv) (cnt : Int) (a : Adv) (w : World) (hq : Advs w aq (n + 1) (f :: rest)) (hn : n ≤ 15) (hcap : n + 1 ≤ c) (hs : f ≠ due) (h0 : 0 ≤ cnt) (h1 : cnt < 1073741824) (hm0 : 0 < ms) (hm1 : ms ≤ 100) (hm : (cnt + 1) % ms = 0) :
    Calls Try.prog 29 #[.agg #[.int .i64 ((n + 1 : Nat) : Int), .int .i64 pl, .int .i64 ms], stV (.slice aq (n + 1) c) ⟨(f :: rest), due, fl, cnt⟩, .agg #[.int .u8 a.s, .int .i64 a.r, .bool a.k]] w (NxPost (nx ms ⟨(f :: rest), due, fl, cnt⟩ a) w) := by
  have hb : advB ⟨f.s, f.r, f.k⟩ ⟨due.s, due.r, due.k⟩ = false := advB_false hs
  have hmin : min (cnt + 1) 1073741824 = cnt + 1 := by omega
  have HN := Lib.hid (show nx ms ⟨(f :: rest), due, fl, cnt⟩ a = ⟨(rest ++ [a]), f, fl, (cnt + 1)⟩ from nx_miss rfl hs hmin (fun e => e.elim (fun e => by omega) (fun e => e hm)))
  have ng := adv_neq
  have gd := adv_guard
  unfold stV
  have hz : (ms == 0) = false := by simp; omega
  have ht : (cnt + 1).tmod ms = (cnt + 1) % ms := Int.tmod_eq_emod_of_nonneg (by omega)
  have hr : ((cnt + 1) % ms != 0) = false := by simp [hm]
  have hrl : rest.length = n := by have := hq.len; simpa using this
  have HQ := Lib.hid hq
  have HR := Lib.hid hrl
  obtain ⟨b, off, e', x0, x1, x2⟩ := advs_at hq (k := 0) (by omega)
  subst e'
  rw [show off + 0 * 3 = off by omega] at x0 x1 x2
  have ga0 : ga (f :: rest) 0 = f := rfl
  rw [ga0] at x0 x1 x2
  clear hq hrl ga0 hs hmin hm
  have hlt : b < w.heap.size := World.block_lt_of_cell? w _ x0
  have l1 : b < w.heap.size + 1 := by omega
  have l2 : b < w.heap.size + 1 + 1 := by omega
  have l3 : b < w.heap.size + 1 + 1 + 1 := by omega
  have l4 : b < w.heap.size + 1 + 1 + 1 + 1 := by omega
  have l5 : b < w.heap.size + 1 + 1 + 1 + 1 + 1 := by omega
  by_cases hc1 : c = 1
  · obtain rfl := hc1
    obtain rfl : n = 0 := by omega
    have mk := hmk3 1 (by omega)
    push_cast at mk
    go_enter Try.func29, Try.ntmps29
    go_wp2_with (refine wpList_copy_fresh rfl (.tmp 20) (.tmp 23) 26 26 rfl 36 3 Try.underlying26 (by kernel_rfl) (by decide) (w.heap.size + 1 + 1 + 1 + 1 + 1) _ _ _ _ _ rfl rfl _ _ (by simp) (flat3 rest) (by rw [flat3_length, HR.out]; simp) (fun h => absurd h (by rw [flat3_length, HR.out]; decide)) (by rw [flat3_length, HR.out]; simp [madeCells] <;> omega) (flat3_cell rest) ?_; intro X hX; have hsz := row_size (n := 0) hX.out HR.out; obtain ⟨u0, hu0⟩ : ∃ u, X[0 * 3]? = some u := ⟨_, Array.getElem?_eq_getElem (by omega)⟩; obtain ⟨u1, hu1⟩ : ∃ u, X[0 * 3 + 1]? = some u := ⟨_, Array.getElem?_eq_getElem (by omega)⟩; obtain ⟨u2, hu2⟩ : ∃ u, X[0 * 3 + 2]? = some u := ⟨_, Array.getElem?_eq_getElem (by omega)⟩; clear hsz)
    all_goals go_returns
    all_goals exact nxPost_row (n := 0 + 1) HN.out (by rw [List.length_append, HR.out]; rfl) (block_new _ _ (by simp)) (row_done (n := 0) hX.out HR.out) (by omega) (by omega) (by go_grown)
  · have hc2 : 1 < c := by omega
    have hc3 : (c == 1) = false := by simp [hc1]
    have mk := hmk3 (n + 1) (by omega)
    push_cast at mk
    go_enter Try.func29, Try.ntmps29
    go_wp2_with (refine wpList_copy_fresh rfl (.tmp 20) (.tmp 23) 26 26 rfl 36 3 Try.underlying26 (by kernel_rfl) (by decide) (w.heap.size + 1 + 1 + 1 + 1 + 1) _ _ _ _ _ rfl rfl _ _ (by simp) (flat3 rest) (by rw [flat3_length, HR.out]; simp) (fun _ => ⟨⟨b, off + 3, none⟩, rfl, fun j v hj => keep1 (W := w) (by go_grown) (advs_src (advs_tail HQ.out) _ rfl j v hj)⟩) (by rw [flat3_length, HR.out]; simp [madeCells] <;> omega) (flat3_cell rest) ?_; intro X hX; have hsz := row_size (n := n) hX.out HR.out; obtain ⟨u0, hu0⟩ : ∃ u, X[n * 3]? = some u := ⟨_, Array.getElem?_eq_getElem (by omega)⟩; obtain ⟨u1, hu1⟩ : ∃ u, X[n * 3 + 1]? = some u := ⟨_, Array.getElem?_eq_getElem (by omega)⟩; obtain ⟨u2, hu2⟩ : ∃ u, X[n * 3 + 2]? = some u := ⟨_, Array.getElem?_eq_getElem (by omega)⟩; clear hsz)
    all_goals go_returns
    all_goals exact nxPost_row (n := n + 1) HN.out (by rw [List.length_append, HR.out]; rfl) (block_new _ _ (by simp)) (row_done (n := n) hX.out HR.out) (by omega) (by omega) (by go_grown)

set_option maxRecDepth 100000 in
set_option maxHeartbeats 16000000 in
theorem next_p_un (pl ms : Int) (aq : Option Addr) (c : Nat) (n : Nat) (f : Adv) (rest : List Adv) (due fl : Adv) (cnt : Int) (a : Adv) (w : World) (hq : Advs w aq (n + 1) (f :: rest)) (hn : n ≤ 15) (hcap : n + 1 ≤ c) (hs : f ≠ due) (h0 : 0 ≤ cnt) (h1 : cnt < 1073741824) (hm0 : 0 < ms) (hm1 : ms ≤ 100) (hm : (cnt + 1) % ms ≠ 0) :
    Calls Try.prog 29 #[.agg #[.int .i64 ((n + 1 : Nat) : Int), .int .i64 pl, .int .i64 ms], stV (.slice aq (n + 1) c) ⟨(f :: rest), due, fl, cnt⟩, .agg #[.int .u8 a.s, .int .i64 a.r, .bool a.k]] w (NxPost (nx ms ⟨(f :: rest), due, fl, cnt⟩ a) w) := by
  have hb : advB ⟨f.s, f.r, f.k⟩ ⟨due.s, due.r, due.k⟩ = false := advB_false hs
  have hmin : min (cnt + 1) 1073741824 = cnt + 1 := by omega
  have HN := Lib.hid (show nx ms ⟨(f :: rest), due, fl, cnt⟩ a = ⟨(rest ++ [a]), f, f, (cnt + 1)⟩ from nx_fly rfl hs hmin (Or.inr hm))
  have ng := adv_neq
  have gd := adv_guard
  unfold stV
  have hz : (ms == 0) = false := by simp; omega
  have ht : (cnt + 1).tmod ms = (cnt + 1) % ms := Int.tmod_eq_emod_of_nonneg (by omega)
  have hr : ((cnt + 1) % ms != 0) = true := by simp [hm]
  have hrl : rest.length = n := by have := hq.len; simpa using this
  have HQ := Lib.hid hq
  have HR := Lib.hid hrl
  obtain ⟨b, off, e', x0, x1, x2⟩ := advs_at hq (k := 0) (by omega)
  subst e'
  rw [show off + 0 * 3 = off by omega] at x0 x1 x2
  have ga0 : ga (f :: rest) 0 = f := rfl
  rw [ga0] at x0 x1 x2
  clear hq hrl ga0 hs hmin hm
  have hlt : b < w.heap.size := World.block_lt_of_cell? w _ x0
  have l1 : b < w.heap.size + 1 := by omega
  have l2 : b < w.heap.size + 1 + 1 := by omega
  have l3 : b < w.heap.size + 1 + 1 + 1 := by omega
  have l4 : b < w.heap.size + 1 + 1 + 1 + 1 := by omega
  have l5 : b < w.heap.size + 1 + 1 + 1 + 1 + 1 := by omega
  by_cases hc1 : c = 1
  · obtain rfl := hc1
    obtain rfl : n = 0 := by omega
    have mk := hmk3 1 (by omega)
    push_cast at mk
    go_enter Try.func29, Try.ntmps29
    go_wp2_with (refine wpList_copy_fresh rfl (.tmp 20) (.tmp 23) 26 26 rfl 36 3 Try.underlying26 (by kernel_rfl) (by decide) (w.heap.size + 1 + 1 + 1 + 1 + 1) _ _ _ _ _ rfl rfl _ _ (by simp) (flat3 rest) (by rw [flat3_length, HR.out]; simp) (fun h => absurd h (by rw [flat3_length, HR.out]; decide)) (by rw [flat3_length, HR.out]; simp [madeCells] <;> omega) (flat3_cell rest) ?_; intro X hX; have hsz := row_size (n := 0) hX.out HR.out; obtain ⟨u0, hu0⟩ : ∃ u, X[0 * 3]? = some u := ⟨_, Array.getElem?_eq_getElem (by omega)⟩; obtain ⟨u1, hu1⟩ : ∃ u, X[0 * 3 + 1]? = some u := ⟨_, Array.getElem?_eq_getElem (by omega)⟩; obtain ⟨u2, hu2⟩ : ∃ u, X[0 * 3 + 2]? = some u := ⟨_, Array.getElem?_eq_getElem (by omega)⟩; clear hsz)
    all_goals go_returns
    all_goals exact nxPost_row (n := 0 + 1) HN.out (by rw [List.length_append, HR.out]; rfl) (block_new _ _ (by simp)) (row_done (n := 0) hX.out HR.out) (by omega) (by omega) (by go_grown)
  · have hc2 : 1 < c := by omega
    have hc3 : (c == 1) = false := by simp [hc1]
    have mk := hmk3 (n + 1) (by omega)
    push_cast at mk
    go_enter Try.func29, Try.ntmps29
    go_wp2_with (refine wpList_copy_fresh rfl (.tmp 20) (.tmp 23) 26 26 rfl 36 3 Try.underlying26 (by kernel_rfl) (by decide) (w.heap.size + 1 + 1 + 1 + 1 + 1) _ _ _ _ _ rfl rfl _ _ (by simp) (flat3 rest) (by rw [flat3_length, HR.out]; simp) (fun _ => ⟨⟨b, off + 3, none⟩, rfl, fun j v hj => keep1 (W := w) (by go_grown) (advs_src (advs_tail HQ.out) _ rfl j v hj)⟩) (by rw [flat3_length, HR.out]; simp [madeCells] <;> omega) (flat3_cell rest) ?_; intro X hX; have hsz := row_size (n := n) hX.out HR.out; obtain ⟨u0, hu0⟩ : ∃ u, X[n * 3]? = some u := ⟨_, Array.getElem?_eq_getElem (by omega)⟩; obtain ⟨u1, hu1⟩ : ∃ u, X[n * 3 + 1]? = some u := ⟨_, Array.getElem?_eq_getElem (by omega)⟩; obtain ⟨u2, hu2⟩ : ∃ u, X[n * 3 + 2]? = some u := ⟨_, Array.getElem?_eq_getElem (by omega)⟩; clear hsz)
    all_goals go_returns
    all_goals exact nxPost_row (n := n + 1) HN.out (by rw [List.length_append, HR.out]; rfl) (block_new _ _ (by simp)) (row_done (n := n) hX.out HR.out) (by omega) (by omega) (by go_grown)

set_option maxRecDepth 100000 in
set_option maxHeartbeats 16000000 in
theorem next_p_o0 (pl ms : Int) (aq : Option Addr) (c : Nat) (n : Nat) (f : Adv) (rest : List Adv) (due fl : Adv) (cnt : Int) (a : Adv) (w : World) (hq : Advs w aq (n + 1) (f :: rest)) (hn : n ≤ 15) (hcap : n + 1 ≤ c) (hs : f ≠ due) (h1 : cnt = 1073741824) (hm : ms = 0) :
    Calls Try.prog 29 #[.agg #[.int .i64 ((n + 1 : Nat) : Int), .int .i64 pl, .int .i64 ms], stV (.slice aq (n + 1) c) ⟨(f :: rest), due, fl, cnt⟩, .agg #[.int .u8 a.s, .int .i64 a.r, .bool a.k]] w (NxPost (nx ms ⟨(f :: rest), due, fl, cnt⟩ a) w) := by
  have hb : advB ⟨f.s, f.r, f.k⟩ ⟨due.s, due.r, due.k⟩ = false := advB_false hs
  have hmin : min (cnt + 1) 1073741824 = 1073741824 := by omega
  have HN := Lib.hid (show nx ms ⟨(f :: rest), due, fl, cnt⟩ a = ⟨(rest ++ [a]), f, f, 1073741824⟩ from nx_fly rfl hs hmin (Or.inl hm))
  have ng := adv_neq
  have gd := adv_guard
  unfold stV
  subst h1
  subst hm
  have hrl : rest.length = n := by have := hq.len; simpa using this
  have HQ := Lib.hid hq
  have HR := Lib.hid hrl
  obtain ⟨b, off, e', x0, x1, x2⟩ := advs_at hq (k := 0) (by omega)
  subst e'
  rw [show off + 0 * 3 = off by omega] at x0 x1 x2
  have ga0 : ga (f :: rest) 0 = f := rfl
  rw [ga0] at x0 x1 x2
  clear hq hrl ga0 hs hmin
  have hlt : b < w.heap.size := World.block_lt_of_cell? w _ x0
  have l1 : b < w.heap.size + 1 := by omega
  have l2 : b < w.heap.size + 1 + 1 := by omega
  have l3 : b < w.heap.size + 1 + 1 + 1 := by omega
  have l4 : b < w.heap.size + 1 + 1 + 1 + 1 := by omega
  have l5 : b < w.heap.size + 1 + 1 + 1 + 1 + 1 := by omega
  by_cases hc1 : c = 1
  · obtain rfl := hc1
    obtain rfl : n = 0 := by omega
    have mk := hmk3 1 (by omega)
    push_cast at mk
    go_enter Try.func29, Try.ntmps29
    go_wp2_with (refine wpList_copy_fresh rfl (.tmp 20) (.tmp 23) 26 26 rfl 36 3 Try.underlying26 (by kernel_rfl) (by decide) (w.heap.size + 1 + 1 + 1 + 1 + 1) _ _ _ _ _ rfl rfl _ _ (by simp) (flat3 rest) (by rw [flat3_length, HR.out]; simp) (fun h => absurd h (by rw [flat3_length, HR.out]; decide)) (by rw [flat3_length, HR.out]; simp [madeCells] <;> omega) (flat3_cell rest) ?_; intro X hX; have hsz := row_size (n := 0) hX.out HR.out; obtain ⟨u0, hu0⟩ : ∃ u, X[0 * 3]? = some u := ⟨_, Array.getElem?_eq_getElem (by omega)⟩; obtain ⟨u1, hu1⟩ : ∃ u, X[0 * 3 + 1]? = some u := ⟨_, Array.getElem?_eq_getElem (by omega)⟩; obtain ⟨u2, hu2⟩ : ∃ u, X[0 * 3 + 2]? = some u := ⟨_, Array.getElem?_eq_getElem (by omega)⟩; clear hsz)
    all_goals go_returns
    all_goals exact nxPost_row (n := 0 + 1) HN.out (by rw [List.length_append, HR.out]; rfl) (block_new _ _ (by simp)) (row_done (n := 0) hX.out HR.out) (by omega) (by omega) (by go_grown)
  · have hc2 : 1 < c := by omega
    have hc3 : (c == 1) = false := by simp [hc1]
    have mk := hmk3 (n + 1) (by omega)
    push_cast at mk
    go_enter Try.func29, Try.ntmps29
    go_wp2_with (refine wpList_copy_fresh rfl (.tmp 20) (.tmp 23) 26 26 rfl 36 3 Try.underlying26 (by kernel_rfl) (by decide) (w.heap.size + 1 + 1 + 1 + 1 + 1) _ _ _ _ _ rfl rfl _ _ (by simp) (flat3 rest) (by rw [flat3_length, HR.out]; simp) (fun _ => ⟨⟨b, off + 3, none⟩, rfl, fun j v hj => keep1 (W := w) (by go_grown) (advs_src (advs_tail HQ.out) _ rfl j v hj)⟩) (by rw [flat3_length, HR.out]; simp [madeCells] <;> omega) (flat3_cell rest) ?_; intro X hX; have hsz := row_size (n := n) hX.out HR.out; obtain ⟨u0, hu0⟩ : ∃ u, X[n * 3]? = some u := ⟨_, Array.getElem?_eq_getElem (by omega)⟩; obtain ⟨u1, hu1⟩ : ∃ u, X[n * 3 + 1]? = some u := ⟨_, Array.getElem?_eq_getElem (by omega)⟩; obtain ⟨u2, hu2⟩ : ∃ u, X[n * 3 + 2]? = some u := ⟨_, Array.getElem?_eq_getElem (by omega)⟩; clear hsz)
    all_goals go_returns
    all_goals exact nxPost_row (n := n + 1) HN.out (by rw [List.length_append, HR.out]; rfl) (block_new _ _ (by simp)) (row_done (n := n) hX.out HR.out) (by omega) (by omega) (by go_grown)

set_option maxRecDepth 100000 in
set_option maxHeartbeats 16000000 in
theorem next_p_oe (pl ms : Int) (aq : Option Addr) (c : Nat) (n : Nat) (f : Adv) (rest : List Adv) (due fl : Adv) (cnt : Int) (a : Adv) (w : World) (hq : Advs w aq (n + 1) (f :: rest)) (hn : n ≤ 15) (hcap : n + 1 ≤ c) (hs : f ≠ due) (h1 : cnt = 1073741824) (hm0 : 0 < ms) (hm1 : ms ≤ 100) (hm : 1073741824 % ms = 0) :
    Calls Try.prog 29 #[.agg #[.int .i64 ((n + 1 : Nat) : Int), .int .i64 pl, .int .i64 ms], stV (.slice aq (n + 1) c) ⟨(f :: rest), due, fl, cnt⟩, .agg #[.int .u8 a.s, .int .i64 a.r, .bool a.k]] w (NxPost (nx ms ⟨(f :: rest), due, fl, cnt⟩ a) w) := by
  have hb : advB ⟨f.s, f.r, f.k⟩ ⟨due.s, due.r, due.k⟩ = false := advB_false hs
  have hmin : min (cnt + 1) 1073741824 = 1073741824 := by omega
  have HN := Lib.hid (show nx ms ⟨(f :: rest), due, fl, cnt⟩ a = ⟨(rest ++ [a]), f, fl, 1073741824⟩ from nx_miss rfl hs hmin (fun e => e.elim (fun e => by omega) (fun e => e hm)))
  have ng := adv_neq
  have gd := adv_guard
  unfold stV
  subst h1
  have hz : (ms == 0) = false := by simp; omega
  have ht : (1073741824 : Int).tmod ms = 1073741824 % ms := Int.tmod_eq_emod_of_nonneg (by decide)
  have hr : ((1073741824 : Int) % ms != 0) = false := by simp [hm]
  have hrl : rest.length = n := by have := hq.len; simpa using this
  have HQ := Lib.hid hq
  have HR := Lib.hid hrl
  obtain ⟨b, off, e', x0, x1, x2⟩ := advs_at hq (k := 0) (by omega)
  subst e'
  rw [show off + 0 * 3 = off by omega] at x0 x1 x2
  have ga0 : ga (f :: rest) 0 = f := rfl
  rw [ga0] at x0 x1 x2
  clear hq hrl ga0 hs hmin hm
  have hlt : b < w.heap.size := World.block_lt_of_cell? w _ x0
  have l1 : b < w.heap.size + 1 := by omega
  have l2 : b < w.heap.size + 1 + 1 := by omega
  have l3 : b < w.heap.size + 1 + 1 + 1 := by omega
  have l4 : b < w.heap.size + 1 + 1 + 1 + 1 := by omega
  have l5 : b < w.heap.size + 1 + 1 + 1 + 1 + 1 := by omega
  by_cases hc1 : c = 1
  · obtain rfl := hc1
    obtain rfl : n = 0 := by omega
    have mk := hmk3 1 (by omega)
    push_cast at mk
    go_enter Try.func29, Try.ntmps29
    go_wp2_with (refine wpList_copy_fresh rfl (.tmp 20) (.tmp 23) 26 26 rfl 36 3 Try.underlying26 (by kernel_rfl) (by decide) (w.heap.size + 1 + 1 + 1 + 1 + 1) _ _ _ _ _ rfl rfl _ _ (by simp) (flat3 rest) (by rw [flat3_length, HR.out]; simp) (fun h => absurd h (by rw [flat3_length, HR.out]; decide)) (by rw [flat3_length, HR.out]; simp [madeCells] <;> omega) (flat3_cell rest) ?_; intro X hX; have hsz := row_size (n := 0) hX.out HR.out; obtain ⟨u0, hu0⟩ : ∃ u, X[0 * 3]? = some u := ⟨_, Array.getElem?_eq_getElem (by omega)⟩; obtain ⟨u1, hu1⟩ : ∃ u, X[0 * 3 + 1]? = some u := ⟨_, Array.getElem?_eq_getElem (by omega)⟩; obtain ⟨u2, hu2⟩ : ∃ u, X[0 * 3 + 2]? = some u := ⟨_, Array.getElem?_eq_getElem (by omega)⟩; clear hsz)
    all_goals go_returns
    all_goals exact nxPost_row (n := 0 + 1) HN.out (by rw [List.length_append, HR.out]; rfl) (block_new _ _ (by simp)) (row_done (n := 0) hX.out HR.out) (by omega) (by omega) (by go_grown)
  · have hc2 : 1 < c := by omega
    have hc3 : (c == 1) = false := by simp [hc1]
    have mk := hmk3 (n + 1) (by omega)
    push_cast at mk
    go_enter Try.func29, Try.ntmps29
    go_wp2_with (refine wpList_copy_fresh rfl (.tmp 20) (.tmp 23) 26 26 rfl 36 3 Try.underlying26 (by kernel_rfl) (by decide) (w.heap.size + 1 + 1 + 1 + 1 + 1) _ _ _ _ _ rfl rfl _ _ (by simp) (flat3 rest) (by rw [flat3_length, HR.out]; simp) (fun _ => ⟨⟨b, off + 3, none⟩, rfl, fun j v hj => keep1 (W := w) (by go_grown) (advs_src (advs_tail HQ.out) _ rfl j v hj)⟩) (by rw [flat3_length, HR.out]; simp [madeCells] <;> omega) (flat3_cell rest) ?_; intro X hX; have hsz := row_size (n := n) hX.out HR.out; obtain ⟨u0, hu0⟩ : ∃ u, X[n * 3]? = some u := ⟨_, Array.getElem?_eq_getElem (by omega)⟩; obtain ⟨u1, hu1⟩ : ∃ u, X[n * 3 + 1]? = some u := ⟨_, Array.getElem?_eq_getElem (by omega)⟩; obtain ⟨u2, hu2⟩ : ∃ u, X[n * 3 + 2]? = some u := ⟨_, Array.getElem?_eq_getElem (by omega)⟩; clear hsz)
    all_goals go_returns
    all_goals exact nxPost_row (n := n + 1) HN.out (by rw [List.length_append, HR.out]; rfl) (block_new _ _ (by simp)) (row_done (n := n) hX.out HR.out) (by omega) (by omega) (by go_grown)

set_option maxRecDepth 100000 in
set_option maxHeartbeats 16000000 in
theorem next_p_on (pl ms : Int) (aq : Option Addr) (c : Nat) (n : Nat) (f : Adv) (rest : List Adv) (due fl : Adv) (cnt : Int) (a : Adv) (w : World) (hq : Advs w aq (n + 1) (f :: rest)) (hn : n ≤ 15) (hcap : n + 1 ≤ c) (hs : f ≠ due) (h1 : cnt = 1073741824) (hm0 : 0 < ms) (hm1 : ms ≤ 100) (hm : 1073741824 % ms ≠ 0) :
    Calls Try.prog 29 #[.agg #[.int .i64 ((n + 1 : Nat) : Int), .int .i64 pl, .int .i64 ms], stV (.slice aq (n + 1) c) ⟨(f :: rest), due, fl, cnt⟩, .agg #[.int .u8 a.s, .int .i64 a.r, .bool a.k]] w (NxPost (nx ms ⟨(f :: rest), due, fl, cnt⟩ a) w) := by
  have hb : advB ⟨f.s, f.r, f.k⟩ ⟨due.s, due.r, due.k⟩ = false := advB_false hs
  have hmin : min (cnt + 1) 1073741824 = 1073741824 := by omega
  have HN := Lib.hid (show nx ms ⟨(f :: rest), due, fl, cnt⟩ a = ⟨(rest ++ [a]), f, f, 1073741824⟩ from nx_fly rfl hs hmin (Or.inr hm))
  have ng := adv_neq
  have gd := adv_guard
  unfold stV
  subst h1
  have hz : (ms == 0) = false := by simp; omega
  have ht : (1073741824 : Int).tmod ms = 1073741824 % ms := Int.tmod_eq_emod_of_nonneg (by decide)
  have hr : ((1073741824 : Int) % ms != 0) = true := by simp [hm]
  have hrl : rest.length = n := by have := hq.len; simpa using this
  have HQ := Lib.hid hq
  have HR := Lib.hid hrl
  obtain ⟨b, off, e', x0, x1, x2⟩ := advs_at hq (k := 0) (by omega)
  subst e'
  rw [show off + 0 * 3 = off by omega] at x0 x1 x2
  have ga0 : ga (f :: rest) 0 = f := rfl
  rw [ga0] at x0 x1 x2
  clear hq hrl ga0 hs hmin hm
  have hlt : b < w.heap.size := World.block_lt_of_cell? w _ x0
  have l1 : b < w.heap.size + 1 := by omega
  have l2 : b < w.heap.size + 1 + 1 := by omega
  have l3 : b < w.heap.size + 1 + 1 + 1 := by omega
  have l4 : b < w.heap.size + 1 + 1 + 1 + 1 := by omega
  have l5 : b < w.heap.size + 1 + 1 + 1 + 1 + 1 := by omega
  by_cases hc1 : c = 1
  · obtain rfl := hc1
    obtain rfl : n = 0 := by omega
    have mk := hmk3 1 (by omega)
    push_cast at mk
    go_enter Try.func29, Try.ntmps29
    go_wp2_with (refine wpList_copy_fresh rfl (.tmp 20) (.tmp 23) 26 26 rfl 36 3 Try.underlying26 (by kernel_rfl) (by decide) (w.heap.size + 1 + 1 + 1 + 1 + 1) _ _ _ _ _ rfl rfl _ _ (by simp) (flat3 rest) (by rw [flat3_length, HR.out]; simp) (fun h => absurd h (by rw [flat3_length, HR.out]; decide)) (by rw [flat3_length, HR.out]; simp [madeCells] <;> omega) (flat3_cell rest) ?_; intro X hX; have hsz := row_size (n := 0) hX.out HR.out; obtain ⟨u0, hu0⟩ : ∃ u, X[0 * 3]? = some u := ⟨_, Array.getElem?_eq_getElem (by omega)⟩; obtain ⟨u1, hu1⟩ : ∃ u, X[0 * 3 + 1]? = some u := ⟨_, Array.getElem?_eq_getElem (by omega)⟩; obtain ⟨u2, hu2⟩ : ∃ u, X[0 * 3 + 2]? = some u := ⟨_, Array.getElem?_eq_getElem (by omega)⟩; clear hsz)
    all_goals go_returns
    all_goals exact nxPost_row (n := 0 + 1) HN.out (by rw [List.length_append, HR.out]; rfl) (block_new _ _ (by simp)) (row_done (n := 0) hX.out HR.out) (by omega) (by omega) (by go_grown)
  · have hc2 : 1 < c := by omega
    have hc3 : (c == 1) = false := by simp [hc1]
    have mk := hmk3 (n + 1) (by omega)
    push_cast at mk
    go_enter Try.func29, Try.ntmps29
    go_wp2_with (refine wpList_copy_fresh rfl (.tmp 20) (.tmp 23) 26 26 rfl 36 3 Try.underlying26 (by kernel_rfl) (by decide) (w.heap.size + 1 + 1 + 1 + 1 + 1) _ _ _ _ _ rfl rfl _ _ (by simp) (flat3 rest) (by rw [flat3_length, HR.out]; simp) (fun _ => ⟨⟨b, off + 3, none⟩, rfl, fun j v hj => keep1 (W := w) (by go_grown) (advs_src (advs_tail HQ.out) _ rfl j v hj)⟩) (by rw [flat3_length, HR.out]; simp [madeCells] <;> omega) (flat3_cell rest) ?_; intro X hX; have hsz := row_size (n := n) hX.out HR.out; obtain ⟨u0, hu0⟩ : ∃ u, X[n * 3]? = some u := ⟨_, Array.getElem?_eq_getElem (by omega)⟩; obtain ⟨u1, hu1⟩ : ∃ u, X[n * 3 + 1]? = some u := ⟨_, Array.getElem?_eq_getElem (by omega)⟩; obtain ⟨u2, hu2⟩ : ∃ u, X[n * 3 + 2]? = some u := ⟨_, Array.getElem?_eq_getElem (by omega)⟩; clear hsz)
    all_goals go_returns
    all_goals exact nxPost_row (n := n + 1) HN.out (by rw [List.length_append, HR.out]; rfl) (block_new _ _ (by simp)) (row_done (n := n) hX.out HR.out) (by omega) (by omega) (by go_grown)

theorem pnext_call (d : Nat) (pl ms : Int) (aq : Option Addr) (c : Nat) (x : St) (a : Adv) (w : World) (hq : Advs w aq d x.q) (hd : d ≤ 16) (hcap : d ≤ c) (h0 : 0 ≤ x.c) (h1 : x.c ≤ 1073741824) (hm0 : 0 ≤ ms) (hm1 : ms ≤ 100) :
    Calls Try.prog 29 #[.agg #[.int .i64 d, .int .i64 pl, .int .i64 ms], stV (.slice aq d c) x, .agg #[.int .u8 a.s, .int .i64 a.r, .bool a.k]] w (NxPost (nx ms x a) w) := by
  obtain ⟨q, due, fl, cnt⟩ := x
  dsimp only at hq h0 h1
  cases q with
  | nil =>
    have hl := hq.len
    obtain rfl : d = 0 := by simpa using hl.symm
    by_cases hs : a = due
    · exact next_z_same pl ms aq c due fl cnt a w hs
    · by_cases hc : cnt < 1073741824
      · by_cases hz : ms = 0
        · exact next_z_u0 pl ms aq c due fl cnt a w hs h0 hc hz
        · by_cases hr : (cnt + 1) % ms = 0
          · exact next_z_ue pl ms aq c due fl cnt a w hs h0 hc (by omega) hm1 hr
          · exact next_z_un pl ms aq c due fl cnt a w hs h0 hc (by omega) hm1 hr
      · have hc' : cnt = 1073741824 := by omega
        by_cases hz : ms = 0
        · exact next_z_o0 pl ms aq c due fl cnt a w hs hc' hz
        · by_cases hr : (1073741824 : Int) % ms = 0
          · exact next_z_oe pl ms aq c due fl cnt a w hs hc' (by omega) hm1 hr
          · exact next_z_on pl ms aq c due fl cnt a w hs hc' (by omega) hm1 hr
  | cons f rest =>
    have hl := hq.len
    obtain ⟨n, rfl⟩ : ∃ n, d = n + 1 := ⟨rest.length, by simpa using hl.symm⟩
    by_cases hs : f = due
    · exact next_p_same pl ms aq c n f rest due fl cnt a w hq (by omega) hcap hs
    · by_cases hc : cnt < 1073741824
      · by_cases hz : ms = 0
        · exact next_p_u0 pl ms aq c n f rest due fl cnt a w hq (by omega) hcap hs h0 hc hz
        · by_cases hr : (cnt + 1) % ms = 0
          · exact next_p_ue pl ms aq c n f rest due fl cnt a w hq (by omega) hcap hs h0 hc (by omega) hm1 hr
          · exact next_p_un pl ms aq c n f rest due fl cnt a w hq (by omega) hcap hs h0 hc (by omega) hm1 hr
      · have hc' : cnt = 1073741824 := by omega
        by_cases hz : ms = 0
        · exact next_p_o0 pl ms aq c n f rest due fl cnt a w hq (by omega) hcap hs hc' hz
        · by_cases hr : (1073741824 : Int) % ms = 0
          · exact next_p_oe pl ms aq c n f rest due fl cnt a w hq (by omega) hcap hs hc' (by omega) hm1 hr
          · exact next_p_on pl ms aq c n f rest due fl cnt a w hq (by omega) hcap hs hc' (by omega) hm1 hr

end Go.Proofs.Ytjidpkcoaoflbaa
