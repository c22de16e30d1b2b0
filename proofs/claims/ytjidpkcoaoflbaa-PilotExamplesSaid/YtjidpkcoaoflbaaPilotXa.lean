/-
  Layer 37 (pilot): the law PilotExamples, walked. Printed by genPilotX2.py.
-/
import Derived.Test.YtjidpkcoaoflbaaPilotQ
import Derived.Test.YtjidpkcoaoflbaaPilotP
namespace Go.Proofs.Ytjidpkcoaoflbaa
open Go.RowKit PilotMath MyHeap MyOwn PlaneMath MyCopy
attribute [local go_sem ↓] storeRunP Go.wp_at_zero Go.wp_at_succ
attribute [local go_sem] blk8_mk ptr8_mk cls8_mk agg8_mk
attribute [local go_sem] rowAt_new Go.MyCopyWide.setRow_last

def tabl : List (Adv × Int × Int × Int) := [(⟨0, 0, false⟩, -100, 100, 0), (⟨1, 0, false⟩, 0, 100, 0), (⟨2, 100, false⟩, -100, -100, 0), (⟨2, -100, true⟩, -100, 100, 0), (⟨3, 101, false⟩, 0, 0, 6), (⟨0, 1, false⟩, 0, 0, 1), (⟨0, 0, true⟩, 0, 0, 1), (⟨1, 101, false⟩, 0, 0, 1), (⟨2, -1, false⟩, 0, 0, 1), (⟨1, -101, true⟩, 0, 0, 1)]
def tb (k : Nat) : Adv × Int × Int × Int := tabl[k]?.getD (adv0, 0, 0, 0)
theorem tb_ok : ∀ k, k < 10 → bndL (tb k).1 = (tb k).2.1 ∧ bndH (tb k).1 = (tb k).2.2.1 ∧ bndE (tb k).1 = (tb k).2.2.2 ∧ 0 ≤ (tb k).1.s := by decide +kernel
def tbCells : Array Value := #[.int .u8 0, .int .i64 0, .bool false, .int .i64 (-100), .int .i64 100, .int .i64 0, .int .u8 1, .int .i64 0, .bool false, .int .i64 0, .int .i64 100, .int .i64 0, .int .u8 2, .int .i64 100, .bool false, .int .i64 (-100), .int .i64 (-100), .int .i64 0, .int .u8 2, .int .i64 (-100), .bool true, .int .i64 (-100), .int .i64 100, .int .i64 0, .int .u8 3, .int .i64 101, .bool false, .int .i64 0, .int .i64 0, .int .i64 6, .int .u8 0, .int .i64 1, .bool false, .int .i64 0, .int .i64 0, .int .i64 1, .int .u8 0, .int .i64 0, .bool true, .int .i64 0, .int .i64 0, .int .i64 1, .int .u8 1, .int .i64 101, .bool false, .int .i64 0, .int .i64 0, .int .i64 1, .int .u8 2, .int .i64 (-1), .bool false, .int .i64 0, .int .i64 0, .int .i64 1, .int .u8 1, .int .i64 (-101), .bool true, .int .i64 0, .int .i64 0, .int .i64 1]
theorem tbCells_get (k : Nat) (hk : k < 10) : tbCells[k * 6]? = some (.int .u8 (tb k).1.s) ∧ tbCells[k * 6 + 1]? = some (.int .i64 (tb k).1.r) ∧ tbCells[k * 6 + 2]? = some (.bool (tb k).1.k) ∧ tbCells[k * 6 + 3]? = some (.int .i64 (tb k).2.1) ∧ tbCells[k * 6 + 4]? = some (.int .i64 (tb k).2.2.1) ∧ tbCells[k * 6 + 5]? = some (.int .i64 (tb k).2.2.2) := by
  rcases (show k = 0 ∨ k = 1 ∨ k = 2 ∨ k = 3 ∨ k = 4 ∨ k = 5 ∨ k = 6 ∨ k = 7 ∨ k = 8 ∨ k = 9 by omega) with rfl | rfl | rfl | rfl | rfl | rfl | rfl | rfl | rfl | rfl <;> exact ⟨rfl, rfl, rfl, rfl, rfl, rfl⟩
def pils : List (Int × Int × Int) := [(-1, 1, 0), (17, 1, 0), (0, 0, 0), (0, 33, 0), (0, 1, -1), (0, 1, 101)]
def plk (k : Nat) : Int × Int × Int := pils[k]?.getD (0, 0, 0)
theorem plk_bad : ∀ k, k < 6 → plE (plk k).1 (plk k).2.1 (plk k).2.2 = 1 := by decide +kernel
def plCells : Array Value := #[.int .i64 (-1), .int .i64 1, .int .i64 0, .int .i64 17, .int .i64 1, .int .i64 0, .int .i64 0, .int .i64 0, .int .i64 0, .int .i64 0, .int .i64 33, .int .i64 0, .int .i64 0, .int .i64 1, .int .i64 (-1), .int .i64 0, .int .i64 1, .int .i64 101]
theorem plCells_get (k : Nat) (hk : k < 6) : plCells[k * 3]? = some (.int .i64 (plk k).1) ∧ plCells[k * 3 + 1]? = some (.int .i64 (plk k).2.1) ∧ plCells[k * 3 + 2]? = some (.int .i64 (plk k).2.2) := by
  rcases (show k = 0 ∨ k = 1 ∨ k = 2 ∨ k = 3 ∨ k = 4 ∨ k = 5 by omega) with rfl | rfl | rfl | rfl | rfl | rfl <;> exact ⟨rfl, rfl, rfl⟩
theorem cmdE_p1 {d pl ms : Int} (h : plE d pl ms = 1) (x : St) (a : Adv) : cmdE d pl ms x a = 1 := by
  unfold cmdE
  rw [if_pos (by rw [h]; decide), h]
/-- A block, and nothing of w0 written. -/
def BkK (w0 : World) (b : Nat) (cs : Array Value) (T : TypeId) (w : World) : Prop := w.heap[b]? = some (.cells cs T (0, 0)) ∧ Below w0.heap.size w0 w
theorem BkK.keep {w0 : World} {b : Nat} {cs : Array Value} {T : TypeId} {w w' : World} (h : BkK w0 b cs T w) (hb : Below w.heap.size w w') : BkK w0 b cs T w' := ⟨keepO hb h.1, h.2.trans (hb.mono h.2.size)⟩
theorem BkK.alloc {w0 : World} {b : Nat} {cs : Array Value} {T : TypeId} {w : World} (h : BkK w0 b cs T w) (o : Obj) : BkK w0 b cs T (w.alloc o) := h.keep ((Below.refl _ _).alloc (Nat.le_refl _) _)
def KK (w0 : World) (bs : List (Nat × Obj)) (w : World) : Prop := (∀ p ∈ bs, w.heap[p.1]? = some p.2) ∧ Below w0.heap.size w0 w
section
variable {w0 : World} {bs : List (Nat × Obj)} {w w' : World}
theorem KK.keep (h : KK w0 bs w) (hb : Below w.heap.size w w') : KK w0 bs w' := ⟨fun p hp => keepO hb (h.1 p hp), h.2.trans (hb.mono h.2.size)⟩
theorem KK.alloc (h : KK w0 bs w) (o : Obj) : KK w0 bs (w.alloc o) := h.keep ((Below.refl _ _).alloc (Nat.le_refl _) _)
theorem KK.drew (h : KK w0 bs w) : KK w0 bs w.drew := h.keep (Below.refl _ _).drew
theorem KK.drewN (h : KK w0 bs w) (n : Nat) : KK w0 bs (w.drewN n) := h.keep (below_drewN (Below.refl _ _) n)
theorem KK.lt (h : KK w0 bs w) : ∀ p ∈ bs, p.1 < w.heap.size := fun p hp => lt_of_block (h.1 p hp)
theorem KK.row (h : KK w0 bs w) {b : Nat} {X : Array Value} (hlt : ∀ p ∈ bs, p.1 < b) (hb : w0.heap.size ≤ b) : KK w0 bs (w.setRow b X) :=
  ⟨fun p hp => (setRow_other _ _ _ _ (Nat.ne_of_lt (hlt p hp))).trans (h.1 p hp), below_setRow h.2 hb _⟩
theorem KK.at (h : KK w0 bs w) {b : Nat} {o : Obj} (hm : (b, o) ∈ bs) : w.heap[b]? = some o := h.1 _ hm
theorem KK.tail {p : Nat × Obj} (h : KK w0 (p :: bs) w) : KK w0 bs w := ⟨fun q hq => h.1 q (List.Mem.tail _ hq), h.2⟩
theorem KK.cons (h : KK w0 bs w) {b : Nat} {o : Obj} (hb : w.heap[b]? = some o) : KK w0 ((b, o) :: bs) w := ⟨fun q hq => by
  cases hq with
  | head => exact hb
  | tail _ hq => exact h.1 q hq, h.2⟩
end
theorem hmkA (n : Nat) (hn : n ≤ 1000) (W : World) : (Instr.makeSlice 26 (.int .i64 (n : Int)) (.int .i64 (n : Int))).run Try.prog W = .ok (.slice (some ⟨W.heap.size, 0, none⟩) n n) (W.alloc (.cells (madeCells #[.int .u8 0, .int .i64 0, .bool false] (n * 3)) 36)) := by
  obtain ⟨i0, hi, hiz, his, hib⟩ := info_parts infoAdv
  have h := run_make W 26 36 i0 _ Try.underlying26 hi hiz .i64 .i64 (n : Int) (n : Int) (by omega) (by omega) (by rw [hib]; omega) (by omega)
  rw [Int.toNat_natCast, his] at h
  exact h
theorem made1 : madeCells #[.int .u8 0, .int .i64 0, .bool false] (1 * 3) = #[Value.int .u8 0, .int .i64 0, .bool false] := by kernel_rfl
theorem hmk1 (W : World) : (Instr.makeSlice 26 (.int .i64 1) (.int .i64 1)).run Try.prog W = .ok (.slice (some ⟨W.heap.size, 0, none⟩) 1 1) (W.alloc (.cells #[.int .u8 0, .int .i64 0, .bool false] 36)) := by
  have h := hmkA 1 (by decide) W
  rw [made1] at h
  exact h
theorem hmk257 (W : World) : (Instr.makeSlice 26 (.int .i64 257) (.int .i64 257)).run Try.prog W = .ok (.slice (some ⟨W.heap.size, 0, none⟩) 257 257) (W.alloc (.cells (madeCells #[.int .u8 0, .int .i64 0, .bool false] 771) 36)) := hmkA 257 (by decide) W
def odd : Adv := ⟨9, 0, false⟩
theorem x23 : cmdE 1 1 3 ⟨[], odd, adv0, 0⟩ (aUp 101) = 2 := by decide +kernel
theorem x24 : cmdE 1 1 3 ⟨[aUp 101], odd, adv0, 0⟩ odd = 1 := by decide +kernel
theorem x25 : cmdE 1 1 3 ⟨[adv0], odd, aUp 101, 0⟩ (aUp 101) = 6 := by decide +kernel
theorem x26 : cmdE 1 1 3 ⟨[adv0], adv0, odd, 0⟩ (aUp 101) = 6 := by decide +kernel
theorem x27 : cmdE 1 1 3 ⟨[adv0], adv0, adv0, -1⟩ odd = 6 := by decide +kernel
theorem x28 : cmdE 1 1 3 ⟨[adv0], adv0, adv0, -1⟩ (aUp 1) = 7 := by decide +kernel
theorem x29 : cmdE 1 1 3 ⟨[adv0], adv0, adv0, 1073741825⟩ (aUp 1) = 7 := by decide +kernel
theorem x30 : cmdE 1 1 3 ⟨[aUp 1], adv0, adv0, 1073741824⟩ (aUp 2) = 0 := by decide +kernel
theorem x30s : cmdS 1 1 3 ⟨[aUp 1], adv0, adv0, 1073741824⟩ (aUp 2) = ⟨[aUp 2], ⟨1, 1, false⟩, ⟨1, 1, false⟩, 1073741824⟩ := by unfold cmdS; rw [if_pos x30]; rfl
theorem x31 : pfE 1 1 3 ⟨[adv0], adv0, adv0, 0⟩ 0 101 = 1 := by decide +kernel
theorem x32 : rnE 1 1 3 0 0 (List.replicate 257 adv0) = 1 := by decide +kernel
theorem x33 : rnE 1 1 3 0 0 [adv0, odd] = 6 := by decide +kernel
theorem cmdPost_one {d pl ms : Int} {x : St} {a a1 : Adv} {ds dr fs fr cc : Int} {dk fk : Bool} {w : World} {e : Ending} {w' : World} (h : CmdPost d pl ms x a w e w') (hE : cmdE d pl ms x a = 0) (hS : cmdS d pl ms x a = ⟨[a1], ⟨ds, dr, dk⟩, ⟨fs, fr, fk⟩, cc⟩) : ∃ aq c, e = .returned (.tuple #[.agg #[.slice aq 1 c, .int .u8 ds, .int .i64 dr, .bool dk, .int .u8 fs, .int .i64 fr, .bool fk, .int .i64 cc], .int .i64 0]) ∧ Below w.heap.size w w' := by
  unfold CmdPost at h
  rw [hS, hE] at h
  obtain ⟨aq, c, rfl, _, hB⟩ := h
  exact ⟨aq, c, rfl, hB⟩
instance (l : List Adv) : Decidable (Pos l) := by unfold Pos; infer_instance
theorem advs257 (W : World) : Advs (W.alloc (.cells (madeCells #[.int .u8 0, .int .i64 0, .bool false] 771) 36)).drew (some ⟨W.heap.size, 0, none⟩) 257 (List.replicate 257 adv0) :=
  (advs_block (block_new W (.cells (madeCells #[.int .u8 0, .int .i64 0, .bool false] (257 * 3)) 36) rfl) (made3 257) List.length_replicate (by decide)).below (Below.refl _ _).drew
theorem advs_none (w : World) : Advs w none 0 [] := advs_nil w none
theorem cmdPost_badI {d pl ms E : Int} {x : St} {a : Adv} {w : World} {e : Ending} {w' : World} (h : CmdPost d pl ms x a w e w') (hE : cmdE d pl ms x a = E) (h0 : E ≠ 0) :
    ∃ aq c, e = .returned (.tuple #[.agg #[.slice aq 0 c, .int .u8 0, .int .i64 0, .bool false, .int .u8 0, .int .i64 0, .bool false, .int .i64 0], .int .i64 E]) ∧ Below w.heap.size w w' := by
  have e' : cmdS d pl ms x a = stZ := if_neg (by rw [hE]; exact h0)
  unfold CmdPost at h
  rw [e', hE] at h
  obtain ⟨aq, c, rfl, hq, hB⟩ := h
  exact ⟨aq, c, rfl, hB⟩
/-- What Fly leaves where the pilot, the state or the aircraft is wrong. -/
theorem pfPost_bad {d pl ms : Int} {x : St} {z v : Int} {E : Int} {w : World} {e : Ending} {w' : World} (h : PfPost d pl ms x z v w e w') (hE : pfE d pl ms x z v = E) : ∃ zz vv, e = .returned (.tuple #[.agg #[.int .i64 zz, .int .i64 vv], .int .i64 E]) ∧ Below w.heap.size w w' := by
  subst hE
  obtain ⟨rfl, hb⟩ := h
  exact ⟨_, _, rfl, hb⟩
theorem pfE_pl {d pl ms : Int} (h : plE d pl ms = 1) (x : St) (z v : Int) : pfE d pl ms x z v = 1 := by
  unfold pfE
  rw [if_pos (by rw [cmdE_p1 h]; decide), cmdE_p1 h]
theorem runPost_E {d pl ms z v E : Int} {l : List Adv} {w : World} {e : Ending} {w' : World} (h : RunPost d pl ms z v l w e w') (hE : rnE d pl ms z v l = E) : ∃ s, e = .returned (.tuple #[s, .int .i64 E]) ∧ Below w.heap.size w w' := by
  subst hE
  exact runPost_bad h

/-- A region of a body. -/
def regOf (n : Nat) : Code → Option Code
  | .region i ops d => if i = n then some (.region i ops d) else none
  | .seq a b => match regOf n a with
    | some c => some c
    | none => regOf n b
  | .loop c => regOf n c
  | .block _ c => regOf n c
  | .scope c => regOf n c
  | .cond _ a b => match regOf n a with
    | some c => some c
    | none => regOf n b
  | _ => none
/-- The loop of a body that holds a region. -/
def loopOf (n : Nat) : Code → Option Code
  | .seq a b => match loopOf n a with
    | some c => some c
    | none => loopOf n b
  | .loop c => match regOf n c with
    | some _ => some (.loop c)
    | none => none
  | .block _ c => loopOf n c
  | .scope c => loopOf n c
  | .cond _ a b => match loopOf n a with
    | some c => some c
    | none => loopOf n b
  | _ => none
end Go.Proofs.Ytjidpkcoaoflbaa
