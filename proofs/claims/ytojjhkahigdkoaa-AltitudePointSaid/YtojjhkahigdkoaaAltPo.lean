/-
  Layer 18 (altitude): the law's point.
-/
import Derived.Test.YtojjhkahigdkoaaAltZ
import Derived.Test.YtojjhkahigdkoaaAltLaw
import Derived.Test.YtojjhkahigdkoaaHeldEr
namespace Go.Proofs.Ytojjhkahigdkoaa
open Go.RowKit AltMath MyHeap MyCopy MyOwn

/-- The plane's block, the result's, the band's, its rows. -/
structure EtK (w0 : World) (z v : Int) (vL vH v1 v2 : Value) (lo hi : List Int) (W : World) : Prop where
  B : Below w0.heap.size w0 W
  P : W.heap[w0.heap.size]? = some (.cells #[.int .i64 z, .int .i64 v] 40 (0, 0))
  RR : W.heap[w0.heap.size + 1]? = some (.cells #[.slice none 0 0, .slice none 0 0] 24 (0, 0))
  O : W.heap[w0.heap.size + 2]? = some (.cells #[vL, vH] 24 (0, 0))
  T : TwoOwn (w0.heap.size + 3) v1 v2 lo hi W
theorem EtK.le {w0 W : World} {z v : Int} {vL vH v1 v2 : Value} {lo hi : List Int} (h : EtK w0 z v vL vH v1 v2 lo hi W) : w0.heap.size + 3 ≤ W.heap.size := lt_of_block h.O
theorem EtK.keep {w0 W W' : World} {z v : Int} {vL vH v1 v2 : Value} {lo hi : List Int} (h : EtK w0 z v vL vH v1 v2 lo hi W) (hb : Below W.heap.size W W') : EtK w0 z v vL vH v1 v2 lo hi W' :=
  ⟨h.B.trans (hb.mono h.B.size), keepO hb h.P, keepO hb h.RR, keepO hb h.O, h.T.below hb⟩
theorem EtK.alloc {w0 W : World} {z v : Int} {vL vH v1 v2 : Value} {lo hi : List Int} (h : EtK w0 z v vL vH v1 v2 lo hi W) (o : Obj) : EtK w0 z v vL vH v1 v2 lo hi (W.alloc o) := h.keep (below_alloc _ _)
theorem EtK.grown {w0 W W' : World} {z v : Int} {vL vH v1 v2 u1 u2 : Value} {lo hi lo' hi' : List Int} {row : Option Nat} (h : EtK w0 z v vL vH v1 v2 lo hi W) (hg : W.grownBy W' row) (hr : ∀ g, row = some g → w0.heap.size + 3 ≤ g) (hT : TwoOwn (w0.heap.size + 3) u1 u2 lo' hi' W') : EtK w0 z v vL vH u1 u2 lo' hi' W' :=
  have hb := grown_below hg hr h.le
  ⟨h.B.trans (hb.mono (by omega)), (hb.block _ (by omega)).trans h.P, (hb.block _ (by omega)).trans h.RR, (hb.block _ (by omega)).trans h.O, hT⟩
theorem EtK.growL {w0 W W' : World} {z v : Int} {vL vH v1 v2 v1' : Value} {lo hi : List Int} {x : Int} (h : EtK w0 z v vL vH v1 v2 lo hi W) (hown : W'.ownsRow (w0.heap.size + 3) 3 1 v1' (lo.length + 1) (flatI lo ++ [.int .i64 x])) (hg : W.grownBy W' v1.ownBlock) (hat : v1'.ownBlock = v1.ownBlock ∨ v1'.ownBlock = some W.heap.size) : EtK w0 z v vL vH v1' v2 (lo ++ [x]) hi W' :=
  h.grown hg (fun g e => (h.T.L.lt g e).1) (h.T.growL hown hg hat)
theorem EtK.growH {w0 W W' : World} {z v : Int} {vL vH v1 v2 v2' : Value} {lo hi : List Int} {x : Int} (h : EtK w0 z v vL vH v1 v2 lo hi W) (hown : W'.ownsRow (w0.heap.size + 3) 3 1 v2' (hi.length + 1) (flatI hi ++ [.int .i64 x])) (hg : W.grownBy W' v2.ownBlock) (hat : v2'.ownBlock = v2.ownBlock ∨ v2'.ownBlock = some W.heap.size) : EtK w0 z v vL vH v1 v2' lo (hi ++ [x]) W' :=
  h.grown hg (fun g e => (h.T.H.lt g e).1) (h.T.growH hown hg hat)
/-- What the region holds till the stores. -/
def EtS (p O : Nat) (z : Int) (vL vH : Value) (W : World) : Prop := (W.cell? ⟨O, 0, none⟩ = some vL ∧ W.cell? ⟨O, 1, none⟩ = some vH) ∧ W.cell? ⟨p, 0, none⟩ = some (.int .i64 z)
theorem EtK.S {w0 W : World} {z v : Int} {vL vH v1 v2 : Value} {lo hi : List Int} (h : EtK w0 z v vL vH v1 v2 lo hi W) : EtS w0.heap.size (w0.heap.size + 2) z vL vH W := ⟨two_cell h.O, (two_cell h.P).1⟩
theorem EtK.stored {w0 W W' : World} {z v : Int} {vL vH v1 v2 : Value} {lo hi : List Int} (h : EtK w0 z v vL vH v1 v2 lo hi W) (hW : W' = (W.setCell ⟨w0.heap.size + 2, 0, none⟩ v1).setCell ⟨w0.heap.size + 2, 1, none⟩ v2) : EtK w0 z v v1 v2 v1 v2 lo hi W' := by
  have hO : Only (w0.heap.size + 2) W W' := by rw [hW]; exact ((Only.refl _ W).setCell 0 _).setCell 1 _
  refine ⟨h.B.trans (hO.below (by omega) h.B.size), hO.keeps h.P (by omega), hO.keeps h.RR (by omega), ?_, ⟨own_keep h.T.L hO (Or.inr fun e => by have := (h.T.L.lt _ e).1; omega), own_keep h.T.H hO (Or.inr fun e => by have := (h.T.H.lt _ e).1; omega), h.T.A⟩⟩
  rw [hW]
  have := block_setCell (i := 1) (v := v2) (block_setCell (i := 0) (v := v1) h.O)
  simpa using this
def PoK (w0 : World) (z v : Int) (k : Nat) (W : World) : Prop := ∃ vL vH, EtK w0 z v vL vH vL vH (loK (onF z v) k) (hiK (onF z v) k) W
theorem PoK.next {w0 W : World} {z v : Int} {k : Nat} {vL vH : Value} {x y : Int} (h : EtK w0 z v vL vH vL vH (loK (onF z v) k ++ [x]) (hiK (onF z v) k ++ [y]) W) (hx : onF z v k = (x, y)) : PoK w0 z v (k + 1) W := by
  refine ⟨vL, vH, ?_⟩
  rw [loK_succ, hiK_succ, nm_onF, hx]
  exact h

set_option maxRecDepth 100000 in
set_option maxHeartbeats 16000000 in
theorem point_call (z v : Int) (w : World) : Calls Try.prog 32 #[.agg #[.int .i64 z, .int .i64 v]] w (PtPost w.heap.size (onL z v) (onH z v) w) := by
  obtain ⟨i0, hi0, hz0, hs0, hb0⟩ := info_parts' infoI
  have HI := Lib.hid (And.intro hi0 (And.intro hz0 (And.intro hs0 hb0)))
  have K := Lib.hid (show PoK w z v 0 (((w.alloc (.cells #[.int .i64 z, .int .i64 v] 40)).alloc (.cells #[.slice none 0 0, .slice none 0 0] 24)).alloc (.cells #[.slice none 0 0, .slice none 0 0] 24)) from
    ⟨_, _, ((below_alloc w _).alloc (by simp) _).alloc (by simp; omega) _, block_alloc (block_alloc (block_new _ _ rfl)), block_alloc (block_new _ _ (by simp)), block_new _ _ (by simp), TwoOwn.nil _ _⟩)
  clear hi0 hz0 hs0 hb0
  go_enter Try.func32, Try.ntmps32
  go_wp2_with fail
  go_loopw [4] (fun kv wr => ∃ k : Nat, k ≤ 201 ∧ kv = .int .i64 ((k : Int) - 100) ∧ PoK w z v k wr) (fun kv _ => 201 - (intOf kv + 100).toNat)
  case atStart => exact ⟨0, Nat.zero_le _, rfl, K.out⟩
  case round =>
    clear K
    obtain ⟨k, hk, rfl, vL, vH, hK⟩ := hrel
    obtain ⟨aL, cL, rfl⟩ := own_slice hK.T.L
    obtain ⟨aH, cH, rfl⟩ := own_slice hK.T.H
    have hl1 := loK_len (onF z v) k
    have hl2 := hiK_len (onF z v) k
    rw [hl1, hl2] at hK
    have F := Lib.hid hK
    have HLL := Lib.hid (And.intro hl1 hl2)
    clear hK
    by_cases hlt : k < 201
    · have hk1 : (k : Int) - 100 ≤ 100 := by omega
      obtain ⟨p0, p1⟩ := two_cell F.out.P
      by_cases hv : (k : Int) - 100 = v
      · have hd : (((k : Int) - 100) == v) = true := beq_iff_eq.2 hv
        have HV := Lib.hid (onF_yes (z := z) hv)
        clear hv hl1 hl2
        go_wp2_with fail
        have LT := Lib.hid (fun g (e : (Value.slice aL k cL).ownBlock = some g) => (F.out.T.L.lt g e).2)
        replace F := Lib.hid (F.out.keep (Below.refl wr.heap.size wr).drew)
        refine MyHeldE.start (EtS w.heap.size (w.heap.size + 2) z (.slice aL k cL) (.slice aH k cH)) [13, 14, 15] (by kernel_rfl) ?_
        have hHeld := F.out.S
        clear p0 p1
        refine MyHeldE.take 0 (v := ?_) .z (by kernel_rfl) (by kernel_rfl) (by kernel_rfl) (by kernel_rfl) (by kernel_rfl) (fun _ _ _ h => h) (by rfl) (by assumption) ?_ ?_
        rotate_left
        · intro w hSw; obtain ⟨⟨s0, s1⟩, s2⟩ := hSw; go_simp; (try with_reducible rfl)
        try simp only [Act.put, List.setIfInBounds_toArray, List.set_cons_zero, List.set_cons_succ]
        refine MyHeldE.take 1 (v := ?_) (.s .z) (by kernel_rfl) (by kernel_rfl) (by kernel_rfl) (by kernel_rfl) (by kernel_rfl) (fun _ _ _ h => h) (by rfl) (by assumption) ?_ ?_
        rotate_left
        · intro w hSw; obtain ⟨⟨s0, s1⟩, s2⟩ := hSw; go_simp; (try with_reducible rfl)
        try simp only [Act.put, List.setIfInBounds_toArray, List.set_cons_zero, List.set_cons_succ]
        refine MyHeldE.take 2 (v := ?_) (.s (.s .z)) (by kernel_rfl) (by kernel_rfl) (by kernel_rfl) (by kernel_rfl) (by kernel_rfl) (fun _ _ _ h => h) (by rfl) (by assumption) ?_ ?_
        rotate_left
        · intro w hSw; obtain ⟨⟨s0, s1⟩, s2⟩ := hSw; go_simp; (try with_reducible rfl)
        try simp only [Act.put, List.setIfInBounds_toArray, List.set_cons_zero, List.set_cons_succ]
        refine MyHeldE.take 3 (v := ?_) (.s (.s (.s .z))) (by kernel_rfl) (by kernel_rfl) (by kernel_rfl) (by kernel_rfl) (by kernel_rfl) (fun _ _ _ h => h) (by rfl) (by assumption) ?_ ?_
        rotate_left
        · intro w hSw; obtain ⟨⟨s0, s1⟩, s2⟩ := hSw; go_simp; (try with_reducible rfl)
        try simp only [Act.put, List.setIfInBounds_toArray, List.set_cons_zero, List.set_cons_succ]
        refine MyHeldE.take 6 (v := ?_) (.s (.s (.s (.s (.s (.s .z)))))) (by kernel_rfl) (by kernel_rfl) (by kernel_rfl) (by kernel_rfl) (by kernel_rfl) (fun _ _ _ h => h) (by rfl) (by assumption) ?_ ?_
        rotate_left
        · intro w hSw; obtain ⟨⟨s0, s1⟩, s2⟩ := hSw; go_simp; (try with_reducible rfl)
        try simp only [Act.put, List.setIfInBounds_toArray, List.set_cons_zero, List.set_cons_succ]
        refine MyHeldE.take 7 (v := ?_) (.s (.s (.s (.s (.s (.s (.s .z))))))) (by kernel_rfl) (by kernel_rfl) (by kernel_rfl) (by kernel_rfl) (by kernel_rfl) (fun _ _ _ h => h) (by rfl) (by assumption) ?_ ?_
        rotate_left
        · intro w hSw; obtain ⟨⟨s0, s1⟩, s2⟩ := hSw; go_simp; (try with_reducible rfl)
        try simp only [Act.put, List.setIfInBounds_toArray, List.set_cons_zero, List.set_cons_succ]
        refine MyHeldE.take 8 (v := ?_) (.s (.s (.s (.s (.s (.s (.s (.s .z)))))))) (by kernel_rfl) (by kernel_rfl) (by kernel_rfl) (by kernel_rfl) (by kernel_rfl) (fun _ _ _ h => h) (by rfl) (by assumption) ?_ ?_
        rotate_left
        · intro w hSw; obtain ⟨⟨s0, s1⟩, s2⟩ := hSw; go_simp; (try with_reducible rfl)
        try simp only [Act.put, List.setIfInBounds_toArray, List.set_cons_zero, List.set_cons_succ]
        refine MyHeldE.take 9 (v := ?_) (.s (.s (.s (.s (.s (.s (.s (.s (.s .z))))))))) (by kernel_rfl) (by kernel_rfl) (by kernel_rfl) (by kernel_rfl) (by kernel_rfl) (fun _ _ _ h => h) (by rfl) (by assumption) ?_ ?_
        rotate_left
        · intro w hSw; obtain ⟨⟨s0, s1⟩, s2⟩ := hSw; go_simp; (try with_reducible rfl)
        try simp only [Act.put, List.setIfInBounds_toArray, List.set_cons_zero, List.set_cons_succ]
        refine MyHeldE.ready (rs := [4, 10]) (by kernel_rfl) (by simp) ?_
        refine (MyHeldE.next 4 (.s (.s (.s (.s .z)))) (fun Kq hKq => ?_) (MyHeldE.next 10 (.s (.s (.s (.s (.s (.s (.s (.s (.s (.s .z)))))))))) (fun Kq hKq => ?_) MyHeldE.All.nil))
        · go_simp
          replace F := Lib.hid (F.out.alloc (.cells #[.int .i64 z] 3))
          have hHeld2 := F.out.S
          refine hKq.out _ _ (fun _ => hHeld2) ?_
          clear hKq Kq hHeld
          have hHeld := hHeld2
          clear hHeld2
          try simp only [Act.put, List.setIfInBounds_toArray, List.set_cons_zero, List.set_cons_succ]
          refine MyHeldE.ready (rs := [5, 10]) (by kernel_rfl) (by simp) ?_
          refine (MyHeldE.next 5 (.s (.s (.s (.s (.s .z))))) (fun Kq hKq => ?_) (MyHeldE.next 10 (.s (.s (.s (.s (.s (.s (.s (.s (.s (.s .z)))))))))) (fun Kq hKq => ?_) MyHeldE.All.nil))
          · refine step_append_at (by rfl) (.tmp 14) (.tmp 17) 22 (by rfl) (w.heap.size + 3) 3 i0 _ 1 8 Try.underlying22 HI.out.1 HI.out.2.1 HI.out.2.2.1 HI.out.2.2.2 (by rfl) (by decide) _ (loK (onF z v) k).length _ (by rfl) F.out.T.L ⟨wr.drew.heap.size, 0, none⟩ 1 1 [.int .i64 z] (by rfl) (by rfl) (cells_one rfl) (by intro u hu; simp at hu; subst hu; rfl) (by have := HLL.out; unfold maxLen; omega) (by have := HLL.out; omega) F.out.le ?_
            intro vq1 wq1 hown hg hat
            obtain ⟨aq1, cq1, rfl⟩ := own_slice hown
            have G := Lib.hid (And.intro hg LT.out)
            have F8 := F.out.growL hown hg hat
            replace F := Lib.hid F8
            clear F8 hown hg hat
            have hHeld2 := F.out.S
            refine hKq.out _ _ (fun _ => hHeld2) ?_
            clear hKq Kq hHeld
            have hHeld := hHeld2
            clear hHeld2
            try simp only [Act.put, List.setIfInBounds_toArray, List.set_cons_zero, List.set_cons_succ]
            refine MyHeldE.take 12 (v := ?_) (.s (.s (.s (.s (.s (.s (.s (.s (.s (.s (.s (.s .z)))))))))))) (by kernel_rfl) (by kernel_rfl) (by kernel_rfl) (by kernel_rfl) (by kernel_rfl) (fun _ _ _ h => h) (by rfl) (by assumption) ?_ ?_
            rotate_left
            · intro w hSw; obtain ⟨⟨s0, s1⟩, s2⟩ := hSw; go_simp; (try with_reducible rfl)
            try simp only [Act.put, List.setIfInBounds_toArray, List.set_cons_zero, List.set_cons_succ]
            refine MyHeldE.ready (rs := [10]) (by kernel_rfl) (by simp) ?_
            refine (MyHeldE.next 10 (.s (.s (.s (.s (.s (.s (.s (.s (.s (.s .z)))))))))) (fun Kq hKq => ?_) MyHeldE.All.nil)
            go_simp
            replace F := Lib.hid (F.out.alloc (.cells #[.int .i64 z] 3))
            have hHeld2 := F.out.S
            refine hKq.out _ _ (fun _ => hHeld2) ?_
            clear hKq Kq hHeld
            have hHeld := hHeld2
            clear hHeld2
            try simp only [Act.put, List.setIfInBounds_toArray, List.set_cons_zero, List.set_cons_succ]
            refine MyHeldE.ready (rs := [11]) (by kernel_rfl) (by simp) ?_
            refine (MyHeldE.next 11 (.s (.s (.s (.s (.s (.s (.s (.s (.s (.s (.s .z))))))))))) (fun Kq hKq => ?_) MyHeldE.All.nil)
            refine step_append_at (by rfl) (.tmp 20) (.tmp 23) 22 (by rfl) (w.heap.size + 3) 3 i0 _ 1 8 Try.underlying22 HI.out.1 HI.out.2.1 HI.out.2.2.1 HI.out.2.2.2 (by rfl) (by decide) _ (hiK (onF z v) k).length _ (by rfl) F.out.T.H ⟨wq1.heap.size, 0, none⟩ 1 1 [.int .i64 z] (by rfl) (by rfl) (cells_one rfl) (by intro u hu; simp at hu; subst hu; rfl) (by have := HLL.out; unfold maxLen; omega) (by have := HLL.out; omega) F.out.le ?_
            intro vq2 wq2 hown hg hat
            obtain ⟨aq2, cq2, rfl⟩ := own_slice hown
            skip
            have F8 := F.out.growH hown hg hat
            replace F := Lib.hid F8
            clear F8 hown hg hat
            have hHeld2 := F.out.S
            refine hKq.out _ _ (fun _ => hHeld2) ?_
            clear hKq Kq hHeld
            have hHeld := hHeld2
            clear hHeld2
            try simp only [Act.put, List.setIfInBounds_toArray, List.set_cons_zero, List.set_cons_succ]
            refine MyHeldE.ready (rs := [13]) (by kernel_rfl) (by simp) ?_
            refine (MyHeldE.next 13 (.s (.s (.s (.s (.s (.s (.s (.s (.s (.s (.s (.s (.s .z))))))))))))) (fun Kq hKq => ?_) MyHeldE.All.nil)
            obtain ⟨c0, c1, f0, f1⟩ := two_facts F.out.O
            go_simp
            refine hKq.out _ _ (fun e => by cases e) ?_
            clear hKq Kq
            try simp only [Act.put, List.setIfInBounds_toArray, List.set_cons_zero, List.set_cons_succ]
            refine MyHeldE.ready (rs := [14]) (by kernel_rfl) (by simp) ?_
            refine (MyHeldE.next 14 (.s (.s (.s (.s (.s (.s (.s (.s (.s (.s (.s (.s (.s (.s .z)))))))))))))) (fun Kq hKq => ?_) MyHeldE.All.nil)
            go_simp
            refine hKq.out _ _ (fun e => by cases e) ?_
            clear hKq Kq
            try simp only [Act.put, List.setIfInBounds_toArray, List.set_cons_zero, List.set_cons_succ]
            refine MyHeldE.ready (rs := [15]) (by kernel_rfl) (by simp) ?_
            refine (MyHeldE.next 15 (.s (.s (.s (.s (.s (.s (.s (.s (.s (.s (.s (.s (.s (.s (.s .z))))))))))))))) (fun Kq hKq => ?_) MyHeldE.All.nil)
            go_simp
            refine hKq.out _ _ (fun e => by cases e) ?_
            clear hKq Kq
            try simp only [Act.put, List.setIfInBounds_toArray, List.set_cons_zero, List.set_cons_succ]
            refine MyHeldE.done (by kernel_rfl) ?_ _
            have F9 := Lib.hid (F.out.stored rfl)
            clear c0 c1 f0 f1 hHeld
            go_wp2_with fail
            go_roundw
            case rel => exact ⟨k + 1, by omega, by go_num, PoK.next (by simpa [HLL.out.1, HLL.out.2] using F9.out) HV.out⟩
            case measure => simp [intOf]; omega
          · go_simp
            replace F := Lib.hid (F.out.alloc (.cells #[.int .i64 z] 3))
            have hHeld2 := F.out.S
            refine hKq.out _ _ (fun _ => hHeld2) ?_
            clear hKq Kq hHeld
            have hHeld := hHeld2
            clear hHeld2
            try simp only [Act.put, List.setIfInBounds_toArray, List.set_cons_zero, List.set_cons_succ]
            refine MyHeldE.ready (rs := [5]) (by kernel_rfl) (by simp) ?_
            refine (MyHeldE.next 5 (.s (.s (.s (.s (.s .z))))) (fun Kq hKq => ?_) MyHeldE.All.nil)
            refine step_append_at (by rfl) (.tmp 14) (.tmp 17) 22 (by rfl) (w.heap.size + 3) 3 i0 _ 1 8 Try.underlying22 HI.out.1 HI.out.2.1 HI.out.2.2.1 HI.out.2.2.2 (by rfl) (by decide) _ (loK (onF z v) k).length _ (by rfl) F.out.T.L ⟨wr.drew.heap.size, 0, none⟩ 1 1 [.int .i64 z] (by rfl) (by rfl) (cells_old rfl) (by intro u hu; simp at hu; subst hu; rfl) (by have := HLL.out; unfold maxLen; omega) (by have := HLL.out; omega) F.out.le ?_
            intro vq1 wq1 hown hg hat
            obtain ⟨aq1, cq1, rfl⟩ := own_slice hown
            have G := Lib.hid (And.intro hg LT.out)
            have F8 := F.out.growL hown hg hat
            replace F := Lib.hid F8
            clear F8 hown hg hat
            have hHeld2 := F.out.S
            refine hKq.out _ _ (fun _ => hHeld2) ?_
            clear hKq Kq hHeld
            have hHeld := hHeld2
            clear hHeld2
            try simp only [Act.put, List.setIfInBounds_toArray, List.set_cons_zero, List.set_cons_succ]
            refine MyHeldE.take 12 (v := ?_) (.s (.s (.s (.s (.s (.s (.s (.s (.s (.s (.s (.s .z)))))))))))) (by kernel_rfl) (by kernel_rfl) (by kernel_rfl) (by kernel_rfl) (by kernel_rfl) (fun _ _ _ h => h) (by rfl) (by assumption) ?_ ?_
            rotate_left
            · intro w hSw; obtain ⟨⟨s0, s1⟩, s2⟩ := hSw; go_simp; (try with_reducible rfl)
            try simp only [Act.put, List.setIfInBounds_toArray, List.set_cons_zero, List.set_cons_succ]
            refine MyHeldE.ready (rs := [11]) (by kernel_rfl) (by simp) ?_
            refine (MyHeldE.next 11 (.s (.s (.s (.s (.s (.s (.s (.s (.s (.s (.s .z))))))))))) (fun Kq hKq => ?_) MyHeldE.All.nil)
            refine step_append_at (by rfl) (.tmp 20) (.tmp 23) 22 (by rfl) (w.heap.size + 3) 3 i0 _ 1 8 Try.underlying22 HI.out.1 HI.out.2.1 HI.out.2.2.1 HI.out.2.2.2 (by rfl) (by decide) _ (hiK (onF z v) k).length _ (by rfl) F.out.T.H ⟨(wr.drew.heap.size + 1), 0, none⟩ 1 1 [.int .i64 z] (by rfl) (by rfl) (news_after G.out.1 (cells_one (by simp) 0 _ rfl) (fun e => by have := G.out.2 _ e; have h9 : wr.drew.heap.size = wr.heap.size := rfl; omega)) (by intro u hu; simp at hu; subst hu; rfl) (by have := HLL.out; unfold maxLen; omega) (by have := HLL.out; omega) F.out.le ?_
            intro vq2 wq2 hown hg hat
            obtain ⟨aq2, cq2, rfl⟩ := own_slice hown
            skip
            have F8 := F.out.growH hown hg hat
            replace F := Lib.hid F8
            clear F8 hown hg hat
            have hHeld2 := F.out.S
            refine hKq.out _ _ (fun _ => hHeld2) ?_
            clear hKq Kq hHeld
            have hHeld := hHeld2
            clear hHeld2
            try simp only [Act.put, List.setIfInBounds_toArray, List.set_cons_zero, List.set_cons_succ]
            refine MyHeldE.ready (rs := [13]) (by kernel_rfl) (by simp) ?_
            refine (MyHeldE.next 13 (.s (.s (.s (.s (.s (.s (.s (.s (.s (.s (.s (.s (.s .z))))))))))))) (fun Kq hKq => ?_) MyHeldE.All.nil)
            obtain ⟨c0, c1, f0, f1⟩ := two_facts F.out.O
            go_simp
            refine hKq.out _ _ (fun e => by cases e) ?_
            clear hKq Kq
            try simp only [Act.put, List.setIfInBounds_toArray, List.set_cons_zero, List.set_cons_succ]
            refine MyHeldE.ready (rs := [14]) (by kernel_rfl) (by simp) ?_
            refine (MyHeldE.next 14 (.s (.s (.s (.s (.s (.s (.s (.s (.s (.s (.s (.s (.s (.s .z)))))))))))))) (fun Kq hKq => ?_) MyHeldE.All.nil)
            go_simp
            refine hKq.out _ _ (fun e => by cases e) ?_
            clear hKq Kq
            try simp only [Act.put, List.setIfInBounds_toArray, List.set_cons_zero, List.set_cons_succ]
            refine MyHeldE.ready (rs := [15]) (by kernel_rfl) (by simp) ?_
            refine (MyHeldE.next 15 (.s (.s (.s (.s (.s (.s (.s (.s (.s (.s (.s (.s (.s (.s (.s .z))))))))))))))) (fun Kq hKq => ?_) MyHeldE.All.nil)
            go_simp
            refine hKq.out _ _ (fun e => by cases e) ?_
            clear hKq Kq
            try simp only [Act.put, List.setIfInBounds_toArray, List.set_cons_zero, List.set_cons_succ]
            refine MyHeldE.done (by kernel_rfl) ?_ _
            have F9 := Lib.hid (F.out.stored rfl)
            clear c0 c1 f0 f1 hHeld
            go_wp2_with fail
            go_roundw
            case rel => exact ⟨k + 1, by omega, by go_num, PoK.next (by simpa [HLL.out.1, HLL.out.2] using F9.out) HV.out⟩
            case measure => simp [intOf]; omega
        · go_simp
          replace F := Lib.hid (F.out.alloc (.cells #[.int .i64 z] 3))
          have hHeld2 := F.out.S
          refine hKq.out _ _ (fun _ => hHeld2) ?_
          clear hKq Kq hHeld
          have hHeld := hHeld2
          clear hHeld2
          try simp only [Act.put, List.setIfInBounds_toArray, List.set_cons_zero, List.set_cons_succ]
          refine MyHeldE.ready (rs := [4]) (by kernel_rfl) (by simp) ?_
          refine (MyHeldE.next 4 (.s (.s (.s (.s .z)))) (fun Kq hKq => ?_) MyHeldE.All.nil)
          go_simp
          replace F := Lib.hid (F.out.alloc (.cells #[.int .i64 z] 3))
          have hHeld2 := F.out.S
          refine hKq.out _ _ (fun _ => hHeld2) ?_
          clear hKq Kq hHeld
          have hHeld := hHeld2
          clear hHeld2
          try simp only [Act.put, List.setIfInBounds_toArray, List.set_cons_zero, List.set_cons_succ]
          refine MyHeldE.ready (rs := [5]) (by kernel_rfl) (by simp) ?_
          refine (MyHeldE.next 5 (.s (.s (.s (.s (.s .z))))) (fun Kq hKq => ?_) MyHeldE.All.nil)
          refine step_append_at (by rfl) (.tmp 14) (.tmp 17) 22 (by rfl) (w.heap.size + 3) 3 i0 _ 1 8 Try.underlying22 HI.out.1 HI.out.2.1 HI.out.2.2.1 HI.out.2.2.2 (by rfl) (by decide) _ (loK (onF z v) k).length _ (by rfl) F.out.T.L ⟨(wr.drew.heap.size + 1), 0, none⟩ 1 1 [.int .i64 z] (by rfl) (by rfl) (cells_one (by simp)) (by intro u hu; simp at hu; subst hu; rfl) (by have := HLL.out; unfold maxLen; omega) (by have := HLL.out; omega) F.out.le ?_
          intro vq1 wq1 hown hg hat
          obtain ⟨aq1, cq1, rfl⟩ := own_slice hown
          have G := Lib.hid (And.intro hg LT.out)
          have F8 := F.out.growL hown hg hat
          replace F := Lib.hid F8
          clear F8 hown hg hat
          have hHeld2 := F.out.S
          refine hKq.out _ _ (fun _ => hHeld2) ?_
          clear hKq Kq hHeld
          have hHeld := hHeld2
          clear hHeld2
          try simp only [Act.put, List.setIfInBounds_toArray, List.set_cons_zero, List.set_cons_succ]
          refine MyHeldE.take 12 (v := ?_) (.s (.s (.s (.s (.s (.s (.s (.s (.s (.s (.s (.s .z)))))))))))) (by kernel_rfl) (by kernel_rfl) (by kernel_rfl) (by kernel_rfl) (by kernel_rfl) (fun _ _ _ h => h) (by rfl) (by assumption) ?_ ?_
          rotate_left
          · intro w hSw; obtain ⟨⟨s0, s1⟩, s2⟩ := hSw; go_simp; (try with_reducible rfl)
          try simp only [Act.put, List.setIfInBounds_toArray, List.set_cons_zero, List.set_cons_succ]
          refine MyHeldE.ready (rs := [11]) (by kernel_rfl) (by simp) ?_
          refine (MyHeldE.next 11 (.s (.s (.s (.s (.s (.s (.s (.s (.s (.s (.s .z))))))))))) (fun Kq hKq => ?_) MyHeldE.All.nil)
          refine step_append_at (by rfl) (.tmp 20) (.tmp 23) 22 (by rfl) (w.heap.size + 3) 3 i0 _ 1 8 Try.underlying22 HI.out.1 HI.out.2.1 HI.out.2.2.1 HI.out.2.2.2 (by rfl) (by decide) _ (hiK (onF z v) k).length _ (by rfl) F.out.T.H ⟨wr.drew.heap.size, 0, none⟩ 1 1 [.int .i64 z] (by rfl) (by rfl) (news_after G.out.1 (cells_old rfl 0 _ rfl) (fun e => by have := G.out.2 _ e; have h9 : wr.drew.heap.size = wr.heap.size := rfl; omega)) (by intro u hu; simp at hu; subst hu; rfl) (by have := HLL.out; unfold maxLen; omega) (by have := HLL.out; omega) F.out.le ?_
          intro vq2 wq2 hown hg hat
          obtain ⟨aq2, cq2, rfl⟩ := own_slice hown
          skip
          have F8 := F.out.growH hown hg hat
          replace F := Lib.hid F8
          clear F8 hown hg hat
          have hHeld2 := F.out.S
          refine hKq.out _ _ (fun _ => hHeld2) ?_
          clear hKq Kq hHeld
          have hHeld := hHeld2
          clear hHeld2
          try simp only [Act.put, List.setIfInBounds_toArray, List.set_cons_zero, List.set_cons_succ]
          refine MyHeldE.ready (rs := [13]) (by kernel_rfl) (by simp) ?_
          refine (MyHeldE.next 13 (.s (.s (.s (.s (.s (.s (.s (.s (.s (.s (.s (.s (.s .z))))))))))))) (fun Kq hKq => ?_) MyHeldE.All.nil)
          obtain ⟨c0, c1, f0, f1⟩ := two_facts F.out.O
          go_simp
          refine hKq.out _ _ (fun e => by cases e) ?_
          clear hKq Kq
          try simp only [Act.put, List.setIfInBounds_toArray, List.set_cons_zero, List.set_cons_succ]
          refine MyHeldE.ready (rs := [14]) (by kernel_rfl) (by simp) ?_
          refine (MyHeldE.next 14 (.s (.s (.s (.s (.s (.s (.s (.s (.s (.s (.s (.s (.s (.s .z)))))))))))))) (fun Kq hKq => ?_) MyHeldE.All.nil)
          go_simp
          refine hKq.out _ _ (fun e => by cases e) ?_
          clear hKq Kq
          try simp only [Act.put, List.setIfInBounds_toArray, List.set_cons_zero, List.set_cons_succ]
          refine MyHeldE.ready (rs := [15]) (by kernel_rfl) (by simp) ?_
          refine (MyHeldE.next 15 (.s (.s (.s (.s (.s (.s (.s (.s (.s (.s (.s (.s (.s (.s (.s .z))))))))))))))) (fun Kq hKq => ?_) MyHeldE.All.nil)
          go_simp
          refine hKq.out _ _ (fun e => by cases e) ?_
          clear hKq Kq
          try simp only [Act.put, List.setIfInBounds_toArray, List.set_cons_zero, List.set_cons_succ]
          refine MyHeldE.done (by kernel_rfl) ?_ _
          have F9 := Lib.hid (F.out.stored rfl)
          clear c0 c1 f0 f1 hHeld
          go_wp2_with fail
          go_roundw
          case rel => exact ⟨k + 1, by omega, by go_num, PoK.next (by simpa [HLL.out.1, HLL.out.2] using F9.out) HV.out⟩
          case measure => simp [intOf]; omega
      · have hd : (((k : Int) - 100) == v) = false := beq_eq_false_iff_ne.2 hv
        have HV := Lib.hid (onF_no (z := z) hv)
        clear hv hl1 hl2
        go_wp2_with fail
        have LT := Lib.hid (fun g (e : (Value.slice aL k cL).ownBlock = some g) => (F.out.T.L.lt g e).2)
        replace F := Lib.hid (F.out.keep (Below.refl wr.heap.size wr).drew)
        refine MyHeldE.start (EtS w.heap.size (w.heap.size + 2) z (.slice aL k cL) (.slice aH k cH)) [9, 10, 11] (by kernel_rfl) ?_
        have hHeld := F.out.S
        clear p0 p1
        refine MyHeldE.take 0 (v := ?_) .z (by kernel_rfl) (by kernel_rfl) (by kernel_rfl) (by kernel_rfl) (by kernel_rfl) (fun _ _ _ h => h) (by rfl) (by assumption) ?_ ?_
        rotate_left
        · intro w hSw; obtain ⟨⟨s0, s1⟩, s2⟩ := hSw; go_simp; (try with_reducible rfl)
        try simp only [Act.put, List.setIfInBounds_toArray, List.set_cons_zero, List.set_cons_succ]
        refine MyHeldE.take 1 (v := ?_) (.s .z) (by kernel_rfl) (by kernel_rfl) (by kernel_rfl) (by kernel_rfl) (by kernel_rfl) (fun _ _ _ h => h) (by rfl) (by assumption) ?_ ?_
        rotate_left
        · intro w hSw; obtain ⟨⟨s0, s1⟩, s2⟩ := hSw; go_simp; (try with_reducible rfl)
        try simp only [Act.put, List.setIfInBounds_toArray, List.set_cons_zero, List.set_cons_succ]
        refine MyHeldE.take 4 (v := ?_) (.s (.s (.s (.s .z)))) (by kernel_rfl) (by kernel_rfl) (by kernel_rfl) (by kernel_rfl) (by kernel_rfl) (fun _ _ _ h => h) (by rfl) (by assumption) ?_ ?_
        rotate_left
        · intro w hSw; obtain ⟨⟨s0, s1⟩, s2⟩ := hSw; go_simp; (try with_reducible rfl)
        try simp only [Act.put, List.setIfInBounds_toArray, List.set_cons_zero, List.set_cons_succ]
        refine MyHeldE.take 5 (v := ?_) (.s (.s (.s (.s (.s .z))))) (by kernel_rfl) (by kernel_rfl) (by kernel_rfl) (by kernel_rfl) (by kernel_rfl) (fun _ _ _ h => h) (by rfl) (by assumption) ?_ ?_
        rotate_left
        · intro w hSw; obtain ⟨⟨s0, s1⟩, s2⟩ := hSw; go_simp; (try with_reducible rfl)
        try simp only [Act.put, List.setIfInBounds_toArray, List.set_cons_zero, List.set_cons_succ]
        refine MyHeldE.ready (rs := [2, 6]) (by kernel_rfl) (by simp) ?_
        refine (MyHeldE.next 2 (.s (.s .z)) (fun Kq hKq => ?_) (MyHeldE.next 6 (.s (.s (.s (.s (.s (.s .z)))))) (fun Kq hKq => ?_) MyHeldE.All.nil))
        · go_simp
          replace F := Lib.hid (F.out.alloc (.cells #[.int .i64 1] 3))
          have hHeld2 := F.out.S
          refine hKq.out _ _ (fun _ => hHeld2) ?_
          clear hKq Kq hHeld
          have hHeld := hHeld2
          clear hHeld2
          try simp only [Act.put, List.setIfInBounds_toArray, List.set_cons_zero, List.set_cons_succ]
          refine MyHeldE.ready (rs := [3, 6]) (by kernel_rfl) (by simp) ?_
          refine (MyHeldE.next 3 (.s (.s (.s .z))) (fun Kq hKq => ?_) (MyHeldE.next 6 (.s (.s (.s (.s (.s (.s .z)))))) (fun Kq hKq => ?_) MyHeldE.All.nil))
          · refine step_append_at (by rfl) (.tmp 28) (.tmp 29) 22 (by rfl) (w.heap.size + 3) 3 i0 _ 1 8 Try.underlying22 HI.out.1 HI.out.2.1 HI.out.2.2.1 HI.out.2.2.2 (by rfl) (by decide) _ (loK (onF z v) k).length _ (by rfl) F.out.T.L ⟨wr.drew.heap.size, 0, none⟩ 1 1 [.int .i64 1] (by rfl) (by rfl) (cells_one rfl) (by intro u hu; simp at hu; subst hu; rfl) (by have := HLL.out; unfold maxLen; omega) (by have := HLL.out; omega) F.out.le ?_
            intro vq1 wq1 hown hg hat
            obtain ⟨aq1, cq1, rfl⟩ := own_slice hown
            have G := Lib.hid (And.intro hg LT.out)
            have F8 := F.out.growL hown hg hat
            replace F := Lib.hid F8
            clear F8 hown hg hat
            have hHeld2 := F.out.S
            refine hKq.out _ _ (fun _ => hHeld2) ?_
            clear hKq Kq hHeld
            have hHeld := hHeld2
            clear hHeld2
            try simp only [Act.put, List.setIfInBounds_toArray, List.set_cons_zero, List.set_cons_succ]
            refine MyHeldE.take 8 (v := ?_) (.s (.s (.s (.s (.s (.s (.s (.s .z)))))))) (by kernel_rfl) (by kernel_rfl) (by kernel_rfl) (by kernel_rfl) (by kernel_rfl) (fun _ _ _ h => h) (by rfl) (by assumption) ?_ ?_
            rotate_left
            · intro w hSw; obtain ⟨⟨s0, s1⟩, s2⟩ := hSw; go_simp; (try with_reducible rfl)
            try simp only [Act.put, List.setIfInBounds_toArray, List.set_cons_zero, List.set_cons_succ]
            refine MyHeldE.ready (rs := [6]) (by kernel_rfl) (by simp) ?_
            refine (MyHeldE.next 6 (.s (.s (.s (.s (.s (.s .z)))))) (fun Kq hKq => ?_) MyHeldE.All.nil)
            go_simp
            replace F := Lib.hid (F.out.alloc (.cells #[.int .i64 0] 3))
            have hHeld2 := F.out.S
            refine hKq.out _ _ (fun _ => hHeld2) ?_
            clear hKq Kq hHeld
            have hHeld := hHeld2
            clear hHeld2
            try simp only [Act.put, List.setIfInBounds_toArray, List.set_cons_zero, List.set_cons_succ]
            refine MyHeldE.ready (rs := [7]) (by kernel_rfl) (by simp) ?_
            refine (MyHeldE.next 7 (.s (.s (.s (.s (.s (.s (.s .z))))))) (fun Kq hKq => ?_) MyHeldE.All.nil)
            refine step_append_at (by rfl) (.tmp 32) (.tmp 33) 22 (by rfl) (w.heap.size + 3) 3 i0 _ 1 8 Try.underlying22 HI.out.1 HI.out.2.1 HI.out.2.2.1 HI.out.2.2.2 (by rfl) (by decide) _ (hiK (onF z v) k).length _ (by rfl) F.out.T.H ⟨wq1.heap.size, 0, none⟩ 1 1 [.int .i64 0] (by rfl) (by rfl) (cells_one rfl) (by intro u hu; simp at hu; subst hu; rfl) (by have := HLL.out; unfold maxLen; omega) (by have := HLL.out; omega) F.out.le ?_
            intro vq2 wq2 hown hg hat
            obtain ⟨aq2, cq2, rfl⟩ := own_slice hown
            skip
            have F8 := F.out.growH hown hg hat
            replace F := Lib.hid F8
            clear F8 hown hg hat
            have hHeld2 := F.out.S
            refine hKq.out _ _ (fun _ => hHeld2) ?_
            clear hKq Kq hHeld
            have hHeld := hHeld2
            clear hHeld2
            try simp only [Act.put, List.setIfInBounds_toArray, List.set_cons_zero, List.set_cons_succ]
            refine MyHeldE.ready (rs := [9]) (by kernel_rfl) (by simp) ?_
            refine (MyHeldE.next 9 (.s (.s (.s (.s (.s (.s (.s (.s (.s .z))))))))) (fun Kq hKq => ?_) MyHeldE.All.nil)
            obtain ⟨c0, c1, f0, f1⟩ := two_facts F.out.O
            go_simp
            refine hKq.out _ _ (fun e => by cases e) ?_
            clear hKq Kq
            try simp only [Act.put, List.setIfInBounds_toArray, List.set_cons_zero, List.set_cons_succ]
            refine MyHeldE.ready (rs := [10]) (by kernel_rfl) (by simp) ?_
            refine (MyHeldE.next 10 (.s (.s (.s (.s (.s (.s (.s (.s (.s (.s .z)))))))))) (fun Kq hKq => ?_) MyHeldE.All.nil)
            go_simp
            refine hKq.out _ _ (fun e => by cases e) ?_
            clear hKq Kq
            try simp only [Act.put, List.setIfInBounds_toArray, List.set_cons_zero, List.set_cons_succ]
            refine MyHeldE.ready (rs := [11]) (by kernel_rfl) (by simp) ?_
            refine (MyHeldE.next 11 (.s (.s (.s (.s (.s (.s (.s (.s (.s (.s (.s .z))))))))))) (fun Kq hKq => ?_) MyHeldE.All.nil)
            go_simp
            refine hKq.out _ _ (fun e => by cases e) ?_
            clear hKq Kq
            try simp only [Act.put, List.setIfInBounds_toArray, List.set_cons_zero, List.set_cons_succ]
            refine MyHeldE.done (by kernel_rfl) ?_ _
            have F9 := Lib.hid (F.out.stored rfl)
            clear c0 c1 f0 f1 hHeld
            go_wp2_with fail
            go_roundw
            case rel => exact ⟨k + 1, by omega, by go_num, PoK.next (by simpa [HLL.out.1, HLL.out.2] using F9.out) HV.out⟩
            case measure => simp [intOf]; omega
          · go_simp
            replace F := Lib.hid (F.out.alloc (.cells #[.int .i64 0] 3))
            have hHeld2 := F.out.S
            refine hKq.out _ _ (fun _ => hHeld2) ?_
            clear hKq Kq hHeld
            have hHeld := hHeld2
            clear hHeld2
            try simp only [Act.put, List.setIfInBounds_toArray, List.set_cons_zero, List.set_cons_succ]
            refine MyHeldE.ready (rs := [3]) (by kernel_rfl) (by simp) ?_
            refine (MyHeldE.next 3 (.s (.s (.s .z))) (fun Kq hKq => ?_) MyHeldE.All.nil)
            refine step_append_at (by rfl) (.tmp 28) (.tmp 29) 22 (by rfl) (w.heap.size + 3) 3 i0 _ 1 8 Try.underlying22 HI.out.1 HI.out.2.1 HI.out.2.2.1 HI.out.2.2.2 (by rfl) (by decide) _ (loK (onF z v) k).length _ (by rfl) F.out.T.L ⟨wr.drew.heap.size, 0, none⟩ 1 1 [.int .i64 1] (by rfl) (by rfl) (cells_old rfl) (by intro u hu; simp at hu; subst hu; rfl) (by have := HLL.out; unfold maxLen; omega) (by have := HLL.out; omega) F.out.le ?_
            intro vq1 wq1 hown hg hat
            obtain ⟨aq1, cq1, rfl⟩ := own_slice hown
            have G := Lib.hid (And.intro hg LT.out)
            have F8 := F.out.growL hown hg hat
            replace F := Lib.hid F8
            clear F8 hown hg hat
            have hHeld2 := F.out.S
            refine hKq.out _ _ (fun _ => hHeld2) ?_
            clear hKq Kq hHeld
            have hHeld := hHeld2
            clear hHeld2
            try simp only [Act.put, List.setIfInBounds_toArray, List.set_cons_zero, List.set_cons_succ]
            refine MyHeldE.take 8 (v := ?_) (.s (.s (.s (.s (.s (.s (.s (.s .z)))))))) (by kernel_rfl) (by kernel_rfl) (by kernel_rfl) (by kernel_rfl) (by kernel_rfl) (fun _ _ _ h => h) (by rfl) (by assumption) ?_ ?_
            rotate_left
            · intro w hSw; obtain ⟨⟨s0, s1⟩, s2⟩ := hSw; go_simp; (try with_reducible rfl)
            try simp only [Act.put, List.setIfInBounds_toArray, List.set_cons_zero, List.set_cons_succ]
            refine MyHeldE.ready (rs := [7]) (by kernel_rfl) (by simp) ?_
            refine (MyHeldE.next 7 (.s (.s (.s (.s (.s (.s (.s .z))))))) (fun Kq hKq => ?_) MyHeldE.All.nil)
            refine step_append_at (by rfl) (.tmp 32) (.tmp 33) 22 (by rfl) (w.heap.size + 3) 3 i0 _ 1 8 Try.underlying22 HI.out.1 HI.out.2.1 HI.out.2.2.1 HI.out.2.2.2 (by rfl) (by decide) _ (hiK (onF z v) k).length _ (by rfl) F.out.T.H ⟨(wr.drew.heap.size + 1), 0, none⟩ 1 1 [.int .i64 0] (by rfl) (by rfl) (news_after G.out.1 (cells_one (by simp) 0 _ rfl) (fun e => by have := G.out.2 _ e; have h9 : wr.drew.heap.size = wr.heap.size := rfl; omega)) (by intro u hu; simp at hu; subst hu; rfl) (by have := HLL.out; unfold maxLen; omega) (by have := HLL.out; omega) F.out.le ?_
            intro vq2 wq2 hown hg hat
            obtain ⟨aq2, cq2, rfl⟩ := own_slice hown
            skip
            have F8 := F.out.growH hown hg hat
            replace F := Lib.hid F8
            clear F8 hown hg hat
            have hHeld2 := F.out.S
            refine hKq.out _ _ (fun _ => hHeld2) ?_
            clear hKq Kq hHeld
            have hHeld := hHeld2
            clear hHeld2
            try simp only [Act.put, List.setIfInBounds_toArray, List.set_cons_zero, List.set_cons_succ]
            refine MyHeldE.ready (rs := [9]) (by kernel_rfl) (by simp) ?_
            refine (MyHeldE.next 9 (.s (.s (.s (.s (.s (.s (.s (.s (.s .z))))))))) (fun Kq hKq => ?_) MyHeldE.All.nil)
            obtain ⟨c0, c1, f0, f1⟩ := two_facts F.out.O
            go_simp
            refine hKq.out _ _ (fun e => by cases e) ?_
            clear hKq Kq
            try simp only [Act.put, List.setIfInBounds_toArray, List.set_cons_zero, List.set_cons_succ]
            refine MyHeldE.ready (rs := [10]) (by kernel_rfl) (by simp) ?_
            refine (MyHeldE.next 10 (.s (.s (.s (.s (.s (.s (.s (.s (.s (.s .z)))))))))) (fun Kq hKq => ?_) MyHeldE.All.nil)
            go_simp
            refine hKq.out _ _ (fun e => by cases e) ?_
            clear hKq Kq
            try simp only [Act.put, List.setIfInBounds_toArray, List.set_cons_zero, List.set_cons_succ]
            refine MyHeldE.ready (rs := [11]) (by kernel_rfl) (by simp) ?_
            refine (MyHeldE.next 11 (.s (.s (.s (.s (.s (.s (.s (.s (.s (.s (.s .z))))))))))) (fun Kq hKq => ?_) MyHeldE.All.nil)
            go_simp
            refine hKq.out _ _ (fun e => by cases e) ?_
            clear hKq Kq
            try simp only [Act.put, List.setIfInBounds_toArray, List.set_cons_zero, List.set_cons_succ]
            refine MyHeldE.done (by kernel_rfl) ?_ _
            have F9 := Lib.hid (F.out.stored rfl)
            clear c0 c1 f0 f1 hHeld
            go_wp2_with fail
            go_roundw
            case rel => exact ⟨k + 1, by omega, by go_num, PoK.next (by simpa [HLL.out.1, HLL.out.2] using F9.out) HV.out⟩
            case measure => simp [intOf]; omega
        · go_simp
          replace F := Lib.hid (F.out.alloc (.cells #[.int .i64 0] 3))
          have hHeld2 := F.out.S
          refine hKq.out _ _ (fun _ => hHeld2) ?_
          clear hKq Kq hHeld
          have hHeld := hHeld2
          clear hHeld2
          try simp only [Act.put, List.setIfInBounds_toArray, List.set_cons_zero, List.set_cons_succ]
          refine MyHeldE.ready (rs := [2]) (by kernel_rfl) (by simp) ?_
          refine (MyHeldE.next 2 (.s (.s .z)) (fun Kq hKq => ?_) MyHeldE.All.nil)
          go_simp
          replace F := Lib.hid (F.out.alloc (.cells #[.int .i64 1] 3))
          have hHeld2 := F.out.S
          refine hKq.out _ _ (fun _ => hHeld2) ?_
          clear hKq Kq hHeld
          have hHeld := hHeld2
          clear hHeld2
          try simp only [Act.put, List.setIfInBounds_toArray, List.set_cons_zero, List.set_cons_succ]
          refine MyHeldE.ready (rs := [3]) (by kernel_rfl) (by simp) ?_
          refine (MyHeldE.next 3 (.s (.s (.s .z))) (fun Kq hKq => ?_) MyHeldE.All.nil)
          refine step_append_at (by rfl) (.tmp 28) (.tmp 29) 22 (by rfl) (w.heap.size + 3) 3 i0 _ 1 8 Try.underlying22 HI.out.1 HI.out.2.1 HI.out.2.2.1 HI.out.2.2.2 (by rfl) (by decide) _ (loK (onF z v) k).length _ (by rfl) F.out.T.L ⟨(wr.drew.heap.size + 1), 0, none⟩ 1 1 [.int .i64 1] (by rfl) (by rfl) (cells_one (by simp)) (by intro u hu; simp at hu; subst hu; rfl) (by have := HLL.out; unfold maxLen; omega) (by have := HLL.out; omega) F.out.le ?_
          intro vq1 wq1 hown hg hat
          obtain ⟨aq1, cq1, rfl⟩ := own_slice hown
          have G := Lib.hid (And.intro hg LT.out)
          have F8 := F.out.growL hown hg hat
          replace F := Lib.hid F8
          clear F8 hown hg hat
          have hHeld2 := F.out.S
          refine hKq.out _ _ (fun _ => hHeld2) ?_
          clear hKq Kq hHeld
          have hHeld := hHeld2
          clear hHeld2
          try simp only [Act.put, List.setIfInBounds_toArray, List.set_cons_zero, List.set_cons_succ]
          refine MyHeldE.take 8 (v := ?_) (.s (.s (.s (.s (.s (.s (.s (.s .z)))))))) (by kernel_rfl) (by kernel_rfl) (by kernel_rfl) (by kernel_rfl) (by kernel_rfl) (fun _ _ _ h => h) (by rfl) (by assumption) ?_ ?_
          rotate_left
          · intro w hSw; obtain ⟨⟨s0, s1⟩, s2⟩ := hSw; go_simp; (try with_reducible rfl)
          try simp only [Act.put, List.setIfInBounds_toArray, List.set_cons_zero, List.set_cons_succ]
          refine MyHeldE.ready (rs := [7]) (by kernel_rfl) (by simp) ?_
          refine (MyHeldE.next 7 (.s (.s (.s (.s (.s (.s (.s .z))))))) (fun Kq hKq => ?_) MyHeldE.All.nil)
          refine step_append_at (by rfl) (.tmp 32) (.tmp 33) 22 (by rfl) (w.heap.size + 3) 3 i0 _ 1 8 Try.underlying22 HI.out.1 HI.out.2.1 HI.out.2.2.1 HI.out.2.2.2 (by rfl) (by decide) _ (hiK (onF z v) k).length _ (by rfl) F.out.T.H ⟨wr.drew.heap.size, 0, none⟩ 1 1 [.int .i64 0] (by rfl) (by rfl) (news_after G.out.1 (cells_old rfl 0 _ rfl) (fun e => by have := G.out.2 _ e; have h9 : wr.drew.heap.size = wr.heap.size := rfl; omega)) (by intro u hu; simp at hu; subst hu; rfl) (by have := HLL.out; unfold maxLen; omega) (by have := HLL.out; omega) F.out.le ?_
          intro vq2 wq2 hown hg hat
          obtain ⟨aq2, cq2, rfl⟩ := own_slice hown
          skip
          have F8 := F.out.growH hown hg hat
          replace F := Lib.hid F8
          clear F8 hown hg hat
          have hHeld2 := F.out.S
          refine hKq.out _ _ (fun _ => hHeld2) ?_
          clear hKq Kq hHeld
          have hHeld := hHeld2
          clear hHeld2
          try simp only [Act.put, List.setIfInBounds_toArray, List.set_cons_zero, List.set_cons_succ]
          refine MyHeldE.ready (rs := [9]) (by kernel_rfl) (by simp) ?_
          refine (MyHeldE.next 9 (.s (.s (.s (.s (.s (.s (.s (.s (.s .z))))))))) (fun Kq hKq => ?_) MyHeldE.All.nil)
          obtain ⟨c0, c1, f0, f1⟩ := two_facts F.out.O
          go_simp
          refine hKq.out _ _ (fun e => by cases e) ?_
          clear hKq Kq
          try simp only [Act.put, List.setIfInBounds_toArray, List.set_cons_zero, List.set_cons_succ]
          refine MyHeldE.ready (rs := [10]) (by kernel_rfl) (by simp) ?_
          refine (MyHeldE.next 10 (.s (.s (.s (.s (.s (.s (.s (.s (.s (.s .z)))))))))) (fun Kq hKq => ?_) MyHeldE.All.nil)
          go_simp
          refine hKq.out _ _ (fun e => by cases e) ?_
          clear hKq Kq
          try simp only [Act.put, List.setIfInBounds_toArray, List.set_cons_zero, List.set_cons_succ]
          refine MyHeldE.ready (rs := [11]) (by kernel_rfl) (by simp) ?_
          refine (MyHeldE.next 11 (.s (.s (.s (.s (.s (.s (.s (.s (.s (.s (.s .z))))))))))) (fun Kq hKq => ?_) MyHeldE.All.nil)
          go_simp
          refine hKq.out _ _ (fun e => by cases e) ?_
          clear hKq Kq
          try simp only [Act.put, List.setIfInBounds_toArray, List.set_cons_zero, List.set_cons_succ]
          refine MyHeldE.done (by kernel_rfl) ?_ _
          have F9 := Lib.hid (F.out.stored rfl)
          clear c0 c1 f0 f1 hHeld
          go_wp2_with fail
          go_roundw
          case rel => exact ⟨k + 1, by omega, by go_num, PoK.next (by simpa [HLL.out.1, HLL.out.2] using F9.out) HV.out⟩
          case measure => simp [intOf]; omega
    · obtain rfl : k = 201 := by omega
      obtain ⟨c0, c1⟩ := two_cell F.out.O
      obtain ⟨d0, d1, f0, f1⟩ := two_facts F.out.RR
      clear hl1 hl2
      go_wp2_with fail
      have hx := block_setCell (i := 1) (v := .slice aH 201 cH) (block_setCell (i := 0) (v := .slice aL 201 cL) F.out.RR)
      have hO : Only (w.heap.size + 1) wr ((wr.setCell ⟨w.heap.size + 1, 0, none⟩ (.slice aL 201 cL)).setCell ⟨w.heap.size + 1, 1, none⟩ (.slice aH 201 cH)) := ((Only.refl _ wr).setCell 0 _).setCell 1 _
      have r0 := cell_of_block (i := 0) (v := .slice aL 201 cL) hx rfl
      have r1 := cell_of_block (i := 1) (v := .slice aH 201 cH) hx rfl
      refine bodyPost_ret (v := .agg #[.slice aL 201 cL, .slice aH 201 cH]) ?_ rfl ⟨_, _, rfl, TwoOwn.base ⟨own_keep F.out.T.L hO (Or.inr fun e => by have := (F.out.T.L.lt _ e).1; omega), own_keep F.out.T.H hO (Or.inr fun e => by have := (F.out.T.H.lt _ e).1; omega), F.out.T.A⟩ (by omega), F.out.B.trans (hO.below (by omega) F.out.B.size)⟩
      simp [results, Try.f32, go_sem, r0, r1]
end Go.Proofs.Ytojjhkahigdkoaa
