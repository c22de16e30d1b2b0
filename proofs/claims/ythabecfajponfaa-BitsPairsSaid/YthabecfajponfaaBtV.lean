/-
  Layer 1 (bits): the reference's Weight, Flip and Xor, walked.
-/
import Derived.Test.YthabecfajponfaaBtN
import Derived.Test.YthabecfajponfaaCopyStep
import Derived.Deep.RegionHeld3
namespace Go.Proofs.Ythabecfajponfaa
open Go.RowKit BitsMath ParityMath MyHeap MyCopy MyOwn

theorem flatU_snocV (l : List Nat) (x : Nat) : flatU (l ++ [x]) = flatU l ++ [.int .u8 ((x : Nat) : Int)] := by unfold flatU; rw [List.map_append]; rfl

set_option maxRecDepth 100000 in
set_option maxHeartbeats 1000000 in
theorem refWeight_call (a : Option Addr) (n c : Nat) (xs : List Nat) (w : World) (h : U8s w a n xs) : Calls Try.prog 20 #[.slice a n c] w (TPost (wtR xs) (chkE xs) w) := by
  have HL := Lib.hid h
  have hn := h.bound
  have hl := h.len
  clear h
  by_cases hE : chkE xs = 0
  · obtain ⟨h1, h2⟩ := all1_of hE
    have HE := Lib.hid hE
    have H1 := Lib.hid h1
    have HLn := Lib.hid hl
    rw [hl] at h2
    clear hl h1 hE
    go_enter Try.func20, Try.ntmps20
    go_wp2_with fail
    refine (refCheck_call a n c xs _ HL.out).mono ?_; rintro e w1 ⟨rfl, rfl⟩
    rw [HE.out]
    go_wp2_with fail
    go_loopw [5, 6] (fun v kv wr => ∃ k : Nat, k ≤ n ∧ kv = .int .i64 k ∧ v = .int .i64 ((wtL (xs.take k) : Nat) : Int) ∧ wr = w) (fun _ kv _ => n - (intOf kv).toNat)
    case atStart => exact ⟨0, Nat.zero_le _, rfl, rfl, rfl⟩
    case round =>
      obtain ⟨k, hk, rfl, rfl, rfl⟩ := hrel
      have hw := wtL_le (xs := xs.take k) (fun x hx => H1.out x (List.mem_of_mem_take hx))
      rw [List.length_take, HLn.out] at hw
      by_cases hlt : k < n
      · obtain ⟨b, off, rfl, x0⟩ := u8s_at HL.out hlt
        have hx := all1_get H1.out k
        have hk0 : (0 : Int) ≤ (k : Int) := by omega
        have hk1 : (k : Int) < (n : Int) := by omega
        have HT := Lib.hid (take_snoc' (xs := xs) (k := k) (by rw [HLn.out]; exact hlt))
        obtain ⟨x, hxx⟩ : ∃ x, xs[k]?.getD 0 = x := ⟨_, rfl⟩
        rw [hxx] at x0 hx HT
        clear hxx
        generalize hW : wtL (xs.take k) = W at *
        have HW := Lib.hid hW
        clear hW
        go_wp2_with fail
        go_roundw
        case rel => exact ⟨k + 1, by omega, by go_num, by rw [HT.out, wtL_snoc, HW.out]; push_cast; rfl, trivial⟩
        case measure => simp [intOf]; omega
      · obtain rfl : k = n := by omega
        rw [List.take_of_length_le (by rw [HLn.out]; exact Nat.le_refl _)]
        clear hw
        go_wp2_with fail
        go_ret2
        exact tPost_of (by unfold wtR; rw [if_pos HE.out]) HE.out.symm (Below.refl _ _)
  · have d1 : (chkE xs != 0) = true := by simpa using hE
    have HE := Lib.hid hE
    clear hl hE
    go_enter Try.func20, Try.ntmps20
    go_wp2_with fail
    refine (refCheck_call a n c xs _ HL.out).mono ?_; rintro e w1 ⟨rfl, rfl⟩
    go_wp2_with fail
    go_ret2
    exact tPost_of (by unfold wtR; rw [if_neg HE.out]) rfl (Below.refl _ _)

theorem xv_cells {w W : World} {b off b' off' n : Nat} {xs ys : List Nat} {k X Y : Nat} (h : U8s w (some ⟨b, off, none⟩) n xs) (h' : U8s w (some ⟨b', off', none⟩) n ys) (hk : k < n) (hx : gu xs k = X ∧ gu ys k = Y) (hB : Below w.heap.size w W) :
    W.cell? ⟨b, off + k, none⟩ = some (.int .u8 ((X : Nat) : Int)) ∧ W.cell? ⟨b', off' + k, none⟩ = some (.int .u8 ((Y : Nat) : Int)) := by
  obtain ⟨_, _, e, x0⟩ := gu_at (h.below hB) hk
  obtain ⟨_, _, e', y0⟩ := gu_at (h'.below hB) hk
  cases e; cases e'
  rw [hx.1] at x0; rw [hx.2] at y0
  exact ⟨x0, y0⟩
set_option maxRecDepth 100000 in
set_option maxHeartbeats 2000000 in
theorem refXor_ok (a a' : Option Addr) (n c c' : Nat) (xs ys : List Nat) (w : World) (h : U8s w a n xs) (h' : U8s w a' n ys) (e1 : chkE xs = 0) (e2 : chkE ys = 0) :
    Calls Try.prog 26 #[.slice a n c, .slice a' n c'] w (OPost 0 (xr xs ys) w) := by
  obtain ⟨h1, h2⟩ := all1_of e1
  obtain ⟨h1', h2'⟩ := all1_of e2
  have hl := h.len
  have hl' := h'.len
  have HL := Lib.hid h
  have HL' := Lib.hid h'
  have HE := Lib.hid (And.intro e1 e2)
  have HH := Lib.hid (And.intro h1 h1')
  have hxl := xr_len (xs := xs) (ys := ys) (by rw [hl, hl'])
  rw [hl] at hxl h2
  have HLn := Lib.hid hxl
  obtain ⟨i0, hi, hiz, his, hib⟩ := info_parts' infoU8
  have HI := Lib.hid (And.intro hi (And.intro hiz (And.intro his hib)))
  have d1 : ((n : Int) != (n : Int)) = false := by simp
  clear h h' e1 e2 h1 h1' hl hl' h2' hxl hi hiz his hib
  go_enter Try.func26, Try.ntmps26
  go_wp2_with fail
  refine (refCheck_call a n c xs _ HL.out).mono ?_; rintro e w1 ⟨rfl, rfl⟩
  rw [HE.out.1]
  go_wp2_with fail
  refine (refCheck_call a' n c' ys _ HL'.out).mono ?_; rintro e w1 ⟨rfl, rfl⟩
  rw [HE.out.2]
  go_wp2_with fail
  go_loopw [7, 8] (fun v kv wr => ∃ k : Nat, k ≤ n ∧ kv = .int .i64 k ∧ wr.ownsRow w.heap.size 5 1 v k (flatU ((xr xs ys).take k)) ∧ Below w.heap.size w wr) (fun _ kv _ => n - (intOf kv).toNat)
  case atStart => exact ⟨0, Nat.zero_le _, rfl, ⟨rfl, Or.inl ⟨rfl, rfl⟩⟩, Below.refl _ _⟩
  case round =>
    obtain ⟨k, hk, rfl, hO, hB⟩ := hrel
    have H := Lib.hid (And.intro hO hB)
    have hz := hB.size
    by_cases hlt : k < n
    · obtain ⟨b, off, rfl, x0⟩ := u8s_at (HL.out.below hB) hlt
      obtain ⟨b', off', rfl, y0⟩ := u8s_at (HL'.out.below hB) hlt
      have hk0 : (0 : Int) ≤ (k : Int) := by omega
      have hk1 : (k : Int) < (n : Int) := by omega
      have HT := Lib.hid (take_snoc' (xs := xr xs ys) (k := k) (by rw [HLn.out]; exact hlt))
      have HX := Lib.hid (show gu (xr xs ys) k = gu xs k ^^^ gu ys k from xr_get (by rw [HL.out.len, HL'.out.len]) k)
      have hxor := xor_u8 (gu xs k) (gu ys k) (all1_get HH.out.1 k) (all1_get HH.out.2 k)
      have x1 : wr.cell? ⟨b, off + k, none⟩ = some (.int .u8 ((gu xs k : Nat) : Int)) := x0
      have y1 : wr.cell? ⟨b', off' + k, none⟩ = some (.int .u8 ((gu ys k : Nat) : Int)) := y0
      obtain ⟨X, hX⟩ : ∃ X, gu xs k = X := ⟨_, rfl⟩
      obtain ⟨Y, hY⟩ : ∃ Y, gu ys k = Y := ⟨_, rfl⟩
      rw [hX] at x1 hxor
      rw [hY] at y1 hxor
      have HXY := Lib.hid (And.intro hX hY)
      clear x0 y0 hO hB hX hY
      go_wp2_with fail
      have K := Lib.hid (show Below w.heap.size w wr.drew from H.out.2.drew)
      have hz' : w.heap.size ≤ wr.drew.heap.size := hz
      have HO1 := Lib.hid (show wr.drew.ownsRow w.heap.size 5 1 u7 k (flatU ((xr xs ys).take k)) from H.out.1)
      go_region_held3 (fun w' => w'.cell? ⟨b, off + k, none⟩ = some (.int .u8 ((X : Nat) : Int)) ∧ w'.cell? ⟨b', off' + k, none⟩ = some (.int .u8 ((Y : Nat) : Int)))
        (first | exact xv_cells HL.out HL'.out hlt HXY.out K.out | exact xv_cells HL.out HL'.out hlt HXY.out (K.out.alloc hz' _))
        (first
          | (refine step_append_src (by rfl) (.tmp 29) (.tmp 39) 23 (by rfl) w.heap.size 5 i0 _ 1 1 Try.underlying23 HI.out.1 HI.out.2.1 HI.out.2.2.1 HI.out.2.2.2 (by rfl) (by decide) _ k _ (by rfl) (HO1.out.alloc (.cells #[.int .u8 ((X ^^^ Y : Nat) : Int)] 5)) (some ⟨wr.heap.size, 0, none⟩) 1 1 [.int .u8 ((X ^^^ Y : Nat) : Int)] (by rfl) (fun e => by cases e) (by rfl) (fun ad' e' => by cases e'; exact cells_one rfl) (by intro u hu; simp at hu; subst hu; rfl) (by unfold maxLen; omega) (by omega) (by simp; omega) ?_; intro v8 w8 hown8 hg8; have hb8 := grownB (B := w.heap.size) (HO1.out.alloc (.cells #[.int .u8 ((X ^^^ Y : Nat) : Int)] 5)) hg8 (Nat.le_refl _) (by simp; omega); replace K := Lib.hid ((K.out.alloc hz' (.cells #[.int .u8 ((X ^^^ Y : Nat) : Int)] 5)).trans hb8); have HO8 := Lib.hid hown8; clear hown8 hg8 hb8))
      all_goals
        clear x1 y1
        go_wp2_with fail
        go_roundw
        case rel => exact ⟨k + 1, by omega, by go_num, by
          have e : gu (xr xs ys) k = X ^^^ Y := by rw [HX.out, HXY.out.1, HXY.out.2]
          unfold gu at e
          rw [HT.out, flatU_snocV, e]; exact HO8.out, K.out⟩
        case measure => simp [intOf]; omega
    · obtain rfl : k = n := by omega
      have HO := Lib.hid (show wr.ownsRow w.heap.size 5 1 u7 (xr xs ys).length (flatU (xr xs ys)) by
        rw [List.take_of_length_le (by rw [HLn.out]; exact Nat.le_refl _)] at hO
        rw [HLn.out]; exact hO)
      clear hO hB
      go_wp2_with fail
      go_ret2
      exact oPost_ok (v := u7) rfl HO.out H.out.2
end Go.Proofs.Ythabecfajponfaa
