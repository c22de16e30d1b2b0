/-
  PtAsgE
-/
import Derived.Test.YtikjjpjekchcjaaGreatPm18
import Derived.Laws.EntriesVeiled
set_option linter.all false
set_option maxRecDepth 100000
set_option maxHeartbeats 64000000
namespace Go.Proofs.YtikjjpjekchcjaaGreat.Asg
open Go.RowKit AsgRows AsgMath MyHeap
def AgPost (L : List (List Int)) (n m cc sb fr : Nat) (a : Option Addr) (T : Nat → Bool) (row : Nat → Int) (w : World) (e : Ending) (w' : World) : Prop :=
 Only sb w w' ∧ ((e = .returned (.bool true) ∧ ∃ row', Se w' sb (.slice a n cc) fr T row' ∧ Mat (ent L) n m fr T row' ∧ (∃ α b β, Pot (ent L) n m fr T row' α b β) ∧ prs m row' = prs m row + 1 ∧ ∀ k, m ≤ k → row' k = row k) ∨
  (e = .returned (.bool false) ∧ Se w' sb (.slice a n cc) fr T row ∧ val (ent L) m row = V (ent L) n m (n - fr) T))
theorem agPost_no {L : List (List Int)} {n m cc sb fr : Nat} {a : Option Addr} {T : Nat → Bool} {row : Nat → Int} {w w' : World} (h1 : Only sb w w') (h2 : Se w' sb (.slice a n cc) fr T row) (h3 : val (ent L) m row = V (ent L) n m (n - fr) T) : AgPost L n m cc sb fr a T row w (.returned (.bool false)) w' := ⟨h1, Or.inr ⟨rfl, h2, h3⟩⟩
theorem agPost_yes {L : List (List Int)} {n m cc sb fr : Nat} {a : Option Addr} {T : Nat → Bool} {row row' : Nat → Int} {w w' : World} (h1 : Only sb w w') (h2 : Se w' sb (.slice a n cc) fr T row') (h3 : Mat (ent L) n m fr T row') (h4 : ∃ α b β, Pot (ent L) n m fr T row' α b β) (h5 : prs m row' = prs m row + 1) (h6 : ∀ k, m ≤ k → row' k = row k) : AgPost L n m cc sb fr a T row w (.returned (.bool true)) w' := ⟨h1, Or.inl ⟨rfl, row', h2, h3, h4, h5, h6⟩⟩
theorem oO (a : Option Addr) (n m cc sb fr : Nat) (L : List (List Int)) (T : Nat → Bool) (row : Nat → Int) (w0 w : World) (hM0 : Ma w0 a n L m) (hMb : Below w0.heap.size w0 w) (h0 : w0.heap.size ≤ sb) (hS : Se w sb (.slice a n cc) fr T row) (hn : 0 < n) (hfr : fr ≤ n) (hMat : Mat (ent L) n m fr T row) (hPot : ∃ α b β, Pot (ent L) n m fr T row α b β) :
    Calls Tryz.prog 101 #[.pointer (some ⟨sb, 0, none⟩)] w (AgPost L n m cc sb fr a T row w) := by
 obtain ⟨α, bp, β, hP⟩ := hPot
 have HM := qh hMat
 have HP := qh hP
 have HM0 := qh hM0
 have m16 := hM0.m16
 have n16 : n ≤ 16 := by have := hM0.ok.n16; rw [hM0.M.len] at this; exact this
 have HC := qh (show ∀ i k, i < n → k < m → ent L i k ≤ 1048576 from fun i k hi hk => hM0.ok.hi i k (by rw [hM0.M.len]; exact hi) (by rw [hM0.wd]; exact hk))
 have hMw := hM0.keep hMb
 obtain ⟨s0, s1, q0⟩ := hS.head
 obtain ⟨b, off, r0, c0, -, -, rfl, x0, -⟩ := fW hMw.M (i := 0) hn
 rw [hMw.wd] at x0
 have qb := World.block_lt_of_cell? w _ x0
 have hn0 : (0 : Int) < (n : Int) := by omega
 have hst := Au.start (cv := .slice (some ⟨b, off, none⟩) n cc) (m := m) hS hMb h0 rfl rfl
 have HB := qh hst.1
 have K := qh hst.2
 clear hS hMw hst hMat hP hM0 hMb
 go_enter Tryz.func101, Tryz.ntmps101
 go_wp2_with fail
 generalize ((((w.alloc (.cells #[.pointer (some ⟨sb, 0, none⟩)] 159 (0, 0))).alloc (.cells #[.int .i64 (m : Int)] 3 (0, 0))).alloc (.cells #[.int .i64 0, .int .i64 0, .int .i64 0, .int .i64 0, .int .i64 0, .int .i64 0, .int .i64 0, .int .i64 0, .int .i64 0, .int .i64 0, .int .i64 0, .int .i64 0, .int .i64 0, .int .i64 0, .int .i64 0, .int .i64 0] 160 (0, 0))).alloc (.cells #[.int .i64 0, .int .i64 0, .int .i64 0, .int .i64 0, .int .i64 0, .int .i64 0, .int .i64 0, .int .i64 0, .int .i64 0, .int .i64 0, .int .i64 0, .int .i64 0, .int .i64 0, .int .i64 0, .int .i64 0, .int .i64 0] 160 (0, 0))) = w1 at *
 generalize w.heap.size + 1 + 1 + 1 = bb at *
 generalize w.heap.size + 1 + 1 = db at *
 generalize w.heap.size + 1 = nb at *
 generalize hsp : w.heap.size = sp at *
 clear s0 s1 q0 x0 qb hsp
 go_loopw [27] (fun kv wr => ∃ k : Nat, k ≤ m ∧ kv = .int .i64 k ∧ ∃ f, Au w0 w (.slice (some ⟨b, off, none⟩) n cc) m sb sp nb db bb fr T row f (fun _ => 0) wr ∧ ∀ j, j < k → f j = 1099511627776) (fun kv _ => m - (intOf kv).toNat)
 case atStart => exact ⟨0, by omega, rfl, _, K.out, fun j hj => by omega⟩
 case round =>
  clear K
  obtain ⟨k, hk, rfl, f, hK, hF⟩ := hrel
  have K := qh hK
  have HF := qh hF
  clear hK hF
  obtain ⟨g0, g1, g2, g3, g4, g5, g6, g7, g8⟩ := K.out.facts
  by_cases hlt : k < m
  ·have hk0 : (0 : Int) ≤ (k : Int) := by omega
   have hk1 : (k : Int) < (m : Int) := by omega
   have hk2 : (k : Int) < 16 := by omega
   obtain ⟨d0, d1, d2⟩ := K.out.D.cell (k := k) (by omega)
   generalize f k = X at d0
   go_wp2_with fail
   go_roundw
   case rel => exact ⟨k + 1, by omega, by go_num, upd f k 1099511627776, K.out.setD HB.out (by omega) _, fun j hj => by
    by_cases e : j = k
    ·subst e; exact bO
    rw [bD e]; exact HF.out j (by omega)⟩
   case measure => simp [intOf]; omega
  obtain rfl : m = k := by omega
  clear hk hlt
  go_wp2_with fail
  have R := qh (DInv.start (c := ent L) (n := n) (m := m) (fr := fr) (T := T) (row := row) (b := bp) (by' := fun _ => 0) HF.out)
  clear HF g0 g1 g2 g3 g4 g5 g6 g7 g8
  go_loopw [8] (fun kv wr => ∃ (ch : Bool) (dist by' : Nat → Int), kv = .bool ch ∧ Au w0 w (.slice (some ⟨b, off, none⟩) n cc) m sb sp nb db bb fr T row dist by' wr ∧ DInv (ent L) n m fr T row bp dist by' ∧ (ch = false → Fixed (ent L) n m fr T row dist)) (fun kv wr => 2 * (sumN (cellI wr db) m).toNat + (if boolOf kv = true then 1 else 0))
  case atStart => exact ⟨true, _, _, rfl, K.out, R.out, fun e => absurd e (by decide)⟩
  case round =>
   clear K R
   obtain ⟨ch, dist, by', rfl, hK, hD, hFx⟩ := hrel
   have K := qh hK
   have R := qh hD
   have HFx := qh hFx
   have HSum := qh (oG hK.D m16)
   clear hK hD hFx
   obtain ⟨g0, g1, g2, g3, g4, g5, g6, g7, g8⟩ := K.out.facts
   cases ch with
   | true =>
    go_wp2_with fail
    go_step3
    go_wp2_with fail
    go_step3
    go_wp2_with fail
    have R1 := qh (show Rnd (ent L) n m fr T row bp (sumN dist m) dist by' false fr 0 from ⟨R.out, fun _ => ⟨rfl, .start, .start⟩, fun e => absurd e (by decide)⟩)
    generalize hs0 : sumN dist m = S0 at R1 HSum
    have HS0 := qh hs0
    clear hs0 R HFx g0 g1 g2 g3 g4 g5 g6 g7 g8
    go_loopw [8, 9] (fun kv iv wr => ∃ (ch : Bool) (i : Nat) (dist by' : Nat → Int), kv = .bool ch ∧ iv = .int .i64 i ∧ fr ≤ i ∧ i ≤ n ∧ Au w0 w (.slice (some ⟨b, off, none⟩) n cc) m sb sp nb db bb fr T row dist by' wr ∧ Rnd (ent L) n m fr T row bp S0 dist by' ch i 0) (fun _ iv _ => n - (intOf iv).toNat)
    case atStart => exact ⟨false, fr, _, _, rfl, rfl, Nat.le_refl _, hfr, K.out, R1.out⟩
    case round =>
     clear K R1
     obtain ⟨ch, i, dist, by', rfl, rfl, hi0, hi1, hK, hR⟩ := hrel
     have K := qh hK
     have R := qh hR
     clear hK hR
     obtain ⟨g0, g1, g2, g3, g4, g5, g6, g7, g8⟩ := K.out.facts
     by_cases hlt : i < n
     ·have hk0 : (0 : Int) ≤ (i : Int) := by omega
      have hk1 : (i : Int) < (n : Int) := by omega
      go_wp2_with fail
      refine (l7 (some ⟨b, off, none⟩) n m cc nb sp sb db fr i L T row dist _ (HM0.out.keep K.out.M) g0 g1 K.out.S K.out.D hlt (fun k hk => R.out.D.ge0 hk)).mono ?_
      rintro e w2 ⟨rfl, d, rfl⟩
      replace K := qh (K.out.drewN d)
      clear g0 g1 g2 g3 g4 g5 g6 g7 g8
      obtain ⟨D, hD⟩ : ∃ D, ofV (ent L) m row dist i = D := ⟨_, rfl⟩
      rw [hD]
      have HD := qh hD
      clear hD
      obtain ⟨g0, g1, g2, g3, g4, g5, g6, g7, g8⟩ := K.out.facts
      by_cases hfar : 1099511627776 ≤ D
      ·go_wp2_with fail
       go_roundw
       case rel =>
        exact ⟨ch, i + 1, dist, by', rfl, by go_num, by omega, by omega, K.out, R.out.skip (by rw [HD.out]; exact hfar)⟩
       case measure => simp [intOf]; omega
      go_wp2_with fail
      have R1 := qh (And.intro R.out HD.out)
      have hD0 : 0 ≤ D := by
       have h1 := of_lo HM.out HP.out R.out.D hi0 hlt (by rw [HD.out]; omega)
       rw [HD.out] at h1
       have := HP.out.a0 i
       omega
      clear R HD g0 g1 g2 g3 g4 g5 g6 g7 g8
      go_loopw [8, 53] (fun kv jv wr => ∃ (ch : Bool) (k : Nat) (dist by' : Nat → Int), kv = .bool ch ∧ jv = .int .i64 k ∧ k ≤ m ∧ Au w0 w (.slice (some ⟨b, off, none⟩) n cc) m sb sp nb db bb fr T row dist by' wr ∧ Rnd (ent L) n m fr T row bp S0 dist by' ch i k ∧ ofV (ent L) m row dist i = D) (fun _ jv _ => m - (intOf jv).toNat)
      case atStart => exact ⟨ch, 0, _, _, rfl, rfl, Nat.zero_le _, K.out, R1.out.1, R1.out.2⟩
      case round =>
       clear K R1
       obtain ⟨ch, k, dist, by', rfl, rfl, hk, hK, hR, hD⟩ := hrel
       have K := qh hK
       have R := qh hR
       have HD := qh hD
       clear hK hR hD
       obtain ⟨g0, g1, g2, g3, g4, g5, g6, g7, g8⟩ := K.out.facts
       by_cases hkm : k < m
       ·have hj0 : (0 : Int) ≤ (k : Int) := by omega
        have hj1 : (k : Int) < (m : Int) := by omega
        have hj2 : (k : Int) < 16 := by omega
        obtain ⟨b', off', ra, rc, b2, o2, e, rfl, x0, x1, qb, qb2, e1, e2⟩ := (HM0.out.keep K.out.M).ent (i := i) (k := k) hlt hkm
        cases e
        obtain ⟨r1, r2, -⟩ := K.out.S.at (k := k) (by omega)
        obtain ⟨d0, d1, -⟩ := K.out.D.cell (k := k) (by omega)
        obtain ⟨y0, y1, -⟩ := K.out.Y.cell (k := k) (by omega)
        have HP0 := qh (fun (q : T k = false → 0 ≤ ent L i k → row k ≠ (i : Int) → ¬ D + ent L i k < dist k) => R.out.pass (by rw [HD.out]; exact q))
        obtain ⟨X, hX⟩ : ∃ X, ent L i k = X := ⟨_, rfl⟩
        have HX := qh hX
        rw [hX] at x1 e1 e2
        by_cases hx : 0 ≤ X
        ·cases hT : T k with
         | true =>
          rw [hT] at r1
          have HT := qh hT
          clear hT hX
          go_wp2_with fail
          go_quiet (fail)
          go_wp2_with fail
          go_roundw
          case rel => exact ⟨ch, k + 1, dist, by', rfl, by go_num, by omega, K.out.drewN _, HP0.out (fun q => absurd (HT.out.symm.trans q) (by decide)), HD.out⟩
          case measure => simp [intOf]; omega
         | false =>
          rw [hT] at r1
          have HT := qh hT
          clear hT hX
          by_cases hr : row k = (i : Int)
          ·rw [hr] at r2
           have HR := qh hr
           have ht : ((i : Int) != (i : Int)) = false := by simp
           clear hr
           go_wp2_with fail
           go_quiet (fail)
           go_wp2_with fail
           go_roundw
           case rel => exact ⟨ch, k + 1, dist, by', rfl, by go_num, by omega, K.out.drewN _, HP0.out (fun _ _ q => absurd HR.out q), HD.out⟩
           case measure => simp [intOf]; omega
          have ht : (row k != (i : Int)) = true := by rw [bne_iff_ne]; exact hr
          have HR := qh hr
          clear hr
          obtain ⟨Y, hY⟩ : ∃ Y, dist k = Y := ⟨_, rfl⟩
          have HY := qh hY
          rw [hY] at d0
          generalize row k = RK at r2 ht
          have hwr : IntKind.i64.wrap (D + X) = D + X := IntWalk.i64_in _ (by omega)
          by_cases hlt2 : D + X < Y
          ·have HL := qh hlt2
           have n1 : db ≠ bb := HB.out.dy
           have n2 : bb ≠ db := n1.symm
           clear hY
           go_wp2_with fail
           go_quiet (fail)
           go_wp2_with fail
           go_roundw
           case rel =>
            have hh := Rnd.hit m16 HC.out HM.out HP.out R.out hi0 hlt hkm HT.out (by rw [HX.out]; exact hx) HR.out (by rw [HD.out]; omega) (by rw [HD.out, HX.out, HY.out]; exact HL.out)
            rw [HD.out, HX.out] at hh
            exact ⟨true, k + 1, _, _, rfl, by go_num, by omega, ((K.out.drewN _).setD HB.out (by omega) _).setY HB.out (by omega) _, hh.1, hh.2⟩
           case measure => simp [intOf]; omega
          have HL := qh hlt2
          clear hY
          go_wp2_with fail
          go_quiet (fail)
          go_wp2_with fail
          go_roundw
          case rel => exact ⟨ch, k + 1, dist, by', rfl, by go_num, by omega, K.out.drewN _, HP0.out (fun _ _ _ => by rw [HX.out, HY.out]; exact HL.out), HD.out⟩
          case measure => simp [intOf]; omega
        have HN := qh hx
        have hx3 : decide (0 ≤ X) = false := decide_eq_false hx
        clear hx
        clear hX
        go_wp2_with fail
        go_quiet (fail)
        go_wp2_with fail
        go_roundw
        case rel => exact ⟨ch, k + 1, dist, by', rfl, by go_num, by omega, K.out.drewN _, HP0.out (fun _ q => absurd (by rw [HX.out] at q; exact q) (by have := HN.out; omega)), HD.out⟩
        case measure => simp [intOf]; omega
       obtain rfl : m = k := by omega
       clear hk hkm
       go_wp2_with fail
       go_roundw
       case rel => exact ⟨ch, i + 1, dist, by', rfl, by go_num, by omega, by omega, K.out, R.out.next⟩
       case measure => simp [intOf]; omega
     obtain rfl : n = i := by omega
     have HS1 := qh (oG K.out.D m16)
     clear hi1 hlt
     go_wp2_with fail
     rw [Exit.noGoto_normal]
     go_wp2_with fail
     go_roundw
     case rel =>
      exact ⟨ch, dist, by', rfl, K.out, R.out.D, fun e => (R.out.no e).2.1.all⟩
     case measure =>
      have h9 := fN (f := dist) (m := m) (fun j hj => (R.out.D.ge0 hj).1)
      show 2 * (sumN (cellI _ db) m).toNat + (if ch = true then 1 else 0) < 2 * (sumN (cellI _ db) m).toNat + 1
      rw [HSum.out, HS1.out]
      cases ch with
      | false =>
       have h8 := (R.out.no rfl).1
       rw [if_neg (by decide), h8]
       omega
      | true =>
       have h8 := R.out.yes rfl
       rw [if_pos rfl]
       omega
   | false =>
    have HFix := qh (HFx.out rfl)
    clear HFx HSum
    go_wp2_with fail
    go_loopw [12, 123] (fun ev jv wr' => ∃ k : Nat, k ≤ m ∧ jv = .int .i64 k ∧ (∃ d, wr' = wr.drewN d) ∧ ((ev = .int .i64 (-1) ∧ ∀ j, j < k → row j < 0 → T j = false → 1099511627776 ≤ dist j) ∨ ∃ e : Nat, e < k ∧ ev = .int .i64 e ∧ row e < 0 ∧ T e = false ∧ dist e < 1099511627776 ∧ ∀ j, j < k → row j < 0 → T j = false → dist e ≤ dist j)) (fun _ jv _ => m - (intOf jv).toNat)
    case atStart => exact ⟨0, by omega, rfl, ⟨0, rfl⟩, Or.inl ⟨rfl, fun j hj => by omega⟩⟩
    case round =>
     obtain ⟨k, hk, rfl, ⟨d, rfl⟩, hE⟩ := hrel
     by_cases hkm : k < m
     ·have hj0 : (0 : Int) ≤ (k : Int) := by omega
      have hj1 : (k : Int) < (m : Int) := by omega
      have hj2 : (k : Int) < 16 := by omega
      obtain ⟨r1, r2, -⟩ := K.out.S.at (k := k) (by omega)
      obtain ⟨d0, d1, -⟩ := K.out.D.cell (k := k) (by omega)
      have HRT := qh (And.intro (rfl : row k = row k) (rfl : T k = T k))
      obtain ⟨dl, dh⟩ := R.out.ge0 hkm
      rcases hE with ⟨rfl, hE⟩ | ⟨e, he, rfl, q1, q2, q3, q4⟩
      ·have HE := qh hE
       clear hE
       obtain ⟨Y, hY⟩ : ∃ Y, dist k = Y := ⟨_, rfl⟩
       have HY := qh hY
       rw [hY] at d0 dl dh
       obtain ⟨RK, hRK⟩ : ∃ Y, row k = Y := ⟨_, rfl⟩
       have HRK := qh hRK
       rw [hRK] at r2
       clear hY hRK
       by_cases hr : RK < 0
       ·cases hT : T k with
        | true =>
         rw [hT] at r1
         have HT := qh hT
         clear hT
         go_wp2_with fail
         go_quiet (fail)
         go_wp2_with fail
         go_roundw
         case rel => exact ⟨k + 1, by omega, by go_num, ⟨_, rfl⟩, Or.inl ⟨rfl, fun j hj => by
          by_cases e : j = k
          ·subst e; exact fun _ q => absurd (HT.out.symm.trans q) (by decide)
          exact HE.out j (by omega)⟩⟩
         case measure => simp [intOf]; omega
        | false =>
         rw [hT] at r1
         have HT := qh hT
         clear hT
         by_cases hf : Y < 1099511627776
         ·go_wp2_with fail
          go_quiet (fail)
          go_wp2_with fail
          go_roundw
          case rel => exact ⟨k + 1, by omega, by go_num, ⟨_, rfl⟩, Or.inr ⟨k, by omega, rfl, by rw [HRK.out]; exact hr, HT.out, by rw [HY.out]; exact hf, fun j hj a1 a2 => by
           by_cases e : j = k
           ·subst e; exact Int.le_refl _
           have := HE.out j (by omega) a1 a2
           have := HY.out
           omega⟩⟩
          case measure => simp [intOf]; omega
         have hf2 : decide (Y < 1099511627776) = false := decide_eq_false hf
         have HF2 := qh hf
         clear hf
         go_wp2_with fail
         go_quiet (fail)
         go_wp2_with fail
         go_roundw
         case rel => exact ⟨k + 1, by omega, by go_num, ⟨_, rfl⟩, Or.inl ⟨rfl, fun j hj => by
          by_cases e : j = k
          ·subst e; exact fun _ _ => by have := HF2.out; have := HY.out; omega
          exact HE.out j (by omega)⟩⟩
         case measure => simp [intOf]; omega
       have hr2 : decide (RK < 0) = false := decide_eq_false hr
       have HR2 := qh hr
       clear hr
       go_wp2_with fail
       go_quiet (fail)
       go_wp2_with fail
       go_roundw
       case rel => exact ⟨k + 1, by omega, by go_num, ⟨_, rfl⟩, Or.inl ⟨rfl, fun j hj => by
        by_cases e : j = k
        ·subst e; exact fun q => by have := HRK.out; have := HR2.out; omega
        exact HE.out j (by omega)⟩⟩
       case measure => simp [intOf]; omega
      have HE := qh (And.intro q1 (And.intro q2 (And.intro q3 q4)))
      have he0 : (0 : Int) ≤ (e : Int) := by omega
      have he1 : (e : Int) < 16 := by omega
      obtain ⟨z0, z1, -⟩ := K.out.D.cell (k := e) (by omega)
      clear q1 q2 q3 q4
      obtain ⟨Z, hZ⟩ : ∃ Y, dist e = Y := ⟨_, rfl⟩
      have HZ := qh hZ
      rw [hZ] at z0
      obtain ⟨Y, hY⟩ : ∃ Y, dist k = Y := ⟨_, rfl⟩
      have HY := qh hY
      rw [hY] at d0 dl dh
      obtain ⟨RK, hRK⟩ : ∃ Y, row k = Y := ⟨_, rfl⟩
      have HRK := qh hRK
      rw [hRK] at r2
      have hn0 : decide ((e : Int) < 0) = false := decide_eq_false (by omega)
      clear hY hRK hZ
      by_cases hr : RK < 0
      ·cases hT : T k with
       | true =>
        rw [hT] at r1
        have HT := qh hT
        clear hT
        go_wp2_with fail
        go_quiet (fail)
        go_wp2_with fail
        go_roundw
        case rel => exact ⟨k + 1, by omega, by go_num, ⟨_, rfl⟩, Or.inr ⟨e, by omega, rfl, HE.out.1, HE.out.2.1, HE.out.2.2.1, fun j hj => by
         by_cases e : j = k
         ·subst e; exact fun _ q => absurd (HT.out.symm.trans q) (by decide)
         exact HE.out.2.2.2 j (by omega)⟩⟩
        case measure => simp [intOf]; omega
       | false =>
        rw [hT] at r1
        have HT := qh hT
        clear hT
        by_cases hf : Y < 1099511627776
        ·by_cases hl : Y < Z
         ·go_wp2_with fail
          go_quiet (fail)
          go_wp2_with fail
          go_roundw
          case rel => exact ⟨k + 1, by omega, by go_num, ⟨_, rfl⟩, Or.inr ⟨k, by omega, rfl, by rw [HRK.out]; exact hr, HT.out, by rw [HY.out]; exact hf, fun j hj a1 a2 => by
           by_cases e : j = k
           ·subst e; exact Int.le_refl _
           have := HE.out.2.2.2 j (by omega) a1 a2
           have := HY.out
           have := HZ.out
           omega⟩⟩
          case measure => simp [intOf]; omega
         have hl2 : decide (Y < Z) = false := decide_eq_false hl
         have HL2 := qh hl
         clear hl
         go_wp2_with fail
         go_quiet (fail)
         go_wp2_with fail
         go_roundw
         case rel => exact ⟨k + 1, by omega, by go_num, ⟨_, rfl⟩, Or.inr ⟨e, by omega, rfl, HE.out.1, HE.out.2.1, HE.out.2.2.1, fun j hj a1 a2 => by
          by_cases e : j = k
          ·subst e
           have := HL2.out
           have := HY.out
           have := HZ.out
           omega
          exact HE.out.2.2.2 j (by omega) a1 a2⟩⟩
         case measure => simp [intOf]; omega
        have hf2 : decide (Y < 1099511627776) = false := decide_eq_false hf
        have HF2 := qh hf
        clear hf
        go_wp2_with fail
        go_quiet (fail)
        go_wp2_with fail
        go_roundw
        case rel => exact ⟨k + 1, by omega, by go_num, ⟨_, rfl⟩, Or.inr ⟨e, by omega, rfl, HE.out.1, HE.out.2.1, HE.out.2.2.1, fun j hj a1 a2 => by
         by_cases e : j = k
         ·subst e
          have := HE.out.2.2.1
          have := HF2.out
          have := HY.out
          omega
         exact HE.out.2.2.2 j (by omega) a1 a2⟩⟩
        case measure => simp [intOf]; omega
      have hr2 : decide (RK < 0) = false := decide_eq_false hr
      have HR2 := qh hr
      clear hr
      go_wp2_with fail
      go_quiet (fail)
      go_wp2_with fail
      go_roundw
      case rel => exact ⟨k + 1, by omega, by go_num, ⟨_, rfl⟩, Or.inr ⟨e, by omega, rfl, HE.out.1, HE.out.2.1, HE.out.2.2.1, fun j hj a1 a2 => by
       by_cases e : j = k
       ·subst e
        have := HRK.out
        have := HR2.out
        omega
       exact HE.out.2.2.2 j (by omega) a1 a2⟩⟩
      case measure => simp [intOf]; omega
     obtain rfl : m = k := by omega
     clear hk hkm
     rcases hE with ⟨rfl, hE⟩ | ⟨e, he, rfl, q1, q2, q3, q4⟩
     ·go_wp2_with fail
      go_ret
      have hfr' : n - (n - fr) = fr := by omega
      exact agPost_no (K.out.drewN d).O K.out.S (none_found (a := α) (b := bp) (β := β) (dist := dist) (by' := by') (by omega) m16 HC.out (by rw [hfr']; exact HM.out) (by rw [hfr']; exact HP.out) (by rw [hfr']; exact R.out) (by rw [hfr']; exact HFix.out) hE)
     have q1' : row e = -1 := by
      rcases HM.out.rng e he with q | ⟨i, q, -⟩
      ·exact q
      omega
     have HFd := qh (show AsgMath.Found (ent L) n m fr T row α bp β dist by' e from ⟨HM.out, HP.out, R.out, HFix.out, he, q1', q3, q4, m16, HC.out⟩)
     obtain ⟨dp, hdp⟩ := HFd.out.dpt
     have HDp := qh hdp
     obtain ⟨de, hfl⟩ := HFd.out.flip
     have HFl := qh hfl
     have he0 : (0 : Int) ≤ (e : Int) := by omega
     replace K := qh (K.out.drewN d)
     generalize wr.drewN d = wd at *
     clear q1 q2 q3 q4 q1' hdp hfl HFix R g0 g1 g2 g3 g4 g5 g6 g7 g8
     go_wp2_with fail
     go_loopw [14] (fun kv wr' => ∃ (k : Nat) (cur : Nat → Int) (d : Nat), kv = .int .i64 k ∧ Au w0 w (.slice (some ⟨b, off, none⟩) n cc) m sb sp nb db bb fr T cur dist by' wr' ∧ Flip (ent L) n m fr T row α bp β dist by' e cur k d ∧ ∀ j, m ≤ j → cur j = row j) (fun kv _ => dp (intOf kv).toNat)
     case atStart => exact ⟨e, row, de, rfl, K.out, HFl.out, fun _ _ => rfl⟩
     case round =>
      clear K HFl
      obtain ⟨k, cur, dd, rfl, hK, hF, hR⟩ := hrel
      have K := qh hK
      have HF := qh hF
      have HR := qh hR
      have hkm := hF.kl
      clear hK hF hR
      obtain ⟨g0, g1, g2, g3, g4, g5, g6, g7, g8⟩ := K.out.facts
      have hj0 : (0 : Int) ≤ (k : Int) := by omega
      have hj2 : (k : Int) < 16 := by omega
      obtain ⟨y0, y1, -⟩ := K.out.Y.cell (k := k) (by omega)
      obtain ⟨Y, hY⟩ : ∃ Y, by' k = Y := ⟨_, rfl⟩
      have HY := qh hY
      rw [hY] at y0
      clear hY
      go_wp2_with fail
      go_loopw [16, 170] (fun bv jv wr'' => ∃ j : Nat, j ≤ m ∧ jv = .int .i64 j ∧ wr = wr'' ∧ ((bv = .int .i64 (-1) ∧ ∀ x, x < j → cur x ≠ Y) ∨ ∃ x : Nat, x < j ∧ bv = .int .i64 x ∧ cur x = Y)) (fun _ jv _ => m - (intOf jv).toNat)
      case atStart => exact ⟨0, by omega, rfl, rfl, Or.inl ⟨rfl, fun x hx => by omega⟩⟩
      case round =>
       obtain ⟨j, hj, rfl, rfl, hE⟩ := hrel
       by_cases hjm : j < m
       ·have hi0 : (0 : Int) ≤ (j : Int) := by omega
        have hi1 : (j : Int) < (m : Int) := by omega
        have hi2 : (j : Int) < 16 := by omega
        obtain ⟨-, r2, -⟩ := K.out.S.at (k := j) (by omega)
        have HE := qh hE
        clear hE
        by_cases hc : cur j = Y
        ·rw [hc] at r2
         have HC2 := qh hc
         clear hc
         go_wp2_with fail
         go_roundw
         case rel => exact ⟨j + 1, by omega, by go_num, trivial, Or.inr ⟨j, by omega, rfl, HC2.out⟩⟩
         case measure => simp [intOf]; omega
        have ht : (cur j == Y) = false := by simpa using hc
        have HC2 := qh hc
        clear hc
        generalize cur j = RJ at r2 ht
        go_wp2_with fail
        go_roundw
        case rel => exact ⟨j + 1, by omega, by go_num, trivial, by
         rcases HE.out with ⟨h1, h2⟩ | ⟨x, h1, h2, h3⟩
         ·exact Or.inl ⟨h1, fun x hx => by
           by_cases e : x = j
           ·subst e; exact HC2.out
           exact h2 x (by omega)⟩
         exact Or.inr ⟨x, by omega, h2, h3⟩⟩
        case measure => simp [intOf]; omega
       obtain rfl : m = j := by omega
       clear hj hjm
       obtain ⟨-, r2, r3⟩ := K.out.S.at (k := k) (by omega)
       generalize cur k = RK at r2
       rcases hE with ⟨rfl, hE⟩ | ⟨x, hx, rfl, hE⟩
       ·have HE := qh (fun j hj => (by rw [HY.out]; exact hE j hj : cur j ≠ by' k))
        clear hE
        go_wp2_with fail
        go_ret
        have hl := HF.out.last HFd.out HE.out
        have hk2 := K.out.setS HB.out (k := k) (by omega) Y
        rw [HY.out] at hl
        obtain ⟨l1, ⟨a', b', l2⟩, l3⟩ := hl
        exact agPost_yes hk2.O hk2.S l1 ⟨a', b', _, l2⟩ (prs_more HFd.out.el HFd.out.efree l3) (fun x hx => by rw [bD (by omega)]; exact HR.out x hx)
       have HE := qh (HF.out.next HFd.out hx (by rw [HY.out]; exact hE))
       have hxk := (HF.out.next HFd.out hx (by rw [HY.out]; exact hE)).1
       have hx0 : (0 : Int) ≤ (x : Int) := by omega
       have hx2 : (x : Int) < 16 := by omega
       have K2 := qh (K.out.setS HB.out (k := k) (by omega) Y)
       obtain ⟨-, r4, r5⟩ := K.out.S.at (k := x) (by omega)
       rw [hE] at r4
       clear hE
       go_wp2_with fail
       go_roundw
       case rel =>
        obtain ⟨-, d', hd, hF2⟩ := HE.out
        rw [HY.out] at hF2
        exact ⟨x, _, d', rfl, K2.out.setS HB.out (k := x) (by omega) (-1), hF2, fun j hj => by rw [bD (by omega), bD (by omega)]; exact HR.out j hj⟩
       case measure =>
        obtain ⟨-, d', hd, hF2⟩ := HE.out
        have h1 := HDp.out k dd HF.out.dep hkm HF.out.fin
        have h2 := HDp.out x d' hF2.dep hx hF2.fin
        show dp (intOf (.int .i64 (x : Int))).toNat < dp (intOf (.int .i64 (k : Int))).toNat
        simp only [intOf, Int.toNat_natCast]
        omega
end Go.Proofs.YtikjjpjekchcjaaGreat.Asg
