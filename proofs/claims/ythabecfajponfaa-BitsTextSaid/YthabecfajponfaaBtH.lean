/-
  Layer 1 (bits): strings, compared and copied (clearwaykit).
-/
import Derived.Test.YthabecfajponfaaBtD
import Derived.BigQuiet
namespace Go.Proofs.Ythabecfajponfaa
open Go.RowKit BitsMath ParityMath MyHeap MyCopy MyOwn

def gu (l : List Nat) (k : Nat) : Nat := l[k]?.getD 0
def BPost (r : Bool) (w : World) (e : Ending) (w' : World) : Prop := e = .returned (.bool r) ∧ Below w.heap.size w w'
theorem bPost_of {r r' : Bool} {w w' : World} (h : r = r') (hB : Below w.heap.size w w') : BPost r' w (.returned (.bool r)) w' := by subst h; exact ⟨rfl, hB⟩
theorem below_drewN' {B : Nat} {a w : World} (h : Below B a w) (n : Nat) : Below B a (w.drewN n) := h.trans ⟨rfl, rfl, rfl, Nat.le_refl _, fun _ _ => rfl⟩
/-- The first k are equal. -/
def SameI (xs ys : List Nat) (k : Nat) : Prop := ∀ i, i < k → gu xs i = gu ys i
theorem sameI_all {xs ys : List Nat} (hl : xs.length = ys.length) (h : SameI xs ys xs.length) : xs = ys := by
  apply List.ext_getElem hl
  intro i h1 h2
  have := h i h1
  unfold gu at this
  simpa [List.getElem?_eq_getElem h1, List.getElem?_eq_getElem h2] using this

set_option maxRecDepth 100000 in
set_option maxHeartbeats 2000000 in
theorem equalBytes_call (a a' : Option Addr) (n n' c c' : Nat) (xs ys : List Nat) (w : World) (h : U8s w a n xs) (h' : U8s w a' n' ys) :
    Calls Try.prog 32 #[.slice a n c, .slice a' n' c'] w (BPost (decide (xs = ys)) w) := by
  have hm := h.bound
  have hm' := h'.bound
  have hl := h.len
  have hl' := h'.len
  by_cases hn : n = n'
  · subst hn
    have hcs := h.cells
    have hcs' := h'.cells
    clear h h'
    have HL := Lib.hid (And.intro hl hl')
    clear hl hl'
    have hnn : ((n : Int) != (n : Int)) = false := by simp
    go_enter Try.func32, Try.ntmps32
    go_wp2
    go_loopw [5] (fun k wr => ∃ j : Nat, j ≤ n ∧ k = .int .i64 j ∧ SameI xs ys j ∧ ∃ d, wr = w.drewN d) (fun k _ => n - (intOf k).toNat)
    case atStart => exact ⟨0, by omega, rfl, fun i hi => by omega, 0, rfl⟩
    case round =>
      obtain ⟨k, hk, rfl, hS, d, rfl⟩ := hrel
      have HS := Lib.hid hS
      clear hS
      by_cases hlt : k < n
      · rcases hcs with h0 | ⟨b, off, rfl, hc⟩
        · omega
        rcases hcs' with h0 | ⟨b', off', rfl, hc'⟩
        · omega
        have x0 : w.cell? ⟨b, off + k, none⟩ = some (.int .u8 (gu xs k : Int)) := hc k hlt
        have y0 : w.cell? ⟨b', off' + k, none⟩ = some (.int .u8 (gu ys k : Int)) := hc' k hlt
        clear hc hc'
        have hk0 : (0 : Int) ≤ (k : Int) := by omega
        have hk1 : (k : Int) < (n : Int) := by omega
        by_cases hx : gu xs k = gu ys k
        · have ht : (((gu xs k : Nat) : Int) != ((gu ys k : Nat) : Int)) = false := by rw [bne_eq_false_iff_eq, hx]
          have HX := Lib.hid hx
          clear hx
          go_wp2
          go_quiet (fail)
          go_wp2
          go_roundw
          case rel => exact ⟨k + 1, by omega, by go_num, fun i hi => by
            by_cases e : i = k
            · subst e; exact HX.out
            · exact HS.out i (by omega), _, rfl⟩
          case measure => simp [intOf]; omega
        · have ht : (((gu xs k : Nat) : Int) != ((gu ys k : Nat) : Int)) = true := by rw [bne_iff_ne]; omega
          have HX := Lib.hid hx
          clear hx
          go_wp2
          go_quiet (fail)
          go_wp2
          go_ret
          exact bPost_of (by rw [decide_eq_false (fun e => HX.out (by rw [e]))]) (below_drewN' (below_drewN' (Below.refl _ _) _) _)
      · obtain rfl : k = n := by omega
        go_wp2
        go_ret
        exact bPost_of (by rw [decide_eq_true (sameI_all (HL.out.1.trans HL.out.2.symm) (by rw [HL.out.1]; exact HS.out))]) (below_drewN' (Below.refl _ _) _)
  · have hnn : ((n : Int) != (n' : Int)) = true := by rw [bne_iff_ne]; omega
    have HN := Lib.hid hn
    clear hn h h'
    have HL := Lib.hid (And.intro hl hl')
    clear hl hl'
    go_enter Try.func32, Try.ntmps32
    go_wp2
    go_ret
    exact bPost_of (by rw [decide_eq_false (fun e => HN.out (by rw [← HL.out.1, ← HL.out.2, e]))]) (Below.refl _ _)
theorem cells_one {w : World} {x : Value} {T : TypeId} {n : Nat} (hn : n = w.heap.size) : ∀ (j : Nat) (u : Value), [x][j]? = some u → (w.alloc (.cells #[x] T)).cell? ((⟨n, 0, none⟩ : Addr).add j) = some u := by
  subst hn
  intro j u hu
  have hadd : (⟨w.heap.size, 0, none⟩ : Addr).add j = ⟨w.heap.size, j, none⟩ := by unfold Addr.add; split <;> simp_all
  rw [hadd, World.cell?_alloc_at _ _ _ _ rfl]
  match j, hu with
  | 0, h => simpa using h
theorem flatU_take {l : List Nat} {k : Nat} (hk : k < l.length) : flatU (l.take (k + 1)) = flatU (l.take k) ++ [.int .u8 ((gu l k : Nat) : Int)] := by
  unfold flatU gu
  rw [List.take_succ_eq_append_getElem hk, List.getElem?_eq_getElem hk]
  simp only [List.map_append, List.map_cons, List.map_nil, Option.getD_some]
theorem gu_at {w : World} {a : Option Addr} {n : Nat} {xs : List Nat} (h : U8s w a n xs) {k : Nat} (hk : k < n) : ∃ b off, a = some ⟨b, off, none⟩ ∧ w.cell? ⟨b, off + k, none⟩ = some (.int .u8 ((gu xs k : Nat) : Int)) := u8s_at h hk

set_option maxRecDepth 100000 in
set_option maxHeartbeats 4000000 in
theorem copyBytes_call (a : Option Addr) (n c : Nat) (l : List Nat) (w : World) (h : U8s w a n l) (hn : n ≤ 1000) :
    Calls Try.prog 36 #[.slice a n c] w (OwnPost l w) := by
  have HL := Lib.hid h
  obtain ⟨i0, hi, hiz, his, hib⟩ := info_parts' infoU8
  have HI := Lib.hid (And.intro hi (And.intro hiz (And.intro his hib)))
  clear h hi hiz his hib
  go_enter Try.func36, Try.ntmps36
  go_wp2
  go_loopw [3, 4] (fun v kv wr => ∃ k : Nat, k ≤ n ∧ kv = .int .i64 k ∧ wr.ownsRow w.heap.size 5 1 v k (flatU (l.take k)) ∧ Below w.heap.size w wr) (fun _ kv _ => n - (intOf kv).toNat)
  case atStart => exact ⟨0, by omega, rfl, ⟨rfl, Or.inl ⟨rfl, rfl⟩⟩, Below.refl _ _⟩
  case round =>
    obtain ⟨k, hk, rfl, hO, hB⟩ := hrel
    have H := Lib.hid (And.intro hO hB)
    by_cases hlt : k < n
    · obtain ⟨b, off, rfl, x0⟩ := gu_at (HL.out.below hB) hlt
      have hk0 : (0 : Int) ≤ (k : Int) := by omega
      have hk1 : (k : Int) < (n : Int) := by omega
      have hz := hB.size
      have HZ := Lib.hid hz
      have hown : (wr.alloc (.cells #[.int .u8 ((gu l k : Nat) : Int)] 5)).ownsRow w.heap.size 5 1 _ k (flatU (l.take k)) := ownsRow_below hO (below_alloc wr _) (Nat.le_refl _)
      have HO := Lib.hid hown
      clear hO hB hown
      go_wp2_with (refine wpList_append_src rfl _ _ 22 rfl w.heap.size 5 i0 _ 1 1 Try.underlying22 HI.out.1 HI.out.2.1 HI.out.2.2.1 HI.out.2.2.2 rfl (by decide) _ k _ rfl HO.out (some ⟨wr.heap.size, 0, none⟩) 1 1 [.int .u8 ((gu l k : Nat) : Int)] rfl (fun e => by cases e) rfl ?c1 ?c2 ?c3 ?c4 ?c5 ?_; rotate_right; intro v7 w7 hown7 hgrow)
      case c1 => intro ad had; cases had; exact cells_one rfl
      case c2 => intro u hu; simp at hu; subst hu; rfl
      case c3 => unfold maxLen; omega
      case c4 => omega
      case c5 => have := HZ.out; simp; omega
      have hg' := grownB (B := w.heap.size) HO.out hgrow (Nat.le_refl _) (by have := HZ.out; simp; omega)
      go_roundw
      case rel => exact ⟨k + 1, by omega, by go_num, by rw [flatU_take (by rw [HL.out.len]; exact hlt)]; exact hown7, (H.out.2.alloc HZ.out _).trans hg'⟩
      case measure => simp [intOf]; omega
    · obtain rfl : k = n := by omega
      clear hO hB
      go_wp2
      go_ret
      exact ⟨_, rfl, by have := H.out.1; rw [List.take_of_length_le (by rw [HL.out.len]; exact Nat.le_refl _)] at this; rw [HL.out.len]; exact this, H.out.2⟩

set_option maxRecDepth 100000 in
theorem equalBits_call (a a' : Option Addr) (n n' c c' : Nat) (xs ys : List Nat) (w : World) (h : U8s w a n xs) (h' : U8s w a' n' ys) :
    Calls Try.prog 12 #[.slice a n c, .slice a' n' c'] w (BPost (decide (xs = ys)) w) := by
  have HL := Lib.hid h
  have HL' := Lib.hid h'
  clear h h'
  go_enter Try.func12, Try.ntmps12
  go_wp2_with fail
  refine (equalBytes_call a a' n n' c c' xs ys _ HL.out HL'.out).mono ?_; rintro e w1 ⟨rfl, hb1⟩
  have HB := Lib.hid hb1
  clear hb1
  go_wp2_with fail
  go_ret
  exact ⟨rfl, HB.out⟩
set_option maxRecDepth 100000 in
theorem copyBits_call (a : Option Addr) (n c : Nat) (l : List Nat) (w : World) (h : U8s w a n l) (hn : n ≤ 1000) :
    Calls Try.prog 16 #[.slice a n c] w (OwnPost l w) := by
  have HL := Lib.hid h
  clear h
  go_enter Try.func16, Try.ntmps16
  go_wp2_with fail
  refine (copyBytes_call a n c l _ HL.out hn).mono ?_; rintro e w1 ⟨v, rfl, hO, hb1⟩
  have HB := Lib.hid (And.intro hO hb1)
  clear hb1 hO
  go_wp2_with fail
  go_ret
  exact ⟨_, rfl, HB.out.1, HB.out.2⟩
end Go.Proofs.Ythabecfajponfaa
