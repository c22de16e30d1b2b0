/-
  Layer 3: Field, and the laws GrayFields, GrayExamples.
-/
import Derived.Test.YtlhechkaljodmaaGrayK
import Derived.Test.YtlhechkaljodmaaBitsD
import Derived.Test.YtlhechkaljodmaaSliceLib
namespace Go.Proofs.Ytlhechkaljodmaa
open Go.RowKit GrayMath BitsMath

theorem getR_bd (xs : List Nat) (p : Int) (k : Int) (n : Nat) (hk : k = (n : Int)) : 0 ≤ getR xs p k ∧ getR xs p k < (2 : Int) ^ n := by
  subst hk
  unfold getR
  have hp : (0 : Int) < 2 ^ n := Int.pow_pos (by decide)
  split
  · rename_i he
    obtain ⟨h1, h2, h3, h4, h5⟩ := fld_ok he
    obtain ⟨s1, s2⟩ := small_of h1
    have := getV_lt xs p.toNat (n : Int).toNat xs.length s2 (by omega)
    rw [Int.toNat_natCast] at this ⊢
    have e : ((2 ^ n : Nat) : Int) = 2 ^ n := by push_cast; rfl
    omega
  · omega

def fieldA (xs : List Nat) (p : Int) : Int := if fldE xs p 13 = 0 then altA (getR xs p 13) else 0
def fieldS (xs : List Nat) (p : Int) : Int := if fldE xs p 13 = 0 then altS (getR xs p 13) else 0
def fieldR (xs : List Nat) (p : Int) : Int := if fldE xs p 13 = 0 then altE (getR xs p 13) else fldE xs p 13

set_option maxRecDepth 100000 in
set_option maxHeartbeats 2000000 in
theorem Field_call (a : Option Addr) (m c : Nat) (xs : List Nat) (p : Int) (w : World) (h : U8s w a m xs) :
    Calls Try.prog 21 #[.slice a m c, .int .i64 p] w fun e w' => e = .returned (.tuple #[.int .i64 (fieldA xs p), .int .i64 (fieldS xs p), .int .i64 (fieldR xs p)]) ∧ Below w.heap.size w w' := by
  have H := Lib.hid h
  clear h
  obtain ⟨b0, b1⟩ := getR_bd xs p 13 13 rfl
  have hcv : IntKind.i64.wrap (getR xs p 13) = getR xs p 13 := IntWalk.i64_in _ (by constructor <;> simp at b1 <;> omega)
  unfold fieldA fieldS fieldR
  by_cases he : fldE xs p 13 = 0
  · rw [if_pos he, if_pos he, if_pos he]
    have HE := Lib.hid he
    clear he
    go_enter Try.func21, Try.ntmps21
    go_wp2_with fail
    refine (Get_call a m c xs _ _ _ H.out (by decide) (by decide)).mono ?_
    rw [HE.out]
    rintro e w1 ⟨rfl, hb1⟩
    go_wp2_with fail
    refine (Altitude_call _ _).mono ?_
    rintro e w2 ⟨rfl, hb2⟩
    go_wp2
    go_ret3
    exact ⟨rfl, hb1.trans (hb2.mono hb1.size)⟩
  · rw [if_neg he, if_neg he, if_neg he]
    have hb : (fldE xs p 13 != 0) = true := by simpa using he
    clear he
    go_enter Try.func21, Try.ntmps21
    go_wp2_with fail
    refine (Get_call a m c xs _ _ _ H.out (by decide) (by decide)).mono ?_
    rintro e w1 ⟨rfl, hb1⟩
    go_wp2
    go_ret3
    exact ⟨rfl, hb1⟩

set_option maxRecDepth 100000 in
set_option maxHeartbeats 2000000 in
theorem refField03_call (a : Option Addr) (m c : Nat) (xs : List Nat) (p : Int) (w : World) (h : U8s w a m xs) :
    Calls Try.prog 22 #[.slice a m c, .int .i64 p] w fun e w' => e = .returned (.tuple #[.int .i64 (fieldA xs p), .int .i64 (fieldS xs p), .int .i64 (fieldR xs p)]) ∧ Below w.heap.size w w' := by
  have H := Lib.hid h
  clear h
  obtain ⟨b0, b1⟩ := getR_bd xs p 13 13 rfl
  have hcv : IntKind.i64.wrap (getR xs p 13) = getR xs p 13 := IntWalk.i64_in _ (by constructor <;> simp at b1 <;> omega)
  unfold fieldA fieldS fieldR
  by_cases he : fldE xs p 13 = 0
  · rw [if_pos he, if_pos he, if_pos he]
    have HE := Lib.hid he
    clear he
    go_enter Try.func22, Try.ntmps22
    go_wp2_with fail
    refine (refGet_call a m c xs _ _ _ H.out (by decide) (by decide)).mono ?_
    rw [HE.out]
    rintro e w1 ⟨rfl, rfl⟩
    go_wp2_with fail
    refine (refAltitude_call _ _).mono ?_
    rintro e w2 ⟨rfl, hb2⟩
    go_wp2
    go_ret3
    exact ⟨rfl, hb2⟩
  · rw [if_neg he, if_neg he, if_neg he]
    have hb : (fldE xs p 13 != 0) = true := by simpa using he
    clear he
    go_enter Try.func22, Try.ntmps22
    go_wp2_with fail
    refine (refGet_call a m c xs _ _ _ H.out (by decide) (by decide)).mono ?_
    rintro e w1 ⟨rfl, rfl⟩
    go_wp2
    go_ret3
    exact ⟨rfl, Below.refl _ _⟩

set_option maxRecDepth 100000 in
set_option maxHeartbeats 2000000 in
theorem fields_walk (a : Option Addr) (m c : Nat) (xs : List Nat) (p : Int) (w : World) (h : U8s w a m xs) :
    Calls Try.prog 7 #[.slice a m c, .int .i64 p] w fun e w' => e = .returned (.bool true) ∧ Below w.heap.size w w' := by
  have H := Lib.hid h
  clear h
  by_cases hm : 200 < m
  · have hm' : (200 : Int) < (m : Int) := by omega
    go_enter Try.func7, Try.ntmps7
    go_wp2_with fail
    refine (awake_call _).mono ?_; rintro e w1 ⟨rfl, hb1⟩
    go_wp2_with fail
    go_ret
    exact ⟨rfl, hb1⟩
  · have hm' : ¬ (200 : Int) < (m : Int) := by omega
    go_enter Try.func7, Try.ntmps7
    go_wp2_with fail
    refine (Field_call a m c xs _ _ H.out).mono ?_; rintro e w1 ⟨rfl, hb1⟩
    have H1 := Lib.hid (H.out.below hb1)
    go_wp2_with fail
    refine (refField03_call a m c xs _ _ H1.out).mono ?_; rintro e w2 ⟨rfl, hb2⟩
    go_wp2_with fail
    refine (awake_call _).mono ?_; rintro e w3 ⟨rfl, hb3⟩
    have hB := hb1.trans (hb2.mono hb1.size)
    have hB := hB.trans (hb3.mono hB.size)
    go_wp2_with fail
    go_ret
    exact ⟨rfl, hB⟩
/-- A slice of bytes, in natural numbers. -/
theorem u8s_of_ints {W : World} {a : Option Addr} {n : Nat} {zs : List Int} (h : MySlice.IntsAt .u8 W a n zs) (hw : ∀ z ∈ zs, (Lit.int .u8 z).wf = true) : U8s W a n (zs.map Int.toNat) := by
  refine ⟨by rw [List.length_map]; exact h.len, h.bound, ?_⟩
  rcases h.cells with h0 | ⟨b, off, rfl, hc⟩
  · exact Or.inl h0
  · refine Or.inr ⟨b, off, rfl, fun i hi => ?_⟩
    rw [hc i hi, List.getElem?_map]
    have hlt : i < zs.length := by rw [h.len]; exact hi
    have := Go.bounds_u8 (hw zs[i] (List.getElem_mem hlt))
    rw [List.getElem?_eq_getElem hlt]
    simp only [Option.map_some, Option.getD_some]
    congr 2
    omega
end Go.Proofs.Ytlhechkaljodmaa
