/-
  Layer 38 (rules): the program's Next, for every case and state.
-/
import Derived.Test.YtfgalaalopkclaaRulesY1
import Derived.Test.YtfgalaalopkclaaRulesY2
namespace Go.Proofs.Ytfgalaalopkclaa
open Go.RowKit PlaneMath PilotMath RulesMath MyHeap MyOwn MyCopy

theorem pNext_call (a : Option Addr) (n c : Nat) (s : RulesMath.Set) (z v z' v' t fl k : Int) (st : NSt) (w : World) (h : Ints w a n s.rs) (hs : 0 ≤ st.a.s) :
    Calls Try.prog 26 #[setV a n c s, nstV st, .agg #[.int .i64 z, .int .i64 v], .agg #[.int .i64 z', .int .i64 v'], .int .i64 t, .int .i64 fl, .int .u8 k] w (NxPost s z v z' v' t fl k st w) := by
  by_cases hE : whlE s z v z' v' t k = 0
  · by_cases hB : bndE st.a = 0
    · by_cases hA0 : st.age < 0
      · exact pNext_age0 a n c s z v z' v' t fl k st w h hs hE hB hA0
      · by_cases hA : 1000 < st.age
        · exact pNext_age1 a n c s z v z' v' t fl k st w h hs hE hB hA0 hA
        · by_cases hC : chE s z v z' v' t fl k = 0
          · obtain hg | hg | hg : st.a.s = 0 ∨ st.a.s = 1 ∨ st.a.s = 2 := by have := bnd_s hB; omega
            · exact pNext_new a n c s z v z' v' t fl k st w h hs hE hB hA0 hA hC hg
            · cases hw : alwB z fl k 1 with
              | false => exact pNext_bar1 a n c s z v z' v' t fl k st w h hs hE hB hA0 hA hC hg hw
              | true =>
                cases hT : turnB s z v z' v' t fl k st 1 with
                | true => exact pNext_turn1 a n c s z v z' v' t fl k st w h hs hE hB hA0 hA hC hg hw hT
                | false =>
                  cases hH : holdB st (enA s z v z' v' 1 t) with
                  | true => exact pNext_hold1 a n c s z v z' v' t fl k st w h hs hE hB hA0 hA hC hg hw hT hH
                  | false => exact pNext_same1 a n c s z v z' v' t fl k st w h hs hE hB hA0 hA hC hg hw hT hH
            · cases hw : alwB z fl k 2 with
              | false => exact pNext_bar2 a n c s z v z' v' t fl k st w h hs hE hB hA0 hA hC hg hw
              | true =>
                cases hT : turnB s z v z' v' t fl k st 2 with
                | true => exact pNext_turn2 a n c s z v z' v' t fl k st w h hs hE hB hA0 hA hC hg hw hT
                | false =>
                  cases hH : holdB st (enA s z v z' v' 2 t) with
                  | true => exact pNext_hold2 a n c s z v z' v' t fl k st w h hs hE hB hA0 hA hC hg hw hT hH
                  | false => exact pNext_same2 a n c s z v z' v' t fl k st w h hs hE hB hA0 hA hC hg hw hT hH
          · exact pNext_ch a n c s z v z' v' t fl k st w h hs hE hB hA0 hA hC
    · exact pNext_bnd a n c s z v z' v' t fl k st w h hs hE hB
  · exact pNext_whl a n c s z v z' v' t fl k st w h hE
end Go.Proofs.Ytfgalaalopkclaa
