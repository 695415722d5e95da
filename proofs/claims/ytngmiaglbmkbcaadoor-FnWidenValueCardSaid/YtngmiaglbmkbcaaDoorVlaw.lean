/-
  The exact statements on one and two values and on keys, walked; and the small functions that they go through. Conditions: texts are no longer than Go lets one be.
-/
import Derived.Test.YtngmiaglbmkbcaaDoorCmp
import Derived.Deep.RegionHeld3
import Derived.Deep.DrawnRows
namespace Go.Proofs.YtngmiaglbmkbcaaDoor
open Go.RowKit
set_option linter.unusedVariables false
set_option linter.unusedSimpArgs false

theorem toV (v : Vl) (w : World) :
    Calls Tryd.prog 7 #[.agg #[.int .i64 v.k, .int .i64 v.n, .string v.s]] w fun e w' => e = .returned (.agg #[.int .i64 v.k, .int .i64 v.n, .string v.s]) ∧ Below w.heap.size w w' := by
  go_enter Tryd.func7, Tryd.ntmps7
  go_wp2
  go_returns
  exact ⟨rfl, by go_grown⟩

theorem szV (v : Vl) (left : Int) (w : World) (hs : v.s.size ≤ 9223372036854775807) (h0 : 0 ≤ left) (h1 : left ≤ 1048576) :
    Calls Tryd.prog 5 #[.agg #[.int .i64 v.k, .int .i64 v.n, .string v.s], .int .i64 left] w fun e w' => e = .returned (.int .i64 (if (v.s.size : Int) ≤ left then left - v.s.size else -1)) ∧ Below w.heap.size w w' := by
  by_cases h : (v.s.size : Int) ≤ left
  · rw [if_pos h]
    go_enter Tryd.func5, Tryd.ntmps5
    go_wp2
    go_ret
    exact ⟨rfl, by go_grown⟩
  · rw [if_neg h]
    go_enter Tryd.func5, Tryd.ntmps5
    go_wp2
    go_ret
    exact ⟨rfl, by go_grown⟩

theorem vvIx (v : Vl) (w : World) (hs : v.s.size ≤ 9223372036854775807) :
    Calls Tryd.prog 11 #[.agg #[.int .i64 v.k, .int .i64 v.n, .string v.s]] w fun e w' => e = .returned (.bool (vv v)) ∧ Below w.heap.size w w' := vvI _ _ _ w hs

end Go.Proofs.YtngmiaglbmkbcaaDoor
