/-
  inRange of the reference: what it answers, for all integers. No conditions.
-/
import Derived.Test.YtgabjepoooageaaBase
import Derived.Test.YtgabjepoooageaaChecked
import Derived.Handy
namespace Go.Proofs.Ytgabjepoooageaa
open Go.RowKit
set_option linter.unusedVariables false
set_option linter.unusedSimpArgs false

def rng (n lo hi : Int) : Bool := decide (lo ≤ n) && decide (n ≤ hi)
theorem rng_iff {n lo hi : Int} : rng n lo hi = true ↔ lo ≤ n ∧ n ≤ hi := by simp [rng]
theorem rng_no {n lo hi : Int} : rng n lo hi = false ↔ n < lo ∨ hi < n := by
  unfold rng
  rw [Bool.and_eq_false_iff]
  simp
theorem inR (n lo hi : Int) (w : World) : Calls Try.prog 49 #[.int .i64 n, .int .i64 lo, .int .i64 hi] w fun e w' => e = .returned (.bool (rng n lo hi)) ∧ w = w' := by
  by_cases h : lo ≤ n
  all_goals
    go_enter Try.func49, Try.ntmps49
    go_wp2
    go_ret
    exact ⟨ret_bool (by simp [rng, h] <;> omega), rfl⟩

end Go.Proofs.Ytgabjepoooageaa
