/-
  Go's '==' and '!=' of two values: they ask the three parts. No conditions.
-/
import Derived.Test.YtngmiaglbmkbcaaOrd
namespace Go.Proofs.Ytngmiaglbmkbcaa
open Go.RowKit
set_option linter.unusedVariables false
set_option linter.unusedSimpArgs false

@[go_sem high] theorem run_neq_V (x y : Vl) (W : World) : (binOp .neq 28 (.agg #[.int .i64 x.k, .int .i64 x.n, .string x.s]) (.agg #[.int .i64 y.k, .int .i64 y.n, .string y.s])).run Try.prog W = .ok (.bool (!eqv x y)) W := by
  go_simp
  unfold eqv
  by_cases h1 : x.k = y.k <;> by_cases h2 : x.n = y.n <;> by_cases h3 : x.s.toList = y.s.toList <;> simp [h1, h2, h3]
@[go_sem high] theorem run_eql_V (x y : Vl) (W : World) : (binOp .eql 28 (.agg #[.int .i64 x.k, .int .i64 x.n, .string x.s]) (.agg #[.int .i64 y.k, .int .i64 y.n, .string y.s])).run Try.prog W = .ok (.bool (eqv x y)) W := by
  go_simp
  unfold eqv
  by_cases h1 : x.k = y.k <;> by_cases h2 : x.n = y.n <;> by_cases h3 : x.s.toList = y.s.toList <;> simp [h1, h2, h3]

end Go.Proofs.Ytngmiaglbmkbcaa
