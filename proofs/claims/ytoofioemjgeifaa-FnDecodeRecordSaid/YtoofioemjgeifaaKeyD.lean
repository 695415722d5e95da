/-
  DecodeKey of the program: decodeNum, decodeValue, and the loop over the values. Conditions: the text is no longer than Go lets one be.
-/
import Derived.Test.YtoofioemjgeifaaKeyE
import Derived.BigQuiet
import Derived.Deep.QuietTactic
namespace Go.Proofs.Ytoofioemjgeifaa
open Go.RowKit
set_option linter.unusedVariables false
set_option linter.unusedSimpArgs false

/-- The four bytes that a number has, read back. -/
def dnum (a b c d : Int) : Int := ((a * 50 + b) * 50 + c) * 80 + d - 999999
def dnOk (a b c d : Int) : Bool := decide (0 ≤ a) && decide (a ≤ 9) && decide (0 ≤ b) && decide (b < 50) && decide (0 ≤ c) && decide (c < 50) && decide (0 ≤ d) && decide (d < 80) && decide (dnum a b c d ≤ 999999)
theorem dnOk_no {a b c d : Int} (h : a < 0 ∨ 9 < a ∨ b < 0 ∨ 50 ≤ b ∨ c < 0 ∨ 50 ≤ c ∨ d < 0 ∨ 80 ≤ d ∨ 999999 < dnum a b c d) : dnOk a b c d = false := by
  cases hh : dnOk a b c d
  · rfl
  · unfold dnOk at hh
    simp only [Bool.and_eq_true, decide_eq_true_eq] at hh
    omega
theorem dnOk_yes {a b c d : Int} (h : 0 ≤ a) (h1 : a ≤ 9) (h2 : 0 ≤ b) (h3 : b < 50) (h4 : 0 ≤ c) (h5 : c < 50) (h6 : 0 ≤ d) (h7 : d < 80) : dnOk a b c d = decide (dnum a b c d ≤ 999999) := by
  unfold dnOk
  simp [h, h1, h2, h3, h4, h5, h6, h7]
theorem ret_ib {a b : Int} {p q : Bool} (h : a = b) (k : p = q) : Ending.returned (.tuple #[.int .i64 a, .bool p]) = .returned (.tuple #[.int .i64 b, .bool q]) := by rw [h, k]
def Num2 (a b c d : Int) (w : World) (e : Ending) (w' : World) : Prop :=
  ∃ n : Int, e = .returned (.tuple #[.int .i64 n, .bool (dnOk a b c d)]) ∧ (dnOk a b c d = true → n = dnum a b c d) ∧ -999999 ≤ n ∧ n ≤ 3000000 ∧ ∃ k, w' = w.drewN k

set_option maxHeartbeats 1000000 in
theorem dnumI (s : ByteArray) (x0 x1 x2 x3 : Int) (w : World) (hs : 4 ≤ s.size) (e0 : ((s[0]'(by omega)).toNat : Int) = x0) (e1 : ((s[1]'(by omega)).toNat : Int) = x1) (e2 : ((s[2]'(by omega)).toNat : Int) = x2) (e3 : ((s[3]'(by omega)).toNat : Int) = x3) :
    Calls Try.prog 61 #[.string s] w (Num2 (x0 - 48) (x1 - 32) (x2 - 32) (x3 - 32) w) := by
  have r0 : 0 ≤ x0 ∧ x0 ≤ 255 := by have := (s[0]'(by omega)).toNat_lt; omega
  have r1 : 0 ≤ x1 ∧ x1 ≤ 255 := by have := (s[1]'(by omega)).toNat_lt; omega
  have r2 : 0 ≤ x2 ∧ x2 ≤ 255 := by have := (s[2]'(by omega)).toNat_lt; omega
  have r3 : 0 ≤ x3 ∧ x3 ≤ 255 := by have := (s[3]'(by omega)).toNat_lt; omega
  have s0 : (0 : Int) < (s.size : Int) := by omega
  have s1 : (1 : Int) < (s.size : Int) := by omega
  have s2 : (2 : Int) < (s.size : Int) := by omega
  have s3 : (3 : Int) < (s.size : Int) := by omega
  go_enter Try.func61, Try.ntmps61
  go_wp2_with fail
  have v0 : IntKind.i64.wrap x0 = x0 := IntWalk.i64_in _ (by omega)
  have v1 : IntKind.i64.wrap x1 = x1 := IntWalk.i64_in _ (by omega)
  have v2 : IntKind.i64.wrap x2 = x2 := IntWalk.i64_in _ (by omega)
  have v3 : IntKind.i64.wrap x3 = x3 := IntWalk.i64_in _ (by omega)
  have u0 : IntKind.i64.wrap (x0 - 48) = x0 - 48 := IntWalk.i64_in _ (by omega)
  have u1 : IntKind.i64.wrap (x1 - 32) = x1 - 32 := IntWalk.i64_in _ (by omega)
  have u2 : IntKind.i64.wrap (x2 - 32) = x2 - 32 := IntWalk.i64_in _ (by omega)
  have u3 : IntKind.i64.wrap (x3 - 32) = x3 - 32 := IntWalk.i64_in _ (by omega)
  go_quiet (fail)
  clear v0 v1 v2 v3 u0 u1 u2 u3 e0 e1 e2 e3 s0 s1 s2 s3
  go_wp2_with fail
  all_goals (first
    | (have hno : dnOk (x0 - 48) (x1 - 32) (x2 - 32) (x3 - 32) = false := dnOk_no (by omega)
       go_ret2
       exact ⟨0, ret_ib rfl hno.symm, fun h => absurd (hno.symm.trans h) (by simp), by omega, by omega, _, rfl⟩)
    | (have hyes : dnOk (x0 - 48) (x1 - 32) (x2 - 32) (x3 - 32) = decide (dnum (x0 - 48) (x1 - 32) (x2 - 32) (x3 - 32) ≤ 999999) := dnOk_yes (by omega) (by omega) (by omega) (by omega) (by omega) (by omega) (by omega) (by omega)
       go_ret2
       exact ⟨dnum (x0 - 48) (x1 - 32) (x2 - 32) (x3 - 32), ret_ib rfl hyes.symm, fun _ => rfl, by unfold dnum; omega, by unfold dnum; omega, _, rfl⟩))

end Go.Proofs.Ytoofioemjgeifaa
