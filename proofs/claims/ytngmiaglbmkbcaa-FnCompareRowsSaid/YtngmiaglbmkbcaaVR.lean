/-
  The statement that rows are ordered like their values. Conditions: the argument reads as a list of bytes.
-/
import Derived.Test.YtngmiaglbmkbcaaVTwo
import Derived.Test.YtngmiaglbmkbcaaRows4
import Derived.Test.YtngmiaglbmkbcaaOrd
import Derived.Test.YtngmiaglbmkbcaaVE
import Derived.Test.YtngmiaglbmkbcaaRow
import Derived.BigQuiet
import Derived.Deep.QuietTactic
namespace Go.Proofs.Ytngmiaglbmkbcaa
open Go.RowKit
set_option linter.unusedVariables false
set_option linter.unusedSimpArgs false

theorem sm_fit1 {vs : List Vl} (h : ∀ v ∈ vs, Sm v) : Fit vs := fun v hv => by have := (h v hv).2.2.2.2; omega
def eqL : List Vl → List Vl → Bool
  | [], [] => true
  | a :: xs, b :: ys => eqv a b && eqL xs ys
  | _, _ => false
theorem eqL_iff : ∀ {xs ys : List Vl}, eqL xs ys = true ↔ xs = ys
  | [], [] => by simp [eqL]
  | [], b :: ys => by simp [eqL]
  | a :: xs, [] => by simp [eqL]
  | a :: xs, b :: ys => by
    unfold eqL
    rw [Bool.and_eq_true, eqv_iff, eqL_iff, List.cons.injEq]
theorem eqL_no {xs ys : List Vl} {k : Nat} (h1 : k < xs.length) (h2 : k < ys.length) (h : eqv xs[k] ys[k] = false) : eqL xs ys = false := by
  cases hh : eqL xs ys
  · rfl
  · have := eqL_iff.1 hh
    subst this
    rw [eqv_iff.2 rfl] at h
    cases h
theorem eqL_len {xs ys : List Vl} (h : xs.length ≠ ys.length) : eqL xs ys = false := by
  cases hh : eqL xs ys
  · rfl
  · exact absurd (congrArg List.length (eqL_iff.1 hh)) h
theorem eqL_yes {xs ys : List Vl} (hl : xs.length = ys.length) (h : ∀ k (h1 : k < xs.length) (h2 : k < ys.length), eqv xs[k] ys[k] = true) : eqL xs ys = true :=
  eqL_iff.2 (List.ext_getElem hl fun k h1 h2 => eqv_iff.1 (h k h1 h2))

set_option maxHeartbeats 1000000 in
theorem eqRow_any (A B : Option Addr) (c d : Nat) (xs ys : List Vl) (w : World) (hr : Rl encV 3 w A xs) (hq : Rl encV 3 w B ys) (lx : xs.length ≤ 1000) (ly : ys.length ≤ 1000) :
    Calls Try.prog 29 #[.slice A xs.length c, .slice B ys.length d] w fun e w' => e = .returned (.bool (eqL xs ys)) ∧ Below w.heap.size w w' := by
  by_cases hl : xs.length = ys.length
  · go_enter Try.func29, Try.ntmps29
    have hlh := hide hl
    have n0 : ((xs.length : Int) != (ys.length : Int)) = false := by rw [hl]; simp
    clear hl
    go_wp2_with fail
    go_loopw [5] (fun v wr => ∃ k : Nat, k ≤ xs.length ∧ v = .int .i64 k ∧ Below w.heap.size w wr ∧ Hid (∀ t (ht : t < k) (h1 : t < xs.length) (h2 : t < ys.length), eqv xs[t] ys[t] = true)) (fun v _ => xs.length - (intOf v).toNat)
    case atStart => exact ⟨0, by omega, rfl, Below.refl _ _, fun t ht => absurd ht (by omega)⟩
    case round =>
      obtain ⟨k, hk, rfl, hb, hno⟩ := hrel
      by_cases hlt : k < xs.length
      · have hlt2 : k < ys.length := by have := hlh.out; omega
        obtain ⟨b, off, rfl, c0, c1, c2⟩ := (hr.below hb).val hlt
        obtain ⟨b', off', rfl, d0, d1, d2⟩ := (hq.below hb).val hlt2
        have HX := hide (fun h => eqL_no hlt hlt2 h)
        have HY : Hid (eqv xs[k] ys[k] = true → ∀ t (ht : t < k + 1) (h1 : t < xs.length) (h2 : t < ys.length), eqv xs[t] ys[t] = true) := fun h t ht h1 h2 => by
          rcases Nat.lt_or_ge t k with h3 | h3
          · exact hno.out t h3 h1 h2
          · obtain rfl : t = k := by omega
            exact h
        generalize xs[k] = x at c0 c1 c2 HX HY
        generalize ys[k] = y at d0 d1 d2 HX HY
        have i1 : (k : Int) < (xs.length : Int) := by omega
        have i2 : (k : Int) < (ys.length : Int) := by omega
        clear hno
        cases hv : eqv x y
        · have HF := hide (HX.out hv)
          clear HX HY
          go_wp2_with fail
          go_quiet (fail)
          go_wp2_with fail
          go_ret
          exact ⟨ret_bool HF.out.symm, below_drewN hb _⟩
        · have HF := hide (HY.out hv)
          clear HX HY
          go_wp2_with fail
          go_quiet (fail)
          go_wp2_with fail
          go_roundw
          case rel => exact ⟨k + 1, by omega, by go_num, below_drewN hb _, HF⟩
          case measure => simp [intOf]; omega
      · obtain rfl : k = xs.length := by omega
        have HF := hide (eqL_yes hlh.out (fun t h1 h2 => hno.out t h1 h1 h2))
        go_wp2
        go_ret
        exact ⟨ret_bool HF.out.symm, hb⟩
  · have HF := hide (eqL_len hl)
    have n0 : ((xs.length : Int) != (ys.length : Int)) = true := by
      rw [bne, Bool.not_eq_true', beq_eq_false_iff_ne]
      omega
    clear hl
    go_enter Try.func29, Try.ntmps29
    go_wp2_with fail
    go_ret
    exact ⟨ret_bool HF.out.symm, Below.refl _ _⟩

end Go.Proofs.Ytngmiaglbmkbcaa
