/-
  Comparisons: cmp.Compare at int and string, toInt, compare, CompareValues, CompareKeys of the program and of the reference. Conditions: texts are no longer than Go lets one be.
-/
import Derived.Test.YtngmiaglbmkbcaaDoorVal
namespace Go.Proofs.YtngmiaglbmkbcaaDoor
open Go.RowKit
set_option linter.unusedVariables false
set_option linter.unusedSimpArgs false

def cmpI (x y : Int) : Int := if x < y then -1 else if y < x then 1 else 0
def cmpT (s t : ByteArray) : Int := if Op.bytesLess s.toList t.toList = true then -1 else if (s.toList == t.toList) = true then 0 else 1
def ti (b : Bool) : Int := if b then 1 else 0

structure Vl where
  k : Int
  n : Int
  s : ByteArray
def Vl.agg (v : Vl) : Value := .agg #[.int .i64 v.k, .int .i64 v.n, .string v.s]
def encV (v : Vl) : List Value := [.int .i64 v.k, .int .i64 v.n, .string v.s]
def vv (v : Vl) : Bool := vvB v.k v.n v.s
def ci (a b : Vl) : Int := if a.k ≠ b.k then cmpI a.k b.k else if a.k = 1 then cmpI a.n b.n else cmpT a.s b.s
def cs (a b : Vl) : Int := if a.k ≠ b.k then cmpI a.k b.k else if a.n ≠ b.n then cmpI a.n b.n else cmpT a.s b.s

/-! ### CompareValues -/
theorem vv_kind {v : Vl} (h : vv v = true) : (v.k = 0 ∧ v.n = 0 ∧ emp v.s = true) ∨ (v.k = 1 ∧ -999999 ≤ v.n ∧ v.n ≤ 999999 ∧ emp v.s = true) ∨ (v.k = 2 ∧ v.n = 0 ∧ vtB v.s = true) := by
  unfold vv vvB at h
  by_cases h0 : v.k = 0
  · rw [if_pos h0] at h
    simp at h
    exact .inl ⟨h0, h.1, h.2⟩
  · rw [if_neg h0] at h
    by_cases h1 : v.k = 1
    · rw [if_pos h1] at h
      rw [Bool.and_eq_true, rng_iff] at h
      exact .inr (.inl ⟨h1, h.1.1, h.1.2, h.2⟩)
    · rw [if_neg h1] at h
      by_cases h2 : v.k = 2
      · rw [if_pos h2] at h
        simp at h
        exact .inr (.inr ⟨h2, h.1, h.2⟩)
      · rw [if_neg h2] at h
        cases h
theorem emp_eq {s t : ByteArray} (h : emp s = true) (h' : emp t = true) : s.toList = t.toList := by
  unfold emp at h h'
  rw [List.isEmpty_iff] at h h'
  rw [h, h']
theorem bytesLess_irrefl : ∀ l : List UInt8, Op.bytesLess l l = false
  | [] => rfl
  | a :: l => by simp [Op.bytesLess, bytesLess_irrefl l]
theorem cmpT_same {s t : ByteArray} (h : s.toList = t.toList) : cmpT s t = 0 := by
  unfold cmpT
  rw [h, bytesLess_irrefl]
  simp
theorem ci_cs {a b : Vl} (ha : vv a = true) (hb : vv b = true) : ci a b = cs a b := by
  unfold ci cs
  by_cases h : a.k = b.k
  · have e1 : ¬ (a.k ≠ b.k) := by simp [h]
    rw [if_neg e1, if_neg e1]
    rcases vv_kind ha with ⟨ka, na, sa⟩ | ⟨ka, na, na', sa⟩ | ⟨ka, na, sa⟩ <;> rcases vv_kind hb with ⟨kb, nb, sb⟩ | ⟨kb, nb, nb', sb⟩ | ⟨kb, nb, sb⟩ <;> try (exfalso; omega)
    · rw [if_neg (show ¬ a.k = 1 by omega), if_neg (show ¬ (a.n ≠ b.n) by simp [na, nb])]
    · rw [if_pos ka]
      by_cases hn : a.n = b.n
      · rw [if_neg (show ¬ (a.n ≠ b.n) by simp [hn]), cmpT_same (emp_eq sa sb), hn]
        simp [cmpI]
      · rw [if_pos hn]
    · rw [if_neg (show ¬ a.k = 1 by omega), if_neg (show ¬ (a.n ≠ b.n) by simp [na, nb])]
  · rw [if_pos h, if_pos h]
def cv (a b : Vl) : Int := if vv a && vv b then ci a b else 2

end Go.Proofs.YtngmiaglbmkbcaaDoor
