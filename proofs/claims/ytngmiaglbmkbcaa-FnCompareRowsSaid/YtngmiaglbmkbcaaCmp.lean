/-
  Comparisons: cmp.Compare at int and string, toInt, compare, CompareValues, CompareKeys of the program and of the reference. Conditions: texts are no longer than Go lets one be.
-/
import Derived.Test.YtngmiaglbmkbcaaVal
namespace Go.Proofs.Ytngmiaglbmkbcaa
open Go.RowKit
set_option linter.unusedVariables false
set_option linter.unusedSimpArgs false

def cmpI (x y : Int) : Int := if x < y then -1 else if y < x then 1 else 0
def cmpT (s t : ByteArray) : Int := if Op.bytesLess s.toList t.toList = true then -1 else if (s.toList == t.toList) = true then 0 else 1
def ti (b : Bool) : Int := if b then 1 else 0

theorem cmpInt_any (x y : Int) (w : World) :
    Calls Try.prog 43 #[.int .i64 x, .int .i64 y] w fun e w' => e = .returned (.int .i64 (cmpI x y)) ∧ w = w' := by
  by_cases h1 : x < y
  · have H := hide (show cmpI x y = -1 by simp [cmpI, h1])
    go_enter Try.func43, Try.ntmps43
    go_wp2
    go_ret
    exact ⟨ret_int H.out.symm, rfl⟩
  · by_cases h2 : y < x
    · have H := hide (show cmpI x y = 1 by simp [cmpI, h1, h2])
      go_enter Try.func43, Try.ntmps43
      go_wp2
      go_ret
      exact ⟨ret_int H.out.symm, rfl⟩
    · have H := hide (show cmpI x y = 0 by simp [cmpI, h1, h2])
      go_enter Try.func43, Try.ntmps43
      go_wp2
      go_ret
      exact ⟨ret_int H.out.symm, rfl⟩

theorem cmpStr_any (s t : ByteArray) (w : World) :
    Calls Try.prog 31 #[.string s, .string t] w fun e w' => e = .returned (.int .i64 (cmpT s t)) ∧ w = w' := by
  cases hl : Op.bytesLess s.toList t.toList <;> cases he : (s.toList == t.toList)
  all_goals
    have H := hide (show cmpT s t = _ by unfold cmpT; rw [hl, he])
    go_enter Try.func31, Try.ntmps31
    go_wp2
    go_ret
    exact ⟨ret_int (by rw [H.out]; rfl), rfl⟩

theorem ti_any (b : Bool) (w : World) :
    Calls Try.prog 30 #[.bool b] w fun e w' => e = .returned (.int .i64 (ti b)) ∧ w' = w := by
  cases b
  all_goals
    go_enter Try.func30, Try.ntmps30
    go_wp2
    go_ret
    exact ⟨rfl, rfl⟩

theorem iKeys_any (s t : ByteArray) (w : World) :
    Calls Try.prog 13 #[.string s, .string t] w fun e w' => e = .returned (.int .i64 (cmpT s t)) ∧ w = w' := by
  go_enter Try.func13, Try.ntmps13
  go_wp2_with (go_at_call 31; refine (cmpStr_any _ _ _).mono ?_; rintro e w' ⟨rfl, rfl⟩)
  go_ret
  exact ⟨rfl, rfl⟩

theorem sKeys_any (s t : ByteArray) (w : World) :
    Calls Try.prog 12 #[.string s, .string t] w fun e w' => e = .returned (.int .i64 (cmpT s t)) ∧ w = w' := by
  have t1 : ti true = 1 := rfl
  have t0 : ti false = 0 := rfl
  cases hl : Op.bytesLess s.toList t.toList <;> cases he : (s.toList == t.toList)
  all_goals
    have H := hide (show cmpT s t = _ by unfold cmpT; rw [hl, he])
    go_enter Try.func12, Try.ntmps12
    go_wp2_with (go_at_call 30; refine (ti_any _ _).mono ?_; rintro e w' ⟨rfl, rfl⟩)
    go_ret
    exact ⟨ret_int (by rw [H.out]; rfl), rfl⟩

structure Vl where
  k : Int
  n : Int
  s : ByteArray
def Vl.agg (v : Vl) : Value := .agg #[.int .i64 v.k, .int .i64 v.n, .string v.s]
def encV (v : Vl) : List Value := [.int .i64 v.k, .int .i64 v.n, .string v.s]
def vv (v : Vl) : Bool := vvB v.k v.n v.s
def ci (a b : Vl) : Int := if a.k ≠ b.k then cmpI a.k b.k else if a.k = 1 then cmpI a.n b.n else cmpT a.s b.s
def cs (a b : Vl) : Int := if a.k ≠ b.k then cmpI a.k b.k else if a.n ≠ b.n then cmpI a.n b.n else cmpT a.s b.s

theorem ci_any (a b : Vl) (w : World) :
    Calls Try.prog 35 #[.agg #[.int .i64 a.k, .int .i64 a.n, .string a.s], .agg #[.int .i64 b.k, .int .i64 b.n, .string b.s]] w fun e w' => e = .returned (.int .i64 (ci a b)) ∧ Below w.heap.size w w' := by
  by_cases h1 : a.k = b.k
  · have n1 : (a.k != b.k) = false := by simp [h1]
    by_cases h2 : a.k = 1
    · have H := hide (show ci a b = cmpI a.n b.n by simp [ci, h1, h2] <;> (intro h; omega))
      have n2 : (a.k == 1) = true := by simp [h2]
      clear h1 h2
      go_enter Try.func35, Try.ntmps35
      go_wp2_with (go_at_call 43; refine (cmpInt_any _ _ _).mono ?_; rintro e w' ⟨rfl, rfl⟩)
      go_ret
      exact ⟨ret_int H.out.symm, by go_grown⟩
    · have H := hide (show ci a b = cmpT a.s b.s by unfold ci; rw [if_neg (by simp [h1]), if_neg h2])
      have n2 : (a.k == 1) = false := by simp [h2]
      clear h1 h2
      go_enter Try.func35, Try.ntmps35
      go_wp2_with (go_at_call 31; refine (cmpStr_any _ _ _).mono ?_; rintro e w' ⟨rfl, rfl⟩)
      go_ret
      exact ⟨ret_int H.out.symm, by go_grown⟩
  · have H := hide (show ci a b = cmpI a.k b.k by unfold ci; rw [if_pos h1])
    have n1 : (a.k != b.k) = true := by simp [h1]
    clear h1
    go_enter Try.func35, Try.ntmps35
    go_wp2_with (go_at_call 43; refine (cmpInt_any _ _ _).mono ?_; rintro e w' ⟨rfl, rfl⟩)
    go_ret
    exact ⟨ret_int H.out.symm, by go_grown⟩

set_option maxHeartbeats 1000000 in
theorem cs_any (a b : Vl) (w : World) :
    Calls Try.prog 34 #[.agg #[.int .i64 a.k, .int .i64 a.n, .string a.s], .agg #[.int .i64 b.k, .int .i64 b.n, .string b.s]] w fun e w' => e = .returned (.int .i64 (cs a b)) ∧ Below w.heap.size w w' := by
  have t1 : ti true = 1 := rfl
  have t0 : ti false = 0 := rfl
  by_cases h1 : a.k = b.k
  · have n1 : (a.k != b.k) = false := by simp [h1]
    by_cases h2 : a.n = b.n
    · have n2 : (a.n != b.n) = false := by simp [h2]
      cases hl : Op.bytesLess a.s.toList b.s.toList <;> cases he : (a.s.toList == b.s.toList)
      all_goals
        have H := hide (show cs a b = _ by unfold cs cmpT; rw [if_neg (by simp [h1]), if_neg (by simp [h2]), hl, he])
        clear h1 h2
        go_enter Try.func34, Try.ntmps34
        go_wp2_with (fail)
        go_quiet ((go_at_call 30; exact Calls.quiet_of_same (ti_any _ _)))
        go_wp2
        go_ret
        exact ⟨ret_int (by rw [H.out]; rfl), by exact below_drewN (by go_grown) _⟩
    · have n2 : (a.n != b.n) = true := by simp [h2]
      have H := hide (show cs a b = cmpI a.n b.n by unfold cs; rw [if_neg (by simp [h1]), if_pos h2])
      rcases Int.lt_or_lt_of_ne h2 with h3 | h3
      · have d1 : decide (b.n < a.n) = false := by simp only [decide_eq_true_eq, decide_eq_false_iff_not]; omega
        have d2 : decide (a.n < b.n) = true := by simp only [decide_eq_true_eq, decide_eq_false_iff_not]; omega
        have HC := hide (show cmpI a.n b.n = -1 by unfold cmpI; split <;> (try split) <;> omega)
        clear h1 h2 h3
        go_enter Try.func34, Try.ntmps34
        go_wp2_with (fail)
        go_quiet ((go_at_call 30; exact Calls.quiet_of_same (ti_any _ _)))
        go_wp2
        go_ret
        exact ⟨ret_int (by rw [H.out, HC.out]), by exact below_drewN (by go_grown) _⟩
      · have d1 : decide (b.n < a.n) = true := by simp only [decide_eq_true_eq, decide_eq_false_iff_not]; omega
        have d2 : decide (a.n < b.n) = false := by simp only [decide_eq_true_eq, decide_eq_false_iff_not]; omega
        have HC := hide (show cmpI a.n b.n = 1 by unfold cmpI; split <;> (try split) <;> omega)
        clear h1 h2 h3
        go_enter Try.func34, Try.ntmps34
        go_wp2_with (fail)
        go_quiet ((go_at_call 30; exact Calls.quiet_of_same (ti_any _ _)))
        go_wp2
        go_ret
        exact ⟨ret_int (by rw [H.out, HC.out]), by exact below_drewN (by go_grown) _⟩
  · have n1 : (a.k != b.k) = true := by simp [h1]
    have H := hide (show cs a b = cmpI a.k b.k by unfold cs; rw [if_pos h1])
    rcases Int.lt_or_lt_of_ne h1 with h3 | h3
    · have d1 : decide (b.k < a.k) = false := by simp only [decide_eq_true_eq, decide_eq_false_iff_not]; omega
      have d2 : decide (a.k < b.k) = true := by simp only [decide_eq_true_eq, decide_eq_false_iff_not]; omega
      have HC := hide (show cmpI a.k b.k = -1 by unfold cmpI; split <;> (try split) <;> omega)
      clear h1 h3
      go_enter Try.func34, Try.ntmps34
      go_wp2_with (fail)
      go_quiet ((go_at_call 30; exact Calls.quiet_of_same (ti_any _ _)))
      go_wp2
      go_ret
      exact ⟨ret_int (by rw [H.out, HC.out]), by exact below_drewN (by go_grown) _⟩
    · have d1 : decide (b.k < a.k) = true := by simp only [decide_eq_true_eq, decide_eq_false_iff_not]; omega
      have d2 : decide (a.k < b.k) = false := by simp only [decide_eq_true_eq, decide_eq_false_iff_not]; omega
      have HC := hide (show cmpI a.k b.k = 1 by unfold cmpI; split <;> (try split) <;> omega)
      clear h1 h3
      go_enter Try.func34, Try.ntmps34
      go_wp2_with (fail)
      go_quiet ((go_at_call 30; exact Calls.quiet_of_same (ti_any _ _)))
      go_wp2
      go_ret
      exact ⟨ret_int (by rw [H.out, HC.out]), by exact below_drewN (by go_grown) _⟩

/-! ### CompareValues -/
theorem vv_kind {v : Vl} (h : vv v = true) : (v.k = 0 ∧ v.n = 0 ∧ emp v.s = true) ∨ (v.k = 1 ∧ -999999 ≤ v.n ∧ v.n ≤ 999999 ∧ emp v.s = true) ∨ (v.k = 2 ∧ v.n = 0 ∧ vtB v.s = true) := by
  unfold vv vvB at h
  by_cases h0 : v.k = 0
  · rw [if_pos h0] at h
    simp at h
    exact .inl ⟨h0, h.1, h.2⟩
  · rw [if_neg h0] at h
    by_cases h1 : v.k = 1
    · rw [if_pos h1] at h
      rw [Bool.and_eq_true, rng_iff] at h
      exact .inr (.inl ⟨h1, h.1.1, h.1.2, h.2⟩)
    · rw [if_neg h1] at h
      by_cases h2 : v.k = 2
      · rw [if_pos h2] at h
        simp at h
        exact .inr (.inr ⟨h2, h.1, h.2⟩)
      · rw [if_neg h2] at h
        cases h
theorem emp_eq {s t : ByteArray} (h : emp s = true) (h' : emp t = true) : s.toList = t.toList := by
  unfold emp at h h'
  rw [List.isEmpty_iff] at h h'
  rw [h, h']
theorem bytesLess_irrefl : ∀ l : List UInt8, Op.bytesLess l l = false
  | [] => rfl
  | a :: l => by simp [Op.bytesLess, bytesLess_irrefl l]
theorem cmpT_same {s t : ByteArray} (h : s.toList = t.toList) : cmpT s t = 0 := by
  unfold cmpT
  rw [h, bytesLess_irrefl]
  simp
theorem ci_cs {a b : Vl} (ha : vv a = true) (hb : vv b = true) : ci a b = cs a b := by
  unfold ci cs
  by_cases h : a.k = b.k
  · have e1 : ¬ (a.k ≠ b.k) := by simp [h]
    rw [if_neg e1, if_neg e1]
    rcases vv_kind ha with ⟨ka, na, sa⟩ | ⟨ka, na, na', sa⟩ | ⟨ka, na, sa⟩ <;> rcases vv_kind hb with ⟨kb, nb, sb⟩ | ⟨kb, nb, nb', sb⟩ | ⟨kb, nb, sb⟩ <;> try (exfalso; omega)
    · rw [if_neg (show ¬ a.k = 1 by omega), if_neg (show ¬ (a.n ≠ b.n) by simp [na, nb])]
    · rw [if_pos ka]
      by_cases hn : a.n = b.n
      · rw [if_neg (show ¬ (a.n ≠ b.n) by simp [hn]), cmpT_same (emp_eq sa sb), hn]
        simp [cmpI]
      · rw [if_pos hn]
    · rw [if_neg (show ¬ a.k = 1 by omega), if_neg (show ¬ (a.n ≠ b.n) by simp [na, nb])]
  · rw [if_pos h, if_pos h]
def cv (a b : Vl) : Int := if vv a && vv b then ci a b else 2

theorem cvI (a b : Vl) (w : World) (ha : a.s.size ≤ 9223372036854775807) (hb : b.s.size ≤ 9223372036854775807) :
    Calls Try.prog 19 #[.agg #[.int .i64 a.k, .int .i64 a.n, .string a.s], .agg #[.int .i64 b.k, .int .i64 b.n, .string b.s]] w fun e w' => e = .returned (.int .i64 (cv a b)) ∧ Below w.heap.size w w' := by
  cases va : vv a
  · have H := hide (show cv a b = 2 by simp [cv, va])
    unfold vv at va
    go_enter Try.func19, Try.ntmps19
    go_wp2_with fail
    refine (vvI _ _ _ _ ha).mono ?_
    rintro e w1 ⟨rfl, hb1⟩
    go_wp2_with fail
    go_ret
    exact ⟨ret_int H.out.symm, bt (by go_grown) hb1 (by simp <;> omega)⟩
  · cases vb : vv b
    · have H := hide (show cv a b = 2 by simp [cv, vb])
      unfold vv at va vb
      go_enter Try.func19, Try.ntmps19
      go_wp2_with fail
      refine (vvI _ _ _ _ ha).mono ?_
      rintro e w1 ⟨rfl, hb1⟩
      obtain ⟨hc1, hf1, hz1⟩ := bcell hb1
      simp only [World.size_alloc] at hz1
      have hz1a : w.heap.size < w1.heap.size := by omega
      have hz1b : w.heap.size + 1 < w1.heap.size := by omega
      go_wp2_with fail
      refine (vvI _ _ _ _ hb).mono ?_
      rintro e w2 ⟨rfl, hb2⟩
      go_wp2_with fail
      go_ret
      exact ⟨ret_int H.out.symm, bt (bt (by go_grown) hb1 (by simp <;> omega)) hb2 (by omega)⟩
    · have H := hide (show cv a b = ci a b by simp [cv, va, vb])
      unfold vv at va vb
      go_enter Try.func19, Try.ntmps19
      go_wp2_with fail
      refine (vvI _ _ _ _ ha).mono ?_
      rintro e w1 ⟨rfl, hb1⟩
      obtain ⟨hc1, hf1, hz1⟩ := bcell hb1
      simp only [World.size_alloc] at hz1
      have hz1a : w.heap.size < w1.heap.size := by omega
      have hz1b : w.heap.size + 1 < w1.heap.size := by omega
      go_wp2_with fail
      refine (vvI _ _ _ _ hb).mono ?_
      rintro e w2 ⟨rfl, hb2⟩
      obtain ⟨hc2, hf2, hz2⟩ := bcell hb2
      go_wp2_with fail
      refine (ci_any a b _).mono ?_
      rintro e w3 ⟨rfl, hb3⟩
      go_wp2_with fail
      go_ret
      exact ⟨ret_int H.out.symm, bt (bt (bt (by go_grown) hb1 (by simp <;> omega)) hb2 (by omega)) hb3 (by omega)⟩

theorem cvS (a b : Vl) (w : World) (ha : a.s.size ≤ 9223372036854775807) (hb : b.s.size ≤ 9223372036854775807) :
    Calls Try.prog 18 #[.agg #[.int .i64 a.k, .int .i64 a.n, .string a.s], .agg #[.int .i64 b.k, .int .i64 b.n, .string b.s]] w fun e w' => e = .returned (.int .i64 (cv a b)) ∧ Below w.heap.size w w' := by
  cases va : vv a
  · have H := hide (show cv a b = 2 by simp [cv, va])
    unfold vv at va
    go_enter Try.func18, Try.ntmps18
    go_wp2_with fail
    refine (vvS _ _ _ _ ha).mono ?_
    rintro e w1 ⟨rfl, hb1⟩
    go_wp2_with fail
    go_ret
    exact ⟨ret_int H.out.symm, bt (by go_grown) hb1 (by simp <;> omega)⟩
  · cases vb : vv b
    · have H := hide (show cv a b = 2 by simp [cv, vb])
      unfold vv at va vb
      go_enter Try.func18, Try.ntmps18
      go_wp2_with fail
      refine (vvS _ _ _ _ ha).mono ?_
      rintro e w1 ⟨rfl, hb1⟩
      obtain ⟨hc1, hf1, hz1⟩ := bcell hb1
      simp only [World.size_alloc] at hz1
      have hz1a : w.heap.size < w1.heap.size := by omega
      have hz1b : w.heap.size + 1 < w1.heap.size := by omega
      go_wp2_with fail
      refine (vvS _ _ _ _ hb).mono ?_
      rintro e w2 ⟨rfl, hb2⟩
      go_wp2_with fail
      go_ret
      exact ⟨ret_int H.out.symm, bt (bt (by go_grown) hb1 (by simp <;> omega)) hb2 (by omega)⟩
    · have H := hide (show cv a b = cs a b by rw [cv, va, vb, ← ci_cs va vb]; rfl)
      unfold vv at va vb
      go_enter Try.func18, Try.ntmps18
      go_wp2_with fail
      refine (vvS _ _ _ _ ha).mono ?_
      rintro e w1 ⟨rfl, hb1⟩
      obtain ⟨hc1, hf1, hz1⟩ := bcell hb1
      simp only [World.size_alloc] at hz1
      have hz1a : w.heap.size < w1.heap.size := by omega
      have hz1b : w.heap.size + 1 < w1.heap.size := by omega
      go_wp2_with fail
      refine (vvS _ _ _ _ hb).mono ?_
      rintro e w2 ⟨rfl, hb2⟩
      obtain ⟨hc2, hf2, hz2⟩ := bcell hb2
      go_wp2_with fail
      refine (cs_any a b _).mono ?_
      rintro e w3 ⟨rfl, hb3⟩
      go_wp2_with fail
      go_ret
      exact ⟨ret_int H.out.symm, bt (bt (bt (by go_grown) hb1 (by simp <;> omega)) hb2 (by omega)) hb3 (by omega)⟩

end Go.Proofs.Ytngmiaglbmkbcaa
