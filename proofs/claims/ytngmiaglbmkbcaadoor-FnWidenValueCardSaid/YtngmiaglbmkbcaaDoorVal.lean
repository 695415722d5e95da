/-
  Values: what validText, ValidValue and compare of the program and of the reference answer. Conditions: a text is no longer than Go lets one be.
-/
import Derived.Test.YtngmiaglbmkbcaaDoorBase
import Derived.Test.YtngmiaglbmkbcaaDoorRange
import Derived.WalkLawsBesides
import Derived.WalkSpells
import Derived.Handy
import Derived.BigQuiet
import Derived.Deep.QuietTactic
import Derived.Outline
namespace Go.Proofs.YtngmiaglbmkbcaaDoor
open Go.RowKit
set_option linter.unusedVariables false
set_option linter.unusedSimpArgs false

def okc (c : UInt8) : Bool := rng (c.toNat : Int) 32 126
def vtB (s : ByteArray) : Bool := decide (s.size ≤ 12) && s.data.toList.all okc

theorem vt_long {s : ByteArray} (h : 12 < s.size) : vtB s = false := by
  unfold vtB
  simp [show ¬ (s.size ≤ 12) by omega]
theorem vt_no {s : ByteArray} {k : Nat} (hk : k < s.size) (h : okc s[k] = false) : vtB s = false := by
  unfold vtB
  rw [Bool.and_eq_false_iff]
  refine .inr ?_
  rw [List.all_eq_false]
  exact ⟨s[k], by simp [ByteArray.getElem_eq_getElem_data], by simp [h]⟩
theorem vt_yes {s : ByteArray} (h : ∀ t (ht : t < s.size), okc s[t] = true) : vtB s = decide (s.size ≤ 12) := by
  unfold vtB
  have : s.data.toList.all okc = true := by
    rw [List.all_eq_true]
    intro c hc
    obtain ⟨i, hi, rfl⟩ := List.getElem_of_mem hc
    have := h i (by simpa using hi)
    simpa [ByteArray.getElem_eq_getElem_data] using this
  rw [this, Bool.and_true]

theorem vtI (s : ByteArray) (w : World) (hs : s.size ≤ 9223372036854775807) :
    Calls Tryd.prog 17 #[.string s] w fun e w' => e = .returned (.bool (vtB s)) ∧ w = w' := by
  by_cases hl : 12 < s.size
  · rw [vt_long hl]
    go_enter Tryd.func17, Tryd.ntmps17
    go_wp2
    go_ret
    exact ⟨rfl, rfl⟩
  · have HL := hide hl
    have hl' : s.size ≤ 12 := by omega
    have hl0 : (decide ((12 : Int) < (s.size : Int))) = false := by simp; omega
    clear hl
    go_enter Tryd.func17, Tryd.ntmps17
    go_wp2
    go_loop [3] (fun v => ∃ k : Nat, k ≤ s.size ∧ v = .int .i64 k ∧ Hid (∀ t (hk : t < k) (ht : t < s.size), okc s[t] = true)) (fun v => s.size - (intOf v).toNat)
    case atStart => exact ⟨0, by omega, rfl, fun t hk => absurd hk (by omega)⟩
    case round =>
      obtain ⟨k, hk, rfl, hno⟩ := hrel
      by_cases hlt : k < s.size
      · have hn : okc s[k] = false → vtB s = false := fun h => vt_no hlt h
        have hy : okc s[k] = true → Hid (∀ t (hk : t < k + 1) (ht : t < s.size), okc s[t] = true) := fun h t hk' ht => by
          rcases Nat.lt_or_ge t k with h1 | h1
          · exact hno.out t h1 ht
          · obtain rfl : t = k := by omega
            exact h
        have HN := hide hn
        have HY := hide hy
        clear hn hy
        by_cases c1 : ((s[k].toNat : Int) < 32)
        · go_wp2
          go_ret
          exact ⟨ret_bool (HN.out (by unfold okc; first | (rw [rng_no]; omega) | (rw [rng_iff]; omega))).symm, rfl⟩
        · by_cases c2 : (126 < (s[k].toNat : Int))
          · go_wp2
            go_ret
            exact ⟨ret_bool (HN.out (by unfold okc; first | (rw [rng_no]; omega) | (rw [rng_iff]; omega))).symm, rfl⟩
          · go_wp2
            go_round
            case rel => exact ⟨k + 1, by omega, by go_num, HY.out (by unfold okc; first | (rw [rng_no]; omega) | (rw [rng_iff]; omega))⟩
            case measure => simp [intOf]; omega
      · obtain rfl : k = s.size := by omega
        go_wp2
        go_ret
        exact ⟨ret_bool (by rw [vt_yes (fun t ht => hno.out t ht ht)]; simp [hl']), rfl⟩

theorem vtS (s : ByteArray) (w : World) (hs : s.size ≤ 9223372036854775807) :
    Calls Tryd.prog 19 #[.string s] w fun e w' => e = .returned (.bool (vtB s)) ∧ w = w' := by
  go_enter Tryd.func19, Tryd.ntmps19
  go_wp2
  go_loop [3] (fun v => ∃ k : Nat, k ≤ s.size ∧ v = .int .i64 k ∧ Hid (∀ t (hk : t < k) (ht : t < s.size), okc s[t] = true)) (fun v => s.size - (intOf v).toNat)
  case atStart => exact ⟨0, by omega, rfl, fun t hk => absurd hk (by omega)⟩
  case round =>
    obtain ⟨k, hk, rfl, hno⟩ := hrel
    by_cases hlt : k < s.size
    · have hn : okc s[k] = false → vtB s = false := fun h => vt_no hlt h
      have hy : okc s[k] = true → Hid (∀ t (hk : t < k + 1) (ht : t < s.size), okc s[t] = true) := fun h t hk' ht => by
        rcases Nat.lt_or_ge t k with h1 | h1
        · exact hno.out t h1 ht
        · obtain rfl : t = k := by omega
          exact h
      have HN := hide hn
      have HY := hide hy
      clear hn hy
      have hc0 : 0 ≤ ((s[k]'hlt).toNat : Int) ∧ ((s[k]'hlt).toNat : Int) ≤ 255 := ⟨by omega, by have := (s[k]'hlt).toNat_lt; omega⟩
      have eo : okc (s[k]'hlt) = rng (((s[k]'hlt).toNat : Int)) 32 126 := rfl
      obtain ⟨c, hc⟩ : ∃ c : Int, ((s[k]'hlt).toNat : Int) = c := ⟨_, rfl⟩
      rw [hc] at eo hc0
      rw [eo] at HN HY
      clear eo
      cases hr : rng c 32 126
      · go_wp2_with (go_at_call 18; refine (inR _ _ _ _).mono ?_; rintro e w' ⟨rfl, rfl⟩)
        go_ret
        exact ⟨ret_bool (HN.out hr).symm, rfl⟩
      · go_wp2_with (go_at_call 18; refine (inR _ _ _ _).mono ?_; rintro e w' ⟨rfl, rfl⟩)
        go_round
        case rel => exact ⟨k + 1, by omega, by go_num, HY.out hr⟩
        case measure => simp [intOf]; omega
    · obtain rfl : k = s.size := by omega
      have HV := hide (vt_yes (fun t ht => hno.out t ht ht))
      go_wp2
      go_ret
      exact ⟨ret_bool (by rw [HV.out, decide_eq_decide]; omega), rfl⟩

/-! ### ValidValue -/
def emp (s : ByteArray) : Bool := s.toList.isEmpty
def vvB (k n : Int) (s : ByteArray) : Bool :=
  if k = 0 then n == 0 && emp s else if k = 1 then rng n (-999999) 999999 && emp s else if k = 2 then n == 0 && vtB s else false

set_option maxHeartbeats 1000000 in
theorem vvI (k n : Int) (s : ByteArray) (w : World) (hs : s.size ≤ 9223372036854775807) :
    Calls Tryd.prog 11 #[.agg #[.int .i64 k, .int .i64 n, .string s]] w fun e w' => e = .returned (.bool (vvB k n s)) ∧ Below w.heap.size w w' := by
  by_cases k0 : k = 0
  · subst k0
    have HV := hide (show vvB 0 n s = (n == 0 && emp s) from rfl)
    cases hn : (n == 0) <;> cases he : emp s
    all_goals
      rw [hn, he] at HV
      unfold emp at he
      go_enter Tryd.func11, Tryd.ntmps11
      go_wp2_with (go_at_call 17; refine (vtI _ _ hs).mono ?_; rintro e w' ⟨rfl, rfl⟩)
      go_ret
      exact ⟨ret_bool HV.out.symm, by go_grown⟩
  · by_cases k1 : k = 1
    · subst k1
      have HV := hide (show vvB 1 n s = (rng n (-999999) 999999 && emp s) from rfl)
      cases hn : rng n (-999999) 999999 <;> cases he : emp s
      all_goals
        rw [hn, he] at HV
        unfold emp at he
        first | (rw [rng_iff] at hn; have hn1 := hn.1; have hn2 := hn.2) | (rw [rng_no] at hn; rcases hn with hn | hn)
      all_goals
        go_enter Tryd.func11, Tryd.ntmps11
        go_wp2_with (go_at_call 17; refine (vtI _ _ hs).mono ?_; rintro e w' ⟨rfl, rfl⟩)
        go_ret
        exact ⟨ret_bool HV.out.symm, by go_grown⟩
    · by_cases k2 : k = 2
      · subst k2
        have HV := hide (show vvB 2 n s = (n == 0 && vtB s) from rfl)
        cases hn : (n == 0) <;> cases he : vtB s
        all_goals
          rw [hn, he] at HV
          go_enter Tryd.func11, Tryd.ntmps11
          go_wp2_with (go_at_call 17; refine (vtI _ _ hs).mono ?_; rintro e w' ⟨rfl, rfl⟩)
          go_ret
          exact ⟨ret_bool HV.out.symm, by go_grown⟩
      · have HV := hide (show vvB k n s = false by unfold vvB; rw [if_neg k0, if_neg k1, if_neg k2])
        have e0 : (k == 0) = false := by simp [k0]
        have e1 : (k == 1) = false := by simp [k1]
        have e2 : (k == 2) = false := by simp [k2]
        clear k0 k1 k2
        go_enter Tryd.func11, Tryd.ntmps11
        go_wp2_with (go_at_call 17; refine (vtI _ _ hs).mono ?_; rintro e w' ⟨rfl, rfl⟩)
        go_ret
        exact ⟨ret_bool HV.out.symm, by go_grown⟩

set_option maxHeartbeats 1000000 in
theorem vvS (k n : Int) (s : ByteArray) (w : World) (hs : s.size ≤ 9223372036854775807) :
    Calls Tryd.prog 12 #[.agg #[.int .i64 k, .int .i64 n, .string s]] w fun e w' => e = .returned (.bool (vvB k n s)) ∧ Below w.heap.size w w' := by
  by_cases k0 : k = 0
  · subst k0
    have HV := hide (show vvB 0 n s = (n == 0 && emp s) from rfl)
    cases hn : (n == 0) <;> cases he : emp s
    all_goals
      rw [hn, he] at HV
      unfold emp at he
      go_enter Tryd.func12, Tryd.ntmps12
      go_wp2_with (first | (go_at_call 19; refine (vtS _ _ hs).mono ?_; rintro e w' ⟨rfl, rfl⟩) | (go_at_call 18; refine (inR _ _ _ _).mono ?_; rintro e w' ⟨rfl, rfl⟩))
      go_ret
      exact ⟨ret_bool HV.out.symm, by go_grown⟩
  · by_cases k1 : k = 1
    · subst k1
      have HV := hide (show vvB 1 n s = (rng n (-999999) 999999 && emp s) from rfl)
      cases hn : rng n (-999999) 999999 <;> cases he : emp s
      all_goals
        rw [hn, he] at HV
        unfold emp at he
        go_enter Tryd.func12, Tryd.ntmps12
        go_wp2_with (first | (go_at_call 19; refine (vtS _ _ hs).mono ?_; rintro e w' ⟨rfl, rfl⟩) | (go_at_call 18; refine (inR _ _ _ _).mono ?_; rintro e w' ⟨rfl, rfl⟩))
        go_ret
        exact ⟨ret_bool HV.out.symm, by go_grown⟩
    · by_cases k2 : k = 2
      · subst k2
        have HV := hide (show vvB 2 n s = (n == 0 && vtB s) from rfl)
        cases hn : (n == 0) <;> cases he : vtB s
        all_goals
          rw [hn, he] at HV
          go_enter Tryd.func12, Tryd.ntmps12
          go_wp2_with (first | (go_at_call 19; refine (vtS _ _ hs).mono ?_; rintro e w' ⟨rfl, rfl⟩) | (go_at_call 18; refine (inR _ _ _ _).mono ?_; rintro e w' ⟨rfl, rfl⟩))
          go_ret
          exact ⟨ret_bool HV.out.symm, by go_grown⟩
      · have HV := hide (show vvB k n s = false by unfold vvB; rw [if_neg k0, if_neg k1, if_neg k2])
        have e0 : (k == 0) = false := by simp [k0]
        have e1 : (k == 1) = false := by simp [k1]
        have e2 : (k == 2) = false := by simp [k2]
        clear k0 k1 k2
        go_enter Tryd.func12, Tryd.ntmps12
        go_wp2_with (first | (go_at_call 19; refine (vtS _ _ hs).mono ?_; rintro e w' ⟨rfl, rfl⟩) | (go_at_call 18; refine (inR _ _ _ _).mono ?_; rintro e w' ⟨rfl, rfl⟩))
        go_ret
        exact ⟨ret_bool HV.out.symm, by go_grown⟩

end Go.Proofs.YtngmiaglbmkbcaaDoor
