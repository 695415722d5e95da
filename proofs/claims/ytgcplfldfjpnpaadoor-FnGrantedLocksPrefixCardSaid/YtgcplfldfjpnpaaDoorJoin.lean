/-
  JoinLocks of the program and of the reference: the first mode whose mask is the common one; the first mode that goes with exactly the common modes. Condition: the table of masks reads as it was laid.
-/
import Derived.Test.YtgcplfldfjpnpaaDoorLockT
namespace Go.Proofs.YtgcplfldfjpnpaaDoor
open Go.RowKit
set_option linter.unusedVariables false
set_option linter.unusedSimpArgs false

/-- The first of 0..5 at which p holds, else -1. -/
def jn (p : Nat → Bool) : Int := if p 0 then 0 else if p 1 then 1 else if p 2 then 2 else if p 3 then 3 else if p 4 then 4 else if p 5 then 5 else -1
theorem jn_at (p : Nat → Bool) (k : Nat) (hk : k ≤ 5) (h : ∀ j, j < k → p j = false) (hp : p k = true) : jn p = k := by
  unfold jn
  match k, hk with
  | 0, _ => simp [hp]
  | 1, _ => simp [hp, h 0 (by omega)]
  | 2, _ => simp [hp, h 0 (by omega), h 1 (by omega)]
  | 3, _ => simp [hp, h 0 (by omega), h 1 (by omega), h 2 (by omega)]
  | 4, _ => simp [hp, h 0 (by omega), h 1 (by omega), h 2 (by omega), h 3 (by omega)]
  | 5, _ => simp [hp, h 0 (by omega), h 1 (by omega), h 2 (by omega), h 3 (by omega), h 4 (by omega)]
theorem jn_no (p : Nat → Bool) (h : ∀ j, j < 6 → p j = false) : jn p = -1 := by
  unfold jn
  simp [h 0 (by omega), h 1 (by omega), h 2 (by omega), h 3 (by omega), h 4 (by omega), h 5 (by omega)]
theorem jn_ext {p q : Nat → Bool} (h : ∀ j, j < 6 → p j = q j) : jn p = jn q := by
  unfold jn
  rw [h 0 (by omega), h 1 (by omega), h 2 (by omega), h 3 (by omega), h 4 (by omega), h 5 (by omega)]

def pI (a b : Int) (j : Nat) : Bool := mk (j : Int) == bits .and .u8 (mk a) (mk b)
def jsB (m a b : Int) : Bool := (List.range 6).all fun k => tog m k == (tog a k && tog b k)
def pS (a b : Int) (j : Nat) : Bool := jsB (j : Int) a b
def join (a b : Int) : Int := if vm a && vm b then jn (pI a b) else -1
theorem join_no {a b : Int} (h : a < 0 ∨ 5 < a ∨ b < 0 ∨ 5 < b) : join a b = -1 := by
  unfold join vm
  rcases h with h | h | h | h
  · simp [show ¬ (0 ≤ a) by omega]
  · simp [show ¬ (a ≤ 5) by omega]
  · simp [show ¬ (0 ≤ b) by omega]
  · simp [show ¬ (b ≤ 5) by omega]
theorem join_yes {a b : Int} (ha : 0 ≤ a) (ha' : a ≤ 5) (hb : 0 ≤ b) (hb' : b ≤ 5) : join a b = jn (pI a b) := by
  unfold join vm
  simp [ha, ha', hb, hb']
theorem join_spec {a b : Int} (ha : 0 ≤ a) (ha' : a ≤ 5) (hb : 0 ≤ b) (hb' : b ≤ 5) : join a b = jn (pS a b) := by
  rcases six ha ha' with rfl | rfl | rfl | rfl | rfl | rfl <;> rcases six hb hb' with rfl | rfl | rfl | rfl | rfl | rfl <;> rfl

theorem ij_yes (a b : Int) (w : World) (hM : Masks w) (ha : 0 ≤ a) (ha' : a ≤ 5) (hb : 0 ≤ b) (hb' : b ≤ 5) :
    Calls Tryd.prog 15 #[.int .i64 a, .int .i64 b] w fun e w' => e = .returned (.int .i64 (join a b)) ∧ ∃ n, w' = w.drewN n := by
  rw [join_yes ha ha' hb hb']
  obtain ⟨i, rfl⟩ := Int.eq_ofNat_of_zero_le ha
  obtain ⟨j, rfl⟩ := Int.eq_ofNat_of_zero_le hb
  have ca := hM i (by omega)
  have cb := hM j (by omega)
  have HI : Hid (pI i j = fun k : Nat => mk (k : Int) == bits .and .u8 (mk i) (mk j)) := rfl
  go_enter Tryd.func15, Tryd.ntmps15
  go_wp2
  go_quiet (fail)
  go_wp2
  go_loop [6] (fun v => ∃ k : Nat, k ≤ 6 ∧ v = .int .i64 k ∧ Hid (∀ t, t < k → pI i j t = false)) (fun v => 6 - (intOf v).toNat)
  case atStart => exact ⟨0, by omega, rfl, fun t ht => absurd ht (by omega)⟩
  case round =>
    obtain ⟨k, hk, rfl, hno⟩ := hrel
    by_cases h5 : k ≤ 5
    · have ck : (w.drewN nq).cell? ⟨0, k, none⟩ = some (.int .u8 (mk k)) := hM k h5
      go_wp2
      · go_ret
        have ht : (mk (k : Int) == bits .and .u8 (mk i) (mk j)) = true := by assumption
        exact ⟨ret_int (jn_at _ k h5 hno (by rw [HI.out]; exact ht)).symm, _, rfl⟩
      · have ht : (mk (k : Int) == bits .and .u8 (mk i) (mk j)) = false := by assumption
        go_round
        case rel =>
          refine ⟨k + 1, by omega, by go_num, fun t hlt => ?_⟩
          rcases Nat.lt_or_ge t k with h | h
          · exact hno.out t h
          · obtain rfl : t = k := by omega
            rw [HI.out]; exact ht
        case measure => simp [intOf]; omega
    · obtain rfl : k = 6 := by omega
      go_wp2
      go_ret
      exact ⟨ret_int (jn_no _ hno).symm, _, rfl⟩

theorem js_no {m a b : Int} {k : Nat} (hk : k ≤ 5) (h : (tog m k == (tog a k && tog b k)) = false) : jsB m a b = false := by
  unfold jsB
  rw [List.all_eq_false]
  exact ⟨k, List.mem_range.2 (by omega), by rw [h]; simp⟩
theorem js_yes {m a b : Int} (h : ∀ t : Nat, t < 6 → (tog m t == (tog a t && tog b t)) = true) : jsB m a b = true := by
  unfold jsB
  rw [List.all_eq_true]
  exact fun t ht => h t (List.mem_range.1 ht)

set_option maxHeartbeats 1000000 in
theorem js_any (m a b : Int) (w : World) (hm : 0 ≤ m) (hm' : m ≤ 5) (ha : 0 ≤ a) (ha' : a ≤ 5) (hb : 0 ≤ b) (hb' : b ≤ 5) :
    Calls Tryd.prog 28 #[.int .i64 m, .int .i64 a, .int .i64 b] w fun e w' => e = .returned (.bool (jsB m a b)) ∧ w = w' := by
  go_enter Tryd.func28, Tryd.ntmps28
  go_wp2
  go_loop [7] (fun v => ∃ k : Nat, k ≤ 6 ∧ v = .int .i64 k ∧ Hid (∀ t : Nat, t < k → (tog m t == (tog a t && tog b t)) = true)) (fun v => 6 - (intOf v).toNat)
  case atStart => exact ⟨0, by omega, rfl, fun t ht => absurd ht (by omega)⟩
  case round =>
    obtain ⟨k, hk, rfl, hno⟩ := hrel
    by_cases h5 : k ≤ 5
    · have hgo : (tog m k == (tog a k && tog b k)) = true → Hid (∀ t : Nat, t < k + 1 → (tog m t == (tog a t && tog b t)) = true) := fun hx t hlt => by
        rcases Nat.lt_or_ge t k with h | h
        · exact hno.out t h
        · obtain rfl : t = k := by omega
          exact hx
      have hst : (tog m k == (tog a k && tog b k)) = false → jsB m a b = false := fun hx => js_no h5 hx
      have HG := hide hgo
      have HS := hide hst
      clear hgo hst
      cases hm1 : tog m (k : Int) <;> cases ha1 : tog a (k : Int) <;> cases hb1 : tog b (k : Int)
      all_goals
        rw [hm1, ha1, hb1] at HG HS
        go_wp2_with (go_at_call 24; refine (tg_yes _ _ _ (by omega) (by omega) (by omega) (by omega)).mono ?_; rintro e w' ⟨rfl, rfl⟩)
        first
          | (go_ret; exact ⟨ret_bool (HS.out rfl).symm, rfl⟩)
          | (go_round
             case rel => exact ⟨k + 1, by omega, by go_num, HG.out rfl⟩
             case measure => simp [intOf]; omega)
    · obtain rfl : k = 6 := by omega
      go_wp2
      go_ret
      exact ⟨ret_bool (js_yes hno.out).symm, rfl⟩

theorem sj_yes (a b : Int) (w : World) (ha : 0 ≤ a) (ha' : a ≤ 5) (hb : 0 ≤ b) (hb' : b ≤ 5) :
    Calls Tryd.prog 14 #[.int .i64 a, .int .i64 b] w fun e w' => e = .returned (.int .i64 (join a b)) ∧ w = w' := by
  rw [join_spec ha ha' hb hb']
  have hva := vm_yes ha ha'
  have hvb := vm_yes hb hb'
  go_enter Tryd.func14, Tryd.ntmps14
  go_wp2_with (go_at_call 23; refine (vmS _ _).mono ?_; rintro e w' ⟨rfl, rfl⟩)
  go_loop [5] (fun v => ∃ k : Nat, k ≤ 6 ∧ v = .int .i64 k ∧ Hid (∀ t, t < k → pS a b t = false)) (fun v => 6 - (intOf v).toNat)
  case atStart => exact ⟨0, by omega, rfl, fun t ht => absurd ht (by omega)⟩
  case round =>
    obtain ⟨k, hk, rfl, hno⟩ := hrel
    by_cases h5 : k ≤ 5
    · cases hx : jsB k a b
      · go_wp2_with (go_at_call 28; refine (js_any _ _ _ _ (by omega) (by omega) ha ha' hb hb').mono ?_; rintro e w' ⟨rfl, rfl⟩)
        go_round
        case rel =>
          refine ⟨k + 1, by omega, by go_num, fun t hlt => ?_⟩
          rcases Nat.lt_or_ge t k with h | h
          · exact hno.out t h
          · obtain rfl : t = k := by omega
            exact hx
        case measure => simp [intOf]; omega
      · go_wp2_with (go_at_call 28; refine (js_any _ _ _ _ (by omega) (by omega) ha ha' hb hb').mono ?_; rintro e w' ⟨rfl, rfl⟩)
        go_ret
        exact ⟨ret_int (jn_at _ k h5 hno hx).symm, rfl⟩
    · obtain rfl : k = 6 := by omega
      go_wp2
      go_ret
      exact ⟨ret_int (jn_no _ hno).symm, rfl⟩

theorem sj_any (a b : Int) (w : World) :
    Calls Tryd.prog 14 #[.int .i64 a, .int .i64 b] w fun e w' => e = .returned (.int .i64 (join a b)) ∧ w = w' := by
  cases hva : vm a
  · have HJ := hide (show join a b = -1 by simp [join, hva])
    go_enter Tryd.func14, Tryd.ntmps14
    go_wp2_with (go_at_call 23; refine (vmS _ _).mono ?_; rintro e w' ⟨rfl, rfl⟩)
    go_ret
    exact ⟨ret_int HJ.out.symm, rfl⟩
  · cases hvb : vm b
    · have HJ := hide (show join a b = -1 by simp [join, hvb])
      go_enter Tryd.func14, Tryd.ntmps14
      go_wp2_with (go_at_call 23; refine (vmS _ _).mono ?_; rintro e w' ⟨rfl, rfl⟩)
      go_ret
      exact ⟨ret_int HJ.out.symm, rfl⟩
    · exact sj_yes a b w (vm_iff hva).1 (vm_iff hva).2 (vm_iff hvb).1 (vm_iff hvb).2
theorem ij_any (a b : Int) (w : World) (hM : Masks w) :
    Calls Tryd.prog 15 #[.int .i64 a, .int .i64 b] w fun e w' => e = .returned (.int .i64 (join a b)) ∧ ∃ n, w' = w.drewN n := by
  cases hva : vm a
  · have HJ := hide (show join a b = -1 by simp [join, hva])
    go_enter Tryd.func15, Tryd.ntmps15
    go_wp2_with (go_at_call 25; refine (vmI _ _).mono ?_; rintro e w' ⟨rfl, rfl⟩)
    go_ret
    exact ⟨ret_int HJ.out.symm, 0, rfl⟩
  · cases hvb : vm b
    · have HJ := hide (show join a b = -1 by simp [join, hvb])
      go_enter Tryd.func15, Tryd.ntmps15
      go_wp2_with (go_at_call 25; refine (vmI _ _).mono ?_; rintro e w' ⟨rfl, rfl⟩)
      go_ret
      exact ⟨ret_int HJ.out.symm, 0, rfl⟩
    · exact ij_yes a b w hM (vm_iff hva).1 (vm_iff hva).2 (vm_iff hvb).1 (vm_iff hvb).2

end Go.Proofs.YtgcplfldfjpnpaaDoor
