/-
  LocksTogether and together: what they answer, for all arguments. Condition: the table of masks reads as it was laid.
-/
import Derived.Test.YtgcplfldfjpnpaaDoorLock
namespace Go.Proofs.YtgcplfldfjpnpaaDoor
open Go.RowKit
set_option linter.unusedVariables false
set_option linter.unusedSimpArgs false

set_option maxHeartbeats 4000000 in
theorem lt_yes (a b : Int) (w : World) (hM : Masks w) (ha : 0 ≤ a) (ha' : a ≤ 5) (hb : 0 ≤ b) (hb' : b ≤ 5) :
    Calls Tryd.prog 12 #[.int .i64 a, .int .i64 b] w fun e w' => e = .returned (.bool (tog a b)) ∧ w = w' := by
  have m0 : w.cell? ⟨0, 0, none⟩ = some (.int .u8 63) := hM 0 (by omega)
  have m1 : w.cell? ⟨0, 1, none⟩ = some (.int .u8 31) := hM 1 (by omega)
  have m2 : w.cell? ⟨0, 2, none⟩ = some (.int .u8 7) := hM 2 (by omega)
  have m3 : w.cell? ⟨0, 3, none⟩ = some (.int .u8 11) := hM 3 (by omega)
  have m4 : w.cell? ⟨0, 4, none⟩ = some (.int .u8 3) := hM 4 (by omega)
  have m5 : w.cell? ⟨0, 5, none⟩ = some (.int .u8 1) := hM 5 (by omega)
  rcases six ha ha' with rfl | rfl | rfl | rfl | rfl | rfl <;> rcases six hb hb' with rfl | rfl | rfl | rfl | rfl | rfl <;> clear ha ha' hb hb'
  all_goals
    go_enter Tryd.func12, Tryd.ntmps12
    go_wp2
    go_ret
    exact ⟨by rfl, rfl⟩

theorem lt_no (a b : Int) (w : World) (h : a < 0 ∨ 5 < a ∨ b < 0 ∨ 5 < b) :
    Calls Tryd.prog 12 #[.int .i64 a, .int .i64 b] w fun e w' => e = .returned (.bool (tog a b)) ∧ w = w' := by
  rw [tog_no h]
  by_cases h1 : a < 0
  · clear h
    go_enter Tryd.func12, Tryd.ntmps12
    go_wp2
    go_ret
    exact ⟨rfl, rfl⟩
  · by_cases h2 : 5 < a
    · clear h
      go_enter Tryd.func12, Tryd.ntmps12
      go_wp2
      go_ret
      exact ⟨rfl, rfl⟩
    · by_cases h3 : b < 0
      · clear h
        go_enter Tryd.func12, Tryd.ntmps12
        go_wp2
        go_ret
        exact ⟨rfl, rfl⟩
      · have h4 : 5 < b := by omega
        clear h
        go_enter Tryd.func12, Tryd.ntmps12
        go_wp2
        go_ret
        exact ⟨rfl, rfl⟩
theorem lt_any (a b : Int) (w : World) (hM : Masks w) :
    Calls Tryd.prog 12 #[.int .i64 a, .int .i64 b] w fun e w' => e = .returned (.bool (tog a b)) ∧ w = w' := by
  by_cases h : a < 0 ∨ 5 < a ∨ b < 0 ∨ 5 < b
  · exact lt_no a b w h
  · exact lt_yes a b w hM (by omega) (by omega) (by omega) (by omega)

set_option maxHeartbeats 4000000 in
theorem tg_yes (a b : Int) (w : World) (ha : 0 ≤ a) (ha' : a ≤ 5) (hb : 0 ≤ b) (hb' : b ≤ 5) :
    Calls Tryd.prog 24 #[.int .i64 a, .int .i64 b] w fun e w' => e = .returned (.bool (tog a b)) ∧ w = w' := by
  rcases six ha ha' with rfl | rfl | rfl | rfl | rfl | rfl <;> rcases six hb hb' with rfl | rfl | rfl | rfl | rfl | rfl <;> clear ha ha' hb hb'
  all_goals
    go_enter Tryd.func24, Tryd.ntmps24
    go_wp2
    go_ret
    exact ⟨by rfl, rfl⟩

theorem st_any (a b : Int) (w : World) :
    Calls Tryd.prog 11 #[.int .i64 a, .int .i64 b] w fun e w' => e = .returned (.bool (tog a b)) ∧ w = w' := by
  by_cases h : a < 0 ∨ 5 < a ∨ b < 0 ∨ 5 < b
  · rw [tog_no h]
    by_cases h1 : a < 0
    · clear h
      go_enter Tryd.func11, Tryd.ntmps11
      go_wp2
      go_ret
      exact ⟨rfl, rfl⟩
    · by_cases h2 : 5 < a
      · clear h
        go_enter Tryd.func11, Tryd.ntmps11
        go_wp2
        go_ret
        exact ⟨rfl, rfl⟩
      · by_cases h3 : b < 0
        · clear h
          go_enter Tryd.func11, Tryd.ntmps11
          go_wp2
          go_ret
          exact ⟨rfl, rfl⟩
        · have h4 : 5 < b := by omega
          clear h
          go_enter Tryd.func11, Tryd.ntmps11
          go_wp2
          go_ret
          exact ⟨rfl, rfl⟩
  · have h1 : 0 ≤ a := by omega
    have h2 : a ≤ 5 := by omega
    have h3 : 0 ≤ b := by omega
    have h4 : b ≤ 5 := by omega
    clear h
    go_enter Tryd.func11, Tryd.ntmps11
    go_wp2_with (first | (go_at_call 24; refine (tg_yes _ _ _ h1 h2 h3 h4).mono ?_; rintro e w' ⟨rfl, rfl⟩) | go_in)
    go_ret
    exact ⟨rfl, rfl⟩

end Go.Proofs.YtgcplfldfjpnpaaDoor
