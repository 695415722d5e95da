/-
  The lock modes: what validMode, LocksTogether, together and JoinLocks answer, for all arguments. Condition: the table of masks reads as it was laid.
-/
import Derived.Test.YtgcplfldfjpnpaaDoorBase
import Derived.Test.YtgcplfldfjpnpaaDoorChecked
import Derived.BigQuiet
import Derived.Deep.QuietTactic
import Derived.Outline
namespace Go.Proofs.YtgcplfldfjpnpaaDoor
open Go.RowKit
set_option linter.unusedVariables false
set_option linter.unusedSimpArgs false

def mks : List Int := [63, 31, 7, 11, 3, 1]
def mk (a : Int) : Int := mks.getD a.toNat 0
def Masks (w : World) : Prop := ∀ k : Nat, k ≤ 5 → w.cell? ⟨0, k, none⟩ = some (.int .u8 (mk k))
theorem Masks.below {w w' : World} (h : Masks w) (hb : Below w.heap.size w w') : Masks w' := fun k hk => (hb.cell (p := ⟨0, k, none⟩) (cell_lt (h k hk))).trans (h k hk)
theorem Masks.kept {w w' : World} {row : Option Nat} (h : Masks w) (hb : w.grownBy w' row) (hne : row ≠ some 0) : Masks w' := fun k hk => hb.cell (h k hk) (Ne.symm hne)
theorem Masks.alloc {w : World} (h : Masks w) (o : Obj) : Masks (w.alloc o) := h.below ((Below.refl _ _).alloc (Nat.le_refl _) o)
theorem Masks.drewN {w : World} (h : Masks w) (n : Nat) : Masks (w.drewN n) := h

def vm (a : Int) : Bool := decide (0 ≤ a) && decide (a ≤ 5)
def tog (a b : Int) : Bool := vm a && vm b && ((mk a).toNat / 2 ^ b.toNat % 2 == 1)

theorem six {a : Int} (h0 : 0 ≤ a) (h5 : a ≤ 5) : a = 0 ∨ a = 1 ∨ a = 2 ∨ a = 3 ∨ a = 4 ∨ a = 5 := by omega
theorem tog_no {a b : Int} (h : a < 0 ∨ 5 < a ∨ b < 0 ∨ 5 < b) : tog a b = false := by
  unfold tog vm
  rcases h with h | h | h | h
  · simp [show ¬ (0 ≤ a) by omega]
  · simp [show ¬ (a ≤ 5) by omega]
  · simp [show ¬ (0 ≤ b) by omega]
  · simp [show ¬ (b ≤ 5) by omega]

theorem vmI (a : Int) (w : World) : Calls Tryd.prog 25 #[.int .i64 a] w fun e w' => e = .returned (.bool (vm a)) ∧ w = w' := by
  by_cases h : 0 ≤ a
  all_goals
    go_enter Tryd.func25, Tryd.ntmps25
    go_wp2
    go_ret
    exact ⟨ret_bool (by simp [vm, h] <;> omega), rfl⟩
theorem vmS (a : Int) (w : World) : Calls Tryd.prog 23 #[.int .i64 a] w fun e w' => e = .returned (.bool (vm a)) ∧ w = w' := by
  by_cases h : 0 ≤ a
  all_goals
    go_enter Tryd.func23, Tryd.ntmps23
    go_wp2
    go_ret
    exact ⟨ret_bool (by simp [vm, h] <;> omega), rfl⟩
theorem vm_yes {a : Int} (h : 0 ≤ a) (h' : a ≤ 5) : vm a = true := by simp [vm, h, h']
theorem vm_no {a : Int} (h : a < 0 ∨ 5 < a) : vm a = false := by
  unfold vm
  rcases h with h | h
  · simp [show ¬ (0 ≤ a) by omega]
  · simp [show ¬ (a ≤ 5) by omega]
theorem vm_iff {a : Int} (h : vm a = true) : 0 ≤ a ∧ a ≤ 5 := by simpa [vm] using h

end Go.Proofs.YtgcplfldfjpnpaaDoor
