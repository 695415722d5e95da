/-
  The statements on lock modes, walked: LocksTogether and JoinLocks against the reference, and their laws. Conditions: the table of masks reads as it was laid; the code is a slice of bytes.
-/
import Derived.Test.YtgcplfldfjpnpaaDoorDraw
import Derived.Test.YtgcplfldfjpnpaaDoorJoin
import Derived.Test.YtgcplfldfjpnpaaDoorRow
namespace Go.Proofs.YtgcplfldfjpnpaaDoor
open Go.RowKit
set_option linter.unusedVariables false
set_option linter.unusedSimpArgs false

theorem exactLocks_walk (a b : Int) (w : World) (hM : Masks w) :
    Calls Tryd.prog 3 #[.int .i64 a, .int .i64 b] w fun e w' => e = .returned (.bool true) ∧ Below w.heap.size w w' := by
  cases ht : tog a b
  all_goals
    go_enter Tryd.func3, Tryd.ntmps3
    go_wp2_with (first
      | (go_at_call 11; refine (st_any _ _ _).mono ?_; rintro e w' ⟨rfl, rfl⟩)
      | (go_at_call 12; refine (lt_any _ _ _ hM).mono ?_; rintro e w' ⟨rfl, rfl⟩))
    go_ret
    exact ⟨rfl, Below.refl _ _⟩

theorem exactJoin_walk (a b : Int) (w : World) (hM : Masks w) :
    Calls Tryd.prog 5 #[.int .i64 a, .int .i64 b] w fun e w' => e = .returned (.bool true) ∧ Below w.heap.size w w' := by
  go_enter Tryd.func5, Tryd.ntmps5
  go_wp2_with (first
      | (go_at_call 14; refine (sj_any _ _ _).mono ?_; rintro e w' ⟨rfl, rfl⟩)
      | (go_at_call 15; refine (ij_any _ _ _ hM).mono ?_; rintro e w' ⟨rfl, n, rfl⟩))
  go_ret
  exact ⟨rfl, below_drewN (Below.refl _ _) _⟩

def DrawnTwo (w : World) (e : Ending) (w' : World) : Prop :=
  ∃ a b : Int, e = .returned (.tuple #[.int .i64 a, .int .i64 b]) ∧ -1 ≤ a ∧ a ≤ 6 ∧ -1 ≤ b ∧ b ≤ 6 ∧ Below w.heap.size w w'
theorem drawTwo (A : Option Addr) (c : Nat) (zs : List Int) (w : World) (h : Bytes w A c zs) :
    Calls Tryd.prog 13 #[.slice A zs.length c] w (DrawnTwo w) := by
  go_enter Tryd.func13, Tryd.ntmps13
  go_wp2_with fail
  refine (new_any A c zs w h.rl h.rng h.cap h.max h.blk).mono ?_
  rintro e w1 ⟨rfl, hr, hb⟩
  go_wp2_with fail
  refine (pick_any _ _ _ 8 w1 hr (by omega) (by omega) (by omega)).mono ?_
  rintro e w2 ⟨a, rfl, a0, a1, hr2, hg2⟩
  have a1' : a < 8 := by omega
  clear a1
  go_wp2_with fail
  refine (pick_any _ _ _ 8 w2 hr2 (by omega) (by omega) (by omega)).mono ?_
  rintro e w3 ⟨b, rfl, b0, b1, hr3, hg3⟩
  have b1' : b < 8 := by omega
  clear b1
  go_wp2_with fail
  go_ret2
  refine ⟨_, _, rfl, by omega, by omega, by omega, by omega, ?_⟩
  exact below_of_grown (below_of_grown hb hg2 (Nat.le_refl _) hb.size) hg3 (Nat.le_refl _) (Nat.le_trans hb.size hg2.size)

/-! ### the plain laws -/
theorem tog_comm (a b : Int) : tog b a = tog a b := by
  by_cases h : a < 0 ∨ 5 < a ∨ b < 0 ∨ 5 < b
  · rw [tog_no h, tog_no (by omega)]
  · rcases six (a := a) (by omega) (by omega) with rfl | rfl | rfl | rfl | rfl | rfl <;> rcases six (a := b) (by omega) (by omega) with rfl | rfl | rfl | rfl | rfl | rfl <;> rfl
theorem tog_zero (a : Int) : tog 0 a = (decide (0 ≤ a) && decide (a ≤ 5)) := by
  by_cases h : a < 0 ∨ 5 < a
  · rw [tog_no (by omega)]
    rcases h with h | h
    · simp [show ¬ (0 ≤ a) by omega]
    · simp [show ¬ (a ≤ 5) by omega]
  · rcases six (a := a) (by omega) (by omega) with rfl | rfl | rfl | rfl | rfl | rfl <;> rfl

theorem locks_walk (A : Option Addr) (c : Nat) (zs : List Int) (w : World) (h : Bytes w A c zs) (hM : Masks w) :
    Calls Tryd.prog 4 #[.slice A zs.length c] w fun e w' => e = .returned (.bool true) ∧ Below w.heap.size w w' := by
  have hmx := h.max
  have hcp := h.cap
  by_cases hl : 1048576 < zs.length
  · go_enter Tryd.func4, Tryd.ntmps4
    go_wp2
    go_ret
    exact ⟨rfl, Below.refl _ _⟩
  · go_enter Tryd.func4, Tryd.ntmps4
    go_wp2_with fail
    refine (drawTwo A c zs w h).mono ?_
    rintro e w1 ⟨a, b, rfl, a0, a1, b0, b1, hb⟩
    have hM1 := hM.below hb
    have e1 := tog_comm a b
    have e2 := hide (tog_zero a)
    go_wp2_with (first
      | (go_at_call 11; refine (st_any _ _ _).mono ?_; rintro e w' ⟨rfl, rfl⟩)
      | (go_at_call 12; refine (lt_any _ _ _ hM1).mono ?_; rintro e w' ⟨rfl, rfl⟩))
    all_goals
      go_ret
      exact ⟨ret_bool (by rw [e2.out]; simp [*] <;> omega), hb⟩

theorem drawJoin (A : Option Addr) (c : Nat) (zs : List Int) (w : World) (h : Bytes w A c zs) :
    Calls Tryd.prog 16 #[.slice A zs.length c] w (DrawnTwo w) := by
  go_enter Tryd.func16, Tryd.ntmps16
  go_wp2_with fail
  refine (drawTwo A c zs w h).mono ?_
  rintro e w1 ⟨a, b, rfl, a0, a1, b0, b1, hb⟩
  go_wp2_with fail
  go_ret2
  exact ⟨_, _, rfl, a0, a1, b0, b1, hb⟩

/-! ### the plain laws of joining -/
theorem join_ok {a b : Int} (ha : 0 ≤ a) (ha' : a ≤ 5) (hb : 0 ≤ b) (hb' : b ≤ 5) : 0 ≤ join a b ∧ join a b ≤ 5 ∧ join b a = join a b ∧ join a a = a ∧ join (join a b) a = join a b := by
  rcases six ha ha' with rfl | rfl | rfl | rfl | rfl | rfl <;> rcases six hb hb' with rfl | rfl | rfl | rfl | rfl | rfl <;> decide
theorem join_tog {a b : Int} (ha : 0 ≤ a) (ha' : a ≤ 5) (hb : 0 ≤ b) (hb' : b ≤ 5) (k : Nat) (hk : k ≤ 5) : tog (join a b) k = (tog a k && tog b k) := by
  have : ∀ k : Fin 6, tog (join a b) (k.val : Int) = (tog a (k.val : Int) && tog b (k.val : Int)) := by
    rcases six ha ha' with rfl | rfl | rfl | rfl | rfl | rfl <;> rcases six hb hb' with rfl | rfl | rfl | rfl | rfl | rfl <;> decide
  exact this ⟨k, by omega⟩
theorem join_three {a b : Int} (ha : 0 ≤ a) (ha' : a ≤ 5) (hb : 0 ≤ b) (hb' : b ≤ 5) (k : Nat) (hk : k ≤ 5) : join (join a b) k = join a (join b k) := by
  have : ∀ k : Fin 6, join (join a b) (k.val : Int) = join a (join b (k.val : Int)) := by
    rcases six ha ha' with rfl | rfl | rfl | rfl | rfl | rfl <;> rcases six hb hb' with rfl | rfl | rfl | rfl | rfl | rfl <;> decide
  exact this ⟨k, by omega⟩

theorem joinLocks_walk (A : Option Addr) (c : Nat) (zs : List Int) (w : World) (h : Bytes w A c zs) (hM : Masks w) :
    Calls Tryd.prog 7 #[.slice A zs.length c] w fun e w' => e = .returned (.bool true) ∧ Below w.heap.size w w' := by
  have hmx := h.max
  have hcp := h.cap
  by_cases hl : 1048576 < zs.length
  · go_enter Tryd.func7, Tryd.ntmps7
    go_wp2
    go_ret
    exact ⟨rfl, Below.refl _ _⟩
  · have hl0 : (decide (1048576 < (zs.length : Int))) = false := by simp; omega
    go_enter Tryd.func7, Tryd.ntmps7
    go_wp2_with fail
    refine (drawJoin A c zs w h).mono ?_
    rintro e w1 ⟨a, b, rfl, a0, a1, b0, b1, hb⟩
    have hM1 := hM.below hb
    clear hM
    by_cases hv : a < 0 ∨ 5 < a ∨ b < 0 ∨ 5 < b
    · have hj := join_no hv
      go_wp2_with (first
        | (go_at_call 14; refine (sj_any _ _ _).mono ?_; rintro e w' ⟨rfl, rfl⟩)
        | (go_at_call 15; refine (ij_any _ _ _ (by exact hM1)).mono ?_; rintro e w' ⟨rfl, n, rfl⟩))
      go_ret
      exact ⟨rfl, below_drewN hb _⟩
    · have j0 : 0 ≤ a := by omega
      have j1 : a ≤ 5 := by omega
      have j2 : 0 ≤ b := by omega
      have j3 : b ≤ 5 := by omega
      have HT := hide (join_tog j0 j1 j2 j3)
      obtain ⟨m0, m1, e1, e2, e3⟩ := join_ok j0 j1 j2 j3
      generalize hm : join a b = m at HT m0 m1 e1 e3
      clear hv
      go_wp2_with (first
        | (go_at_call 14; refine (sj_any _ _ _).mono ?_; rintro e w' ⟨rfl, rfl⟩)
        | (go_at_call 15; refine (ij_any _ _ _ (by exact hM1)).mono ?_; rintro e w' ⟨rfl, n, rfl⟩))
      go_loopw [6] (fun v wr => ∃ k : Nat, k ≤ 6 ∧ v = .int .i64 k ∧ Below w.heap.size w wr ∧ Masks wr) (fun v _ => 6 - (intOf v).toNat)
      case atStart => exact ⟨0, by omega, rfl, below_drewN hb _, hM1⟩
      case round =>
        obtain ⟨k, hk, rfl, hbr, hMr⟩ := hrel
        clear hM1 hb
        by_cases h5 : k ≤ 5
        · have ht := HT.out k h5
          cases ha1 : tog a (k : Int) <;> cases hb1 : tog b (k : Int)
          all_goals
            rw [ha1, hb1] at ht
            go_wp2_with (go_at_call 12; refine (lt_any _ _ _ hMr).mono ?_; rintro e w' ⟨rfl, rfl⟩)
            go_roundw
            case rel => exact ⟨k + 1, by omega, by go_num, hbr, hMr⟩
            case measure => simp [intOf]; omega
        · obtain rfl : k = 6 := by omega
          go_wp2_with (go_at_call 15; refine (ij_any _ _ _ (by exact hMr)).mono ?_; rintro e w' ⟨rfl, n, rfl⟩)
          go_ret
          exact ⟨rfl, below_drewN hbr _⟩

theorem joinThree_walk (A : Option Addr) (c : Nat) (zs : List Int) (w : World) (h : Bytes w A c zs) (hM : Masks w) :
    Calls Tryd.prog 6 #[.slice A zs.length c] w fun e w' => e = .returned (.bool true) ∧ Below w.heap.size w w' := by
  have hmx := h.max
  have hcp := h.cap
  by_cases hl : 1048576 < zs.length
  · go_enter Tryd.func6, Tryd.ntmps6
    go_wp2
    go_ret
    exact ⟨rfl, Below.refl _ _⟩
  · have hl0 : (decide (1048576 < (zs.length : Int))) = false := by simp; omega
    go_enter Tryd.func6, Tryd.ntmps6
    go_wp2_with fail
    refine (drawJoin A c zs w h).mono ?_
    rintro e w1 ⟨a, b, rfl, a0, a1, b0, b1, hb⟩
    have hM1 := hM.below hb
    clear hM
    by_cases hv : a < 0 ∨ 5 < a ∨ b < 0 ∨ 5 < b
    · have hj := join_no hv
      go_wp2_with (first
        | (go_at_call 14; refine (sj_any _ _ _).mono ?_; rintro e w' ⟨rfl, rfl⟩)
        | (go_at_call 15; refine (ij_any _ _ _ (by exact hM1)).mono ?_; rintro e w' ⟨rfl, n, rfl⟩))
      go_ret
      exact ⟨rfl, below_drewN hb _⟩
    · have j0 : 0 ≤ a := by omega
      have j1 : a ≤ 5 := by omega
      have j2 : 0 ≤ b := by omega
      have j3 : b ≤ 5 := by omega
      have HT := hide (join_three j0 j1 j2 j3)
      obtain ⟨m0, m1, _⟩ := join_ok j0 j1 j2 j3
      generalize hm : join a b = m at HT m0 m1
      clear hv
      go_wp2_with (first
        | (go_at_call 14; refine (sj_any _ _ _).mono ?_; rintro e w' ⟨rfl, rfl⟩)
        | (go_at_call 15; refine (ij_any _ _ _ (by exact hM1)).mono ?_; rintro e w' ⟨rfl, n, rfl⟩))
      go_loopw [6] (fun v wr => ∃ k : Nat, k ≤ 6 ∧ v = .int .i64 k ∧ Below w.heap.size w wr ∧ Masks wr) (fun v _ => 6 - (intOf v).toNat)
      case atStart => exact ⟨0, by omega, rfl, below_drewN hb _, hM1⟩
      case round =>
        obtain ⟨k, hk, rfl, hbr, hMr⟩ := hrel
        clear hM1 hb
        by_cases h5 : k ≤ 5
        · have ht := HT.out k h5
          go_wp2_with (go_at_call 15; refine (ij_any _ _ _ (by exact hMr)).mono ?_; rintro e w' ⟨rfl, n, rfl⟩)
          go_roundw
          case rel => exact ⟨k + 1, by omega, by go_num, below_drewN hbr _, hMr⟩
          case measure => simp [intOf]; omega
        · obtain rfl : k = 6 := by omega
          go_wp2
          go_ret
          exact ⟨rfl, hbr⟩

end Go.Proofs.YtgcplfldfjpnpaaDoor
