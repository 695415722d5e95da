/-
  Rows of values marked and read again, as the exact statements do it. Conditions: the row's block is known whole.
-/
import Derived.Test.YtoofioemjgeifaaMk
import Derived.Test.YtoofioemjgeifaaRows4
import Derived.Test.YtoofioemjgeifaaOwn
import Derived.Deep.RegionHeld3
import Derived.Deep.DrawnRows
namespace Go.Proofs.Ytoofioemjgeifaa
open Go.RowKit
set_option linter.unusedVariables false
set_option linter.unusedSimpArgs false

/-- The marks of n values from q on. -/
def mkv (q n : Nat) : List Vl := (List.range n).map fun (i : Nat) => ⟨(q : Int) + 3 * i, (q : Int) + 3 * i + 1, mt (q + 3 * i + 2)⟩
theorem mkv_len (q n : Nat) : (mkv q n).length = n := by simp [mkv]
theorem mkv_at {q n k : Nat} (h : k < n) : (mkv q n)[k]'(by rw [mkv_len]; exact h) = ⟨(q : Int) + 3 * k, (q : Int) + 3 * k + 1, mt (q + 3 * k + 2)⟩ := by simp [mkv]
def MarkedV (g n c q : Nat) (w : World) (e : Ending) (w' : World) : Prop :=
  e = .returned (.int .i64 ((q : Int) + 3 * n)) ∧ w.grownBy w' (some g) ∧ Fil g 54 (c * 3) (n * 3) ((mkv q n).flatMap encV) w'

set_option maxHeartbeats 1000000 in
theorem markV_any (g n c q : Nat) (arr : Array Value) (w : World) (hb : Blk w g 54 arr) (hc : arr.size = c * 3) (hn : n ≤ c) (hq : 0 < q) (hm : q + 3 * n ≤ 1000000) :
    Calls Try.prog 25 #[.slice (some ⟨g, 0, none⟩) n c, .int .i64 q] w (MarkedV g n c q w) := by
  have hF0 : Fil g 54 (c * 3) 0 ((mkv q n).flatMap encV) w := ⟨arr, hb, hc, fun p u h => absurd h (by omega)⟩
  clear hb hc
  go_enter Try.func25, Try.ntmps25
  go_wp2_with fail
  go_loopw [1, 5] (fun u v wr => ∃ k : Nat, k ≤ n ∧ v = .int .i64 k ∧ u = .int .i64 ((q : Int) + 3 * k) ∧ w.grownBy wr (some g) ∧ Fil g 54 (c * 3) (k * 3) ((mkv q n).flatMap encV) wr) (fun _ v _ => n - (intOf v).toNat)
  case atStart => exact ⟨0, by omega, rfl, by simp, World.grownBy.refl _ _, hF0⟩
  case round =>
    obtain ⟨k, hk, rfl, rfl, hg, hf⟩ := hrel
    clear hF0
    by_cases hlt : k < n
    · have hkn : (k : Int) < (n : Int) := by omega
      have hM := fun W => mark_any (q + 3 * k + 2) W (by omega) (by omega)
      have hat := mkv_at (q := q) hlt
      have e0 := flat_at (xs := mkv q n) encV_len (k := k) (by rw [mkv_len]; exact hlt) (j := 0) (by rw [hat]; rfl)
      have e1 := flat_at (xs := mkv q n) encV_len (k := k) (by rw [mkv_len]; exact hlt) (j := 1) (by rw [hat]; rfl)
      have e2 := flat_at (xs := mkv q n) encV_len (k := k) (by rw [mkv_len]; exact hlt) (j := 2) (by rw [hat]; rfl)
      rw [show (((q + 3 * k + 2 : Nat)) : Int) = (q : Int) + 3 * k + 1 + 1 by omega] at hM
      generalize mt (q + 3 * k + 2) = x at hM e2
      have e0h := hide e0
      have e1h := hide e1
      have e2h := hide e2
      have hM' := hide hM
      clear e0 e1 e2 hat hM
      obtain ⟨⟨u0, q0⟩, f0⟩ := hf.cell (p := k * 3) (by omega)
      obtain ⟨⟨u1, q1⟩, f1⟩ := hf.cell (p := k * 3 + 1) (by omega)
      obtain ⟨⟨u2, q2⟩, f2⟩ := hf.cell (p := k * 3 + 2) (by omega)
      go_wp2_with fail
      refine (hM'.out _).mono ?_
      rintro e w1 ⟨rfl, hb1⟩
      have hf1 := ((hf.step (by omega) e0h.out).step (by omega) e1h.out).below hb1
      have hg1 := grown_trans (grown_set (grown_set hg (p := ⟨g, k * 3, none⟩) (.inl rfl) (.int .i64 ((q : Int) + 3 * k))) (p := ⟨g, k * 3 + 1, none⟩) (.inl rfl) (.int .i64 ((q : Int) + 3 * k + 1))) (grown_below hb1 (some g))
      obtain ⟨⟨u2', q2'⟩, f2'⟩ := hf1.cell (p := k * 3 + 2) (by omega)
      clear q0 q1 q2 f0 f1 f2 hf hg hb1
      go_wp2_with fail
      go_roundw
      case rel =>
        refine ⟨k + 1, by omega, by go_num, by rw [Value.int.injEq]; exact ⟨rfl, by omega⟩, grown_set hg1 (.inl rfl) _, ?_⟩
        have := hf1.step (by omega) e2h.out
        rw [show (k + 1) * 3 = k * 3 + 1 + 1 + 1 by omega]
        exact this
      case measure => simp [intOf]; omega
    · obtain rfl : k = n := by omega
      go_wp2
      go_ret
      exact ⟨rfl, hg, hf⟩

set_option maxHeartbeats 1000000 in
theorem heldV_any (g n c q : Nat) (w : World) (hf : Fil g 54 (c * 3) (n * 3) ((mkv q n).flatMap encV) w) (hn : n ≤ c) (hq : 0 < q) (hm : q + 3 * n ≤ 1000000) :
    Calls Try.prog 26 #[.slice (some ⟨g, 0, none⟩) n c, .int .i64 q] w fun e w' => e = .returned (.int .i64 ((q : Int) + 3 * n)) ∧ Below w.heap.size w w' := by
  go_enter Try.func26, Try.ntmps26
  go_wp2_with fail
  go_loopw [1, 5] (fun u v wr => ∃ k : Nat, k ≤ n ∧ v = .int .i64 k ∧ u = .int .i64 ((q : Int) + 3 * k) ∧ Below w.heap.size w wr) (fun _ v _ => n - (intOf v).toNat)
  case atStart => exact ⟨0, by omega, rfl, by simp, Below.refl _ _⟩
  case round =>
    obtain ⟨k, hk, rfl, rfl, hb⟩ := hrel
    by_cases hlt : k < n
    · have hkn : (k : Int) < (n : Int) := by omega
      have hM := fun W => mark_any (q + 3 * k + 2) W (by omega) (by omega)
      have hat := mkv_at (q := q) hlt
      have hf1 := hf.below hb
      have c0 := hf1.at (p := k * 3) (by omega) (flat_at (xs := mkv q n) encV_len (k := k) (by rw [mkv_len]; exact hlt) (j := 0) (by rw [hat]; rfl))
      have c1 := hf1.at (p := k * 3 + 1) (by omega) (flat_at (xs := mkv q n) encV_len (k := k) (by rw [mkv_len]; exact hlt) (j := 1) (by rw [hat]; rfl))
      have c2 := hf1.at (p := k * 3 + 2) (by omega) (flat_at (xs := mkv q n) encV_len (k := k) (by rw [mkv_len]; exact hlt) (j := 2) (by rw [hat]; rfl))
      rw [show (((q + 3 * k + 2 : Nat)) : Int) = (q : Int) + 3 * k + 1 + 1 by omega] at hM
      generalize mt (q + 3 * k + 2) = x at hM c2
      have hM' := hide hM
      clear hM hat hf1
      have n1 : (x.toList != x.toList) = false := by rw [bne, beq_self_eq_true]; rfl
      have n2 : ((q : Int) + 3 * k != (q : Int) + 3 * k) = false := by simp
      have n3 : ((q : Int) + 3 * k + 1 != (q : Int) + 3 * k + 1) = false := by simp
      go_wp2_with fail
      go_region_held3 (fun w' => w'.cell? ⟨g, k * 3 + 2, none⟩ = some (.string x) ∧ Below w.heap.size w w')
        (first | exact ⟨c2, hb.drew⟩ | exact ⟨cell_on (of_drew hb2) c2, bt2 hb (of_drew hb2)⟩)
        (first | (go_at_call 48; refine (hM'.out _).mono ?_; rintro e w2 ⟨rfl, hb2⟩))
      go_wp2_with fail
      go_roundw
      case rel =>
        refine ⟨k + 1, by omega, by go_num, by rw [Value.int.injEq]; exact ⟨rfl, by omega⟩, bt2 hb (of_drew hb2)⟩
      case measure => simp [intOf]; omega
    · obtain rfl : k = n := by omega
      go_wp2
      go_ret
      exact ⟨rfl, hb⟩

theorem markV0 (A : Option Addr) (c : Nat) (q : Int) (w : World) :
    Calls Try.prog 25 #[.slice A 0 c, .int .i64 q] w fun e w' => e = .returned (.int .i64 q) ∧ w = w' := by
  go_enter Try.func25, Try.ntmps25
  go_wp2_with fail
  go_loop [1, 5] (fun u v => u = .int .i64 q ∧ v = .int .i64 0) (fun u v => 0)
  case atStart => exact ⟨rfl, rfl⟩
  case round =>
    obtain ⟨rfl, rfl⟩ := hrel
    go_wp2_with fail
    go_ret
    exact ⟨rfl, rfl⟩
theorem heldV0 (A : Option Addr) (c : Nat) (q : Int) (w : World) :
    Calls Try.prog 26 #[.slice A 0 c, .int .i64 q] w fun e w' => e = .returned (.int .i64 q) ∧ w = w' := by
  go_enter Try.func26, Try.ntmps26
  go_wp2_with fail
  go_loop [1, 5] (fun u v => u = .int .i64 q ∧ v = .int .i64 0) (fun u v => 0)
  case atStart => exact ⟨rfl, rfl⟩
  case round =>
    obtain ⟨rfl, rfl⟩ := hrel
    go_wp2_with fail
    go_ret
    exact ⟨rfl, rfl⟩

end Go.Proofs.Ytoofioemjgeifaa
