/-
  Requests copied and compared, as the exact statements do it. Conditions: the slices read as lists.
-/
import Derived.Test.YtgcplfldfjpnpaaDoorReq4
import Derived.Deep.RegionHeld3
import Derived.Deep.DrawnRows
namespace Go.Proofs.YtgcplfldfjpnpaaDoor
open Go.RowKit
set_option linter.unusedVariables false
set_option linter.unusedSimpArgs false

theorem infoR : (Tryd.prog.info? 32).map (fun i => (i.zero, i.size, i.bytes)) = some (some (.agg #[.int .i64 0, .int .i64 0]), 2, 16) := by kernel_rfl
theorem to1 (a b : Int) (w : World) :
    Calls Tryd.prog 33 #[.agg #[.int .i64 a, .int .i64 b]] w fun e w' => e = .returned (.agg #[.int .i64 a, .int .i64 b]) ∧ Below w.heap.size w w' := by
  go_enter Tryd.func33, Tryd.ntmps33
  go_wp2
  go_returns
  exact ⟨rfl, by go_grown⟩

def Made {α : Type} (enc : α → List Value) (size : Nat) (xs : List α) (w : World) (e : Ending) (w' : World) : Prop :=
  ∃ g, e = .returned (.slice (some ⟨g, 0, none⟩) xs.length xs.length) ∧ Rl enc size w' (some ⟨g, 0, none⟩) xs ∧ Below w.heap.size w w' ∧ w.heap.size ≤ g

set_option maxHeartbeats 1000000 in
theorem toRs (A : Option Addr) (c : Nat) (rs : List (Int × Int)) (w : World) (hr : Rl encR 2 w A rs) (hc : rs.length ≤ 1048576) :
    Calls Tryd.prog 21 #[.slice A rs.length c] w (Made encR 2 rs w) := by
  obtain ⟨i0, hi, hz0, hz1, hz2⟩ := info_parts infoR
  have hmk := fun W => mk_rows (P := Tryd.prog) 28 32 i0 _ 2 16 Tryd.underlying28 hi hz0 hz1 hz2 rs.length (by omega) (by omega) W
  clear hi hz0 hz1 hz2
  go_enter Tryd.func21, Tryd.ntmps21
  go_wp2
  have hb0 : Below w.heap.size w (w.alloc (.cells (madeCells #[.int .i64 0, .int .i64 0] (rs.length * 2)) 32)) := by go_grown
  have hf0 : Fil w.heap.size 32 (rs.length * 2) 0 (rs.flatMap encR) (w.alloc (.cells (madeCells #[.int .i64 0, .int .i64 0] (rs.length * 2)) 32)) := Fil.new rfl
  clear hmk
  go_loopw [4] (fun v wr => ∃ k : Nat, k ≤ rs.length ∧ v = .int .i64 k ∧ Below w.heap.size w wr ∧ Fil w.heap.size 32 (rs.length * 2) (k * 2) (rs.flatMap encR) wr) (fun v _ => rs.length - (intOf v).toNat)
  case atStart => exact ⟨0, by omega, rfl, hb0, hf0⟩
  case round =>
    obtain ⟨k, hk, rfl, hb, hf⟩ := hrel
    clear hb0 hf0
    by_cases hlt : k < rs.length
    · obtain ⟨b, off, rfl, c0, c1⟩ := (hr.below hb).req hlt
      have e0 := hide (flat_at (xs := rs) encR_len hlt (j := 0) (u := .int .i64 rs[k].1) rfl)
      have e1 := hide (flat_at (xs := rs) encR_len hlt (j := 1) (u := .int .i64 rs[k].2) rfl)
      generalize rs[k].1 = o at c0 e0
      generalize rs[k].2 = m at c1 e1
      go_wp2_with fail
      refine (to1 o m _).mono ?_
      rintro e w2 ⟨rfl, hb2⟩
      have hf2 := hf.below hb2
      obtain ⟨⟨u0, q0⟩, f0⟩ := hf2.cell (p := k * 2) (by omega)
      obtain ⟨⟨u1, q1⟩, f1⟩ := hf2.cell (p := k * 2 + 1) (by omega)
      go_wp2_with fail
      go_roundw
      case rel =>
        refine ⟨k + 1, by omega, by go_num, ((bt hb hb2 hb.size).setCell (Nat.le_refl _) _).setCell (Nat.le_refl _) _, ?_⟩
        have := (hf2.step (by omega) e0.out).step (by omega) e1.out
        rw [show (k + 1) * 2 = k * 2 + 1 + 1 by omega]
        exact this
      case measure => simp [intOf]; omega
    · obtain rfl : k = rs.length := by omega
      go_wp2
      go_ret
      exact ⟨w.heap.size, rfl, hf.all encR_len rfl, hb, Nat.le_refl _⟩

/-- Two slices compared: equal lists. -/
def eqB (rs qs : List (Int × Int)) : Bool := rs == qs
theorem eqRs (A B : Option Addr) (c d : Nat) (rs : List (Int × Int)) (w : World) (hr : Rl encR 2 w A rs) (hq : Rl encR 2 w B rs) (hc : rs.length ≤ 1048576) :
    Calls Tryd.prog 22 #[.slice A rs.length c, .slice B rs.length d] w fun e w' => e = .returned (.bool true) ∧ Below w.heap.size w w' := by
  go_enter Tryd.func22, Tryd.ntmps22
  go_wp2
  go_loopw [5] (fun v wr => ∃ k : Nat, k ≤ rs.length ∧ v = .int .i64 k ∧ Below w.heap.size w wr) (fun v _ => rs.length - (intOf v).toNat)
  case atStart => exact ⟨0, by omega, rfl, Below.refl _ _⟩
  case round =>
    obtain ⟨k, hk, rfl, hb⟩ := hrel
    by_cases hlt : k < rs.length
    · obtain ⟨b, off, rfl, c0, c1⟩ := (hr.below hb).req hlt
      obtain ⟨b', off', rfl, d0, d1⟩ := (hq.below hb).req hlt
      generalize rs[k].1 = o at c0 d0
      generalize rs[k].2 = m at c1 d1
      have b1 : (k : Int) < (rs.length : Int) := by omega
      have n1 : (o == o && m == m) = true := by simp
      go_wp2_with fail
      go_region_held3 (fun w' => w'.cell? ⟨b, off + k * 2, none⟩ = some (.int .i64 o) ∧ w'.cell? ⟨b, off + k * 2 + 1, none⟩ = some (.int .i64 m) ∧ w'.cell? ⟨b', off' + k * 2, none⟩ = some (.int .i64 o) ∧ w'.cell? ⟨b', off' + k * 2 + 1, none⟩ = some (.int .i64 m))
        (first | exact ⟨c0, c1, d0, d1⟩ | exact ⟨((of_drew hb2).cell (p := ⟨_, _, none⟩) (cell_lt c0)).trans c0, ((of_drew hb2).cell (p := ⟨_, _, none⟩) (cell_lt c1)).trans c1, ((of_drew hb2).cell (p := ⟨_, _, none⟩) (cell_lt d0)).trans d0, ((of_drew hb2).cell (p := ⟨_, _, none⟩) (cell_lt d1)).trans d1⟩)
        (first | (go_at_call 34; refine (eq1_any o m o m _).mono ?_; rintro e w2 ⟨rfl, hb2⟩))
      go_wp2_with fail
      go_roundw
      case rel => exact ⟨k + 1, by omega, by go_num, bt hb (of_drew hb2) hb.size⟩
      case measure => simp [intOf]; omega
    · obtain rfl : k = rs.length := by omega
      go_wp2
      go_ret
      exact ⟨rfl, hb⟩

theorem exactGranted_walk (A : Option Addr) (c : Nat) (rs : List (Int × Int)) (w : World) (hr : Rl encR 2 w A rs) (hcap : rs.length ≤ c) (hmax : c ≤ 9223372036854775807) (hM : Masks w) :
    Calls Tryd.prog 10 #[.slice A rs.length c] w fun e w' => e = .returned (.bool true) ∧ Below w.heap.size w w' := by
  go_enter Tryd.func10, Tryd.ntmps10
  go_wp2_with fail
  refine (sz_any A rs.length c _ w (by omega) (by omega) (by omega)).mono ?_
  rintro e w1 ⟨rfl, rfl⟩
  by_cases hl : (rs.length : Int) ≤ 1048576
  · rw [if_pos hl]
    have hl' : rs.length ≤ 1048576 := by omega
    go_wp2_with fail
    refine (toRs A c rs _ hr hl').mono ?_
    rintro e w2 ⟨g2, rfl, hr2, hb2, hg2⟩
    go_wp2_with fail
    refine (glS _ _ rs _ hr2 hl').mono ?_
    rintro e w3 ⟨rfl, hb3⟩
    have hb3' := bt2 hb2 hb3
    go_wp2_with fail
    refine (toRs A c rs _ (hr.below hb3') hl').mono ?_
    rintro e w4 ⟨g4, rfl, hr4, hb4, hg4⟩
    have hb4' := bt2 hb3' hb4
    go_wp2_with fail
    refine (glI _ _ rs _ hr4 hl' (Nat.le_refl _) (hM.below hb4')).mono ?_
    rintro e w5 ⟨rfl, hb5⟩
    have hb5' := bt2 hb4' hb5
    have hr5 := hr4.below hb5
    go_wp2_with fail
    refine (toRs A c rs _ (hr.below hb5') hl').mono ?_
    rintro e w6 ⟨g6, rfl, hr6, hb6, hg6⟩
    have hb6' := bt2 hb5' hb6
    go_wp2_with fail
    refine (eqRs _ _ _ _ rs _ (hr5.below hb6) hr6 hl').mono ?_
    rintro e w7 ⟨rfl, hb7⟩
    go_wp2_with fail
    go_ret
    exact ⟨rfl, bt2 hb6' hb7⟩
  · rw [if_neg hl]
    go_wp2_with fail
    go_ret
    exact ⟨rfl, Below.refl _ _⟩

end Go.Proofs.YtgcplfldfjpnpaaDoor
