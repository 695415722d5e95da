/-
  Disks in the exact statements: sizes, a disk made anew, two disks compared. Conditions: the sectors and the writes read as lists.
-/
import Derived.Test.YtgabjepoooageaaDiskV
namespace Go.Proofs.Ytgabjepoooageaa
open Go.RowKit
set_option linter.unusedVariables false
set_option linter.unusedSimpArgs false

def szL (left : Int) (n : Nat) : Int := if (n : Int) ≤ left then left - n else -1
theorem szIs (A : Option Addr) (c n : Nat) (left : Int) (w : World) (h0 : 0 ≤ left) (h1 : left ≤ 1048576) (hn : n ≤ 9223372036854775807) :
    Calls Try.prog 38 #[.slice A n c, .int .i64 left] w fun e w' => e = .returned (.int .i64 (szL left n)) ∧ w = w' := by
  by_cases h : (n : Int) ≤ left
  · have H := hide (show szL left n = left - n from if_pos h)
    have h' : ¬ (left - (n : Int) < 0) := by omega
    go_enter Try.func38, Try.ntmps38
    go_wp2
    go_ret
    exact ⟨ret_int H.out.symm, rfl⟩
  · have H := hide (show szL left n = -1 from if_neg h)
    have h' : left - (n : Int) < 0 := by omega
    go_enter Try.func38, Try.ntmps38
    go_wp2
    go_ret
    exact ⟨ret_int H.out.symm, rfl⟩
theorem szWs (A : Option Addr) (c n : Nat) (left : Int) (w : World) (h0 : 0 ≤ left) (h1 : left ≤ 1048576) (hn : n ≤ 9223372036854775807) :
    Calls Try.prog 39 #[.slice A n c, .int .i64 left] w fun e w' => e = .returned (.int .i64 (szL left n)) ∧ w = w' := by
  by_cases h : (n : Int) ≤ left
  · have H := hide (show szL left n = left - n from if_pos h)
    have h' : ¬ (left - (n : Int) < 0) := by omega
    go_enter Try.func39, Try.ntmps39
    go_wp2
    go_ret
    exact ⟨ret_int H.out.symm, rfl⟩
  · have H := hide (show szL left n = -1 from if_neg h)
    have h' : left - (n : Int) < 0 := by omega
    go_enter Try.func39, Try.ntmps39
    go_wp2
    go_ret
    exact ⟨ret_int H.out.symm, rfl⟩
theorem szDk (A B : Option Addr) (c d n m : Nat) (w : World) (hn : n ≤ 9223372036854775807) (hm : m ≤ 9223372036854775807) :
    Calls Try.prog 15 #[.agg #[.slice A n c, .slice B m d], .int .i64 1048576] w fun e w' => ∃ s : Int, e = .returned (.int .i64 s) ∧ Below w.heap.size w w' ∧ (0 ≤ s → n ≤ 1048576 ∧ m ≤ 1048576) := by
  by_cases h : (n : Int) ≤ 1048576
  · have H := hide (show szL 1048576 n = 1048576 - n from if_pos h)
    have h' : ¬ ((1048576 : Int) - (n : Int) < 0) := by omega
    by_cases g : (m : Int) ≤ 1048576 - n
    · have G := hide (show szL (1048576 - (n : Int)) m = 1048576 - n - m from if_pos g)
      have g' : ¬ ((1048576 : Int) - (n : Int) - (m : Int) < 0) := by omega
      go_enter Try.func15, Try.ntmps15
      go_wp2_with fail
      refine (szIs A c n _ _ (by omega) (by omega) hn).mono ?_
      rintro e w1 ⟨rfl, rfl⟩
      rw [H.out]
      go_wp2_with fail
      refine (szWs B d m _ _ (by omega) (by omega) hm).mono ?_
      rintro e w1 ⟨rfl, rfl⟩
      rw [G.out]
      go_wp2_with fail
      go_ret
      exact ⟨_, rfl, by go_grown, fun _ => by omega⟩
    · have G := hide (show szL (1048576 - (n : Int)) m = -1 from if_neg g)
      go_enter Try.func15, Try.ntmps15
      go_wp2_with fail
      refine (szIs A c n _ _ (by omega) (by omega) hn).mono ?_
      rintro e w1 ⟨rfl, rfl⟩
      rw [H.out]
      go_wp2_with fail
      refine (szWs B d m _ _ (by omega) (by omega) hm).mono ?_
      rintro e w1 ⟨rfl, rfl⟩
      rw [G.out]
      go_wp2_with fail
      go_ret
      exact ⟨_, rfl, by go_grown, fun _ => by omega⟩
  · have H := hide (show szL 1048576 n = -1 from if_neg h)
    go_enter Try.func15, Try.ntmps15
    go_wp2_with fail
    refine (szIs A c n _ _ (by omega) (by omega) hn).mono ?_
    rintro e w1 ⟨rfl, rfl⟩
    rw [H.out]
    go_wp2_with fail
    go_ret
    exact ⟨_, rfl, by go_grown, fun _ => by omega⟩

theorem infoI : (Try.prog.info? 3).map (fun i => (i.zero, i.size, i.bytes)) = some (some (.int .i64 0), 1, 8) := by kernel_rfl
theorem infoW : (Try.prog.info? 41).map (fun i => (i.zero, i.size, i.bytes)) = some (some (.agg #[.int .i64 0, .int .i64 0]), 2, 16) := by kernel_rfl
def Made {α : Type} (enc : α → List Value) (size : Nat) (t : TypeId) (xs : List α) (w : World) (e : Ending) (w' : World) : Prop :=
  ∃ g, e = .returned (.slice (some ⟨g, 0, none⟩) xs.length xs.length) ∧ Rl enc size w' (some ⟨g, 0, none⟩) xs ∧ Below w.heap.size w w' ∧ w.heap.size ≤ g ∧ Fil g t (xs.length * size) (xs.length * size) (xs.flatMap enc) w'

set_option maxHeartbeats 1000000 in
theorem toIs (A : Option Addr) (c : Nat) (rs : List Int) (w : World) (hr : Rl encD 1 w A rs) (hc : rs.length ≤ 1048576) :
    Calls Try.prog 41 #[.slice A rs.length c] w (Made encD 1 3 rs w) := by
  obtain ⟨i0, hi, hz0, hz1, hz2⟩ := info_parts infoI
  have hmk := fun W => mk_rows (P := Try.prog) 22 3 i0 _ 1 8 Try.underlying22 hi hz0 hz1 hz2 rs.length (by omega) (by omega) W
  clear hi hz0 hz1 hz2
  go_enter Try.func41, Try.ntmps41
  go_wp2
  have hb0 : Below w.heap.size w (w.alloc (.cells (madeCells #[.int .i64 0] rs.length) 3)) := by go_grown
  have hf0 : Fil w.heap.size 3 rs.length 0 (rs.flatMap encD) (w.alloc (.cells (madeCells #[.int .i64 0] rs.length) 3)) := Fil.new rfl
  clear hmk
  go_loopw [4] (fun v wr => ∃ k : Nat, k ≤ rs.length ∧ v = .int .i64 k ∧ Below w.heap.size w wr ∧ Fil w.heap.size 3 rs.length k (rs.flatMap encD) wr) (fun v _ => rs.length - (intOf v).toNat)
  case atStart => exact ⟨0, by omega, rfl, hb0, hf0⟩
  case round =>
    obtain ⟨k, hk, rfl, hb, hf⟩ := hrel
    clear hb0 hf0
    by_cases hlt : k < rs.length
    · obtain ⟨b, off, rfl, c0⟩ := (hr.below hb).num hlt
      have e0 := hide (show (rs.flatMap encD)[k]? = some (.int .i64 rs[k]) by have := flat_at (xs := rs) encD_len hlt (j := 0) (u := .int .i64 rs[k]) rfl; rwa [Nat.mul_one, Nat.add_zero] at this)
      generalize rs[k] = x at c0 e0
      obtain ⟨⟨u0, q0⟩, f0⟩ := hf.cell (p := k) (by omega)
      go_wp2_with fail
      go_roundw
      case rel => exact ⟨k + 1, by omega, by go_num, hb.setCell (Nat.le_refl _) _, hf.step (by omega) e0.out⟩
      case measure => simp [intOf]; omega
    · obtain rfl : k = rs.length := by omega
      go_wp2
      go_ret
      exact ⟨w.heap.size, rfl, hf.all encD_len (by rw [Nat.mul_one]), hb, Nat.le_refl _, by rw [Nat.mul_one]; exact hf⟩
theorem to1 (x : Int × Int) (w : World) :
    Calls Try.prog 35 #[.agg #[.int .i64 x.1, .int .i64 x.2]] w fun e w' => e = .returned (.agg #[.int .i64 x.1, .int .i64 x.2]) ∧ Below w.heap.size w w' := by
  go_enter Try.func35, Try.ntmps35
  go_wp2
  go_returns
  exact ⟨rfl, by go_grown⟩
set_option maxHeartbeats 1000000 in
theorem toWs (A : Option Addr) (c : Nat) (rs : List (Int × Int)) (w : World) (hr : Rl encW 2 w A rs) (hc : rs.length ≤ 1048576) :
    Calls Try.prog 42 #[.slice A rs.length c] w (Made encW 2 41 rs w) := by
  obtain ⟨i0, hi, hz0, hz1, hz2⟩ := info_parts infoW
  have hmk := fun W => mk_rows (P := Try.prog) 28 41 i0 _ 2 16 Try.underlying28 hi hz0 hz1 hz2 rs.length (by omega) (by omega) W
  clear hi hz0 hz1 hz2
  go_enter Try.func42, Try.ntmps42
  go_wp2
  have hb0 : Below w.heap.size w (w.alloc (.cells (madeCells #[.int .i64 0, .int .i64 0] (rs.length * 2)) 41)) := by go_grown
  have hf0 : Fil w.heap.size 41 (rs.length * 2) 0 (rs.flatMap encW) (w.alloc (.cells (madeCells #[.int .i64 0, .int .i64 0] (rs.length * 2)) 41)) := Fil.new rfl
  clear hmk
  go_loopw [4] (fun v wr => ∃ k : Nat, k ≤ rs.length ∧ v = .int .i64 k ∧ Below w.heap.size w wr ∧ Fil w.heap.size 41 (rs.length * 2) (k * 2) (rs.flatMap encW) wr) (fun v _ => rs.length - (intOf v).toNat)
  case atStart => exact ⟨0, by omega, rfl, hb0, hf0⟩
  case round =>
    obtain ⟨k, hk, rfl, hb, hf⟩ := hrel
    clear hb0 hf0
    by_cases hlt : k < rs.length
    · obtain ⟨b, off, rfl, c0, c1⟩ := (hr.below hb).wr hlt
      have e0 := hide (flat_at (xs := rs) encW_len hlt (j := 0) (u := .int .i64 rs[k].1) rfl)
      have e1 := hide (flat_at (xs := rs) encW_len hlt (j := 1) (u := .int .i64 rs[k].2) rfl)
      generalize rs[k] = x at c0 c1 e0 e1
      go_wp2_with fail
      refine (to1 x _).mono ?_
      rintro e w2 ⟨rfl, hb2⟩
      have hf2 := hf.below hb2
      obtain ⟨⟨u0, q0⟩, f0⟩ := hf2.cell (p := k * 2) (by omega)
      obtain ⟨⟨u1, q1⟩, f1⟩ := hf2.cell (p := k * 2 + 1) (by omega)
      go_wp2_with fail
      go_roundw
      case rel =>
        refine ⟨k + 1, by omega, by go_num, ((bt hb hb2 hb.size).setCell (Nat.le_refl _) _).setCell (Nat.le_refl _) _, ?_⟩
        have := (hf2.step (by omega) e0.out).step (by omega) e1.out
        rw [show (k + 1) * 2 = k * 2 + 1 + 1 by omega]
        exact this
      case measure => simp [intOf]; omega
    · obtain rfl : k = rs.length := by omega
      go_wp2
      go_ret
      exact ⟨w.heap.size, rfl, hf.all encW_len rfl, hb, Nat.le_refl _, hf⟩

theorem eqIs (A B : Option Addr) (c d : Nat) (rs : List Int) (w : World) (hr : Rl encD 1 w A rs) (hq : Rl encD 1 w B rs) (hc : rs.length ≤ 1048576) :
    Calls Try.prog 44 #[.slice A rs.length c, .slice B rs.length d] w fun e w' => e = .returned (.bool true) ∧ Below w.heap.size w w' := by
  go_enter Try.func44, Try.ntmps44
  go_wp2
  go_loopw [5] (fun v wr => ∃ k : Nat, k ≤ rs.length ∧ v = .int .i64 k ∧ Below w.heap.size w wr) (fun v _ => rs.length - (intOf v).toNat)
  case atStart => exact ⟨0, by omega, rfl, Below.refl _ _⟩
  case round =>
    obtain ⟨k, hk, rfl, hb⟩ := hrel
    by_cases hlt : k < rs.length
    · obtain ⟨b, off, rfl, c0⟩ := (hr.below hb).num hlt
      obtain ⟨b', off', rfl, d0⟩ := (hq.below hb).num hlt
      generalize rs[k] = x at c0 d0
      have b1 : (k : Int) < (rs.length : Int) := by omega
      go_wp2_with fail
      go_quiet (fail)
      go_wp2_with fail
      go_roundw
      case rel => exact ⟨k + 1, by omega, by go_num, below_drewN hb _⟩
      case measure => simp [intOf]; omega
    · obtain rfl : k = rs.length := by omega
      go_wp2
      go_ret
      exact ⟨rfl, hb⟩
theorem eq1 (x : Int × Int) (w : World) :
    Calls Try.prog 62 #[.agg #[.int .i64 x.1, .int .i64 x.2], .agg #[.int .i64 x.1, .int .i64 x.2]] w fun e w' => e = .returned (.bool true) ∧ Below w.heap.size w w' := by
  go_enter Try.func62, Try.ntmps62
  go_wp2
  go_ret
  exact ⟨rfl, by go_grown⟩
theorem eqWs (A B : Option Addr) (c d : Nat) (rs : List (Int × Int)) (w : World) (hr : Rl encW 2 w A rs) (hq : Rl encW 2 w B rs) (hc : rs.length ≤ 1048576) :
    Calls Try.prog 45 #[.slice A rs.length c, .slice B rs.length d] w fun e w' => e = .returned (.bool true) ∧ Below w.heap.size w w' := by
  go_enter Try.func45, Try.ntmps45
  go_wp2
  go_loopw [5] (fun v wr => ∃ k : Nat, k ≤ rs.length ∧ v = .int .i64 k ∧ Below w.heap.size w wr) (fun v _ => rs.length - (intOf v).toNat)
  case atStart => exact ⟨0, by omega, rfl, Below.refl _ _⟩
  case round =>
    obtain ⟨k, hk, rfl, hb⟩ := hrel
    by_cases hlt : k < rs.length
    · obtain ⟨b, off, rfl, c0, c1⟩ := (hr.below hb).wr hlt
      obtain ⟨b', off', rfl, d0, d1⟩ := (hq.below hb).wr hlt
      generalize rs[k] = x at c0 c1 d0 d1
      have b1 : (k : Int) < (rs.length : Int) := by omega
      go_wp2_with fail
      go_region_held3 (fun w' => w'.cell? ⟨b, off + k * 2, none⟩ = some (.int .i64 x.1) ∧ w'.cell? ⟨b, off + k * 2 + 1, none⟩ = some (.int .i64 x.2) ∧
          w'.cell? ⟨b', off' + k * 2, none⟩ = some (.int .i64 x.1) ∧ w'.cell? ⟨b', off' + k * 2 + 1, none⟩ = some (.int .i64 x.2))
        (first | exact ⟨c0, c1, d0, d1⟩ | exact ⟨cell_on (of_drew hb3) c0, cell_on (of_drew hb3) c1, cell_on (of_drew hb3) d0, cell_on (of_drew hb3) d1⟩)
        (first | (go_at_call 62; refine (eq1 x _).mono ?_; rintro e w3 ⟨rfl, hb3⟩))
      go_wp2_with fail
      go_roundw
      case rel => exact ⟨k + 1, by omega, by go_num, bt hb (of_drew hb3) hb.size⟩
      case measure => simp [intOf]; omega
    · obtain rfl : k = rs.length := by omega
      go_wp2
      go_ret
      exact ⟨rfl, hb⟩
set_option maxHeartbeats 1000000 in
theorem eqDk (A B A' B' : Option Addr) (c d c' d' : Nat) (xs : List Int) (ws : List (Int × Int)) (w : World) (hr : Rl encD 1 w A xs) (hq : Rl encW 2 w B ws) (hr' : Rl encD 1 w A' xs) (hq' : Rl encW 2 w B' ws) (hc : xs.length ≤ 1048576) (hd : ws.length ≤ 1048576) :
    Calls Try.prog 19 #[.agg #[.slice A xs.length c, .slice B ws.length d], .agg #[.slice A' xs.length c', .slice B' ws.length d']] w fun e w' => e = .returned (.bool true) ∧ Below w.heap.size w w' := by
  have hb0 : Below w.heap.size w ((w.alloc (.cells #[.slice A xs.length c, .slice B ws.length d] 30)).alloc (.cells #[.slice A' xs.length c', .slice B' ws.length d'] 30)) := by go_grown
  have kA := (Blk.new w 30 #[.slice A xs.length c, .slice B ws.length d]).alloc (.cells #[.slice A' xs.length c', .slice B' ws.length d'] 30)
  have kB := Blk.new (w.alloc (.cells #[.slice A xs.length c, .slice B ws.length d] 30)) 30 #[.slice A' xs.length c', .slice B' ws.length d']
  simp only [World.size_alloc] at kB
  go_enter Try.func19, Try.ntmps19
  go_wp2_with fail
  generalize (w.alloc (.cells #[.slice A xs.length c, .slice B ws.length d] 30)).alloc (.cells #[.slice A' xs.length c', .slice B' ws.length d'] 30) = w0 at hb0 kA kB
  refine (eqIs A A' c c' xs _ (hr.below hb0) (hr'.below hb0) hc).mono ?_
  rintro e w1 ⟨rfl, hb1⟩
  have hA1 : w1.cell? ⟨w.heap.size, 1, none⟩ = some (.slice B ws.length d) := (kA.below hb1).cell 1
  have hB1 : w1.cell? ⟨w.heap.size + 1, 1, none⟩ = some (.slice B' ws.length d') := (kB.below hb1).cell 1
  have hbb := bt hb0 hb1 hb0.size
  go_wp2_with fail
  refine (eqWs B B' d d' ws _ (hq.below hbb) (hq'.below hbb) hd).mono ?_
  rintro e w2 ⟨rfl, hb2⟩
  go_wp2_with fail
  go_ret
  exact ⟨rfl, bt hbb hb2 hbb.size⟩

end Go.Proofs.Ytgabjepoooageaa
