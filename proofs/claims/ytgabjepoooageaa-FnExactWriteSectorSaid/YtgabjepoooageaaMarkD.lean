/-
  Disks in the exact statements: rows marked and held. Conditions: blocks that are known whole; marks stay far below the int's bound.
-/
import Derived.Test.YtgabjepoooageaaCrash
namespace Go.Proofs.Ytgabjepoooageaa
open Go.RowKit
set_option linter.unusedVariables false
set_option linter.unusedSimpArgs false

def mki (q n : Nat) : List Int := (List.range n).map fun (i : Nat) => ((q : Int) + (i : Int))
theorem mki_len (q n : Nat) : (mki q n).length = n := by simp [mki]
theorem mki_at {q n k : Nat} (h : k < n) : (mki q n)[k]'(by rw [mki_len]; exact h) = (q : Int) + k := by simp [mki]
def mkw (q n : Nat) : List (Int × Int) := (List.range n).map fun (i : Nat) => ((q : Int) + 2 * (i : Int), (q : Int) + 2 * (i : Int) + 1)
theorem mkw_len (q n : Nat) : (mkw q n).length = n := by simp [mkw]
theorem mkw_at {q n k : Nat} (h : k < n) : (mkw q n)[k]'(by rw [mkw_len]; exact h) = ((q : Int) + 2 * k, (q : Int) + 2 * k + 1) := by simp [mkw]

set_option maxHeartbeats 1000000 in
theorem markI_any (g n c N q : Nat) (cs : List Value) (w : World) (hF : Fil g 3 N 0 cs w) (hn : n ≤ N) (hm : q + n ≤ 100000000) :
    Calls Try.prog 56 #[.slice (some ⟨g, 0, none⟩) n c, .int .i64 (q : Int)] w fun e w' => e = .returned (.int .i64 ((q : Int) + n)) ∧ w.grownBy w' (some g) ∧ Fil g 3 N n ((mki q n).flatMap encD) w' := by
  have hF0 : Fil g 3 N 0 ((mki q n).flatMap encD) w := by
    obtain ⟨arr, h1, h2, _⟩ := hF
    exact ⟨arr, h1, h2, fun p u h => absurd h (by omega)⟩
  clear hF
  go_enter Try.func56, Try.ntmps56
  go_wp2_with fail
  go_loopw [1, 5] (fun u v wr => ∃ k : Nat, k ≤ n ∧ v = .int .i64 k ∧ u = .int .i64 ((q : Int) + k) ∧ w.grownBy wr (some g) ∧ Fil g 3 N k ((mki q n).flatMap encD) wr) (fun _ v _ => n - (intOf v).toNat)
  case atStart => exact ⟨0, by omega, rfl, by simp, World.grownBy.refl _ _, hF0⟩
  case round =>
    obtain ⟨k, hk, rfl, rfl, hg, hf⟩ := hrel
    clear hF0
    by_cases hlt : k < n
    · have hkn : (k : Int) < (n : Int) := by omega
      have hat := mki_at (q := q) hlt
      have e0 := flat_at (xs := mki q n) encD_len (k := k) (by rw [mki_len]; exact hlt) (j := 0) (by rw [hat]; rfl)
      rw [Nat.mul_one, Nat.add_zero] at e0
      have e0h := hide e0
      clear e0 hat
      obtain ⟨⟨u0, q0⟩, f0⟩ := hf.cell (p := k) (by omega)
      go_wp2_with fail
      go_roundw
      case rel => exact ⟨k + 1, by omega, by go_num, by rw [Value.int.injEq]; exact ⟨rfl, by omega⟩, grown_set hg (.inl rfl) _, hf.step (by omega) e0h.out⟩
      case measure => simp [intOf]; omega
    · obtain rfl : k = n := by omega
      go_wp2
      go_ret
      exact ⟨rfl, hg, hf⟩

set_option maxHeartbeats 1000000 in
theorem heldI_any (g n c N q : Nat) (w : World) (hf : Fil g 3 N n ((mki q n).flatMap encD) w) (hn : n ≤ N) (hm : q + n ≤ 100000000) :
    Calls Try.prog 58 #[.slice (some ⟨g, 0, none⟩) n c, .int .i64 (q : Int)] w fun e w' => e = .returned (.int .i64 ((q : Int) + n)) ∧ w = w' := by
  go_enter Try.func58, Try.ntmps58
  go_wp2_with fail
  go_loop [1, 5] (fun u v => ∃ k : Nat, k ≤ n ∧ v = .int .i64 k ∧ u = .int .i64 ((q : Int) + k)) (fun _ v => n - (intOf v).toNat)
  case atStart => exact ⟨0, by omega, rfl, by simp⟩
  case round =>
    obtain ⟨k, hk, rfl, rfl⟩ := hrel
    by_cases hlt : k < n
    · have hkn : (k : Int) < (n : Int) := by omega
      have hat := mki_at (q := q) hlt
      have c0 := hf.at (p := k) (by omega) (u := .int .i64 ((q : Int) + k)) (by
        have := flat_at (xs := mki q n) encD_len (k := k) (by rw [mki_len]; exact hlt) (j := 0) (u := .int .i64 ((q : Int) + k)) (by rw [hat]; rfl)
        rwa [Nat.mul_one, Nat.add_zero] at this)
      clear hat
      have n2 : ((q : Int) + k != (q : Int) + k) = false := by simp
      go_wp2_with fail
      go_round
      case rel => exact ⟨k + 1, by omega, by go_num, by rw [Value.int.injEq]; exact ⟨rfl, by omega⟩⟩
      case measure => simp [intOf]; omega
    · obtain rfl : k = n := by omega
      go_wp2
      go_ret
      exact ⟨rfl, rfl⟩

set_option maxHeartbeats 1000000 in
theorem markW_any (g n c N q : Nat) (cs : List Value) (w : World) (hF : Fil g 41 (N * 2) 0 cs w) (hn : n ≤ N) (hm : q + 2 * n ≤ 100000000) :
    Calls Try.prog 57 #[.slice (some ⟨g, 0, none⟩) n c, .int .i64 (q : Int)] w fun e w' => e = .returned (.int .i64 ((q : Int) + 2 * n)) ∧ w.grownBy w' (some g) ∧ Fil g 41 (N * 2) (n * 2) ((mkw q n).flatMap encW) w' := by
  have hF0 : Fil g 41 (N * 2) 0 ((mkw q n).flatMap encW) w := by
    obtain ⟨arr, h1, h2, _⟩ := hF
    exact ⟨arr, h1, h2, fun p u h => absurd h (by omega)⟩
  clear hF
  go_enter Try.func57, Try.ntmps57
  go_wp2_with fail
  go_loopw [1, 5] (fun u v wr => ∃ k : Nat, k ≤ n ∧ v = .int .i64 k ∧ u = .int .i64 ((q : Int) + 2 * k) ∧ w.grownBy wr (some g) ∧ Fil g 41 (N * 2) (k * 2) ((mkw q n).flatMap encW) wr) (fun _ v _ => n - (intOf v).toNat)
  case atStart => exact ⟨0, by omega, rfl, by simp, World.grownBy.refl _ _, hF0⟩
  case round =>
    obtain ⟨k, hk, rfl, rfl, hg, hf⟩ := hrel
    clear hF0
    by_cases hlt : k < n
    · have hkn : (k : Int) < (n : Int) := by omega
      have hat := mkw_at (q := q) hlt
      have e0 := flat_at (xs := mkw q n) encW_len (k := k) (by rw [mkw_len]; exact hlt) (j := 0) (by rw [hat]; rfl)
      have e1 := flat_at (xs := mkw q n) encW_len (k := k) (by rw [mkw_len]; exact hlt) (j := 1) (by rw [hat]; rfl)
      have e0h := hide e0
      have e1h := hide e1
      clear e0 e1 hat
      obtain ⟨⟨u0, q0⟩, f0⟩ := hf.cell (p := k * 2) (by omega)
      obtain ⟨⟨u1, q1⟩, f1⟩ := hf.cell (p := k * 2 + 1) (by omega)
      go_wp2_with fail
      go_roundw
      case rel =>
        refine ⟨k + 1, by omega, by go_num, by rw [Value.int.injEq]; exact ⟨rfl, by omega⟩, grown_set (grown_set hg (.inl rfl) _) (.inl rfl) _, ?_⟩
        have := (hf.step (by omega) e0h.out).step (by omega) e1h.out
        rw [show (k + 1) * 2 = k * 2 + 1 + 1 by omega]
        exact this
      case measure => simp [intOf]; omega
    · obtain rfl : k = n := by omega
      go_wp2
      go_ret
      exact ⟨rfl, hg, hf⟩

set_option maxHeartbeats 1000000 in
theorem heldW_any (g n c N q : Nat) (w : World) (hf : Fil g 41 (N * 2) (n * 2) ((mkw q n).flatMap encW) w) (hn : n ≤ N) (hm : q + 2 * n ≤ 100000000) :
    Calls Try.prog 59 #[.slice (some ⟨g, 0, none⟩) n c, .int .i64 (q : Int)] w fun e w' => e = .returned (.int .i64 ((q : Int) + 2 * n)) ∧ w = w' := by
  go_enter Try.func59, Try.ntmps59
  go_wp2_with fail
  go_loop [1, 5] (fun u v => ∃ k : Nat, k ≤ n ∧ v = .int .i64 k ∧ u = .int .i64 ((q : Int) + 2 * k)) (fun _ v => n - (intOf v).toNat)
  case atStart => exact ⟨0, by omega, rfl, by simp⟩
  case round =>
    obtain ⟨k, hk, rfl, rfl⟩ := hrel
    by_cases hlt : k < n
    · have hkn : (k : Int) < (n : Int) := by omega
      have hat := mkw_at (q := q) hlt
      have c0 := hf.at (p := k * 2) (by omega) (u := .int .i64 ((q : Int) + 2 * k)) (flat_at (xs := mkw q n) encW_len (k := k) (by rw [mkw_len]; exact hlt) (j := 0) (by rw [hat]; rfl))
      have c1 := hf.at (p := k * 2 + 1) (by omega) (u := .int .i64 ((q : Int) + 2 * k + 1)) (flat_at (xs := mkw q n) encW_len (k := k) (by rw [mkw_len]; exact hlt) (j := 1) (by rw [hat]; rfl))
      clear hat
      have n2 : ((q : Int) + 2 * k != (q : Int) + 2 * k) = false := by simp
      have n3 : ((q : Int) + 2 * k + 1 != (q : Int) + 2 * k + 1) = false := by simp
      go_wp2_with fail
      go_round
      case rel => exact ⟨k + 1, by omega, by go_num, by rw [Value.int.injEq]; exact ⟨rfl, by omega⟩⟩
      case measure => simp [intOf]; omega
    · obtain rfl : k = n := by omega
      go_wp2
      go_ret
      exact ⟨rfl, rfl⟩

theorem markI0 (A : Option Addr) (c : Nat) (q : Int) (w : World) :
    Calls Try.prog 56 #[.slice A 0 c, .int .i64 q] w fun e w' => e = .returned (.int .i64 q) ∧ w = w' := by
  go_enter Try.func56, Try.ntmps56
  go_wp2_with fail
  go_loop [1, 5] (fun u v => u = .int .i64 q ∧ v = .int .i64 0) (fun u v => 0)
  case atStart => exact ⟨rfl, rfl⟩
  case round =>
    obtain ⟨rfl, rfl⟩ := hrel
    go_wp2_with fail
    go_ret
    exact ⟨rfl, rfl⟩

theorem heldI0 (A : Option Addr) (c : Nat) (q : Int) (w : World) :
    Calls Try.prog 58 #[.slice A 0 c, .int .i64 q] w fun e w' => e = .returned (.int .i64 q) ∧ w = w' := by
  go_enter Try.func58, Try.ntmps58
  go_wp2_with fail
  go_loop [1, 5] (fun u v => u = .int .i64 q ∧ v = .int .i64 0) (fun u v => 0)
  case atStart => exact ⟨rfl, rfl⟩
  case round =>
    obtain ⟨rfl, rfl⟩ := hrel
    go_wp2_with fail
    go_ret
    exact ⟨rfl, rfl⟩

theorem markW0 (A : Option Addr) (c : Nat) (q : Int) (w : World) :
    Calls Try.prog 57 #[.slice A 0 c, .int .i64 q] w fun e w' => e = .returned (.int .i64 q) ∧ w = w' := by
  go_enter Try.func57, Try.ntmps57
  go_wp2_with fail
  go_loop [1, 5] (fun u v => u = .int .i64 q ∧ v = .int .i64 0) (fun u v => 0)
  case atStart => exact ⟨rfl, rfl⟩
  case round =>
    obtain ⟨rfl, rfl⟩ := hrel
    go_wp2_with fail
    go_ret
    exact ⟨rfl, rfl⟩

theorem heldW0 (A : Option Addr) (c : Nat) (q : Int) (w : World) :
    Calls Try.prog 59 #[.slice A 0 c, .int .i64 q] w fun e w' => e = .returned (.int .i64 q) ∧ w = w' := by
  go_enter Try.func59, Try.ntmps59
  go_wp2_with fail
  go_loop [1, 5] (fun u v => u = .int .i64 q ∧ v = .int .i64 0) (fun u v => 0)
  case atStart => exact ⟨rfl, rfl⟩
  case round =>
    obtain ⟨rfl, rfl⟩ := hrel
    go_wp2_with fail
    go_ret
    exact ⟨rfl, rfl⟩

/-- All old blocks but two are as they were. -/
structure Kept2 (w w' : World) (g h : Nat) : Prop where
  os : w'.os = w.os
  tape : w'.tape = w.tape
  output : w'.output = w.output
  size : w.heap.size ≤ w'.heap.size
  block : ∀ k, k < w.heap.size → k ≠ g → k ≠ h → w'.heap[k]? = w.heap[k]?
theorem kept2_of {a b c : World} {g h : Nat} (h1 : a.grownBy b (some g)) (h2 : b.grownBy c (some h)) : Kept2 a c g h :=
  ⟨h2.os.trans h1.os, h2.tape.trans h1.tape, h2.output.trans h1.output, Nat.le_trans h1.size h2.size, fun k hk hg hh => (h2.block k (Nat.lt_of_lt_of_le hk h1.size) (by simpa using hh)).trans (h1.block k hk (by simpa using hg))⟩
section
variable {w w' : World} {g h : Nat}
theorem Kept2.blk {b : Nat} {t : TypeId} {cs : Array Value} (k : Kept2 w w' g h) (hb : Blk w b t cs) (h1 : b ≠ g) (h2 : b ≠ h) : Blk w' b t cs := (k.block b hb.lt h1 h2).trans hb
theorem Kept2.ri {b N : Nat} {xs : List Int} (k : Kept2 w w' g h) (hb : Ri b N xs w) (h1 : b ≠ g) (h2 : b ≠ h) : Ri b N xs w' := by
  obtain ⟨arr, a, r⟩ := hb
  exact ⟨arr, k.blk a h1 h2, r⟩
theorem Kept2.under {a : World} {B : Nat} (k : Kept2 w w' g h) (hb : Below B a w) (h1 : B ≤ g) (h2 : B ≤ h) (hB : B ≤ w.heap.size) : Below B a w' :=
  ⟨k.os.trans hb.os, k.tape.trans hb.tape, k.output.trans hb.output, Nat.le_trans hb.size k.size, fun i hi => (k.block i (by omega) (by omega) (by omega)).trans (hb.block i hi)⟩
end

set_option maxHeartbeats 1000000 in
/-- The marks of a disk made anew. -/
theorem markD_any (g h n m c d q : Nat) (cs ds : List Value) (w : World) (hF : Fil g 3 (n * 1) (n * 1) cs w) (hG : Fil h 41 (m * 2) (m * 2) ds w) (hgh : g < h) (hn : n ≤ 1048576) (hm : m ≤ 1048576) (hq : q ≤ 10) :
    Calls Try.prog 36 #[.agg #[.slice (some ⟨g, 0, none⟩) n c, .slice (some ⟨h, 0, none⟩) m d], .int .i64 (q : Int)] w fun e w' => e = .returned (.int .i64 ((q : Int) + n + 2 * m)) ∧ Kept2 w w' g h := by
  have hb0 : Below w.heap.size w (w.alloc (.cells #[.slice (some ⟨g, 0, none⟩) n c, .slice (some ⟨h, 0, none⟩) m d] 30)) := (Below.refl _ _).alloc (Nat.le_refl _) _
  have kB := Blk.new w 30 #[.slice (some ⟨g, 0, none⟩) n c, .slice (some ⟨h, 0, none⟩) m d]
  have hgl := hF.lt
  have hhl := hG.lt
  have hF0 : Fil g 3 n 0 cs (w.alloc (.cells #[.slice (some ⟨g, 0, none⟩) n c, .slice (some ⟨h, 0, none⟩) m d] 30)) := by
    obtain ⟨arr, h1, h2, _⟩ := hF.below hb0
    exact ⟨arr, h1, by omega, fun p u h => absurd h (by omega)⟩
  have hG0 : Fil h 41 (m * 2) 0 ds (w.alloc (.cells #[.slice (some ⟨g, 0, none⟩) n c, .slice (some ⟨h, 0, none⟩) m d] 30)) := by
    obtain ⟨arr, h1, h2, _⟩ := hG.below hb0
    exact ⟨arr, h1, h2, fun p u h => absurd h (by omega)⟩
  clear hF hG
  have hgg : w.grownBy (w.alloc (.cells #[.slice (some ⟨g, 0, none⟩) n c, .slice (some ⟨h, 0, none⟩) m d] 30)) (some g) := grown_below hb0 _
  go_enter Try.func36, Try.ntmps36
  go_wp2_with fail
  generalize w.alloc (.cells #[.slice (some ⟨g, 0, none⟩) n c, .slice (some ⟨h, 0, none⟩) m d] 30) = w0 at hb0 kB hF0 hG0 hgg
  refine (markI_any g n c n q cs _ hF0 (Nat.le_refl _) (by omega)).mono ?_
  rintro e w1 ⟨rfl, hg1, -⟩
  have hG1 := hG0.kept hg1 (by simp; omega)
  have kB1 := kB.kept hg1 (by simp; omega)
  have hB1 : w1.cell? ⟨w.heap.size, 1, none⟩ = some (.slice (some ⟨h, 0, none⟩) m d) := kB1.cell 1
  have hgr := grown_trans hgg hg1
  clear hG0 hF0 kB kB1
  rw [show (q : Int) + n = ((q + n : Nat) : Int) by omega]
  go_wp2_with fail
  refine (markW_any h m d m (q + n) ds _ hG1 (Nat.le_refl _) (by omega)).mono ?_
  rintro e w2 ⟨rfl, hg2, -⟩
  go_wp2_with fail
  go_ret
  exact ⟨ret_int (by omega), kept2_of hgr hg2⟩

set_option maxHeartbeats 1000000 in
/-- The marks of a disk handed back. -/
theorem markR_any (g n N c q : Nat) (xs : List Int) (hx : xs.length = n) (w : World) (hR : Ri g N xs w) (hn : n ≤ 1048576) (hq : q ≤ 10) :
    Calls Try.prog 36 #[.agg #[.slice (some ⟨g, 0, none⟩) n c, .slice none 0 0], .int .i64 (q : Int)] w fun e w' => e = .returned (.int .i64 ((q : Int) + n)) ∧ w.grownBy w' (some g) ∧ Fil g 3 N n ((mki q n).flatMap encD) w' := by
  have hb0 : Below w.heap.size w (w.alloc (.cells #[.slice (some ⟨g, 0, none⟩) n c, .slice none 0 0] 30)) := (Below.refl _ _).alloc (Nat.le_refl _) _
  have kB := Blk.new w 30 #[.slice (some ⟨g, 0, none⟩) n c, .slice none 0 0]
  have hgl := hR.lt
  have hnN : n ≤ N := by
    obtain ⟨arr, h1, h2, h3, _⟩ := hR
    omega
  have hF0 : Fil g 3 N 0 [] (w.alloc (.cells #[.slice (some ⟨g, 0, none⟩) n c, .slice none 0 0] 30)) := by
    obtain ⟨arr, h1, h2, _⟩ := hR.below hb0
    exact ⟨arr, h1, by omega, fun p u h => absurd h (by omega)⟩
  clear hR
  have hgg : w.grownBy (w.alloc (.cells #[.slice (some ⟨g, 0, none⟩) n c, .slice none 0 0] 30)) (some g) := grown_below hb0 _
  go_enter Try.func36, Try.ntmps36
  go_wp2_with fail
  generalize w.alloc (.cells #[.slice (some ⟨g, 0, none⟩) n c, .slice none 0 0] 30) = w0 at hb0 kB hF0 hgg
  refine (markI_any g n c N q [] _ hF0 hnN (by omega)).mono ?_
  rintro e w1 ⟨rfl, hg1, hf1⟩
  have kB1 := kB.kept hg1 (by simp; omega)
  have hB1 : w1.cell? ⟨w.heap.size, 1, none⟩ = some (.slice none 0 0) := kB1.cell 1
  have hgr := grown_trans hgg hg1
  clear hF0 kB kB1
  go_wp2_with fail
  refine (markW0 none 0 _ _).mono ?_
  rintro e w2 ⟨rfl, rfl⟩
  go_wp2_with fail
  go_ret
  exact ⟨rfl, hgr, hf1⟩

set_option maxHeartbeats 1000000 in
theorem heldR_any (g n N c q : Nat) (w : World) (hF : Fil g 3 N n ((mki q n).flatMap encD) w) (hnN : n ≤ N) (hn : n ≤ 1048576) (hq : q ≤ 10) :
    Calls Try.prog 37 #[.agg #[.slice (some ⟨g, 0, none⟩) n c, .slice none 0 0], .int .i64 (q : Int)] w fun e w' => e = .returned (.int .i64 ((q : Int) + n)) ∧ Below w.heap.size w w' := by
  have hb0 : Below w.heap.size w (w.alloc (.cells #[.slice (some ⟨g, 0, none⟩) n c, .slice none 0 0] 30)) := (Below.refl _ _).alloc (Nat.le_refl _) _
  have kB := Blk.new w 30 #[.slice (some ⟨g, 0, none⟩) n c, .slice none 0 0]
  have hF0 := hF.below hb0
  clear hF
  go_enter Try.func37, Try.ntmps37
  go_wp2_with fail
  generalize w.alloc (.cells #[.slice (some ⟨g, 0, none⟩) n c, .slice none 0 0] 30) = w0 at hb0 kB hF0
  have hB1 : w0.cell? ⟨w.heap.size, 1, none⟩ = some (.slice none 0 0) := kB.cell 1
  refine (heldI_any g n c N q _ hF0 hnN (by omega)).mono ?_
  rintro e w1 ⟨rfl, rfl⟩
  go_wp2_with fail
  refine (heldW0 none 0 _ _).mono ?_
  rintro e w2 ⟨rfl, rfl⟩
  go_wp2_with fail
  go_ret
  exact ⟨rfl, hb0⟩

theorem markR0 (A : Option Addr) (c q : Nat) (w : World) (hq : q ≤ 10) :
    Calls Try.prog 36 #[.agg #[.slice A 0 c, .slice none 0 0], .int .i64 (q : Int)] w fun e w' => e = .returned (.int .i64 (q : Int)) ∧ Below w.heap.size w w' := by
  have hb0 : Below w.heap.size w (w.alloc (.cells #[.slice A 0 c, .slice none 0 0] 30)) := (Below.refl _ _).alloc (Nat.le_refl _) _
  have kB := Blk.new w 30 #[.slice A 0 c, .slice none 0 0]
  go_enter Try.func36, Try.ntmps36
  go_wp2_with fail
  generalize w.alloc (.cells #[.slice A 0 c, .slice none 0 0] 30) = w0 at hb0 kB
  have hB1 : w0.cell? ⟨w.heap.size, 1, none⟩ = some (.slice none 0 0) := kB.cell 1
  refine (markI0 A c _ _).mono ?_
  rintro e w1 ⟨rfl, rfl⟩
  go_wp2_with fail
  refine (markW0 none 0 _ _).mono ?_
  rintro e w2 ⟨rfl, rfl⟩
  go_wp2_with fail
  go_ret
  exact ⟨rfl, hb0⟩

theorem heldR0 (A : Option Addr) (c q : Nat) (w : World) (hq : q ≤ 10) :
    Calls Try.prog 37 #[.agg #[.slice A 0 c, .slice none 0 0], .int .i64 (q : Int)] w fun e w' => e = .returned (.int .i64 (q : Int)) ∧ Below w.heap.size w w' := by
  have hb0 : Below w.heap.size w (w.alloc (.cells #[.slice A 0 c, .slice none 0 0] 30)) := (Below.refl _ _).alloc (Nat.le_refl _) _
  have kB := Blk.new w 30 #[.slice A 0 c, .slice none 0 0]
  go_enter Try.func37, Try.ntmps37
  go_wp2_with fail
  generalize w.alloc (.cells #[.slice A 0 c, .slice none 0 0] 30) = w0 at hb0 kB
  have hB1 : w0.cell? ⟨w.heap.size, 1, none⟩ = some (.slice none 0 0) := kB.cell 1
  refine (heldI0 A c _ _).mono ?_
  rintro e w1 ⟨rfl, rfl⟩
  go_wp2_with fail
  refine (heldW0 none 0 _ _).mono ?_
  rintro e w2 ⟨rfl, rfl⟩
  go_wp2_with fail
  go_ret
  exact ⟨rfl, hb0⟩

end Go.Proofs.Ytgabjepoooageaa
