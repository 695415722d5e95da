/-
  A text's frame, of the program and of the reference, and the exact statement about it. Conditions: none but that a text is no longer than Go lets one be.
-/
import Derived.Test.YtgcnaajinkhakaaHex
namespace Go.Proofs.Ytgcnaajinkhakaa
open Go.RowKit
set_option linter.unusedVariables false
set_option linter.unusedSimpArgs false

def front (s : ByteArray) : ByteArray := hx3 s.size ++ s
def frm (s : ByteArray) : ByteArray := front s ++ hx3 (sumT (front s))
def FT (s : ByteArray) : ByteArray := if s.size ≤ 40 then frm s else ByteArray.empty
theorem hx3_size (n : Int) : (hx3 n).size = 3 := by unfold hx3; rw [strOfNums_size]; rfl
theorem front_size (s : ByteArray) : (front s).size = s.size + 3 := by unfold front; rw [ByteArray.size_append, hx3_size]; omega
theorem frm_size (s : ByteArray) : (frm s).size = s.size + 6 := by unfold frm; rw [ByteArray.size_append, hx3_size, front_size]

theorem frame_any (s : ByteArray) (w : World) (hs : s.size ≤ 4000) :
    Calls Try.prog 29 #[.string s] w fun e w' => e = .returned (.string (frm s)) ∧ Below w.heap.size w w' := by
  have hr := sum_rng (front s).data.toList
  have hz := front_size s
  have z1 : (hx3 (s.size : Int)).size ≤ 3 := Nat.le_of_eq (hx3_size _)
  have z2 : (hx3 (s.size : Int) ++ s).size ≤ s.size + 3 := Nat.le_of_eq hz
  have z3 : (hx3 (sumT (front s))).size ≤ 3 := Nat.le_of_eq (hx3_size _)
  clear hz
  go_enter Try.func29, Try.ntmps29
  go_wp2_with fail
  refine (three_any s.size _ (by omega) (by omega)).mono ?_
  rintro e w1 ⟨rfl, hb1⟩
  go_wp2_with fail
  refine (three_any s.size _ (by omega) (by omega)).mono ?_
  rintro e w2 ⟨rfl, hb2⟩
  go_wp2_with fail
  refine (checkSum (front s) _ (by rw [front_size]; omega)).mono ?_
  rintro e w3 ⟨rfl, rfl⟩
  go_wp2_with fail
  refine (three_any (sumT (front s)) _ hr.1 (by have := hr.2; unfold sumT; omega)).mono ?_
  rintro e w3 ⟨rfl, hb3⟩
  go_wp2_with fail
  go_ret
  exact ⟨rfl, bt2 (bt2 hb1 hb2) hb3⟩

theorem ftS (s : ByteArray) (w : World) (hs : s.size ≤ 9223372036854775807) :
    Calls Try.prog 13 #[.string s] w fun e w' => e = .returned (.string (FT s)) ∧ Below w.heap.size w w' := by
  by_cases h : s.size ≤ 40
  · rw [show FT s = frm s by unfold FT; rw [if_pos h]]
    go_enter Try.func13, Try.ntmps13
    go_wp2_with fail
    refine (frame_any s _ (by omega)).mono ?_
    rintro e w1 ⟨rfl, hb1⟩
    go_wp2_with fail
    go_ret
    exact ⟨rfl, hb1⟩
  · rw [show FT s = ByteArray.empty by unfold FT; rw [if_neg h]]
    go_enter Try.func13, Try.ntmps13
    go_wp2_with fail
    go_ret
    exact ⟨rfl, Below.refl _ _⟩

theorem ftI (s : ByteArray) (w : World) (hs : s.size ≤ 9223372036854775807) :
    Calls Try.prog 14 #[.string s] w fun e w' => e = .returned (.string (FT s)) ∧ Below w.heap.size w w' := by
  by_cases h : s.size ≤ 40
  · rw [show FT s = frm s by unfold FT; rw [if_pos h]]
    have hr := sum_rng (front s).data.toList
    have hz := front_size s
    have z1 : (hx3 (s.size : Int)).size ≤ 3 := Nat.le_of_eq (hx3_size _)
    have z2 : (hx3 (s.size : Int) ++ s).size ≤ s.size + 3 := Nat.le_of_eq hz
    have z3 : (hx3 (sumT (front s))).size ≤ 3 := Nat.le_of_eq (hx3_size _)
    clear hz
    go_enter Try.func14, Try.ntmps14
    go_wp2_with fail
    refine (hex3_any s.size _ (by omega) (by omega)).mono ?_
    rintro e w1 ⟨rfl, hb1⟩
    go_wp2_with fail
    refine (frameSum (front s) _ (by rw [front_size]; omega)).mono ?_
    rintro e w2 ⟨rfl, rfl⟩
    go_wp2_with fail
    refine (hex3_any (sumT (front s)) _ hr.1 (by have := hr.2; unfold sumT; omega)).mono ?_
    rintro e w3 ⟨rfl, hb3⟩
    go_wp2_with fail
    go_ret
    exact ⟨rfl, bt2 hb1 hb3⟩
  · rw [show FT s = ByteArray.empty by unfold FT; rw [if_neg h]]
    go_enter Try.func14, Try.ntmps14
    go_wp2_with fail
    go_ret
    exact ⟨rfl, Below.refl _ _⟩

theorem exactFrame_walk (s : ByteArray) (w : World) (hs : s.size ≤ 9223372036854775807) :
    Calls Try.prog 3 #[.string s] w fun e w' => e = .returned (.bool true) ∧ Below w.heap.size w w' := by
  by_cases h1 : 1048576 < s.size
  · go_enter Try.func3, Try.ntmps3
    go_wp2
    go_ret
    exact ⟨rfl, Below.refl _ _⟩
  · have hne : (FT s).toList == (FT s).toList := beq_self_eq_true _
    go_enter Try.func3, Try.ntmps3
    go_wp2_with fail
    refine (ftS s _ hs).mono ?_
    rintro e w1 ⟨rfl, hb1⟩
    go_wp2_with fail
    refine (ftI s _ hs).mono ?_
    rintro e w2 ⟨rfl, hb2⟩
    go_wp2_with fail
    go_ret
    exact ⟨rfl, bt2 hb1 hb2⟩

end Go.Proofs.Ytgcnaajinkhakaa
