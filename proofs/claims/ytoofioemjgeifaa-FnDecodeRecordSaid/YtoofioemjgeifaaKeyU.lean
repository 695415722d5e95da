/-
  DecodeKey of the reference and of the program hand back one and the same row; the exact statement about DecodeKey. Conditions: the text is no longer than Go lets one be.
-/
import Derived.Test.YtoofioemjgeifaaKeyT
import Derived.Test.YtoofioemjgeifaaKeyM
namespace Go.Proofs.Ytoofioemjgeifaa
open Go.RowKit
set_option linter.unusedVariables false
set_option linter.unusedSimpArgs false

theorem dkS (s : ByteArray) (w : World) (hm : s.size ≤ 1048576) :
    Calls Try.prog 23 #[.string s] w (Key1 s w) := by
  go_enter Try.func23, Try.ntmps23
  go_wp2_with fail
  refine (rdS s _ hm).mono ?_
  rintro e w1 ⟨hb1, v, out, rfl, hown, hl6, hfit, hout⟩
  obtain ⟨A, c, rfl, hL, hblk⟩ := ow_open (by omega) encV_len hown
  have hf : Fit out := fun x hx => by have := hfit x hx; omega
  go_wp2_with fail
  refine (vrS A c out _ hL.rl hf (by omega)).mono ?_
  rintro e w2 ⟨rfl, hb2⟩
  have hown2 := ow_below hown hb2
  have hb2' := bt2 hb1 hb2
  cases hv : vrB out
  · have hD := hide (sdk_no hout (.inl hv))
    go_wp2_with fail
    go_ret2
    exact ⟨hb2', .inr ⟨hD.out, rfl⟩⟩
  · go_wp2_with fail
    refine (ekS A c out _ (hL.rl.below hb2) hv).mono ?_
    rintro e w3 ⟨rfl, hb3⟩
    have hown3 := ow_below hown2 hb3
    have hb3' := bt2 hb2' hb3
    by_cases he : ek out = s
    · have hD := hide (sdk_some hv he)
      have n1 : ((ek out).toList == s.toList) = true := by rw [he, beq_self_eq_true]
      clear he
      go_wp2_with fail
      go_ret2
      exact ⟨hb3', .inl ⟨out, _, hD.out, rfl, hown3⟩⟩
    · have hD := hide (sdk_no hout (.inr he))
      have n1 : ((ek out).toList == s.toList) = false := by
        cases hh : ((ek out).toList == s.toList)
        · rfl
        · exact absurd (tl_inj (eq_of_beq hh)) he
      clear he
      go_wp2_with fail
      go_ret2
      exact ⟨hb3', .inr ⟨hD.out, rfl⟩⟩

/-- The row and the answer, opened. -/
noncomputable def DR (s : ByteArray) : List Vl := (DK s).getD []
noncomputable def DO (s : ByteArray) : Bool := (DK s).isSome
def KeyO (xs : List Vl) (ok : Bool) (w : World) (e : Ending) (w' : World) : Prop :=
  ∃ A c, e = .returned (.tuple #[.slice A xs.length c, .bool ok]) ∧ Below w.heap.size w w' ∧ Rl encV 3 w' A xs ∧ xs.length ≤ c ∧ c ≤ 9223372036854775807 ∧ (xs = [] ∨ ∃ g arr, A = some ⟨g, 0, none⟩ ∧ w.heap.size ≤ g ∧ Blk w' g 54 arr ∧ arr.size = c * 3)
theorem key_open {s : ByteArray} {w w' : World} {e : Ending} (h : Key1 s w e w') : KeyO (DR s) (DO s) w e w' := by
  obtain ⟨hb, ⟨vs, v, h1, rfl, hown⟩ | ⟨h1, rfl⟩⟩ := h
  · have a : DR s = vs := by unfold DR; rw [h1]; rfl
    have b : DO s = true := by unfold DO; rw [h1]; rfl
    rw [a, b]
    obtain ⟨A, c, rfl, hL, hblk⟩ := ow_open (by omega) encV_len hown
    exact ⟨A, c, rfl, hb, hL.rl, hL.cap, hL.max, hblk⟩
  · have a : DR s = [] := by unfold DR; rw [h1]; rfl
    have b : DO s = false := by unfold DO; rw [h1]; rfl
    rw [a, b]
    exact ⟨none, 0, rfl, hb, Rl.nil, Nat.le_refl _, by omega, .inl rfl⟩
theorem DR_len (s : ByteArray) : (DR s).length ≤ 5 := by
  unfold DR
  cases h : DK s with
  | none => simp
  | some vs => exact vr_len (DK_row h).1

set_option maxHeartbeats 2000000 in
theorem exactDecode_walk (s : ByteArray) (w : World) (hs : s.size ≤ 9223372036854775807) :
    Calls Try.prog 6 #[.string s] w fun e w' => e = .returned (.bool true) ∧ Below w.heap.size w w' := by
  by_cases h1 : 1048576 < s.size
  · go_enter Try.func6, Try.ntmps6
    go_wp2
    go_ret
    exact ⟨rfl, Below.refl _ _⟩
  · have hS : Hid (∀ W, Calls Try.prog 23 #[.string s] W (KeyO (DR s) (DO s) W)) := fun W => (dkS s W (by omega)).mono fun e w' h => key_open h
    have hI : Hid (∀ W, Calls Try.prog 24 #[.string s] W (KeyO (DR s) (DO s) W)) := fun W => (dkI s W hs).mono fun e w' h => key_open h
    have hl := DR_len s
    generalize DR s = xs at hS hI hl
    generalize DO s = z at hS hI
    have nz : (z != z) = false := by cases z <;> rfl
    by_cases he : xs = []
    · subst he
      go_enter Try.func6, Try.ntmps6
      go_wp2_with fail
      refine (hS.out _).mono ?_
      rintro e w1 ⟨A1, c1, rfl, hb1, r1, l1, m1, -⟩
      go_wp2_with fail
      refine (hI.out _).mono ?_
      rintro e w2 ⟨A2, c2, rfl, hb2, r2, l2, m2, -⟩
      go_wp2_with fail
      refine (eqVs A2 A1 c2 c1 [] _ r2 (r1.below hb2) (by simp)).mono ?_
      rintro e w3 ⟨rfl, hb3⟩
      go_wp2_with fail
      refine (markV0 A2 c2 _ _).mono ?_
      rintro e w4 ⟨rfl, rfl⟩
      go_wp2_with fail
      refine (heldV0 A2 c2 _ _).mono ?_
      rintro e w4 ⟨rfl, rfl⟩
      go_wp2_with fail
      refine (hI.out _).mono ?_
      rintro e w4 ⟨A3, c3, rfl, hb4, r3, l3, m3, -⟩
      go_wp2_with fail
      refine (eqVs A3 A1 c3 c1 [] _ r3 Rl.nil (by simp)).mono ?_
      rintro e w5 ⟨rfl, hb5⟩
      go_wp2_with fail
      refine (heldV0 A2 c2 _ _).mono ?_
      rintro e w6 ⟨rfl, rfl⟩
      go_wp2_with fail
      go_ret
      exact ⟨rfl, bt2 (bt2 (bt2 (bt2 hb1 hb2) hb3) hb4) hb5⟩
    · go_enter Try.func6, Try.ntmps6
      go_wp2_with fail
      refine (hS.out _).mono ?_
      rintro e w1 ⟨A1, c1, rfl, hb1, r1, l1, m1, ho1⟩
      obtain ⟨g1, arr1, rfl, z1, k1, y1⟩ := ho1.resolve_left he
      have lt1 := k1.lt
      go_wp2_with fail
      refine (hI.out _).mono ?_
      rintro e w2 ⟨A2, c2, rfl, hb2, r2, l2, m2, ho2⟩
      obtain ⟨g2, arr2, rfl, z2, k2, y2⟩ := ho2.resolve_left he
      have hb2' := bt2 hb1 hb2
      have r1' := r1.below hb2
      clear ho1 ho2
      go_wp2_with fail
      refine (eqVs _ _ c2 c1 xs _ r2 r1' (by omega)).mono ?_
      rintro e w3 ⟨rfl, hb3⟩
      have hb3' := bt2 hb2' hb3
      have r1'' := r1'.below hb3
      have k2' := k2.below hb3
      have hsz3 := hb3'.size
      have hsz1 := hb1.size
      have hsz2 := hb2.size
      have hsz3b := hb3.size
      clear r1 r1' r2 hb2 hb2' hb3
      go_wp2_with fail
      refine (markV_any g2 xs.length c2 1 arr2 _ k2' y2 l2 (by omega) (by omega)).mono ?_
      rintro e w4 ⟨rfl, hg4, hf4⟩
      have r1m := r1''.kept hg4 (fun g e => by cases e; simp; omega)
      have hb4' := below_of_grown hb3' hg4 (by omega) hsz3
      clear r1'' k2' hg4 hb3'
      go_wp2_with fail
      refine (heldV_any g2 xs.length c2 1 _ hf4 l2 (by omega) (by omega)).mono ?_
      rintro e w5 ⟨rfl, hb5⟩
      have hb5' := bt2 hb4' hb5
      have r1n := r1m.below hb5
      have hf5 := hf4.below hb5
      clear hf4 hb5 hb4' r1m
      go_wp2_with fail
      refine (hI.out _).mono ?_
      rintro e w6 ⟨A3, c3, rfl, hb6, r3, l3, m3, -⟩
      have hb6' := bt2 hb5' hb6
      have r1o := r1n.below hb6
      have hf6 := hf5.below hb6
      clear hf5 hb6 hb5' r1n
      go_wp2_with fail
      refine (eqVs _ _ c3 c1 xs _ r3 r1o (by omega)).mono ?_
      rintro e w7 ⟨rfl, hb7⟩
      have hb7' := bt2 hb6' hb7
      have hf7 := hf6.below hb7
      clear hf6 hb7 hb6' r1o r3
      go_wp2_with fail
      refine (heldV_any g2 xs.length c2 1 _ hf7 l2 (by omega) (by omega)).mono ?_
      rintro e w8 ⟨rfl, hb8⟩
      go_wp2_with fail
      go_ret
      exact ⟨rfl, bt2 hb7' hb8⟩

end Go.Proofs.Ytoofioemjgeifaa
