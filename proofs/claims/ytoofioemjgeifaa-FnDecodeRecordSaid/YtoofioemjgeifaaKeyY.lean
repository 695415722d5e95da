/-
  The exact statement about DecodeRecord, walked. Conditions: the text is no longer than Go lets one be.
-/
import Derived.Test.YtoofioemjgeifaaKeyW
namespace Go.Proofs.Ytoofioemjgeifaa
open Go.RowKit
set_option linter.unusedVariables false
set_option linter.unusedSimpArgs false

theorem RR_len (s : ByteArray) : (RR s).length ≤ 5 := by
  unfold RR
  split
  · exact DR_len _
  · simp

set_option maxHeartbeats 2000000 in
theorem exactDecRec_walk (s : ByteArray) (w : World) (hs : s.size ≤ 9223372036854775807) :
    Calls Try.prog 7 #[.string s] w fun e w' => e = .returned (.bool true) ∧ Below w.heap.size w w' := by
  by_cases h1 : 1048576 < s.size
  · go_enter Try.func7, Try.ntmps7
    go_wp2
    go_ret
    exact ⟨rfl, Below.refl _ _⟩
  · have hS : Hid (∀ W, Calls Try.prog 14 #[.string s] W (RecO (RT s) (RR s) (RO s) W)) := fun W => drS s W (by omega)
    have hI : Hid (∀ W, Calls Try.prog 13 #[.string s] W (RecO (RT s) (RR s) (RO s) W)) := fun W => drI s W (by omega)
    have hl := RR_len s
    generalize RT s = tag at hS hI
    generalize RR s = xs at hS hI hl
    generalize RO s = z at hS hI
    have nt : (tag != tag) = false := by simp
    have nz : (z != z) = false := by cases z <;> rfl
    by_cases he : xs = []
    · subst he
      go_enter Try.func7, Try.ntmps7
      go_wp2_with fail
      refine (hS.out _).mono ?_
      rintro e w1 ⟨A1, c1, rfl, hb1, r1, l1, m1, -⟩
      go_wp2_with fail
      refine (hI.out _).mono ?_
      rintro e w2 ⟨A2, c2, rfl, hb2, r2, l2, m2, -⟩
      go_wp2_with fail
      refine (eqVs A2 A1 c2 c1 [] _ r2 (r1.below hb2) (by simp)).mono ?_
      rintro e w3 ⟨rfl, hb3⟩
      go_wp2_with fail
      refine (markV0 A2 c2 _ _).mono ?_
      rintro e w4 ⟨rfl, rfl⟩
      go_wp2_with fail
      refine (heldV0 A2 c2 _ _).mono ?_
      rintro e w4 ⟨rfl, rfl⟩
      go_wp2_with fail
      refine (hI.out _).mono ?_
      rintro e w4 ⟨A3, c3, rfl, hb4, r3, l3, m3, -⟩
      go_wp2_with fail
      refine (eqVs A3 A1 c3 c1 [] _ r3 Rl.nil (by simp)).mono ?_
      rintro e w5 ⟨rfl, hb5⟩
      go_wp2_with fail
      refine (heldV0 A2 c2 _ _).mono ?_
      rintro e w6 ⟨rfl, rfl⟩
      go_wp2_with fail
      go_ret
      exact ⟨rfl, bt2 (bt2 (bt2 (bt2 hb1 hb2) hb3) hb4) hb5⟩
    · go_enter Try.func7, Try.ntmps7
      go_wp2_with fail
      refine (hS.out _).mono ?_
      rintro e w1 ⟨A1, c1, rfl, hb1, r1, l1, m1, ho1⟩
      obtain ⟨g1, arr1, rfl, z1, k1, y1⟩ := ho1.resolve_left he
      have lt1 := k1.lt
      go_wp2_with fail
      refine (hI.out _).mono ?_
      rintro e w2 ⟨A2, c2, rfl, hb2, r2, l2, m2, ho2⟩
      obtain ⟨g2, arr2, rfl, z2, k2, y2⟩ := ho2.resolve_left he
      have hb2' := bt2 hb1 hb2
      have r1' := r1.below hb2
      clear ho1 ho2
      go_wp2_with fail
      refine (eqVs _ _ c2 c1 xs _ r2 r1' (by omega)).mono ?_
      rintro e w3 ⟨rfl, hb3⟩
      have hb3' := bt2 hb2' hb3
      have r1'' := r1'.below hb3
      have k2' := k2.below hb3
      have hsz3 := hb3'.size
      have hsz1 := hb1.size
      have hsz2 := hb2.size
      have hsz3b := hb3.size
      clear r1 r1' r2 hb2 hb2' hb3
      go_wp2_with fail
      refine (markV_any g2 xs.length c2 1 arr2 _ k2' y2 l2 (by omega) (by omega)).mono ?_
      rintro e w4 ⟨rfl, hg4, hf4⟩
      have r1m := r1''.kept hg4 (fun g e => by cases e; simp; omega)
      have hb4' := below_of_grown hb3' hg4 (by omega) hsz3
      clear r1'' k2' hg4 hb3'
      go_wp2_with fail
      refine (heldV_any g2 xs.length c2 1 _ hf4 l2 (by omega) (by omega)).mono ?_
      rintro e w5 ⟨rfl, hb5⟩
      have hb5' := bt2 hb4' hb5
      have r1n := r1m.below hb5
      have hf5 := hf4.below hb5
      clear hf4 hb5 hb4' r1m
      go_wp2_with fail
      refine (hI.out _).mono ?_
      rintro e w6 ⟨A3, c3, rfl, hb6, r3, l3, m3, -⟩
      have hb6' := bt2 hb5' hb6
      have r1o := r1n.below hb6
      have hf6 := hf5.below hb6
      clear hf5 hb6 hb5' r1n
      go_wp2_with fail
      refine (eqVs _ _ c3 c1 xs _ r3 r1o (by omega)).mono ?_
      rintro e w7 ⟨rfl, hb7⟩
      have hb7' := bt2 hb6' hb7
      have hf7 := hf6.below hb7
      clear hf6 hb7 hb6' r1o r3
      go_wp2_with fail
      refine (heldV_any g2 xs.length c2 1 _ hf7 l2 (by omega) (by omega)).mono ?_
      rintro e w8 ⟨rfl, hb8⟩
      go_wp2_with fail
      go_ret
      exact ⟨rfl, bt2 hb7' hb8⟩

end Go.Proofs.Ytoofioemjgeifaa
