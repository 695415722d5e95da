/-
  EncodeRecord of the program and of the reference, and the exact statement about it. Conditions: the row reads as a list of values.
-/
import Derived.Test.YtoofioemjgeifaaKeyX
namespace Go.Proofs.Ytoofioemjgeifaa
open Go.RowKit
set_option linter.unusedVariables false
set_option linter.unusedSimpArgs false

theorem ER_no1 {tag : Int} {vs : List Vl} (h : rng tag 0 8 = false) : ER tag vs = ByteArray.empty := by unfold ER; rw [h]; rfl
theorem ER_no2 {tag : Int} {vs : List Vl} (h : vrB vs = false) : ER tag vs = ByteArray.empty := by unfold ER; rw [h, Bool.and_false]; rfl
theorem ER_yes {tag : Int} {vs : List Vl} (h : rng tag 0 8 = true) (h' : vrB vs = true) : ER tag vs = er tag vs := by unfold ER; rw [h, h']; rfl

theorem ERS (tag : Int) (A : Option Addr) (c : Nat) (vs : List Vl) (w : World) (hr : Rl encV 3 w A vs) (hf : Fit vs) (hc : vs.length ≤ 9223372036854775807) :
    Calls Try.prog 22 #[.int .i64 tag, .slice A vs.length c] w fun e w' => e = .returned (.string (ER tag vs)) ∧ Below w.heap.size w w' := by
  cases ht : rng tag 0 8
  · have H := hide (ER_no1 (vs := vs) ht)
    go_enter Try.func22, Try.ntmps22
    go_wp2_with fail
    refine (inR tag _ _ _).mono ?_
    rintro e w1 ⟨rfl, rfl⟩
    rw [ht]
    go_wp2_with fail
    go_ret
    exact ⟨ret_str H.out.symm, Below.refl _ _⟩
  · have ht' := rng_iff.1 ht
    cases hv : vrB vs
    · have H := hide (ER_no2 (tag := tag) hv)
      go_enter Try.func22, Try.ntmps22
      go_wp2_with fail
      refine (inR tag _ _ _).mono ?_
      rintro e w1 ⟨rfl, rfl⟩
      rw [ht]
      go_wp2_with fail
      refine (vrS A c vs _ hr hf hc).mono ?_
      rintro e w1 ⟨rfl, hb1⟩
      rw [hv]
      go_wp2_with fail
      go_ret
      exact ⟨ret_str H.out.symm, hb1⟩
    · have H := hide (ER_yes ht hv)
      go_enter Try.func22, Try.ntmps22
      go_wp2_with fail
      refine (inR tag _ _ _).mono ?_
      rintro e w1 ⟨rfl, rfl⟩
      rw [ht]
      go_wp2_with fail
      refine (vrS A c vs _ hr hf hc).mono ?_
      rintro e w1 ⟨rfl, hb1⟩
      rw [hv]
      go_wp2_with fail
      refine (erS tag A c vs _ ht'.1 ht'.2 (hr.below hb1) hv).mono ?_
      rintro e w2 ⟨rfl, hb2⟩
      go_wp2_with fail
      go_ret
      exact ⟨ret_str H.out.symm, bt2 hb1 hb2⟩

theorem ERI (tag : Int) (A : Option Addr) (c : Nat) (vs : List Vl) (w : World) (hr : Rl encV 3 w A vs) (hf : Fit vs) (hc : vs.length ≤ 9223372036854775807) :
    Calls Try.prog 16 #[.int .i64 tag, .slice A vs.length c] w fun e w' => e = .returned (.string (ER tag vs)) ∧ Below w.heap.size w w' := by
  cases ht : rng tag 0 8
  · have H := hide (ER_no1 (vs := vs) ht)
    rw [rng_no] at ht
    rcases ht with h1 | h1
    all_goals
      go_enter Try.func16, Try.ntmps16
      go_wp2_with fail
      go_ret
      exact ⟨ret_str H.out.symm, Below.refl _ _⟩
  · have ht' := rng_iff.1 ht
    cases hv : vrB vs
    · have H := hide (ER_no2 (tag := tag) hv)
      have t1 := ht'.1
      have t2 := ht'.2
      go_enter Try.func16, Try.ntmps16
      go_wp2_with fail
      refine (vrI A c vs _ hr hf hc).mono ?_
      rintro e w1 ⟨rfl, hb1⟩
      rw [hv]
      go_wp2_with fail
      go_ret
      exact ⟨ret_str H.out.symm, hb1⟩
    · rw [ER_yes ht hv]
      exact erI tag A c vs w hr hf hc ht'.1 ht'.2 hv

set_option maxHeartbeats 1000000 in
theorem exactRecord_walk (tag : Int) (A : Option Addr) (c : Nat) (vs : List Vl) (w : World) (ht : -9223372036854775808 ≤ tag ∧ tag ≤ 9223372036854775807) (hr : Rl encV 3 w A vs) (hf : ∀ x ∈ vs, x.s.size ≤ 9223372036854775807) (hc : vs.length ≤ c) (hm : c ≤ 9223372036854775807) :
    Calls Try.prog 5 #[.int .i64 tag, .slice A vs.length c] w fun e w' => e = .returned (.bool true) ∧ Below w.heap.size w w' := by
  have S1 := szR_lo 1048576 vs
  have hok := hide (szR_ok (left := 1048576) (vs := vs) (by omega))
  generalize hs1 : szR 1048576 vs = s1 at S1 hok
  have hs1' := hide hs1
  clear hs1
  have n1 : ((ER tag vs).toList != (ER tag vs).toList) = false := by rw [bne, beq_self_eq_true]; rfl
  go_enter Try.func5, Try.ntmps5
  go_wp2_with fail
  refine (szVs A c vs _ _ hr hf (by omega) (by omega) (by omega)).mono ?_
  rintro e w1 ⟨rfl, hb1⟩
  rw [hs1'.out]
  by_cases h1 : s1 < 0
  · go_wp2_with fail
    go_ret
    exact ⟨rfl, hb1⟩
  · have q1 := hok.out (by omega)
    have lx : vs.length ≤ 1048576 := by omega
    go_wp2_with fail
    refine (toVs A c vs _ (hr.below hb1) lx).mono ?_
    rintro e w2 ⟨g2, rfl, r2, hb2, z2⟩
    have hb2' := bt2 hb1 hb2
    go_wp2_with fail
    refine (ERS tag _ _ vs _ r2 hf (by omega)).mono ?_
    rintro e w3 ⟨rfl, hb3⟩
    have hb3' := bt2 hb2' hb3
    clear hb1 hb2 hb2' hb3 r2
    go_wp2_with fail
    refine (toVs A c vs _ (hr.below hb3') lx).mono ?_
    rintro e w4 ⟨g4, rfl, r4, hb4, z4⟩
    have hb4' := bt2 hb3' hb4
    go_wp2_with fail
    refine (ERI tag _ _ vs _ r4 hf (by omega)).mono ?_
    rintro e w5 ⟨rfl, hb5⟩
    have hb5' := bt2 hb4' hb5
    have r4' := r4.below hb5
    clear hb3' hb4 hb4' hb5 r4
    go_wp2_with fail
    refine (toVs A c vs _ (hr.below hb5') lx).mono ?_
    rintro e w6 ⟨g6, rfl, r6, hb6, z6⟩
    have hb6' := bt2 hb5' hb6
    go_wp2_with fail
    refine (eqVs _ _ _ _ vs _ (r4'.below hb6) r6 lx).mono ?_
    rintro e w7 ⟨rfl, hb7⟩
    go_wp2_with fail
    go_ret
    exact ⟨rfl, bt2 hb6' hb7⟩

end Go.Proofs.Ytoofioemjgeifaa
