/-
  The exact statement about EncodeKey, walked. Conditions: the row reads as a list of values.
-/
import Derived.Test.YtoofioemjgeifaaKeyE
import Derived.Test.YtoofioemjgeifaaRows4
import Derived.RegionTactic
import Derived.Deep.RegionHeld3
import Derived.Deep.DrawnRows
namespace Go.Proofs.Ytoofioemjgeifaa
open Go.RowKit
set_option linter.unusedVariables false
set_option linter.unusedSimpArgs false

set_option maxHeartbeats 1000000 in
theorem exactKey_walk (A : Option Addr) (c : Nat) (vs : List Vl) (w : World) (hr : Rl encV 3 w A vs) (hf : ∀ x ∈ vs, x.s.size ≤ 9223372036854775807) (hc : vs.length ≤ c) (hm : c ≤ 9223372036854775807) :
    Calls Try.prog 4 #[.slice A vs.length c] w fun e w' => e = .returned (.bool true) ∧ Below w.heap.size w w' := by
  have S1 := szR_lo 1048576 vs
  have hok := hide (szR_ok (left := 1048576) (vs := vs) (by omega))
  generalize hs1 : szR 1048576 vs = s1 at S1 hok
  have hs1' := hide hs1
  clear hs1
  have n1 : ((EK vs).toList != (EK vs).toList) = false := by rw [bne, beq_self_eq_true]; rfl
  go_enter Try.func4, Try.ntmps4
  go_wp2_with fail
  refine (szVs A c vs _ _ hr hf (by omega) (by omega) (by omega)).mono ?_
  rintro e w1 ⟨rfl, hb1⟩
  rw [hs1'.out]
  by_cases h1 : s1 < 0
  · go_wp2_with fail
    go_ret
    exact ⟨rfl, hb1⟩
  · have q1 := hok.out (by omega)
    have lx : vs.length ≤ 1048576 := by omega
    go_wp2_with fail
    refine (toVs A c vs _ (hr.below hb1) lx).mono ?_
    rintro e w2 ⟨g2, rfl, r2, hb2, z2⟩
    have hb2' := bt2 hb1 hb2
    go_wp2_with fail
    refine (EKS _ _ vs _ r2 hf (by omega)).mono ?_
    rintro e w3 ⟨rfl, hb3⟩
    have hb3' := bt2 hb2' hb3
    clear hb1 hb2 hb2' hb3 r2
    go_wp2_with fail
    refine (toVs A c vs _ (hr.below hb3') lx).mono ?_
    rintro e w4 ⟨g4, rfl, r4, hb4, z4⟩
    have hb4' := bt2 hb3' hb4
    go_wp2_with fail
    refine (EKI _ _ vs _ r4 hf (by omega)).mono ?_
    rintro e w5 ⟨rfl, hb5⟩
    have hb5' := bt2 hb4' hb5
    have r4' := r4.below hb5
    clear hb3' hb4 hb4' hb5 r4
    go_wp2_with fail
    refine (toVs A c vs _ (hr.below hb5') lx).mono ?_
    rintro e w6 ⟨g6, rfl, r6, hb6, z6⟩
    have hb6' := bt2 hb5' hb6
    go_wp2_with fail
    refine (eqVs _ _ _ _ vs _ (r4'.below hb6) r6 lx).mono ?_
    rintro e w7 ⟨rfl, hb7⟩
    go_wp2_with fail
    go_ret
    exact ⟨rfl, bt2 hb6' hb7⟩

/-! ### records -/
/-- The record of a row. -/
def er (tag : Int) (vs : List Vl) : ByteArray := strOfNums [65 + tag] ++ ek vs
def ER (tag : Int) (vs : List Vl) : ByteArray := if rng tag 0 8 && vrB vs then er tag vs else ByteArray.empty
theorem conv1 (W : World) (b : Nat) (a : Int) (h : W.cell? ⟨b, 0, none⟩ = some (.int .u8 a)) :
    (convert 22 9 (.slice (some ⟨b, 0, none⟩) 1 1)).run Try.prog W = .ok (.string (strOfNums [a])) W :=
  run_convert_bytes_arg (P := Try.prog) _ 22 5 Try.underlying22 Try.underlying5 b 0 1 1 [a] rfl (fun i hi => by
    match i, hi with
    | 0, _ => exact h) _ Try.underlying9

set_option maxHeartbeats 1000000 in
theorem erS (tag : Int) (A : Option Addr) (c : Nat) (vs : List Vl) (w : World) (h0 : 0 ≤ tag) (h8 : tag ≤ 8) (hr : Rl encV 3 w A vs) (hv : vrB vs = true) :
    Calls Try.prog 45 #[.int .i64 tag, .slice A vs.length c] w fun e w' => e = .returned (.string (er tag vs)) ∧ Below w.heap.size w w' := by
  have hcv := fun W b h => conv1 W b (65 + tag) h
  have hrW := hide (fun W (h : Below w.heap.size w W) => hr.below h)
  have HE := hide (show er tag vs = strOfNums [65 + tag] ++ ek vs from rfl)
  have hsz : (ek vs).size ≤ 100 := by
    have := (ek_size (vr_mem hv)).2
    unfold vrB at hv
    rw [Bool.and_eq_true, decide_eq_true_eq] at hv
    omega
  have hs1 : (strOfNums [65 + tag]).size = 1 := strOfNums_size _
  have hs1' : (strOfNums [65 + tag]).size ≤ 1 := by omega
  clear hs1
  go_enter Try.func45, Try.ntmps45
  go_wp2_with fail
  have v1 : IntKind.i64.wrap (65 + tag) = 65 + tag := IntWalk.i64_in _ (by omega)
  have v2 : IntKind.u8.wrap (65 + tag) = 65 + tag := by rw [IntKind.wrap_u8]; omega
  go_region_with (first | (go_at_call 42; refine (ekS A c vs _ (hrW.out _ (by go_grown)) hv).mono ?_; rintro e w2 ⟨rfl, hb2⟩; have hc2 := (bcell hb2).1))
  all_goals clear v1 v2
  all_goals go_wp2_with fail
  all_goals (try go_ret)
  all_goals (refine ⟨ret_str HE.out.symm, ?_⟩)
  all_goals (first | exact bt (by go_grown) hb2 (by simp <;> omega) | exact (of_drew hb2).alloc (of_drew hb2).size _ | (have hh := of_drew hb2; exact hh.alloc hh.size _) | trace_state)

theorem erI (tag : Int) (A : Option Addr) (c : Nat) (vs : List Vl) (w : World) (hr : Rl encV 3 w A vs) (hf : Fit vs) (hc : vs.length ≤ 9223372036854775807) (h0 : 0 ≤ tag) (h8 : tag ≤ 8) (hv : vrB vs = true) :
    Calls Try.prog 16 #[.int .i64 tag, .slice A vs.length c] w fun e w' => e = .returned (.string (er tag vs)) ∧ Below w.heap.size w w' := by
  have HK := hide (show EK vs = ek vs by unfold EK; rw [hv]; rfl)
  have HU : Hid (Utf8.encode (65 + tag) = strOfNums [65 + tag]) := by
    have ht : tag = 0 ∨ tag = 1 ∨ tag = 2 ∨ tag = 3 ∨ tag = 4 ∨ tag = 5 ∨ tag = 6 ∨ tag = 7 ∨ tag = 8 := by omega
    rcases ht with rfl | rfl | rfl | rfl | rfl | rfl | rfl | rfl | rfl <;> (unfold Hid; decide +kernel)
  have hs1 : (Utf8.encode (65 + tag)).size ≤ 1 := by rw [HU.out, strOfNums_size]; simp
  have hsz : (ek vs).size ≤ 100 := by
    have := (ek_size (vr_mem hv)).2
    have h5 := hv
    unfold vrB at h5
    rw [Bool.and_eq_true, decide_eq_true_eq] at h5
    omega
  go_enter Try.func16, Try.ntmps16
  go_wp2_with fail
  refine (vrI A c vs _ hr hf hc).mono ?_
  rintro e w1 ⟨rfl, hb1⟩
  rw [hv]
  go_wp2_with fail
  refine (EKI A c vs _ (hr.below hb1) hf hc).mono ?_
  rintro e w2 ⟨rfl, hb2⟩
  rw [HK.out]
  go_wp2_with fail
  go_ret
  exact ⟨ret_str (by rw [HU.out]; rfl), bt2 hb1 hb2⟩

end Go.Proofs.Ytoofioemjgeifaa
