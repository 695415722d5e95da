/-
  CutLog and AppendFrame of the program and of the reference, and the exact statements about them. Conditions: none but that a text is no longer than Go lets one be.
-/
import Derived.Test.YtgcnaajinkhakaaIter
namespace Go.Proofs.Ytgcnaajinkhakaa
open Go.RowKit
set_option linter.unusedVariables false
set_option linter.unusedSimpArgs false

def CL (s : ByteArray) : ByteArray := if s.size ≤ 600 then s.extract 0 (lnF (RF s)) else ByteArray.empty
theorem CL_size (s : ByteArray) (h : s.size ≤ 600) : (CL s).size = lnF (RF s) := by
  unfold CL
  rw [if_pos h, ext_size (lnF_le s)]
  omega
def AF (s t : ByteArray) : ByteArray × Bool := if s.size ≤ 600 ∧ t.size ≤ 40 ∧ lnF (RF s) + (t.size + 6) ≤ 600 then (CL s ++ frm t, true) else (ByteArray.empty, false)
theorem AF_yes {s t : ByteArray} (h : s.size ≤ 600 ∧ t.size ≤ 40 ∧ lnF (RF s) + (t.size + 6) ≤ 600) : AF s t = (CL s ++ frm t, true) := by unfold AF; rw [if_pos h]
theorem AF_no {s t : ByteArray} (h : ¬ (s.size ≤ 600 ∧ t.size ≤ 40 ∧ lnF (RF s) + (t.size + 6) ≤ 600)) : AF s t = (ByteArray.empty, false) := by unfold AF; rw [if_neg h]
theorem retA {r : ByteArray × Bool} {a : ByteArray} {b : Bool} (h : r = (a, b)) : Ending.returned (.tuple #[.string a, .bool b]) = .returned (.tuple #[.string r.1, .bool r.2]) := by rw [h]

theorem cutS (s : ByteArray) (w : World) (hs : s.size ≤ 9223372036854775807) :
    Calls Try.prog 18 #[.string s] w fun e w' => e = .returned (.string (CL s)) ∧ Below w.heap.size w w' := by
  by_cases hl : s.size ≤ 600
  · have H : Hid (CL s = s.extract 0 (lnF (RF s))) := by unfold Hid CL; rw [if_pos hl]
    have hle := lnF_le s
    obtain ⟨n, hn⟩ : ∃ n, lnF (RF s) = n := ⟨_, rfl⟩
    rw [hn] at hle
    have hn' := hide hn
    clear hn
    have l1 : (n : Int) ≤ (s.size : Int) := by omega
    go_enter Try.func18, Try.ntmps18
    go_wp2_with fail
    refine (readS s _ hs).mono ?_
    rintro e w1 ⟨hb1, ⟨h600, rfl⟩ | ⟨_, v, rfl, _⟩⟩
    · omega
    · rw [hn'.out]
      go_wp2_with fail
      go_ret
      exact ⟨ret_str (by rw [H.out, hn'.out]), hb1⟩
  · have H : Hid (CL s = ByteArray.empty) := by unfold Hid CL; rw [if_neg hl]
    go_enter Try.func18, Try.ntmps18
    go_wp2_with fail
    refine (readS s _ hs).mono ?_
    rintro e w1 ⟨hb1, ⟨h600, rfl⟩ | ⟨_, v, rfl, _⟩⟩
    · go_wp2_with fail
      go_ret
      exact ⟨ret_str H.out.symm, hb1⟩
    · omega

theorem appS (s t : ByteArray) (w : World) (hs : s.size ≤ 9223372036854775807) (ht : t.size ≤ 9223372036854775807) :
    Calls Try.prog 20 #[.string s, .string t] w fun e w' => e = .returned (.tuple #[.string (AF s t).1, .bool (AF s t).2]) ∧ Below w.heap.size w w' := by
  by_cases h1 : s.size ≤ 600
  · by_cases h2 : t.size ≤ 40
    · have g1 : decide ((600 : Int) < (s.size : Int)) = false := by simp only [decide_eq_false_iff_not]; omega
      have g2 : decide ((40 : Int) < (t.size : Int)) = false := by simp only [decide_eq_false_iff_not]; omega
      have z1 : (CL s).size = lnF (RF s) := CL_size s h1
      have z2 : (frm t).size = t.size + 6 := frm_size t
      have z3 := lnF_le s
      have z4 : (CL s).size ≤ 600 := by omega
      have z5 : (frm t).size ≤ 46 := by omega
      have z6 : Hid (FT t = frm t) := by unfold Hid FT; rw [if_pos h2]
      have z7 : (CL s ++ frm t).size = lnF (RF s) + (t.size + 6) := by rw [ByteArray.size_append]; omega
      have z7' := hide z7
      clear z1 z2 z3 z7
      by_cases h3 : lnF (RF s) + (t.size + 6) ≤ 600
      · have H := hide (AF_yes ⟨h1, h2, h3⟩)
        have z8 : ((CL s).size : Int) + ((frm t).size : Int) ≤ 600 := by have := z7'.out; rw [ByteArray.size_append] at this; omega
        clear h3 z7'
        have hcut := cutS s
        have hfr : ∀ w, Calls Try.prog 29 #[.string t] w fun e w' => e = .returned (.string (frm t)) ∧ Below w.heap.size w w' := fun w => by
          have := frame_any t w (by omega)
          skip
          exact this
        clear z6
        generalize CL s = a at *
        generalize frm t = b at *
        have hcut' := hide hcut
        have hfr' := hide hfr
        clear hcut hfr
        go_enter Try.func20, Try.ntmps20
        go_wp2_with fail
        refine (hcut'.out _ hs).mono ?_
        rintro e w1 ⟨rfl, hb1⟩
        go_wp2_with fail
        refine (hfr'.out _).mono ?_
        rintro e w2 ⟨rfl, hb2⟩
        go_wp2_with fail
        go_ret2
        exact ⟨retA H.out, bt2 hb1 hb2⟩
      · have H := hide (AF_no (s := s) (t := t) (fun h => h3 h.2.2))
        have z8 : 600 < ((CL s).size : Int) + ((frm t).size : Int) := by have := z7'.out; rw [ByteArray.size_append] at this; omega
        clear h3 z7'
        have hcut := cutS s
        have hfr : ∀ w, Calls Try.prog 29 #[.string t] w fun e w' => e = .returned (.string (frm t)) ∧ Below w.heap.size w w' := fun w => by
          have := frame_any t w (by omega)
          skip
          exact this
        clear z6
        generalize CL s = a at *
        generalize frm t = b at *
        have hcut' := hide hcut
        have hfr' := hide hfr
        clear hcut hfr
        go_enter Try.func20, Try.ntmps20
        go_wp2_with fail
        refine (hcut'.out _ hs).mono ?_
        rintro e w1 ⟨rfl, hb1⟩
        go_wp2_with fail
        refine (hfr'.out _).mono ?_
        rintro e w2 ⟨rfl, hb2⟩
        go_wp2_with fail
        go_ret2
        exact ⟨retA H.out, bt2 hb1 hb2⟩
    · have H := hide (AF_no (s := s) (t := t) (fun h => h2 h.2.1))
      have g1 : decide ((600 : Int) < (s.size : Int)) = false := by simp only [decide_eq_false_iff_not]; omega
      have g2 : decide ((40 : Int) < (t.size : Int)) = true := by simp only [decide_eq_true_eq]; omega
      go_enter Try.func20, Try.ntmps20
      go_wp2_with fail
      go_ret2
      exact ⟨retA H.out, Below.refl _ _⟩
  · have H := hide (AF_no (s := s) (t := t) (fun h => h1 h.1))
    have g1 : decide ((600 : Int) < (s.size : Int)) = true := by simp only [decide_eq_true_eq]; omega
    go_enter Try.func20, Try.ntmps20
    go_wp2_with fail
    go_ret2
    exact ⟨retA H.out, Below.refl _ _⟩

theorem cutI (s : ByteArray) (w : World) (hs : s.size ≤ 9223372036854775807) :
    Calls Try.prog 19 #[.string s] w fun e w' => e = .returned (.string (CL s)) ∧ Below w.heap.size w w' := by
  by_cases hl : s.size ≤ 600
  · have H : Hid (CL s = s.extract 0 (lnF (RF s))) := by unfold Hid CL; rw [if_pos hl]
    have hle := lnF_le s
    obtain ⟨n, hn⟩ : ∃ n, lnF (RF s) = n := ⟨_, rfl⟩
    rw [hn] at hle
    have hn' := hide hn
    clear hn
    have l1 : (n : Int) ≤ (s.size : Int) := by omega
    go_enter Try.func19, Try.ntmps19
    go_wp2_with fail
    refine (readI s _ hs).mono ?_
    rintro e w1 ⟨hb1, ⟨h600, rfl⟩ | ⟨_, v, rfl, _⟩⟩
    · omega
    · rw [hn'.out]
      go_wp2_with fail
      go_ret
      exact ⟨ret_str (by rw [H.out, hn'.out]), hb1⟩
  · have H : Hid (CL s = ByteArray.empty) := by unfold Hid CL; rw [if_neg hl]
    go_enter Try.func19, Try.ntmps19
    go_wp2_with fail
    refine (readI s _ hs).mono ?_
    rintro e w1 ⟨hb1, ⟨h600, rfl⟩ | ⟨_, v, rfl, _⟩⟩
    · go_wp2_with fail
      go_ret
      exact ⟨ret_str H.out.symm, hb1⟩
    · omega

theorem appI (s t : ByteArray) (w : World) (hs : s.size ≤ 9223372036854775807) (ht : t.size ≤ 9223372036854775807) :
    Calls Try.prog 21 #[.string s, .string t] w fun e w' => e = .returned (.tuple #[.string (AF s t).1, .bool (AF s t).2]) ∧ Below w.heap.size w w' := by
  by_cases h1 : s.size ≤ 600
  · by_cases h2 : t.size ≤ 40
    · have g1 : decide ((600 : Int) < (s.size : Int)) = false := by simp only [decide_eq_false_iff_not]; omega
      have g2 : decide ((40 : Int) < (t.size : Int)) = false := by simp only [decide_eq_false_iff_not]; omega
      have z1 : (CL s).size = lnF (RF s) := CL_size s h1
      have z2 : (frm t).size = t.size + 6 := frm_size t
      have z3 := lnF_le s
      have z4 : (CL s).size ≤ 600 := by omega
      have z5 : (frm t).size ≤ 46 := by omega
      have z6 : Hid (FT t = frm t) := by unfold Hid FT; rw [if_pos h2]
      have z7 : (CL s ++ frm t).size = lnF (RF s) + (t.size + 6) := by rw [ByteArray.size_append]; omega
      have z7' := hide z7
      clear z1 z2 z3 z7
      by_cases h3 : lnF (RF s) + (t.size + 6) ≤ 600
      · have H := hide (AF_yes ⟨h1, h2, h3⟩)
        have z8 : ((CL s).size : Int) + ((frm t).size : Int) ≤ 600 := by have := z7'.out; rw [ByteArray.size_append] at this; omega
        clear h3 z7'
        have hcut := cutI s
        have hfr : ∀ w, Calls Try.prog 14 #[.string t] w fun e w' => e = .returned (.string (frm t)) ∧ Below w.heap.size w w' := fun w => by
          have := ftI t w (by omega)
          rw [z6.out] at this
          exact this
        clear z6
        generalize CL s = a at *
        generalize frm t = b at *
        have hcut' := hide hcut
        have hfr' := hide hfr
        clear hcut hfr
        go_enter Try.func21, Try.ntmps21
        go_wp2_with fail
        refine (hcut'.out _ hs).mono ?_
        rintro e w1 ⟨rfl, hb1⟩
        go_wp2_with fail
        refine (hfr'.out _).mono ?_
        rintro e w2 ⟨rfl, hb2⟩
        go_wp2_with fail
        go_ret2
        exact ⟨retA H.out, bt2 hb1 hb2⟩
      · have H := hide (AF_no (s := s) (t := t) (fun h => h3 h.2.2))
        have z8 : 600 < ((CL s).size : Int) + ((frm t).size : Int) := by have := z7'.out; rw [ByteArray.size_append] at this; omega
        clear h3 z7'
        have hcut := cutI s
        have hfr : ∀ w, Calls Try.prog 14 #[.string t] w fun e w' => e = .returned (.string (frm t)) ∧ Below w.heap.size w w' := fun w => by
          have := ftI t w (by omega)
          rw [z6.out] at this
          exact this
        clear z6
        generalize CL s = a at *
        generalize frm t = b at *
        have hcut' := hide hcut
        have hfr' := hide hfr
        clear hcut hfr
        go_enter Try.func21, Try.ntmps21
        go_wp2_with fail
        refine (hcut'.out _ hs).mono ?_
        rintro e w1 ⟨rfl, hb1⟩
        go_wp2_with fail
        refine (hfr'.out _).mono ?_
        rintro e w2 ⟨rfl, hb2⟩
        go_wp2_with fail
        go_ret2
        exact ⟨retA H.out, bt2 hb1 hb2⟩
    · have H := hide (AF_no (s := s) (t := t) (fun h => h2 h.2.1))
      have g1 : decide ((600 : Int) < (s.size : Int)) = false := by simp only [decide_eq_false_iff_not]; omega
      have g2 : decide ((40 : Int) < (t.size : Int)) = true := by simp only [decide_eq_true_eq]; omega
      go_enter Try.func21, Try.ntmps21
      go_wp2_with fail
      go_ret2
      exact ⟨retA H.out, Below.refl _ _⟩
  · have H := hide (AF_no (s := s) (t := t) (fun h => h1 h.1))
    have g1 : decide ((600 : Int) < (s.size : Int)) = true := by simp only [decide_eq_true_eq]; omega
    go_enter Try.func21, Try.ntmps21
    go_wp2_with fail
    go_ret2
    exact ⟨retA H.out, Below.refl _ _⟩

theorem exactCut_walk (s : ByteArray) (w : World) (hs : s.size ≤ 9223372036854775807) :
    Calls Try.prog 6 #[.string s] w fun e w' => e = .returned (.bool true) ∧ Below w.heap.size w w' := by
  by_cases h1 : 1048576 < s.size
  · go_enter Try.func6, Try.ntmps6
    go_wp2
    go_ret
    exact ⟨rfl, Below.refl _ _⟩
  · have hne : (CL s).toList == (CL s).toList := beq_self_eq_true _
    go_enter Try.func6, Try.ntmps6
    go_wp2_with fail
    refine (cutS s _ hs).mono ?_
    rintro e w1 ⟨rfl, hb1⟩
    go_wp2_with fail
    refine (cutI s _ hs).mono ?_
    rintro e w2 ⟨rfl, hb2⟩
    go_wp2_with fail
    go_ret
    exact ⟨rfl, bt2 hb1 hb2⟩

theorem exactApp_walk (s t : ByteArray) (w : World) (hs : s.size ≤ 9223372036854775807) (ht : t.size ≤ 9223372036854775807) :
    Calls Try.prog 7 #[.string s, .string t] w fun e w' => e = .returned (.bool true) ∧ Below w.heap.size w w' := by
  by_cases h1 : 1048576 < s.size
  · go_enter Try.func7, Try.ntmps7
    go_wp2
    go_ret
    exact ⟨rfl, Below.refl _ _⟩
  · by_cases h2 : 1048576 < t.size
    · go_enter Try.func7, Try.ntmps7
      go_wp2
      go_ret
      exact ⟨rfl, Below.refl _ _⟩
    · have hA := appS s t
      have hB := appI s t
      generalize (AF s t).1 = a at hA hB
      generalize (AF s t).2 = b at hA hB
      have hA' := hide hA
      have hB' := hide hB
      clear hA hB
      have n1 : (a.toList != a.toList) = false := by rw [bne, beq_self_eq_true]; rfl
      have n2 : (b != b) = false := by simp
      go_enter Try.func7, Try.ntmps7
      go_wp2_with fail
      refine (hA'.out _ hs ht).mono ?_
      rintro e w1 ⟨rfl, hb1⟩
      go_wp2_with fail
      refine (hB'.out _ hs ht).mono ?_
      rintro e w2 ⟨rfl, hb2⟩
      go_wp2_with fail
      go_ret
      exact ⟨rfl, bt2 hb1 hb2⟩

end Go.Proofs.Ytgcnaajinkhakaa
