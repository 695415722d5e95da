/-
  The statements about a frame appended to a drawn log: torn ends are cut; logs grow at their end. Conditions: the argument reads as a list of bytes.
-/
import Derived.Test.YtgcnaajinkhakaaFLog
import Derived.Test.YtgcnaajinkhakaaDamage
namespace Go.Proofs.Ytgcnaajinkhakaa
open Go.RowKit
set_option linter.unusedVariables false
set_option linter.unusedSimpArgs false

def Some2 (w : World) (e : Ending) (w' : World) : Prop := ∃ s t : ByteArray, e = .returned (.tuple #[.string s, .string t]) ∧ s.size ≤ 200 ∧ t.size ≤ 41 ∧ Below w.heap.size w w'
theorem drawApp (A : Option Addr) (c : Nat) (zs : List Int) (w : World) (h : Bytes w A c zs) :
    Calls Try.prog 28 #[.slice A zs.length c] w (Some2 w) := by
  go_enter Try.func28, Try.ntmps28
  go_wp2_with fail
  refine (new_any A c zs w h.rl h.rng h.cap h.max h.blk).mono ?_
  rintro e w1 ⟨rfl, hr, hb⟩
  go_wp2_with fail
  refine (anyLog_any _ _ _ w1 hr (by omega)).mono ?_
  rintro e w2 ⟨a, rfl, ha, hr2, hg2⟩
  go_wp2_with fail
  refine (of_any 41 _ _ _ 4 4 _ w2 hr2 (by omega) (by kernel_rfl) (by rfl) (by omega) (by omega)).mono ?_
  rintro e w3 ⟨b, rfl, hb', hr3, hg3⟩
  go_wp2_with fail
  go_ret2
  exact ⟨a, b, rfl, ha, hb', below_of_grown (below_of_grown hb hg2 (Nat.le_refl _) hb.size) hg3 (Nat.le_refl _) (Nat.le_trans hb.size hg2.size)⟩

theorem ext_all {a : ByteArray} {n : Nat} (h : a.size ≤ n) : a.extract 0 n = a := by
  apply dat_inj
  rw [dat_take, List.take_of_length_le (by rw [dat_len]; exact h)]
theorem CL_of {s : ByteArray} (h : s.size ≤ 600) : CL s = s.extract 0 (lnF (RF s)) := by unfold CL; rw [if_pos h]
/-- A log whose last frame is torn is cut back to what was there. -/
theorem CL_torn {s t : ByteArray} {k : Nat} (hs : s.size ≤ 200) (ht : t.size ≤ 40) (h0 : 0 < k) (hk : k ≤ t.size + 6) :
    CL ((CL s ++ frm t).extract 0 ((CL s ++ frm t).size - k)) = CL s := by
  have h6 : s.size ≤ 600 := by omega
  have hz := CL_size s h6
  have hl := lnF_le s
  have hf := frm_size t
  have hsz : (CL s ++ frm t).size = (CL s).size + (t.size + 6) := by rw [ByteArray.size_append, hf]
  have e1 : (CL s ++ frm t).extract 0 ((CL s ++ frm t).size - k) = CL s ++ (frm t).extract 0 (t.size + 6 - k) := by
    rw [ByteArray.extract_append, hsz, ext_all (by omega)]
    congr 2 <;> omega
  have hp : nx ((frm t).extract 0 (t.size + 6 - k)) = none := by
    refine nx_torn (x := t) (q := (frm t).extract (t.size + 6 - k) (frm t).size) ht ?_ ?_
    · rw [ByteArray.extract_append_extract, show min 0 (t.size + 6 - k) = 0 by omega, show max (t.size + 6 - k) (frm t).size = (frm t).size by omega, ByteArray.extract_zero_size]
    · rw [ext_size (Nat.le_refl _)]; omega
  rw [e1]
  have hsp : (CL s ++ (frm t).extract 0 (t.size + 6 - k)).size ≤ 600 := by
    rw [ByteArray.size_append, ByteArray.size_extract]; omega
  rw [CL_of hsp]
  rw [RF_CL h6, RF_none hp, List.append_nil]
  exact ByteArray.extract_append_eq_left hz.symm

set_option maxHeartbeats 1000000 in
theorem torn_walk (A : Option Addr) (c : Nat) (zs : List Int) (w : World) (h : Bytes w A c zs) :
    Calls Try.prog 11 #[.slice A zs.length c] w fun e w' => e = .returned (.bool true) ∧ Below w.heap.size w w' := by
  have hcap := h.cap
  have hmax := h.max
  by_cases hl : 1048576 < zs.length
  · go_enter Try.func11, Try.ntmps11
    go_wp2
    go_ret
    exact ⟨rfl, Below.refl _ _⟩
  · go_enter Try.func11, Try.ntmps11
    go_wp2_with fail
    refine (drawApp A c zs _ h).mono ?_
    rintro e w1 ⟨s, t, rfl, hs, ht, hb1⟩
    have h6 : s.size ≤ 600 := by omega
    have hz := CL_size s h6
    have hle := lnF_le s
    have hf := frm_size t
    by_cases h40 : t.size ≤ 40
    · obtain ⟨m, hm⟩ : ∃ m, zs.length % (t.size + 6) = m := ⟨_, rfl⟩
      have hml : m < t.size + 6 := by rw [← hm]; exact Nat.mod_lt _ (by omega)
      have hI : Hid (∀ W, Calls Try.prog 21 #[.string s, .string t] W fun e w' => e = .returned (.tuple #[.string (CL s ++ frm t), .bool true]) ∧ Below W.heap.size W w') := fun W => by
        have := appI s t W (by omega) (by omega)
        rw [AF_yes ⟨h6, h40, by omega⟩] at this
        exact this
      have hS : Hid (∀ W, Calls Try.prog 20 #[.string s, .string t] W fun e w' => e = .returned (.tuple #[.string (CL s ++ frm t), .bool true]) ∧ Below W.heap.size W w') := fun W => by
        have := appS s t W (by omega) (by omega)
        rw [AF_yes ⟨h6, h40, by omega⟩] at this
        exact this
      have hF : Hid (∀ W, Calls Try.prog 14 #[.string t] W fun e w' => e = .returned (.string (frm t)) ∧ Below W.heap.size W w') := fun W => by
        have := ftI t W (by omega)
        rw [show FT t = frm t by unfold FT; rw [if_pos h40]] at this
        exact this
      have hsz : (CL s ++ frm t).size = lnF (RF s) + (t.size + 6) := by rw [ByteArray.size_append, hf, hz]
      have hX : Hid (∀ W, Calls Try.prog 19 #[.string ((CL s ++ frm t).extract 0 ((CL s ++ frm t).size - (1 + m)))] W fun e w' => e = .returned (.string (CL s)) ∧ Below W.heap.size W w') := fun W => by
        have := cutI ((CL s ++ frm t).extract 0 ((CL s ++ frm t).size - (1 + m))) W (by rw [ByteArray.size_extract]; omega)
        rw [CL_torn hs h40 (by omega) (by omega)] at this
        exact this
      have hY : Hid (∀ W, Calls Try.prog 19 #[.string s] W fun e w' => e = .returned (.string (CL s)) ∧ Below W.heap.size W w') := fun W => cutI s W (by omega)
      have hszi := hide hsz
      have hszb : (CL s ++ frm t).size ≤ 246 := by omega
      have hszc : t.size + 6 ≤ (CL s ++ frm t).size := by omega
      clear hsz hz hle
      generalize CL s ++ frm t = T at hI hS hX hszi hszb hszc
      generalize CL s = C at hX hY
      have hfb : (frm t).size ≤ 46 := by omega
      have hfc : 6 ≤ (frm t).size := by omega
      have km : (zs.length : Int) % ((frm t).size : Int) = (m : Int) := by rw [hf, ← hm]; rfl
      have hmi : m < (frm t).size := by omega
      clear hf hm
      generalize frm t = f at hF hfb hfc km hmi
      have n3 : (T.toList != T.toList) = false := by rw [bne, beq_self_eq_true]; rfl
      have n4 : (C.toList == C.toList) = true := beq_self_eq_true _
      have p1 : 1 + (m : Int) ≤ (T.size : Int) := by omega
      have p2 : (0 : Int) ≤ (T.size : Int) - (1 + (m : Int)) := by omega
      have p3 : (T.size : Int) - (1 + (m : Int)) ≤ (T.size : Int) := by omega
      have v1 : ((T.size : Int) - (1 + (m : Int))).toNat = T.size - (1 + m) := by omega
      go_wp2_with fail
      refine (hI.out _).mono ?_
      rintro e w2 ⟨rfl, hb2⟩
      go_wp2_with fail
      refine (hS.out _).mono ?_
      rintro e w3 ⟨rfl, hb3⟩
      go_wp2_with fail
      refine (hF.out _).mono ?_
      rintro e w4 ⟨rfl, hb4⟩
      go_wp2_with fail
      refine (hX.out _).mono ?_
      rintro e w5 ⟨rfl, hb5⟩
      go_wp2_with fail
      refine (hY.out _).mono ?_
      rintro e w6 ⟨rfl, hb6⟩
      go_wp2_with fail
      go_ret
      exact ⟨rfl, bt2 (bt2 (bt2 (bt2 (bt2 hb1 hb2) hb3) hb4) hb5) hb6⟩
    · have hI : Hid (∀ W, Calls Try.prog 21 #[.string s, .string t] W fun e w' => e = .returned (.tuple #[.string ⟨#[]⟩, .bool false]) ∧ Below W.heap.size W w') := fun W => by
        have := appI s t W (by omega) (by omega)
        rw [AF_no (fun h => h40 h.2.1)] at this
        exact this
      have hS : Hid (∀ W, Calls Try.prog 20 #[.string s, .string t] W fun e w' => e = .returned (.tuple #[.string ⟨#[]⟩, .bool false]) ∧ Below W.heap.size W w') := fun W => by
        have := appS s t W (by omega) (by omega)
        rw [AF_no (fun h => h40 h.2.1)] at this
        exact this
      clear hz hle hf
      go_wp2_with fail
      refine (hI.out _).mono ?_
      rintro e w2 ⟨rfl, hb2⟩
      go_wp2_with fail
      refine (hS.out _).mono ?_
      rintro e w3 ⟨rfl, hb3⟩
      go_wp2_with fail
      go_ret
      exact ⟨rfl, bt2 (bt2 hb1 hb2) hb3⟩

end Go.Proofs.Ytgcnaajinkhakaa
