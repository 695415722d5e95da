/-
  The statements about drawn logs: what is read was written, cut logs are whole. Conditions: the argument reads as a list of bytes.
-/
import Derived.Test.YtgcnaajinkhakaaFLaw
import Derived.Test.YtgcnaajinkhakaaLog
namespace Go.Proofs.Ytgcnaajinkhakaa
open Go.RowKit
set_option linter.unusedVariables false
set_option linter.unusedSimpArgs false

theorem drawRead (A : Option Addr) (c : Nat) (zs : List Int) (w : World) (h : Bytes w A c zs) :
    Calls Try.prog 26 #[.slice A zs.length c] w (Some1 200 w) := by
  go_enter Try.func26, Try.ntmps26
  go_wp2_with fail
  refine (new_any A c zs w h.rl h.rng h.cap h.max h.blk).mono ?_
  rintro e w1 ⟨rfl, hr, hb⟩
  go_wp2_with fail
  refine (anyLog_any _ _ _ w1 hr (by omega)).mono ?_
  rintro e w2 ⟨a, rfl, ha, hr2, hg2⟩
  go_wp2_with fail
  go_ret
  exact ⟨a, rfl, ha, below_of_grown hb hg2 (Nat.le_refl _) hb.size⟩
theorem drawCut (A : Option Addr) (c : Nat) (zs : List Int) (w : World) (h : Bytes w A c zs) :
    Calls Try.prog 27 #[.slice A zs.length c] w (Some1 200 w) := by
  go_enter Try.func27, Try.ntmps27
  go_wp2_with fail
  refine (new_any A c zs w h.rl h.rng h.cap h.max h.blk).mono ?_
  rintro e w1 ⟨rfl, hr, hb⟩
  go_wp2_with fail
  refine (anyLog_any _ _ _ w1 hr (by omega)).mono ?_
  rintro e w2 ⟨a, rfl, ha, hr2, hg2⟩
  go_wp2_with fail
  go_ret
  exact ⟨a, rfl, ha, below_of_grown hb hg2 (Nat.le_refl _) hb.size⟩

theorem TX_s {s : ByteArray} (h : s.size ≤ 600) : TX s = RF s := by unfold TX; rw [if_pos h]
theorem TN_s {s : ByteArray} (h : s.size ≤ 600) : TN s = lnF (RF s) := by unfold TN; rw [if_pos h]
theorem CL_CL {s : ByteArray} (h : s.size ≤ 600) : CL (CL s) = CL s := by
  have hz := CL_size s h
  have hl := lnF_le s
  have h2 : CL (CL s) = (CL s).extract 0 (lnF (RF (CL s))) := by rw [show CL (CL s) = if (CL s).size ≤ 600 then (CL s).extract 0 (lnF (RF (CL s))) else ByteArray.empty from rfl, if_pos (by omega)]
  rw [h2, RF_CL0 h, ← hz, ByteArray.extract_zero_size]

set_option maxHeartbeats 1000000 in
theorem cutLog_walk (A : Option Addr) (c : Nat) (zs : List Int) (w : World) (h : Bytes w A c zs) :
    Calls Try.prog 10 #[.slice A zs.length c] w fun e w' => e = .returned (.bool true) ∧ Below w.heap.size w w' := by
  have hcap := h.cap
  have hmax := h.max
  by_cases hl : 1048576 < zs.length
  · go_enter Try.func10, Try.ntmps10
    go_wp2
    go_ret
    exact ⟨rfl, Below.refl _ _⟩
  · go_enter Try.func10, Try.ntmps10
    go_wp2_with fail
    refine (drawCut A c zs _ h).mono ?_
    rintro e w1 ⟨s, rfl, hs, hb1⟩
    have h6 : s.size ≤ 600 := by omega
    have z1 := CL_size s h6
    have z2 := lnF_le s
    have hI : Hid (∀ W, Calls Try.prog 19 #[.string s] W fun e w' => e = .returned (.string (CL s)) ∧ Below W.heap.size W w') := fun W => cutI s W (by omega)
    have hS : Hid (∀ W, Calls Try.prog 18 #[.string s] W fun e w' => e = .returned (.string (CL s)) ∧ Below W.heap.size W w') := fun W => cutS s W (by omega)
    have hC : Hid (∀ W, Calls Try.prog 19 #[.string (CL s)] W fun e w' => e = .returned (.string (CL s)) ∧ Below W.heap.size W w') := fun W => by
      have := cutI (CL s) W (by omega)
      rw [CL_CL h6] at this
      exact this
    have hR : Hid (∀ W, Calls Try.prog 16 #[.string s] W (Opened (RF s) (lnF (RF s)) W)) := fun W => by
      have := (readI s W (by omega)).mono fun e w' h => texts_open h
      rw [TX_s h6, TN_s h6] at this
      exact this
    have hQ : Hid (∀ W, Calls Try.prog 16 #[.string (CL s)] W (Opened (RF s) (lnF (RF s)) W)) := fun W => by
      have := (readI (CL s) W (by omega)).mono fun e w' h => texts_open h
      rw [TX_s (by omega), TN_s (by omega), RF_CL0 h6] at this
      exact this
    have hlen := len_lnF (RF s)
    generalize CL s = f at hI hS hC hQ z1
    generalize RF s = xs at hR hQ z1 z2 hlen
    have n3 : (f.toList != f.toList) = false := by rw [bne, beq_self_eq_true]; rfl
    have n4 : (f.toList == f.toList) = true := beq_self_eq_true _
    generalize lnF xs = n at hR hQ z1 z2 hlen
    subst z1
    have n5 : decide ((f.size : Int) < 0) = false := by simp only [decide_eq_false_iff_not]; omega
    go_wp2_with fail
    refine (hI.out _).mono ?_
    rintro e w2 ⟨rfl, hb2⟩
    go_wp2_with fail
    refine (hS.out _).mono ?_
    rintro e w3 ⟨rfl, hb3⟩
    have hb3' := bt2 (bt2 hb1 hb2) hb3
    clear hb1 hb2 hb3
    go_wp2_with fail
    refine (hR.out _).mono ?_
    rintro e w4 ⟨A4, c4, rfl, hb4, r4, l4, m4, -⟩
    go_wp2_with fail
    refine (hQ.out _).mono ?_
    rintro e w5 ⟨A5, c5, rfl, hb5, r5, l5, m5, -⟩
    have hb5' := bt2 (bt2 hb3' hb4) hb5
    have r4' := r4.below hb5
    clear hb3' hb4 hb5 r4
    go_wp2_with fail
    refine (eqT_any A4 A5 c4 c5 xs _ r4' r5 (by omega)).mono ?_
    rintro e w6 ⟨rfl, hb6⟩
    go_wp2_with fail
    refine (hC.out _).mono ?_
    rintro e w7 ⟨rfl, hb7⟩
    go_wp2_with fail
    go_ret
    exact ⟨rfl, bt2 (bt2 hb5' hb6) hb7⟩

theorem flat_take {xs : List ByteArray} {k : Nat} (hk : k < xs.length) : flat (xs.take (k + 1)) = flat (xs.take k) ++ frm xs[k] := by
  rw [List.take_add_one, List.getElem?_eq_getElem hk, flat_app]
  simp [flat]
theorem lnF_take (xs : List ByteArray) (k : Nat) : lnF (xs.take k) ≤ lnF xs := by
  conv => rhs; rw [← List.take_append_drop k xs, lnF_app]
  omega

set_option maxHeartbeats 1000000 in
theorem readLaw_walk (A : Option Addr) (c : Nat) (zs : List Int) (w : World) (h : Bytes w A c zs) :
    Calls Try.prog 9 #[.slice A zs.length c] w fun e w' => e = .returned (.bool true) ∧ Below w.heap.size w w' := by
  have hcap := h.cap
  have hmax := h.max
  by_cases hl : 1048576 < zs.length
  · go_enter Try.func9, Try.ntmps9
    go_wp2
    go_ret
    exact ⟨rfl, Below.refl _ _⟩
  · go_enter Try.func9, Try.ntmps9
    go_wp2_with fail
    refine (drawRead A c zs _ h).mono ?_
    rintro e w1 ⟨s, rfl, hs, hb1⟩
    have h6 : s.size ≤ 600 := by omega
    have z2 := lnF_le s
    have hR : Hid (∀ W, Calls Try.prog 16 #[.string s] W (Opened (RF s) (lnF (RF s)) W)) := fun W => by
      have := (readI s W (by omega)).mono fun e w' h => texts_open h
      rw [TX_s h6, TN_s h6] at this
      exact this
    have hQ : Hid (∀ W, Calls Try.prog 22 #[.string s] W (Opened (RF s) (lnF (RF s)) W)) := fun W => by
      have := (readS s W (by omega)).mono fun e w' h => texts_open h
      rw [TX_s h6, TN_s h6] at this
      exact this
    have hlen := len_lnF (RF s)
    have hle := hide (RF_le s)
    have hfl := hide (flat_RF s)
    generalize RF s = xs at hR hQ z2 hlen hle hfl
    have hlt' := hide (lnF_take xs)
    have hfs := hide (flat_size)
    obtain ⟨n, hn⟩ : ∃ n, lnF xs = n := ⟨_, rfl⟩
    have hnh := hide hn
    rw [hn] at hR hQ z2 hlen hfl
    clear hn
    have n1 : ((n : Int) != (n : Int)) = false := by simp
    have n5 : decide ((n : Int) < 0) = false := by simp only [decide_eq_false_iff_not]; omega
    have n6 : (n : Int) ≤ (s.size : Int) := by omega
    go_wp2_with fail
    refine (hR.out _).mono ?_
    rintro e w2 ⟨A2, c2, rfl, hb2, r2, l2, m2, -⟩
    go_wp2_with fail
    refine (hQ.out _).mono ?_
    rintro e w3 ⟨A3, c3, rfl, hb3, r3, l3, m3, -⟩
    have hb3' := bt2 (bt2 hb1 hb2) hb3
    have r2' := r2.below hb3
    clear hb1 hb2 hb3 r2
    go_wp2_with fail
    refine (eqT_any A2 A3 c2 c3 xs _ r2' r3 (by omega)).mono ?_
    rintro e w4 ⟨rfl, hb4⟩
    have hb4' := bt2 hb3' hb4
    have r4 := r2'.below hb4
    clear hb3' hb4 r2' r3
    go_wp2_with fail
    go_loopw [8, 9] (fun o v wr => ∃ (k : Nat) (t : ByteArray), k ≤ xs.length ∧ v = .int .i64 k ∧ o = .string t ∧ t.size ≤ 600 ∧ Hid (t = flat (xs.take k)) ∧ Below w4.heap.size w4 wr) (fun _ v _ => xs.length - (intOf v).toNat)
    case atStart => exact ⟨0, ByteArray.empty, by omega, rfl, rfl, by simp, rfl, Below.refl _ _⟩
    case round =>
      obtain ⟨k, t, hk, rfl, rfl, ht, hf, hb⟩ := hrel
      by_cases hlt : k < xs.length
      · obtain ⟨b, off, rfl, c0⟩ := encS_at (r4.below hb) hlt
        have hx40 := hle.out _ (List.getElem_mem hlt)
        have hst := hide (flat_take hlt)
        have hbd := hlt'.out (k + 1)
        rw [hnh.out, ← hfs.out, hst.out, ByteArray.size_append, ← hf.out] at hbd
        generalize xs[k] = x at c0 hx40 hst hbd
        have hF := ftI x
        rw [show FT x = frm x by unfold FT; rw [if_pos hx40]] at hF
        have hF' := hide hF
        clear hF
        have hzf : (frm x).size ≤ 46 := by rw [frm_size]; omega
        generalize frm x = f at hF' hzf hst hbd
        go_wp2_with fail
        refine (hF'.out _ (by omega)).mono ?_
        rintro e w5 ⟨rfl, hb5⟩
        go_wp2_with fail
        go_roundw
        case rel => exact ⟨k + 1, t ++ f, by omega, by go_num, rfl, by rw [ByteArray.size_append]; omega, by unfold Hid; rw [hst.out, ← hf.out], bt hb hb5 hb.size⟩
        case measure => simp [intOf]; omega
      · obtain rfl : k = xs.length := by omega
        have hte : t = s.extract 0 n := by
          have := hf.out
          rw [List.take_length] at this
          rw [this, hfl.out]
        have hq : (t.toList == (s.extract 0 n).toList) = true := by rw [hte]; exact beq_self_eq_true _
        clear hte
        go_wp2_with fail
        go_ret
        exact ⟨rfl, bt2 hb4' hb⟩

end Go.Proofs.Ytgcnaajinkhakaa
