/-
  The statements about frames of drawn texts. Conditions: the argument reads as a list of bytes.
-/
import Derived.Test.YtgcnaajinkhakaaFlat
import Derived.Test.YtgcnaajinkhakaaExRead
import Derived.Test.YtgcnaajinkhakaaDrawS
import Derived.Test.YtgcnaajinkhakaaRow
namespace Go.Proofs.Ytgcnaajinkhakaa
open Go.RowKit
set_option linter.unusedVariables false
set_option linter.unusedSimpArgs false

def Some1 (M : Nat) (w : World) (e : Ending) (w' : World) : Prop := ∃ s : ByteArray, e = .returned (.string s) ∧ s.size ≤ M ∧ Below w.heap.size w w'
theorem drawFrame (A : Option Addr) (c : Nat) (zs : List Int) (w : World) (h : Bytes w A c zs) :
    Calls Try.prog 15 #[.slice A zs.length c] w (Some1 42 w) := by
  go_enter Try.func15, Try.ntmps15
  go_wp2_with fail
  refine (new_any A c zs w h.rl h.rng h.cap h.max h.blk).mono ?_
  rintro e w1 ⟨rfl, hr, hb⟩
  go_wp2_with fail
  refine (of_any 41 _ _ _ 6 6 _ w1 hr (by omega) (by kernel_rfl) (by rfl) (by omega) (by omega)).mono ?_
  rintro e w2 ⟨a, rfl, ha, hr2, hg2⟩
  go_wp2_with fail
  refine (of_any 1 _ _ _ 2 2 _ w2 hr2 (by omega) (by kernel_rfl) (by rfl) (by omega) (by omega)).mono ?_
  rintro e w3 ⟨b, rfl, hb', hr3, hg3⟩
  go_wp2_with fail
  go_ret
  refine ⟨a ++ b, rfl, by rw [ByteArray.size_append]; omega, ?_⟩
  exact below_of_grown (below_of_grown hb hg2 (Nat.le_refl _) hb.size) hg3 (Nat.le_refl _) (Nat.le_trans hb.size hg2.size)

theorem eqT_any (A B : Option Addr) (c d : Nat) (xs : List ByteArray) (w : World) (hr : Rl encS 1 w A xs) (hq : Rl encS 1 w B xs) (hl : xs.length ≤ 1000) :
    Calls Try.prog 17 #[.slice A xs.length c, .slice B xs.length d] w fun e w' => e = .returned (.bool true) ∧ Below w.heap.size w w' := by
  go_enter Try.func17, Try.ntmps17
  go_wp2
  go_loopw [5] (fun v wr => ∃ k : Nat, k ≤ xs.length ∧ v = .int .i64 k ∧ Below w.heap.size w wr) (fun v _ => xs.length - (intOf v).toNat)
  case atStart => exact ⟨0, by omega, rfl, Below.refl _ _⟩
  case round =>
    obtain ⟨k, hk, rfl, hb⟩ := hrel
    by_cases hlt : k < xs.length
    · obtain ⟨b, off, rfl, c0⟩ := encS_at (hr.below hb) hlt
      obtain ⟨b', off', rfl, d0⟩ := encS_at (hq.below hb) hlt
      generalize xs[k] = x at c0 d0
      have b1 : (k : Int) < (xs.length : Int) := by omega
      have n1 : (x.toList != x.toList) = false := by rw [bne, beq_self_eq_true]; rfl
      go_wp2_with fail
      go_quiet (fail)
      go_wp2_with fail
      go_roundw
      case rel => exact ⟨k + 1, by omega, by go_num, below_drewN hb _⟩
      case measure => simp [intOf]; omega
    · obtain rfl : k = xs.length := by omega
      go_wp2
      go_ret
      exact ⟨rfl, hb⟩

theorem lit_S (w : World) (t : TypeId) (s : ByteArray) : Rl encS 1 (w.alloc (.cells #[.string s] t)) (some ⟨w.heap.size, 0, none⟩) [s] :=
  .inr ⟨w.heap.size, 0, rfl, fun i x hx j u hu => by
    have hi := (List.getElem?_eq_some_iff.1 hx).1
    obtain rfl : i = 0 := by simp at hi; omega
    have hj := (List.getElem?_eq_some_iff.1 hu).1
    obtain rfl : j = 0 := by simp [encS] at hj; omega
    simp [encS] at hu hx
    subst hu hx
    exact (Blk.new w t #[.string s]).cell 0⟩

theorem frm_ne (s : ByteArray) : (frm s).toList ≠ [] := fun h => by
  rw [ByteArray.toList_eq] at h
  have h3 := frm_size s
  have h4 : (frm s).size = 0 := by
    show (frm s).data.size = 0
    rw [← Array.length_toList, h]
    rfl
  omega
theorem frm_emp (s : ByteArray) : ((frm s).toList == []) = false := by rw [beq_eq_false_iff_ne]; exact frm_ne s
theorem frm_isE (s : ByteArray) : (frm s).toList.isEmpty = false := by
  rw [← Bool.not_eq_true, List.isEmpty_iff]
  exact frm_ne s
theorem TX_frm {s : ByteArray} (h : s.size ≤ 40) : TX (frm s) = [s] := by
  unfold TX
  rw [if_pos (by rw [frm_size]; omega)]
  have := RF_frm (q := ByteArray.empty) h
  rw [RF_empty] at this
  simpa using this
theorem TN_frm {s : ByteArray} (h : s.size ≤ 40) : TN (frm s) = s.size + 6 := by
  have h1 := TX_frm h
  unfold TX at h1
  unfold TN
  rw [if_pos (by rw [frm_size]; omega)] at h1 ⊢
  rw [h1, lnF_cons]
  simp [lnF]
theorem ftI_long {s : ByteArray} (h : 40 < s.size) : FT s = ⟨#[]⟩ := by unfold FT; rw [if_neg (by omega)]; rfl

set_option maxHeartbeats 1000000 in
theorem frameText_walk (A : Option Addr) (c : Nat) (zs : List Int) (w : World) (h : Bytes w A c zs) :
    Calls Try.prog 5 #[.slice A zs.length c] w fun e w' => e = .returned (.bool true) ∧ Below w.heap.size w w' := by
  have hcap := h.cap
  have hmax := h.max
  by_cases hl : 1048576 < zs.length
  · go_enter Try.func5, Try.ntmps5
    go_wp2
    go_ret
    exact ⟨rfl, Below.refl _ _⟩
  · go_enter Try.func5, Try.ntmps5
    go_wp2_with fail
    refine (drawFrame A c zs _ h).mono ?_
    rintro e w1 ⟨s, rfl, hs, hb1⟩
    by_cases h40 : s.size ≤ 40
    · have hI := ftI s
      have hS := ftS s
      rw [show FT s = frm s by unfold FT; rw [if_pos h40]] at hI hS
      have n0 := frm_ne s
      have n1 := frm_emp s
      have n2 := frm_isE s
      have n3 : ((frm s).toList != (frm s).toList) = false := by rw [bne, beq_self_eq_true]; rfl
      have hz := frm_size s
      have hR : Hid (∀ W, Calls Try.prog 16 #[.string (frm s)] W (Opened [s] (s.size + 6) W)) := fun W => by
        have := (readI (frm s) W (by omega)).mono fun e w' h => texts_open h
        rw [TX_frm h40, TN_frm h40] at this
        exact this
      have hI' := hide hI
      have hS' := hide hS
      clear hI hS
      have n4 : ((s.size : Int) + 6 == (s.size : Int) + 6) = true := beq_self_eq_true _
      generalize frm s = f at n0 n1 n2 n3 hz hR hI' hS'
      have n5 : (f.size : Int) = (s.size : Int) + 6 := by omega
      have n5' := hide n5
      clear hz
      go_wp2_with fail
      refine (hI'.out _ (by omega)).mono ?_
      rintro e w2 ⟨rfl, hb2⟩
      clear n5
      go_wp2_with fail
      refine (hS'.out _ (by omega)).mono ?_
      rintro e w3 ⟨rfl, hb3⟩
      go_wp2_with fail
      refine (hR.out _).mono ?_
      rintro e w4 ⟨A4, c4, rfl, hb4, r4, l4, m4, -⟩
      have hb4' := bt2 (bt2 (bt2 hb1 hb2) hb3) hb4
      have r4' := r4.alloc (.cells #[.string s] 9)
      have hq := lit_S w4 9 s
      go_wp2_with fail
      refine (eqT_any A4 _ c4 1 [s] _ r4' hq (by simp)).mono ?_
      rintro e w5 ⟨rfl, hb5⟩
      have hb5' : Below w.heap.size w w5 := bt (hb4'.alloc hb4'.size (.cells #[.string s] 9)) hb5 (by have := hb4'.size; simp; omega)
      have n5 := n5'.out
      have n6 : ((s.size : Int) + 6 == (f.size : Int)) = true := by rw [n5]; exact n4
      have n7 : ((f.size : Int) == (s.size : Int) + 6) = true := by rw [n5]; exact n4
      clear n5 n4
      go_wp2_with fail
      go_ret
      exact ⟨rfl, hb5'⟩
    · have hI := ftI s
      have hS := ftS s
      rw [ftI_long (by omega)] at hI hS
      have hI' := hide hI
      have hS' := hide hS
      clear hI hS
      go_wp2_with fail
      refine (hI'.out _ (by omega)).mono ?_
      rintro e w2 ⟨rfl, hb2⟩
      go_wp2_with fail
      refine (hS'.out _ (by omega)).mono ?_
      rintro e w3 ⟨rfl, hb3⟩
      go_wp2_with fail
      refine (hS'.out _ (by omega)).mono ?_
      rintro e w4 ⟨rfl, hb4⟩
      go_wp2_with fail
      go_ret
      exact ⟨rfl, bt2 (bt2 (bt2 hb1 hb2) hb3) hb4⟩

end Go.Proofs.Ytgcnaajinkhakaa
