/-
  The statements that records can be read and that rows have one record. Conditions: the argument reads as a list of bytes.
-/
import Derived.Test.YtoofioemjgeifaaKL2
namespace Go.Proofs.Ytoofioemjgeifaa
open Go.RowKit
set_option linter.unusedVariables false
set_option linter.unusedSimpArgs false

theorem er_tl (tag : Int) (vs : List Vl) : tl (er tag vs) = ek vs := by
  unfold tl er
  have h1 : (strOfNums [65 + tag]).size = 1 := strOfNums_size _
  rw [ByteArray.size_append, h1]
  exact ByteArray.extract_append_eq_right h1.symm (by rw [h1])
theorem er_pos (tag : Int) (vs : List Vl) : 0 < (er tag vs).size := by
  unfold er
  rw [ByteArray.size_append, strOfNums_size]
  simp
  omega
theorem er_head {tag : Int} (h0 : 0 ≤ tag) (h8 : tag ≤ 8) (vs : List Vl) : (nums (er tag vs)).headD 0 = 65 + tag := by
  unfold er
  rw [nums_app, nums_son (by intro z hz; simp at hz; omega)]
  rfl
theorem ER_back {tag : Int} {vs : List Vl} (h : ER tag vs ≠ ByteArray.empty) : RT (ER tag vs) = tag ∧ RR (ER tag vs) = vs ∧ RO (ER tag vs) = true := by
  cases ht : rng tag 0 8
  · exact absurd (ER_no1 ht) h
  · cases hv : vrB vs
    · exact absurd (ER_no2 hv) h
    · rw [ER_yes ht hv]
      have ht' := rng_iff.1 ht
      have hd := DK_some hv (rfl : ek vs = ek vs)
      have hRO : RO (er tag vs) = true := by
        unfold RO
        rw [er_head ht'.1 ht'.2, er_tl, decide_eq_true (er_pos tag vs), decide_eq_true (show 65 ≤ 65 + tag by omega), decide_eq_true (show 65 + tag ≤ 73 by omega)]
        unfold DO
        rw [hd]
        rfl
      refine ⟨?_, ?_, hRO⟩
      · unfold RT
        rw [hRO, if_pos rfl, er_head ht'.1 ht'.2]
        omega
      · unfold RR
        rw [hRO, if_pos rfl, er_tl]
        unfold DR
        rw [hd]
        rfl
theorem RO_ER {s : ByteArray} (h : RO s = true) : ER (RT s) (RR s) = s := by
  have h' := h
  unfold RO at h'
  simp only [Bool.and_eq_true, decide_eq_true_eq] at h'
  obtain ⟨⟨⟨h0, h1⟩, h2⟩, h3⟩ := h'
  have hT : RT s = (nums s).headD 0 - 65 := by unfold RT; rw [h, if_pos rfl]
  have hR : RR s = DR (tl s) := by unfold RR; rw [h, if_pos rfl]
  have hv : vrB (DR (tl s)) = true ∧ ek (DR (tl s)) = tl s := by
    unfold DO at h3
    unfold DR
    cases hd : DK (tl s) with
    | none => rw [hd] at h3; cases h3
    | some vs => exact DK_row hd
  rw [hT, hR, ER_yes (by rw [rng_iff]; omega) hv.1]
  unfold er
  rw [hv.2, show (65 : Int) + ((nums s).headD 0 - 65) = (nums s).headD 0 by omega]
  apply nums_inj
  rw [nums_app, head_at h0]
  have hb : nums (strOfNums [(s[0].toNat : Int)]) = [(s[0].toNat : Int)] := nums_son (by intro z hz; simp at hz; have := s[0].toNat_lt; omega)
  rw [hb]
  unfold tl
  rw [nums_ext, List.take_of_length_le (by rw [nums_len]; omega)]
  have h4 := nums_at h0
  cases hn : nums s with
  | nil => rw [hn] at h4; simp at h4
  | cons z zs =>
    rw [hn] at h4
    simp at h4
    rw [h4]
    rfl
theorem RR_fit (s : ByteArray) (h : s.size ≤ 1048576) : Fit (RR s) := by
  unfold RR
  split
  · exact DR_fit _ (by unfold tl; rw [ByteArray.size_extract]; omega)
  · intro v hv; simp at hv

set_option maxHeartbeats 1000000 in
theorem encRecLaw_walk (A : Option Addr) (c : Nat) (zs : List Int) (w : World) (h : Bytes w A c zs) :
    Calls Try.prog 10 #[.slice A zs.length c] w fun e w' => e = .returned (.bool true) ∧ Below w.heap.size w w' := by
  have hcap := h.cap
  have hmax := h.max
  by_cases hl : 1048576 < zs.length
  · go_enter Try.func10, Try.ntmps10
    go_wp2
    go_ret
    exact ⟨rfl, Below.refl _ _⟩
  · go_enter Try.func10, Try.ntmps10
    go_wp2_with fail
    refine (drawER A c zs _ h).mono ?_
    rintro e w1 ⟨tag, P, p, vs, rfl, t0, t1, hL, hlen, hsm, hb1⟩
    have hf := sm_fit hsm
    have hz := ER_size tag vs
    have eI := hide (fun W hr => ERI tag P p vs W hr hf (by omega))
    have eS := hide (fun W hr => ERS tag P p vs W hr hf (by omega))
    by_cases he : ER tag vs = ByteArray.empty
    · rw [he] at eI eS
      clear he
      have n1 : (ByteArray.empty.toList == ByteArray.empty.toList) = true := eq_same _
      have n2 : ByteArray.empty.toList.isEmpty = true := by decide +kernel
      go_wp2_with fail
      refine (eI.out _ hL.rl).mono ?_
      rintro e w2 ⟨rfl, hb2⟩
      go_wp2_with fail
      refine (eS.out _ (hL.rl.below hb2)).mono ?_
      rintro e w3 ⟨rfl, hb3⟩
      go_wp2_with fail
      refine (eS.out _ ((hL.rl.below hb2).below hb3)).mono ?_
      rintro e w4 ⟨rfl, hb4⟩
      go_wp2_with fail
      go_ret
      exact ⟨rfl, bt2 (bt2 (bt2 hb1 hb2) hb3) hb4⟩
    · obtain ⟨hT, hR, hO⟩ := ER_back he
      have hK := hide (fun W => drI (ER tag vs) W (by omega))
      rw [hT, hR, hO] at hK
      have hE := hide (fun (B : Option Addr) (d : Nat) W ha hb => eqRow_any B P d p vs vs W ha hb (by omega) (by omega))
      rw [eqL_iff.2 rfl] at hE
      have n2 := isEmpty_no he
      have n1 := eq_same (ER tag vs)
      have n3 : (tag == tag) = true := by simp
      clear he hT hR hO
      generalize ER tag vs = s at eI eS hK n1 n2 hz
      go_wp2_with fail
      refine (eI.out _ hL.rl).mono ?_
      rintro e w2 ⟨rfl, hb2⟩
      go_wp2_with fail
      refine (eS.out _ (hL.rl.below hb2)).mono ?_
      rintro e w3 ⟨rfl, hb3⟩
      go_wp2_with fail
      refine (hK.out _).mono ?_
      rintro e w4 ⟨B, d, rfl, hb4, r4, l4, m4, -⟩
      go_wp2_with fail
      refine (hE.out B d _ r4 (((hL.rl.below hb2).below hb3).below hb4)).mono ?_
      rintro e w5 ⟨rfl, hb5⟩
      go_wp2_with fail
      go_ret
      exact ⟨rfl, bt2 (bt2 (bt2 (bt2 hb1 hb2) hb3) hb4) hb5⟩

set_option maxHeartbeats 1000000 in
theorem decRecLaw_walk (A : Option Addr) (c : Nat) (zs : List Int) (w : World) (h : Bytes w A c zs) :
    Calls Try.prog 3 #[.slice A zs.length c] w fun e w' => e = .returned (.bool true) ∧ Below w.heap.size w w' := by
  have hcap := h.cap
  have hmax := h.max
  by_cases hl : 1048576 < zs.length
  · go_enter Try.func3, Try.ntmps3
    go_wp2
    go_ret
    exact ⟨rfl, Below.refl _ _⟩
  · go_enter Try.func3, Try.ntmps3
    go_wp2_with fail
    refine (drawDR A c zs _ h).mono ?_
    rintro e w1 ⟨s, rfl, hz, hb1⟩
    have hK := hide (fun W => drI s W (by omega))
    have hS := hide (fun W => drS s W (by omega))
    have hlen := RR_len s
    have hf := RR_fit s (by omega)
    have hdo := hide (fun h => RO_ER (s := s) h)
    have hE := hide (fun (B : Option Addr) (d : Nat) (P : Option Addr) (p : Nat) W ha hb => eqRow_any B P d p (RR s) (RR s) W ha hb (by omega) (by omega))
    rw [eqL_iff.2 rfl] at hE
    have eI := hide (fun (P : Option Addr) (p : Nat) W hr => ERI (RT s) P p (RR s) W hr hf (by omega))
    have n1 := eq_same s
    clear hf
    generalize RR s = vs at hK hS hlen hdo hE eI
    generalize RT s = tag at hK hS hdo eI
    generalize RO s = z at hK hS hdo
    have n3 : (tag != tag) = false := by simp
    cases z
    · clear hdo
      go_wp2_with fail
      refine (hK.out _).mono ?_
      rintro e w2 ⟨B, d, rfl, hb2, r2, l2, m2, -⟩
      go_wp2_with fail
      refine (hS.out _).mono ?_
      rintro e w3 ⟨P, p, rfl, hb3, r3, l3, m3, -⟩
      have hb3' := bt2 (bt2 hb1 hb2) hb3
      go_wp2_with fail
      refine (hE.out B d P p _ (r2.below hb3) r3).mono ?_
      rintro e w4 ⟨rfl, hb4⟩
      go_wp2_with fail
      go_ret
      exact ⟨rfl, bt2 hb3' hb4⟩
    · have he := hdo.out rfl
      rw [he] at eI
      clear hdo he
      go_wp2_with fail
      refine (hK.out _).mono ?_
      rintro e w2 ⟨B, d, rfl, hb2, r2, l2, m2, -⟩
      go_wp2_with fail
      refine (hS.out _).mono ?_
      rintro e w3 ⟨P, p, rfl, hb3, r3, l3, m3, -⟩
      have hb3' := bt2 (bt2 hb1 hb2) hb3
      have r2' := r2.below hb3
      clear hb2 hb3 r2
      go_wp2_with fail
      refine (hE.out B d P p _ r2' r3).mono ?_
      rintro e w4 ⟨rfl, hb4⟩
      have hb4' := bt2 hb3' hb4
      have r4 := r2'.below hb4
      clear hb3' hb4
      go_wp2_with fail
      refine (eI.out B d _ r4).mono ?_
      rintro e w5 ⟨rfl, hb5⟩
      go_wp2_with fail
      go_ret
      exact ⟨rfl, bt2 hb4' hb5⟩

end Go.Proofs.Ytoofioemjgeifaa
