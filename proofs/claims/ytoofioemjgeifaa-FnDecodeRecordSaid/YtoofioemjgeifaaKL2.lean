/-
  The statements that keys can be read and that rows have one key. Conditions: the argument reads as a list of bytes.
-/
import Derived.Test.YtoofioemjgeifaaKL1
import Derived.Test.YtoofioemjgeifaaVR
namespace Go.Proofs.Ytoofioemjgeifaa
open Go.RowKit
set_option linter.unusedVariables false
set_option linter.unusedSimpArgs false

theorem isEmpty_no {s : ByteArray} (h : s ≠ ByteArray.empty) : s.toList.isEmpty = false := by
  cases hh : s.toList.isEmpty
  · rfl
  · exact absurd (emp_iff (s := s) hh) h
theorem eq_same (s : ByteArray) : (s.toList == s.toList) = true := beq_self_eq_true _
theorem EK_back {vs : List Vl} (h : EK vs ≠ ByteArray.empty) : vrB vs = true ∧ DR (EK vs) = vs ∧ DO (EK vs) = true := by
  cases hv : vrB vs
  · exact absurd (show EK vs = ByteArray.empty by unfold EK; rw [hv]; rfl) h
  · have hk : EK vs = ek vs := by unfold EK; rw [hv]; rfl
    have hd := DK_some hv hk.symm
    refine ⟨rfl, ?_, ?_⟩
    · unfold DR; rw [hd]; rfl
    · unfold DO; rw [hd]; rfl
theorem DR_fit (s : ByteArray) (h : s.size ≤ 1048576) : Fit (DR s) := by
  intro v hv
  unfold DR at hv
  cases hd : DK s with
  | none => rw [hd] at hv; simp at hv
  | some vs =>
    rw [hd] at hv
    have := DK_row hd
    have h1 := vr_mem this.1 v hv
    rcases vv_kind h1 with ⟨_, _, s3⟩ | ⟨_, _, _, s3⟩ | ⟨_, _, s3⟩
    · rw [emp_iff s3]; simp
    · rw [emp_iff s3]; simp
    · unfold vtB at s3
      rw [Bool.and_eq_true, decide_eq_true_eq] at s3
      omega
theorem DO_EK {s : ByteArray} (h : DO s = true) : EK (DR s) = s := by
  unfold DO at h
  cases hd : DK s with
  | none => rw [hd] at h; cases h
  | some vs =>
    have := DK_row hd
    have e : DR s = vs := by unfold DR; rw [hd]; rfl
    rw [e]
    unfold EK
    rw [this.1]
    exact this.2

set_option maxHeartbeats 1000000 in
theorem encLaw_walk (A : Option Addr) (c : Nat) (zs : List Int) (w : World) (h : Bytes w A c zs) :
    Calls Try.prog 8 #[.slice A zs.length c] w fun e w' => e = .returned (.bool true) ∧ Below w.heap.size w w' := by
  have hcap := h.cap
  have hmax := h.max
  by_cases hl : 1048576 < zs.length
  · go_enter Try.func8, Try.ntmps8
    go_wp2
    go_ret
    exact ⟨rfl, Below.refl _ _⟩
  · go_enter Try.func8, Try.ntmps8
    go_wp2_with fail
    refine (drawEK A c zs _ h).mono ?_
    rintro e w1 ⟨P, p, vs, rfl, hL, hlen, hsm, hb1⟩
    have hf := sm_fit hsm
    have hz := EK_size vs
    have eI := hide (fun W hr => EKI P p vs W hr hf (by omega))
    have eS := hide (fun W hr => EKS P p vs W hr hf (by omega))
    by_cases he : EK vs = ByteArray.empty
    · rw [he] at eI eS
      clear he
      have n1 : (ByteArray.empty.toList == ByteArray.empty.toList) = true := eq_same _
      have n2 : ByteArray.empty.toList.isEmpty = true := by decide +kernel
      go_wp2_with fail
      refine (eI.out _ hL.rl).mono ?_
      rintro e w2 ⟨rfl, hb2⟩
      go_wp2_with fail
      refine (eS.out _ (hL.rl.below hb2)).mono ?_
      rintro e w3 ⟨rfl, hb3⟩
      go_wp2_with fail
      refine (eS.out _ ((hL.rl.below hb2).below hb3)).mono ?_
      rintro e w4 ⟨rfl, hb4⟩
      go_wp2_with fail
      go_ret
      exact ⟨rfl, bt2 (bt2 (bt2 hb1 hb2) hb3) hb4⟩
    · obtain ⟨hv, hdr, hdo⟩ := EK_back he
      have hK := hide (fun W => (dkI (EK vs) W (by omega)).mono fun e w' h => key_open h)
      rw [hdr, hdo] at hK
      have hE := hide (fun (B : Option Addr) (d : Nat) W ha hb => eqRow_any B P d p vs vs W ha hb (by omega) (by omega))
      rw [eqL_iff.2 rfl] at hE
      have n2 := isEmpty_no he
      have n1 := eq_same (EK vs)
      clear he hdr hdo hv
      generalize EK vs = s at eI eS hK n1 n2 hz
      go_wp2_with fail
      refine (eI.out _ hL.rl).mono ?_
      rintro e w2 ⟨rfl, hb2⟩
      go_wp2_with fail
      refine (eS.out _ (hL.rl.below hb2)).mono ?_
      rintro e w3 ⟨rfl, hb3⟩
      go_wp2_with fail
      refine (hK.out _).mono ?_
      rintro e w4 ⟨B, d, rfl, hb4, r4, l4, m4, -⟩
      go_wp2_with fail
      refine (hE.out B d _ r4 (((hL.rl.below hb2).below hb3).below hb4)).mono ?_
      rintro e w5 ⟨rfl, hb5⟩
      go_wp2_with fail
      go_ret
      exact ⟨rfl, bt2 (bt2 (bt2 (bt2 hb1 hb2) hb3) hb4) hb5⟩

set_option maxHeartbeats 1000000 in
theorem decLaw_walk (A : Option Addr) (c : Nat) (zs : List Int) (w : World) (h : Bytes w A c zs) :
    Calls Try.prog 11 #[.slice A zs.length c] w fun e w' => e = .returned (.bool true) ∧ Below w.heap.size w w' := by
  have hcap := h.cap
  have hmax := h.max
  by_cases hl : 1048576 < zs.length
  · go_enter Try.func11, Try.ntmps11
    go_wp2
    go_ret
    exact ⟨rfl, Below.refl _ _⟩
  · go_enter Try.func11, Try.ntmps11
    go_wp2_with fail
    refine (drawDK A c zs _ h).mono ?_
    rintro e w1 ⟨s, rfl, hz, hb1⟩
    have hK := hide (fun W => (dkI s W (by omega)).mono fun e w' h => key_open h)
    have hS := hide (fun W => (dkS s W (by omega)).mono fun e w' h => key_open h)
    have hlen := DR_len s
    have hf := DR_fit s (by omega)
    have hdo := hide (fun h => DO_EK (s := s) h)
    have hE := hide (fun (B : Option Addr) (d : Nat) (P : Option Addr) (p : Nat) W ha hb => eqRow_any B P d p (DR s) (DR s) W ha hb (by omega) (by omega))
    rw [eqL_iff.2 rfl] at hE
    have eI := hide (fun (P : Option Addr) (p : Nat) W hr => EKI P p (DR s) W hr hf (by omega))
    have n1 := eq_same s
    clear hf
    generalize DR s = vs at hK hS hlen hdo hE eI
    generalize DO s = z at hK hS hdo
    cases z
    · clear hdo
      go_wp2_with fail
      refine (hK.out _).mono ?_
      rintro e w2 ⟨B, d, rfl, hb2, r2, l2, m2, -⟩
      go_wp2_with fail
      refine (hS.out _).mono ?_
      rintro e w3 ⟨P, p, rfl, hb3, r3, l3, m3, -⟩
      have hb3' := bt2 (bt2 hb1 hb2) hb3
      go_wp2_with fail
      refine (hE.out B d P p _ (r2.below hb3) r3).mono ?_
      rintro e w4 ⟨rfl, hb4⟩
      go_wp2_with fail
      go_ret
      exact ⟨rfl, bt2 hb3' hb4⟩
    · have he := hdo.out rfl
      rw [he] at eI
      clear hdo he
      go_wp2_with fail
      refine (hK.out _).mono ?_
      rintro e w2 ⟨B, d, rfl, hb2, r2, l2, m2, -⟩
      go_wp2_with fail
      refine (hS.out _).mono ?_
      rintro e w3 ⟨P, p, rfl, hb3, r3, l3, m3, -⟩
      have hb3' := bt2 (bt2 hb1 hb2) hb3
      have r2' := r2.below hb3
      clear hb2 hb3 r2
      go_wp2_with fail
      refine (hE.out B d P p _ r2' r3).mono ?_
      rintro e w4 ⟨rfl, hb4⟩
      have hb4' := bt2 hb3' hb4
      have r4 := r2'.below hb4
      clear hb3' hb4
      go_wp2_with fail
      refine (eI.out B d _ r4).mono ?_
      rintro e w5 ⟨rfl, hb5⟩
      go_wp2_with fail
      go_ret
      exact ⟨rfl, bt2 hb4' hb5⟩

set_option maxHeartbeats 1000000 in
theorem orderLaw_walk (A : Option Addr) (c : Nat) (zs : List Int) (w : World) (h : Bytes w A c zs) :
    Calls Try.prog 9 #[.slice A zs.length c] w fun e w' => e = .returned (.bool true) ∧ Below w.heap.size w w' := by
  have hcap := h.cap
  have hmax := h.max
  by_cases hl : 1048576 < zs.length
  · go_enter Try.func9, Try.ntmps9
    go_wp2
    go_ret
    exact ⟨rfl, Below.refl _ _⟩
  · go_enter Try.func9, Try.ntmps9
    go_wp2_with fail
    refine (drawRows A c zs _ h).mono ?_
    rintro e w1 ⟨P, p, xs, Q, q, ys, rfl, hx, hy, lx, ly, sx, sy, hb1⟩
    have fx := sm_fit sx
    have fy := sm_fit sy
    have cI := hide (fun W ha hb => crI P Q p q xs ys W ha hb fx fy (by omega) (by omega))
    have cS := hide (fun W ha hb => crS P Q p q xs ys W ha hb fx fy (by omega) (by omega))
    by_cases h2 : CR xs ys = 2
    · rw [h2] at cI cS
      clear h2
      go_wp2_with fail
      refine (cI.out _ hx.rl hy.rl).mono ?_
      rintro e w2 ⟨rfl, hb2⟩
      go_wp2_with fail
      refine (cS.out _ (hx.rl.below hb2) (hy.rl.below hb2)).mono ?_
      rintro e w3 ⟨rfl, hb3⟩
      have hb3' := bt2 (bt2 hb1 hb2) hb3
      go_wp2_with fail
      refine (cS.out _ ((hx.rl.below hb2).below hb3) ((hy.rl.below hb2).below hb3)).mono ?_
      rintro e w4 ⟨rfl, hb4⟩
      go_wp2_with fail
      go_ret
      exact ⟨rfl, bt2 hb3' hb4⟩
    · have hv : vrB xs = true ∧ vrB ys = true := by
        cases hh : (vrB xs && vrB ys)
        · exact absurd (CR_two.2 hh) h2
        · rwa [Bool.and_eq_true] at hh
      have hord : cmpT (EK xs) (EK ys) = CR xs ys := by
        rw [show EK xs = ek xs by unfold EK; rw [hv.1]; rfl, show EK ys = ek ys by unfold EK; rw [hv.2]; rfl, ek_order (vr_mem hv.1) (vr_mem hv.2), CR_ci hv.1 hv.2]
      have eX := hide (fun W hr => EKI P p xs W hr fx (by omega))
      have eY := hide (fun W hr => EKI Q q ys W hr fy (by omega))
      have kI := hide (fun W => iKeys_any (EK xs) (EK ys) W)
      rw [hord] at kI
      have n2 : (CR xs ys == 2) = false := by rw [beq_eq_false_iff_ne]; exact h2
      clear h2 hord hv
      generalize CR xs ys = n at cI cS kI n2
      generalize EK xs = s at eX kI
      generalize EK ys = t at eY kI
      have n1 : (n != n) = false := by simp
      have n3 : (n == n) = true := by simp
      go_wp2_with fail
      refine (cI.out _ hx.rl hy.rl).mono ?_
      rintro e w2 ⟨rfl, hb2⟩
      go_wp2_with fail
      refine (cS.out _ (hx.rl.below hb2) (hy.rl.below hb2)).mono ?_
      rintro e w3 ⟨rfl, hb3⟩
      have hb3' := bt2 (bt2 hb1 hb2) hb3
      have hx3 := (hx.rl.below hb2).below hb3
      have hy3 := (hy.rl.below hb2).below hb3
      clear hb2 hb3
      go_wp2_with fail
      refine (eX.out _ hx3).mono ?_
      rintro e w4 ⟨rfl, hb4⟩
      go_wp2_with fail
      refine (eY.out _ (hy3.below hb4)).mono ?_
      rintro e w5 ⟨rfl, hb5⟩
      have hb5' := bt2 (bt2 hb3' hb4) hb5
      go_wp2_with fail
      refine (kI.out _).mono ?_
      rintro e w' ⟨rfl, rfl⟩
      go_wp2_with fail
      go_ret
      exact ⟨rfl, hb5'⟩

end Go.Proofs.Ytoofioemjgeifaa
