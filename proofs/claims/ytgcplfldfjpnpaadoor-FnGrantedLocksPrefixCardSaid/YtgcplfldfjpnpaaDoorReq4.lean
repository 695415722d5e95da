/-
  GrantedLocks of the reference: what it answers for any list of requests. Conditions: the slice reads as the list.
-/
import Derived.Test.YtgcplfldfjpnpaaDoorReq3
import Derived.Test.YtgcplfldfjpnpaaDoorMore
import Derived.BigQuiet
import Derived.Deep.QuietTactic
namespace Go.Proofs.YtgcplfldfjpnpaaDoor
open Go.RowKit
set_option linter.unusedVariables false
set_option linter.unusedSimpArgs false

theorem fst_dup {rs : List (Int × Int)} {j k : Nat} (hjk : j < k) (hk : k < rs.length) (h : (rs[j]'(by omega)).1 = rs[k].1) : (fst1 (fun q => q.1 == rs[k].1) rs == (k : Int)) = false := by
  unfold fst1
  cases hf : rs.findIdx? (fun q => q.1 == rs[k].1) with
  | none => simp
  | some i =>
    rw [List.findIdx?_eq_some_iff_getElem] at hf
    obtain ⟨hi, _, hlt⟩ := hf
    have : i ≤ j := by
      rcases Nat.lt_or_ge j i with h1 | h1
      · exact absurd (show ((rs[j]'(by omega)).1 == rs[k].1) = true by simp [h]) (hlt j h1)
      · exact h1
    simp
    omega
theorem fst_new {rs : List (Int × Int)} {k : Nat} (hk : k < rs.length) (h : ∀ t (ht : t < k), (rs[t]'(by omega)).1 ≠ rs[k].1) : (fst1 (fun q => q.1 == rs[k].1) rs == (k : Int)) = true := by
  rw [fst1_at hk (fun t ht => by simpa using h t ht) (by simp)]
  simp

set_option maxHeartbeats 2000000 in
theorem vqS (A : Option Addr) (c : Nat) (rs : List (Int × Int)) (w : World) (hr : Rl encR 2 w A rs) (hc : rs.length ≤ 1048576) :
    Calls Tryd.prog 31 #[.slice A rs.length c] w fun e w' => e = .returned (.bool (vq rs)) ∧ Below w.heap.size w w' := by
  go_enter Tryd.func31, Tryd.ntmps31
  go_wp2
  go_loopw [3] (fun v wr => ∃ k : Nat, k ≤ rs.length ∧ v = .int .i64 k ∧ Below w.heap.size w wr ∧ Hid (∀ t, t < k → okR rs t = true)) (fun v _ => rs.length - (intOf v).toNat)
  case atStart => exact ⟨0, by omega, rfl, Below.refl _ _, fun t ht => absurd ht (by omega)⟩
  case round =>
    obtain ⟨k, hk, rfl, hb, hno⟩ := hrel
    by_cases hlt : k < rs.length
    · have hrr := hr.below hb
      obtain ⟨b, off, rfl, c0, c1⟩ := hrr.req hlt
      have HO := hide (okR_at hlt)
      have HN := hide (fun h : okR rs k = false => vq_no hlt h)
      have HD := hide (fun (j : Nat) (hjk : j < k) (h : (rs[j]'(by omega)).1 = rs[k].1) => fst_dup hjk hlt h)
      have HW := hide (fst_new hlt)
      generalize rs[k].1 = o at c0 HO HD HW
      generalize rs[k].2 = m at c1 HO
      cases ho : rng o 0 7
      · have HF := hide (HN.out (by rw [HO.out, ho]; simp))
        go_wp2_with (go_at_call 35; refine (inR _ _ _ _).mono ?_; rintro e w' ⟨rfl, rfl⟩)
        go_ret
        exact ⟨ret_bool HF.out.symm, hb⟩
      · cases hm : rng m 1 5
        · have HF := hide (HN.out (by rw [HO.out, ho, hm]; simp))
          go_wp2_with (go_at_call 35; refine (inR _ _ _ _).mono ?_; rintro e w' ⟨rfl, rfl⟩)
          go_ret
          exact ⟨ret_bool HF.out.symm, hb⟩
        · rw [ho, hm] at HO
          go_wp2_with (go_at_call 35; refine (inR _ _ _ _).mono ?_; rintro e w' ⟨rfl, rfl⟩)
          obtain ⟨wo, hwo⟩ : ∃ wo, wo = wr := ⟨_, rfl⟩
          subst hwo
          go_loopw [4] (fun v wq => ∃ j : Nat, j ≤ k ∧ v = .int .i64 j ∧ Below wo.heap.size wo wq ∧ Hid (∀ t (ht : t < j) (hl : t < rs.length), rs[t].1 ≠ o)) (fun v _ => k - (intOf v).toNat)
          case atStart => exact ⟨0, by omega, rfl, Below.refl _ _, fun t ht => absurd ht (by omega)⟩
          case round =>
            obtain ⟨j, hj, rfl, hbq, hnoq⟩ := hrel
            by_cases hjk : j < k
            · have hjl : j < rs.length := by omega
              obtain ⟨b', off', e', d0, d1⟩ := (hrr.below hbq).req hjl
              obtain ⟨rfl, rfl⟩ : b = b' ∧ off = off' := by simpa using e'
              have r0 := (hbq.cell (p := ⟨b, off + k * 2, none⟩) (cell_lt c0)).trans c0
              have HDj := hide (HD.out j hjk)
              have HE : Hid (∀ o', rs[j].1 = o' → rs[j].1 = o') := fun _ h => h
              have hne : Hid (∀ t (ht : t < j + 1) (hl : t < rs.length), (t = j → rs[j].1 ≠ o) → rs[t].1 ≠ o) := fun t ht hl h => by
                rcases Nat.lt_or_ge t j with h1 | h1
                · exact hnoq.out t h1 hl
                · obtain rfl : t = j := by omega
                  exact h rfl
              generalize hoj : rs[j].1 = o' at d0 HDj hne
              have HJ := hide hoj
              clear hoj HE
              have b1 : (j : Int) < (rs.length : Int) := by omega
              have b2 : (k : Int) < (rs.length : Int) := by omega
              by_cases ht : o' = o
              · have htb : (o' == o) = true := by simp [ht]
                have HF := hide (HN.out (by rw [HO.out, HDj.out ht]; rfl))
                clear ht
                go_wp2_with fail
                go_quiet (fail)
                go_wp2
                go_ret
                exact ⟨ret_bool HF.out.symm, below_drewN (bt hb hbq hb.size) _⟩
              · have htb : (o' == o) = false := by simp [ht]
                have HQ := hide ht
                clear ht
                go_wp2_with fail
                go_quiet (fail)
                go_wp2
                go_roundw
                case rel => exact ⟨j + 1, by omega, by go_num, below_drewN hbq _, fun t ht hl => hne.out t ht hl (fun _ => HQ.out)⟩
                case measure => simp [intOf]; omega
            · obtain rfl : j = k := by omega
              have HF := hide (HW.out (fun t ht => hnoq.out t ht (by omega)))
              go_wp2
              go_roundw
              case rel =>
                refine ⟨j + 1, by omega, by go_num, bt hb hbq hb.size, fun t ht => ?_⟩
                rcases Nat.lt_or_ge t j with h1 | h1
                · exact hno.out t h1
                · obtain rfl : t = j := by omega
                  rw [HO.out, HF.out]; rfl
              case measure => simp [intOf]; omega
    · obtain rfl : k = rs.length := by omega
      have HF := hide (vq_yes hno.out)
      go_wp2
      go_ret
      exact ⟨ret_bool (by rw [HF.out, decide_eq_decide]; omega), hb⟩

set_option maxHeartbeats 2000000 in
theorem grS (A : Option Addr) (c : Nat) (rs : List (Int × Int)) (w : World) (hr : Rl encR 2 w A rs) (hc : rs.length ≤ 1048576) (hv : vq rs = true) :
    Calls Tryd.prog 32 #[.slice A rs.length c] w fun e w' => e = .returned (.int .i64 (gr rs)) ∧ Below w.heap.size w w' := by
  have hmd : ∀ k, k < rs.length → 0 ≤ md rs k ∧ md rs k ≤ 5 := fun k hk => by
    unfold vq at hv
    rw [Bool.and_eq_true, List.all_eq_true] at hv
    have h1 := hv.2 k (List.mem_range.2 hk)
    rw [okR_at hk, Bool.and_eq_true, Bool.and_eq_true, rng_iff, rng_iff, md_at hk] at h1
    omega
  have HM := hide hmd
  clear hmd hv
  go_enter Tryd.func32, Tryd.ntmps32
  go_wp2
  go_loopw [3] (fun v wr => ∃ k : Nat, k ≤ rs.length ∧ v = .int .i64 k ∧ Below w.heap.size w wr ∧ Hid (∀ t, t < k → okG rs t = true)) (fun v _ => rs.length - (intOf v).toNat)
  case atStart => exact ⟨0, by omega, rfl, Below.refl _ _, fun t ht => absurd ht (by omega)⟩
  case round =>
    obtain ⟨k, hk, rfl, hb, hno⟩ := hrel
    by_cases hlt : k < rs.length
    · have hrr := hr.below hb
      obtain ⟨b, off, rfl, _, c1⟩ := hrr.req hlt
      rw [md_at hlt] at c1
      have mk1 := HM.out k hlt
      go_wp2
      obtain ⟨wo, hwo⟩ : ∃ wo, wo = wr := ⟨_, rfl⟩
      subst hwo
      go_loopw [4] (fun v wq => ∃ j : Nat, j ≤ k ∧ v = .int .i64 j ∧ Below wo.heap.size wo wq ∧ Hid (∀ t, t < j → tog (md rs t) (md rs k) = true)) (fun v _ => k - (intOf v).toNat)
      case atStart => exact ⟨0, by omega, rfl, Below.refl _ _, fun t ht => absurd ht (by omega)⟩
      case round =>
        obtain ⟨j, hj, rfl, hbq, hnoq⟩ := hrel
        by_cases hjk : j < k
        · have hjl : j < rs.length := by omega
          obtain ⟨b', off', e', _, d1⟩ := (hrr.below hbq).req hjl
          obtain ⟨rfl, rfl⟩ : b = b' ∧ off = off' := by simpa using e'
          rw [md_at hjl] at d1
          have mj1 := HM.out j hjl
          have r1 := (hbq.cell (p := ⟨b, off + k * 2 + 1, none⟩) (cell_lt c1)).trans c1
          have b1 : (j : Int) < (rs.length : Int) := by omega
          have b2 : (k : Int) < (rs.length : Int) := by omega
          cases ht : tog (md rs j) (md rs k)
          · have HF := hide (gr_at hlt hno.out (okG_no hjk ht))
            have ht' := ht
            go_wp2_with fail
            go_quiet ((go_at_call 24; exact quiet_same2 (tg_yes _ _ _ mj1.1 mj1.2 mk1.1 mk1.2)))
            go_wp2
            go_ret
            exact ⟨ret_int HF.out.symm, below_drewN (bt hb hbq hb.size) _⟩
          · go_wp2_with fail
            go_quiet ((go_at_call 24; exact quiet_same2 (tg_yes _ _ _ mj1.1 mj1.2 mk1.1 mk1.2)))
            go_wp2
            go_roundw
            case rel =>
              refine ⟨j + 1, by omega, by go_num, below_drewN hbq _, fun t htt => ?_⟩
              rcases Nat.lt_or_ge t j with h1 | h1
              · exact hnoq.out t h1
              · obtain rfl : t = j := by omega
                exact ht
            case measure => simp [intOf]; omega
        · obtain rfl : j = k := by omega
          go_wp2
          go_roundw
          case rel =>
            refine ⟨j + 1, by omega, by go_num, bt hb hbq hb.size, fun t htt => ?_⟩
            rcases Nat.lt_or_ge t j with h1 | h1
            · exact hno.out t h1
            · obtain rfl : t = j := by omega
              exact okG_yes hnoq.out
          case measure => simp [intOf]; omega
    · obtain rfl : k = rs.length := by omega
      go_wp2
      go_ret
      exact ⟨ret_int (gr_end hno.out).symm, hb⟩

theorem glS (A : Option Addr) (c : Nat) (rs : List (Int × Int)) (w : World) (hr : Rl encR 2 w A rs) (hc : rs.length ≤ 1048576) :
    Calls Tryd.prog 19 #[.slice A rs.length c] w fun e w' => e = .returned (.int .i64 (GL rs)) ∧ Below w.heap.size w w' := by
  cases hv : vq rs
  · have H := hide (show GL rs = -1 by simp [GL, hv])
    go_enter Tryd.func19, Tryd.ntmps19
    go_wp2_with fail
    refine (vqS A c rs _ hr hc).mono ?_
    rintro e w1 ⟨rfl, hb1⟩
    obtain ⟨hc1, hf1, hz1⟩ := bcell hb1
    try simp only [World.size_alloc] at hz1
    go_wp2_with fail
    go_ret
    exact ⟨ret_int H.out.symm, hb1⟩
  · have H := hide (show GL rs = gr rs by simp [GL, hv])
    have HV := hide hv
    go_enter Tryd.func19, Tryd.ntmps19
    go_wp2_with fail
    refine (vqS A c rs _ hr hc).mono ?_
    rintro e w1 ⟨rfl, hb1⟩
    obtain ⟨hc1, hf1, hz1⟩ := bcell hb1
    try simp only [World.size_alloc] at hz1
    clear hc1 hf1
    go_wp2_with fail
    refine (grS A c rs _ (hr.below hb1) hc HV.out).mono ?_
    rintro e w2 ⟨rfl, hb2⟩
    obtain ⟨hc2, hf2, hz2⟩ := bcell hb2
    try simp only [World.size_alloc] at hz2
    go_wp2_with fail
    go_ret
    exact ⟨ret_int H.out.symm, bt2 hb1 hb2⟩

end Go.Proofs.YtgcplfldfjpnpaaDoor
