/-
  Disks: ValidDisk of the program and of the reference answer, walked. Conditions: the sectors and the writes read as lists.
-/
import Derived.Test.YtgabjepoooageaaDisk
namespace Go.Proofs.Ytgabjepoooageaa
open Go.RowKit
set_option linter.unusedVariables false
set_option linter.unusedSimpArgs false

set_option maxHeartbeats 2000000 in
theorem vdI (A B : Option Addr) (c d : Nat) (xs : List Int) (ws : List (Int × Int)) (w : World) (hr : Rl encD 1 w A xs) (hq : Rl encW 2 w B ws) (hc : xs.length ≤ 1048576) (hd : ws.length ≤ 1048576) :
    Calls Try.prog 18 #[.agg #[.slice A xs.length c, .slice B ws.length d]] w fun e w' => e = .returned (.bool (vd xs ws)) ∧ Below w.heap.size w w' := by
  have hr0 := hr.alloc (.cells #[.slice A xs.length c, .slice B ws.length d] 30)
  have hq0 := hq.alloc (.cells #[.slice A xs.length c, .slice B ws.length d] 30)
  have hb0 : Below w.heap.size w (w.alloc (.cells #[.slice A xs.length c, .slice B ws.length d] 30)) := (Below.refl _ _).alloc (Nat.le_refl _) _
  have kB := Blk.new w 30 #[.slice A xs.length c, .slice B ws.length d]
  by_cases l1 : xs.length < 1
  · have H := hide (vd_len (xs := xs) (ws := ws) (by omega))
    have l1' : (xs.length : Int) < 1 := by omega
    go_enter Try.func18, Try.ntmps18
    go_wp2
    go_ret
    exact ⟨ret_bool H.out.symm, hb0⟩
  · have l1' : ¬ ((xs.length : Int) < 1) := by omega
    by_cases l2 : 8 < xs.length
    · have H := hide (vd_len (xs := xs) (ws := ws) (by omega))
      have l2' : (8 : Int) < (xs.length : Int) := by omega
      go_enter Try.func18, Try.ntmps18
      go_wp2
      go_ret
      exact ⟨ret_bool H.out.symm, hb0⟩
    · have l2' : ¬ ((8 : Int) < (xs.length : Int)) := by omega
      by_cases l3 : 8 < ws.length
      · have H := hide (vd_len (xs := xs) (ws := ws) (by omega))
        have l3' : (8 : Int) < (ws.length : Int) := by omega
        go_enter Try.func18, Try.ntmps18
        go_wp2
        go_ret
        exact ⟨ret_bool H.out.symm, hb0⟩
      · have l3' : ¬ ((8 : Int) < (ws.length : Int)) := by omega
        have hl : 1 ≤ xs.length ∧ xs.length ≤ 8 ∧ ws.length ≤ 8 := by omega
        have hlH := hide hl
        clear l1 l2 l3 hl
        go_enter Try.func18, Try.ntmps18
        go_wp2
        generalize w.alloc (.cells #[.slice A xs.length c, .slice B ws.length d] 30) = w0 at hr0 hq0 hb0 kB
        have hB0 : w0.cell? ⟨w.heap.size, 0, none⟩ = some (.slice A xs.length c) := kB.cell 0
        have hB1 : w0.cell? ⟨w.heap.size, 1, none⟩ = some (.slice B ws.length d) := kB.cell 1
        go_loop [26] (fun v => ∃ k : Nat, k ≤ xs.length ∧ v = .int .i64 k ∧ Hid (∀ t (ht : t < k) (h : t < xs.length), okN xs[t] = true)) (fun v => xs.length - (intOf v).toNat)
        case atStart => exact ⟨0, by omega, rfl, fun t ht => absurd ht (by omega)⟩
        case round =>
          obtain ⟨k, hk, rfl, hno⟩ := hrel
          by_cases hlt : k < xs.length
          · obtain ⟨b, off, rfl, c0⟩ := hr0.num hlt
            have HN := hide (fun h : okN xs[k] = false => vd_num (ws := ws) hlt h)
            have HY := hide (fun h : okN xs[k] = true => upto_step hno.out hlt h)
            have hi : (k : Int) < (xs.length : Int) := by omega
            generalize xs[k] = x at c0 HN HY
            clear hno
            by_cases g1 : x < 0
            · have HF := hide (HN.out (show okN x = false from rng_no.2 (.inl g1)))
              clear HN HY
              go_wp2_with fail
              go_ret
              exact ⟨ret_bool HF.out.symm, hb0⟩
            · by_cases g2 : 999999 < x
              · have HF := hide (HN.out (show okN x = false from rng_no.2 (.inr g2)))
                clear HN HY
                go_wp2_with fail
                go_ret
                exact ⟨ret_bool HF.out.symm, hb0⟩
              · have HF := hide (HY.out (show okN x = true from rng_iff.2 (by omega)))
                clear HN HY
                go_wp2_with fail
                go_round
                case rel => exact ⟨k + 1, by omega, by go_num, HF⟩
                case measure => simp [intOf]; omega
          · obtain rfl : k = xs.length := by omega
            have HX : Hid (∀ k (hk : k < xs.length), okN xs[k] = true) := fun t ht => hno.out t ht ht
            clear hno
            go_wp2_with fail
            go_loopw [40] (fun v wr => ∃ k : Nat, k ≤ ws.length ∧ v = .int .i64 k ∧ Below w0.heap.size w0 wr ∧ Hid (∀ t (ht : t < k) (h : t < ws.length), tk xs.length ws[t] = true)) (fun v _ => ws.length - (intOf v).toNat)
            case atStart => exact ⟨0, by omega, rfl, Below.refl _ _, fun t ht => absurd ht (by omega)⟩
            case round =>
              obtain ⟨k, hk, rfl, hb, hno⟩ := hrel
              have hBr := cell_on hb hB0
              have hBr1 := cell_on hb hB1
              by_cases hlt : k < ws.length
              · obtain ⟨b, off, rfl, c0, c1⟩ := (hq0.below hb).wr hlt
                have HN := hide (fun h : tk xs.length ws[k] = false => vd_wr hlt h)
                have HY := hide (fun h : tk xs.length ws[k] = true => upto_step hno.out hlt h)
                have hi : (k : Int) < (ws.length : Int) := by omega
                generalize ws[k] = x at c0 c1 HN HY
                clear hno
                have hbx := hb.alloc hb.size (.cells #[.int .i64 x.1, .int .i64 x.2] 41)
                have hby : Below wr.heap.size wr (wr.alloc (.cells #[.int .i64 x.1, .int .i64 x.2] 41)) := (Below.refl _ _).alloc (Nat.le_refl _) _
                have hC0 := cell_on hby hBr
                have hC1 := cell_on hby hBr1
                go_wp2_with fail
                refine (tkI A (some ⟨b, off, none⟩) xs.length c ws.length d x _ hc).mono ?_
                rintro e w1 ⟨rfl, hb1⟩
                have hb1' := bt hbx hb1 hbx.size
                cases hv : tk xs.length x
                · have HF := hide (HN.out hv)
                  clear HN HY
                  go_wp2_with fail
                  go_ret
                  exact ⟨ret_bool HF.out.symm, bt hb0 hb1' hb0.size⟩
                · have HF := hide (HY.out hv)
                  clear HN HY
                  go_wp2_with fail
                  go_roundw
                  case rel => exact ⟨k + 1, by omega, by go_num, hb1', HF⟩
                  case measure => simp [intOf]; omega
              · obtain rfl : k = ws.length := by omega
                have HF := hide (vd_yes hlH.out HX.out (fun t ht => hno.out t ht ht))
                clear hno
                go_wp2_with fail
                go_ret
                exact ⟨ret_bool HF.out.symm, bt hb0 hb hb0.size⟩

def inS (n : Nat) (x : Int × Int) : Bool := rng x.1 0 ((n : Int) - 1)
theorem vd_sec {xs : List Int} {ws : List (Int × Int)} {k : Nat} (hk : k < ws.length) (h : inS xs.length ws[k] = false) : vd xs ws = false := vd_wr hk (by unfold tk; unfold inS at h; rw [h]; rfl)
theorem vd_as {xs : List Int} {ws : List (Int × Int)} (h : ∀ k (hk : k < ws.length), inS xs.length ws[k] = true) : vd xs ws = (rng xs.length 1 8 && (xs.all okN && (decide (ws.length ≤ 8) && ws.all okW))) := by
  have e : ws.all (tk xs.length) = ws.all okW := by
    rw [Bool.eq_iff_iff, List.all_eq_true, List.all_eq_true]
    refine forall_congr' fun v => ⟨fun g hv => ?_, fun g hv => ?_⟩
    · have := g hv
      unfold tk at this
      rw [Bool.and_eq_true] at this
      exact this.2
    · obtain ⟨i, hi, rfl⟩ := List.getElem_of_mem hv
      have h1 := h i hi
      unfold inS at h1
      unfold tk
      rw [h1]
      exact g hv
  unfold vd
  rw [e]
  by_cases h1 : 1 ≤ xs.length ∧ xs.length ≤ 8
  · rw [rng_iff.2 (by omega)]
    by_cases h2 : ws.length ≤ 8
    · rw [decide_eq_true (⟨h1.1, h1.2, h2⟩ : 1 ≤ xs.length ∧ xs.length ≤ 8 ∧ ws.length ≤ 8), decide_eq_true h2]
      simp
    · rw [decide_eq_false (by omega), decide_eq_false h2]
      simp
  · rw [decide_eq_false (by omega), show rng xs.length 1 8 = false from rng_no.2 (by omega)]
    rfl

set_option maxHeartbeats 2000000 in
theorem vdS (A B : Option Addr) (c d : Nat) (xs : List Int) (ws : List (Int × Int)) (w : World) (hr : Rl encD 1 w A xs) (hq : Rl encW 2 w B ws) (hc : xs.length ≤ 1048576) (hd : ws.length ≤ 1048576) :
    Calls Try.prog 40 #[.agg #[.slice A xs.length c, .slice B ws.length d]] w fun e w' => e = .returned (.bool (vd xs ws)) ∧ Below w.heap.size w w' := by
  have hr0 := hr.alloc (.cells #[.slice A xs.length c, .slice B ws.length d] 30)
  have hq0 := hq.alloc (.cells #[.slice A xs.length c, .slice B ws.length d] 30)
  have hb0 : Below w.heap.size w (w.alloc (.cells #[.slice A xs.length c, .slice B ws.length d] 30)) := (Below.refl _ _).alloc (Nat.le_refl _) _
  have kB := Blk.new w 30 #[.slice A xs.length c, .slice B ws.length d]
  go_enter Try.func40, Try.ntmps40
  go_wp2
  generalize w.alloc (.cells #[.slice A xs.length c, .slice B ws.length d] 30) = w0 at hr0 hq0 hb0 kB
  have hB0 : w0.cell? ⟨w.heap.size, 0, none⟩ = some (.slice A xs.length c) := kB.cell 0
  have hB1 : w0.cell? ⟨w.heap.size, 1, none⟩ = some (.slice B ws.length d) := kB.cell 1
  go_loopw [3] (fun v wr => ∃ k : Nat, k ≤ ws.length ∧ v = .int .i64 k ∧ Below w0.heap.size w0 wr ∧ Hid (∀ t (ht : t < k) (h : t < ws.length), inS xs.length ws[t] = true)) (fun v _ => ws.length - (intOf v).toNat)
  case atStart => exact ⟨0, by omega, rfl, Below.refl _ _, fun t ht => absurd ht (by omega)⟩
  case round =>
    obtain ⟨k, hk, rfl, hb, hno⟩ := hrel
    have hBr := cell_on hb hB0
    have hBr1 := cell_on hb hB1
    by_cases hlt : k < ws.length
    · obtain ⟨b, off, rfl, c0, c1⟩ := (hq0.below hb).wr hlt
      have HN := hide (fun h : inS xs.length ws[k] = false => vd_sec hlt h)
      have HY := hide (fun h : inS xs.length ws[k] = true => upto_step hno.out hlt h)
      have hi : (k : Int) < (ws.length : Int) := by omega
      generalize ws[k] = x at c0 c1 HN HY
      clear hno
      go_wp2_with fail
      go_quiet ((go_at_call 49; exact quiet_same2 (inR _ _ _ _)))
      cases hx : rng x.1 0 ((xs.length : Int) - 1)
      · have HF := hide (HN.out hx)
        clear HN HY
        go_wp2_with fail
        go_ret
        exact ⟨ret_bool HF.out.symm, bt hb0 (below_drewN hb _) hb0.size⟩
      · have HF := hide (HY.out hx)
        clear HN HY
        go_wp2_with fail
        go_roundw
        case rel => exact ⟨k + 1, by omega, by go_num, below_drewN hb _, HF⟩
        case measure => simp [intOf]; omega
    · obtain rfl : k = ws.length := by omega
      have HV := vd_as (xs := xs) (ws := ws) (fun t ht => hno.out t ht ht)
      have hrr := hr0.below hb
      have hqq := hq0.below hb
      have hbb := bt hb0 hb hb0.size
      clear hno hr0 hq0 hb0 hb hr hq hB0 hB1 kB
      cases e1 : rng xs.length 1 8
      · have HF := hide (show vd xs ws = false by rw [HV, e1]; rfl)
        have e1' := hide e1
        clear HV e1
        go_wp2_with fail
        refine (inR _ _ _ _).mono ?_
        rintro e w2 ⟨rfl, rfl⟩
        rw [e1'.out]
        go_wp2_with fail
        go_ret
        exact ⟨ret_bool HF.out.symm, hbb⟩
      · rw [e1, Bool.true_and] at HV
        have e1' := hide e1
        clear e1
        cases e2 : xs.all okN
        · have HF := hide (show vd xs ws = false by rw [HV, e2]; rfl)
          have e2' := hide e2
          clear HV e2
          go_wp2_with fail
          refine (inR _ _ _ _).mono ?_
          rintro e w2 ⟨rfl, rfl⟩
          rw [e1'.out]
          go_wp2_with fail
          refine (aiS A c xs _ hrr hc).mono ?_
          rintro e w2 ⟨rfl, rfl⟩
          rw [e2'.out]
          go_wp2_with fail
          go_ret
          exact ⟨ret_bool HF.out.symm, hbb⟩
        · rw [e2, Bool.true_and] at HV
          have e2' := hide e2
          clear e2
          by_cases h3 : ws.length ≤ 8
          · have h3' : (ws.length : Int) ≤ 8 := by omega
            rw [decide_eq_true h3, Bool.true_and] at HV
            have HF := hide HV
            clear HV
            go_wp2_with fail
            refine (inR _ _ _ _).mono ?_
            rintro e w2 ⟨rfl, rfl⟩
            rw [e1'.out]
            go_wp2_with fail
            refine (aiS A c xs _ hrr hc).mono ?_
            rintro e w2 ⟨rfl, rfl⟩
            rw [e2'.out]
            go_wp2_with fail
            refine (vwS B d ws _ hqq hd).mono ?_
            rintro e w2 ⟨rfl, rfl⟩
            go_wp2_with fail
            go_ret
            exact ⟨ret_bool HF.out.symm, hbb⟩
          · have h3' : ¬ ((ws.length : Int) ≤ 8) := by omega
            rw [decide_eq_false h3, Bool.false_and] at HV
            have HF := hide HV
            clear HV
            go_wp2_with fail
            refine (inR _ _ _ _).mono ?_
            rintro e w2 ⟨rfl, rfl⟩
            rw [e1'.out]
            go_wp2_with fail
            refine (aiS A c xs _ hrr hc).mono ?_
            rintro e w2 ⟨rfl, rfl⟩
            rw [e2'.out]
            go_wp2_with fail
            go_ret
            exact ⟨ret_bool HF.out.symm, hbb⟩
theorem VDS (A B : Option Addr) (c d : Nat) (xs : List Int) (ws : List (Int × Int)) (w : World) (hr : Rl encD 1 w A xs) (hq : Rl encW 2 w B ws) (hc : xs.length ≤ 1048576) (hd : ws.length ≤ 1048576) :
    Calls Try.prog 16 #[.agg #[.slice A xs.length c, .slice B ws.length d]] w fun e w' => e = .returned (.bool (vd xs ws)) ∧ Below w.heap.size w w' := by
  have hr0 := hr.alloc (.cells #[.slice A xs.length c, .slice B ws.length d] 30)
  have hq0 := hq.alloc (.cells #[.slice A xs.length c, .slice B ws.length d] 30)
  have hb0 : Below w.heap.size w (w.alloc (.cells #[.slice A xs.length c, .slice B ws.length d] 30)) := (Below.refl _ _).alloc (Nat.le_refl _) _
  go_enter Try.func16, Try.ntmps16
  go_wp2_with fail
  refine (vdS A B c d xs ws _ hr0 hq0 hc hd).mono ?_
  rintro e w1 ⟨rfl, hb1⟩
  go_wp2_with fail
  go_ret
  exact ⟨rfl, bt hb0 hb1 hb0.size⟩

end Go.Proofs.Ytgabjepoooageaa
