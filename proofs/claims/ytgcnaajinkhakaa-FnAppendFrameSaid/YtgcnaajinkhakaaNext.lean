/-
  The first frame of a log: spec.hex, spec.next, impl.firstFrame. Conditions: the text is no longer than Go lets one be.
-/
import Derived.Test.YtgcnaajinkhakaaFr
import Derived.Deep.RegionHeld3
import Derived.Deep.DrawnRows
import Derived.BigQuiet
namespace Go.Proofs.Ytgcnaajinkhakaa
open Go.RowKit
set_option linter.unusedVariables false
set_option linter.unusedSimpArgs false

theorem hexB_no {s : ByteArray} {k : Nat} (hk : k < 3) (h : hxd (by3 s k) < 0) : hexB s = -1 := by
  unfold hexB
  rw [if_neg]
  rintro ⟨_, a, b, c⟩
  have : k = 0 ∨ k = 1 ∨ k = 2 := by omega
  rcases this with rfl | rfl | rfl <;> omega
theorem hexB_yes {s : ByteArray} (hs : 3 ≤ s.size) (h : ∀ t, t < 3 → 0 ≤ hxd (by3 s t)) : hexB s = hp s 3 := by
  unfold hexB
  rw [if_pos ⟨hs, h 0 (by omega), h 1 (by omega), h 2 (by omega)⟩]

set_option maxHeartbeats 1000000 in
theorem hex_any (s : ByteArray) (w : World) (hs : s.size ≤ 9223372036854775807) :
    Calls Try.prog 43 #[.string s, .int .i64 0] w fun e w' => e = .returned (.int .i64 (hexB s)) ∧ w = w' := by
  by_cases h3 : 3 ≤ s.size
  · go_enter Try.func43, Try.ntmps43
    go_wp2_with fail
    go_loop [5, 6] (fun m v => ∃ (k : Nat) (y : Int), k ≤ 3 ∧ v = .int .i64 k ∧ m = .int .i64 y ∧ 0 ≤ y ∧ y ≤ 4095 ∧ Hid (k < 3 → y ≤ 255) ∧ Hid (k < 2 → y ≤ 15) ∧ Hid (k < 1 → y = 0) ∧ Hid (hp s k = y) ∧ Hid (∀ t, t < k → 0 ≤ hxd (by3 s t))) (fun _ v => 3 - (intOf v).toNat)
    case atStart => exact ⟨0, 0, by omega, rfl, rfl, by omega, by omega, fun _ => by omega, fun _ => by omega, fun _ => rfl, rfl, fun t ht => absurd ht (by omega)⟩
    case round =>
      obtain ⟨k, y, hk, rfl, rfl, y0, y1, g3, g2, g1, hy, hall⟩ := hrel
      by_cases hlt : k < 3
      · have y2 := g3.out hlt
        have hlt' : k < s.size := by omega
        have hb3 := hide (by3_at hlt')
        have HN : Hid (hxd (by3 s k) < 0 → hexB s = -1) := fun h => hexB_no hlt h
        have HS : Hid (hp s (k + 1) = 16 * y + hxd (by3 s k)) := by have := hy.out; unfold Hid; rw [hp, hy.out]
        have HA : Hid (0 ≤ hxd (by3 s k) → ∀ t, t < k + 1 → 0 ≤ hxd (by3 s t)) := fun h t ht => by
          rcases Nat.lt_or_ge t k with h1 | h1
          · exact hall.out t h1
          · obtain rfl : t = k := by omega
            exact h
        have HR := hide (hxd_rng (by3 s k))
        obtain ⟨c, hc⟩ : ∃ c : Nat, s[k].toNat = c := ⟨_, rfl⟩
        have hlc : c < 256 := by rw [← hc]; exact s[k].toNat_lt
        have HC : Hid (by3 s k = c) := hb3.out.trans hc
        by_cases q1 : 48 ≤ c ∧ c ≤ 57
        · have r1 : rng (c : Int) 48 57 = true := rng_iff.2 (by omega)
          have HV : Hid (hxd (by3 s k) = c - 48) := by have := HC.out; unfold Hid; rw [HC.out]; unfold hxd; rw [if_pos q1]
          go_wp2_with (go_at_call 44; refine (inR _ _ _ _).mono ?_; rintro e w' ⟨rfl, rfl⟩)
          go_round
          case rel =>
            have h1 := HV.out; have h2 := HS.out
            refine ⟨k + 1, 16 * y + c - 48, by omega, by go_num, by first | rfl | (congr 1; omega), by omega, by omega, ?_, ?_, ?_, by unfold Hid; omega, HA.out (by omega)⟩
            · intro h; have := g2.out (by omega); omega
            · intro h; have := g1.out (by omega); omega
            · intro h; omega
          case measure => simp [intOf]; omega
        · have r1 : rng (c : Int) 48 57 = false := rng_no.2 (by omega)
          by_cases q2 : 97 ≤ c ∧ c ≤ 102
          · have r2 : rng (c : Int) 97 102 = true := rng_iff.2 (by omega)
            have HV : Hid (hxd (by3 s k) = c - 97 + 10) := by have := HC.out; unfold Hid; rw [HC.out]; unfold hxd; rw [if_neg q1, if_pos q2]
            go_wp2_with (go_at_call 44; refine (inR _ _ _ _).mono ?_; rintro e w' ⟨rfl, rfl⟩)
            go_round
            case rel =>
              have h1 := HV.out; have h2 := HS.out
              refine ⟨k + 1, 16 * y + c - 97 + 10, by omega, by go_num, by first | rfl | (congr 1; omega), by omega, by omega, ?_, ?_, ?_, by unfold Hid; omega, HA.out (by omega)⟩
              · intro h; have := g2.out (by omega); omega
              · intro h; have := g1.out (by omega); omega
              · intro h; omega
            case measure => simp [intOf]; omega
          · have r2 : rng (c : Int) 97 102 = false := rng_no.2 (by omega)
            have HV : Hid (hxd (by3 s k) = -1) := by have := HC.out; unfold Hid; rw [HC.out]; unfold hxd; rw [if_neg q1, if_neg q2]
            go_wp2_with (go_at_call 44; refine (inR _ _ _ _).mono ?_; rintro e w' ⟨rfl, rfl⟩)
            go_ret
            exact ⟨ret_int (HN.out (by have := HV.out; omega)).symm, rfl⟩
      · obtain rfl : k = 3 := by omega
        go_wp2_with fail
        go_ret
        exact ⟨ret_int (by rw [hexB_yes h3 hall.out]; exact hy.out.symm), rfl⟩
  · have H : Hid (hexB s = -1) := by unfold Hid hexB; rw [if_neg (by omega)]
    go_enter Try.func43, Try.ntmps43
    go_wp2_with fail
    go_ret
    exact ⟨ret_int H.out.symm, rfl⟩

def NX (s : ByteArray) : ByteArray × Int := match nx s with | some n => (s.extract 3 (3 + n), n + 6) | none => (ByteArray.empty, 0)
theorem NX_none {s : ByteArray} (h : nx s = none) : NX s = (ByteArray.empty, 0) := by unfold NX; rw [h]
theorem NX_some {s : ByteArray} {n : Nat} (h : nx s = some n) : NX s = (s.extract 3 (3 + n), (n : Int) + 6) := by unfold NX; rw [h]
theorem ret2 {r : ByteArray × Int} {a : ByteArray} {b : Int} (h : r = (a, b)) : Ending.returned (.tuple #[.string a, .int .i64 b]) = .returned (.tuple #[.string r.1, .int .i64 r.2]) := by rw [h]

set_option maxHeartbeats 2000000 in
theorem next_any (s : ByteArray) (w : World) (hs : s.size ≤ 9223372036854775807) :
    Calls Try.prog 35 #[.string s] w fun e w' => e = .returned (.tuple #[.string (NX s).1, .int .i64 (NX s).2]) ∧ Below w.heap.size w w' := by
  have hall : Hid (∀ m, isF s m = true → hexB s = m) := fun m hm => hexB_hx (by have := (isF_iff.1 hm).2.1; omega) (by have := (isF_iff.1 hm).1; omega) (isF_head hm)
  by_cases hr : 0 ≤ hexB s ∧ hexB s ≤ 40
  · obtain ⟨n, hn⟩ : ∃ n : Nat, hexB s = n := ⟨(hexB s).toNat, by omega⟩
    have hn' := hide hn
    have hn40 : n ≤ 40 := by omega
    have one : Hid (∀ m, isF s m = true → m = n) := fun m hm => by have := hall.out m hm; omega
    clear hn hall hr
    have r1 : rng (n : Int) 0 40 = true := rng_iff.2 (by omega)
    by_cases hz : n + 6 ≤ s.size
    · have hzz : (s.extract 3 (3 + n)).size ≤ 40 := by rw [ext_size (by omega)]; omega
      cases he : ((frm (s.extract 3 (3 + n))).toList == (s.extract 0 (n + 6)).toList)
      · have H : Hid (NX s = (ByteArray.empty, 0)) := NX_none (nx_none.2 fun m => by
          cases hm : isF s m
          · rfl
          · obtain rfl := one.out m hm
            have := (isF_iff.1 hm).2.2
            rw [← eqT_iff, he] at this
            cases this)
        have he' : ((frm (s.extract 3 (3 + n))).toList != (s.extract 0 (n + 6)).toList) = true := by rw [bne, he]; rfl
        go_enter Try.func35, Try.ntmps35
        go_wp2_with fail
        refine (hex_any s _ hs).mono ?_
        rintro e w1 ⟨rfl, rfl⟩
        rw [hn'.out]
        go_wp2_with fail
        have p1 : (0 : Int) ≤ (n : Int) + 6 := by omega
        have p2 : (n : Int) + 6 ≤ (s.size : Int) := by omega
        have p3 : (3 : Int) ≤ 3 + (n : Int) := by omega
        have p4 : 3 + (n : Int) ≤ (s.size : Int) := by omega
        have p5 : (0 : Int) ≤ 3 + (n : Int) := by omega
        have p6 : decide ((s.size : Int) < (n : Int) + 6) = false := by simp only [decide_eq_false_iff_not]; omega
        have v1 : IntKind.i64.wrap ((n : Int) + 6) = n + 6 := IntWalk.i64_in _ (by omega)
        have v2 : IntKind.i64.wrap (3 + (n : Int)) = 3 + n := IntWalk.i64_in _ (by omega)
        have v3 : ((n : Int) + 6).toNat = n + 6 := by omega
        have v4 : (3 + (n : Int)).toNat = 3 + n := by omega
        go_region_held3 (fun w' => Below w.heap.size w w')
          (first | exact (Below.refl _ _).drew | exact bt2 (by assumption) hb2)
          (first | (go_at_call 44; refine (inR _ _ _ _).mono ?_; rintro e w' ⟨rfl, rfl⟩) | (go_at_call 29; refine (frame_any _ _ (by omega)).mono ?_; rintro e w2 ⟨rfl, hb2⟩))
        go_wp2_with fail
        go_ret2
        exact ⟨ret2 H.out, by assumption⟩
      · have H : Hid (NX s = (s.extract 3 (3 + n), (n : Int) + 6)) := NX_some (nx_some (isF_iff.2 ⟨hn40, hz, eqT_iff.1 he⟩))
        have he' : ((frm (s.extract 3 (3 + n))).toList != (s.extract 0 (n + 6)).toList) = false := by rw [bne, he]; rfl
        go_enter Try.func35, Try.ntmps35
        go_wp2_with fail
        refine (hex_any s _ hs).mono ?_
        rintro e w1 ⟨rfl, rfl⟩
        rw [hn'.out]
        go_wp2_with fail
        have p1 : (0 : Int) ≤ (n : Int) + 6 := by omega
        have p2 : (n : Int) + 6 ≤ (s.size : Int) := by omega
        have p3 : (3 : Int) ≤ 3 + (n : Int) := by omega
        have p4 : 3 + (n : Int) ≤ (s.size : Int) := by omega
        have p5 : (0 : Int) ≤ 3 + (n : Int) := by omega
        have p6 : decide ((s.size : Int) < (n : Int) + 6) = false := by simp only [decide_eq_false_iff_not]; omega
        have v1 : IntKind.i64.wrap ((n : Int) + 6) = n + 6 := IntWalk.i64_in _ (by omega)
        have v2 : IntKind.i64.wrap (3 + (n : Int)) = 3 + n := IntWalk.i64_in _ (by omega)
        have v3 : ((n : Int) + 6).toNat = n + 6 := by omega
        have v4 : (3 + (n : Int)).toNat = 3 + n := by omega
        go_region_held3 (fun w' => Below w.heap.size w w')
          (first | exact (Below.refl _ _).drew | exact bt2 (by assumption) hb2)
          (first | (go_at_call 44; refine (inR _ _ _ _).mono ?_; rintro e w' ⟨rfl, rfl⟩) | (go_at_call 29; refine (frame_any _ _ (by omega)).mono ?_; rintro e w2 ⟨rfl, hb2⟩))
        go_wp2_with fail
        go_ret2
        exact ⟨ret2 H.out, by assumption⟩
    · have H : Hid (NX s = (ByteArray.empty, 0)) := NX_none (nx_none.2 fun m => by
        cases hm : isF s m
        · rfl
        · obtain rfl := one.out m hm
          have := (isF_iff.1 hm).2.1
          omega)
      go_enter Try.func35, Try.ntmps35
      go_wp2_with fail
      refine (hex_any s _ hs).mono ?_
      rintro e w1 ⟨rfl, rfl⟩
      rw [hn'.out]
      go_wp2_with fail
      have p1 : (0 : Int) ≤ (n : Int) + 6 := by omega
      have p6 : decide ((s.size : Int) < (n : Int) + 6) = true := by simp only [decide_eq_true_eq]; omega
      have v1 : IntKind.i64.wrap ((n : Int) + 6) = n + 6 := IntWalk.i64_in _ (by omega)
      go_quiet ((go_at_call 44; exact quiet_same2 (inR _ _ _ _)))
      go_wp2_with fail
      go_ret2
      exact ⟨ret2 H.out, below_drewN (Below.refl _ _) _⟩
  · have H : Hid (NX s = (ByteArray.empty, 0)) := NX_none (nx_none.2 fun m => by
      cases hm : isF s m
      · rfl
      · have h1 := hall.out m hm
        have h2 := (isF_iff.1 hm).1
        omega)
    have r1 : rng (hexB s) 0 40 = false := rng_no.2 (by omega)
    clear hr hall
    go_enter Try.func35, Try.ntmps35
    go_wp2_with fail
    refine (hex_any s _ hs).mono ?_
    rintro e w1 ⟨rfl, rfl⟩
    go_wp2_with fail
    go_quiet ((go_at_call 44; exact quiet_same2 (inR _ _ _ _)))
    go_wp2_with fail
    go_ret2
    exact ⟨ret2 H.out, below_drewN (Below.refl _ _) _⟩

theorem firstRet {t : ByteArray} {b b' : Bool} (h : b' = b) : Ending.returned (.tuple #[.string t, .bool b]) = .returned (.tuple #[.string t, .bool b']) := by rw [h]
/-- What firstFrame hands back. -/
def First (s : ByteArray) (w : World) (e : Ending) (w' : World) : Prop :=
  ∃ t, e = .returned (.tuple #[.string t, .bool (nx s).isSome]) ∧ (∀ n, nx s = some n → t = s.extract 3 (3 + n)) ∧ Below w.heap.size w w'
theorem nx_at {s : ByteArray} {k : Nat} (hk : k ≤ 40) (h : s.extract 0 3 = hx3 k) : nx s = if isF s k then some k else none := by
  cases hf : isF s k
  · refine nx_none.2 fun m => ?_
    cases hm : isF s m
    · rfl
    · have := hx3_inj (by have := (isF_iff.1 hm).1; omega) (by omega) ((isF_head hm).symm.trans h)
      subst this
      rw [hf] at hm
      cases hm
  · exact nx_some hf

set_option maxHeartbeats 2000000 in
theorem first_any (s : ByteArray) (w : World) (hs : s.size ≤ 9223372036854775807) :
    Calls Try.prog 42 #[.string s] w (First s w) := by
  by_cases h6 : s.size < 6
  · have H : Hid (nx s = none) := nx_none.2 fun m => by
      cases hm : isF s m
      · rfl
      · have := (isF_iff.1 hm).2.1
        omega
    go_enter Try.func42, Try.ntmps42
    go_wp2_with fail
    go_ret2
    exact ⟨ByteArray.empty, by rw [H.out]; rfl, (fun n h => by rw [H.out] at h; cases h), Below.refl _ _⟩
  · have q3 : (3 : Int) ≤ (s.size : Int) := by omega
    go_enter Try.func42, Try.ntmps42
    go_wp2_with fail
    go_loopw [4] (fun v wr => ∃ k : Nat, k ≤ 41 ∧ v = .int .i64 k ∧ Below w.heap.size w wr ∧ Hid (∀ m, m < k → isF s m = false)) (fun v _ => 41 - (intOf v).toNat)
    case atStart => exact ⟨0, by omega, rfl, Below.refl _ _, fun t ht => absurd ht (by omega)⟩
    case round =>
      obtain ⟨k, hk, rfl, hb, hno⟩ := hrel
      by_cases hlt : k ≤ 40 ∧ k + 6 ≤ s.size
      · obtain ⟨hk40, hks⟩ := hlt
        have g1 : (k : Int) ≤ 40 := by omega
        have g2 : (k : Int) + 6 ≤ (s.size : Int) := by omega
        have g3 : decide ((k : Int) + 6 ≤ (s.size : Int)) = true := by simp only [decide_eq_true_eq]; omega
        cases he : ((s.extract 0 3).toList == (hx3 k).toList)
        · have HN : Hid (∀ m, m < k + 1 → isF s m = false) := fun m hm => by
            rcases Nat.lt_or_ge m k with h | h
            · exact hno.out m h
            · obtain rfl : m = k := by omega
              cases hf : isF s m
              · rfl
              · have := eqT_iff.2 (isF_head hf)
                rw [he] at this
                cases this
          go_wp2_with fail
          go_region_held3 (fun w' => Below w.heap.size w w')
            (first | exact hb.drew | exact bt2 (by assumption) hb2)
            (first | (go_at_call 30; refine (hex3_any _ _ (by omega) (by omega)).mono ?_; rintro e w2 ⟨rfl, hb2⟩))
          go_wp2_with fail
          go_roundw
          case rel => exact ⟨k + 1, by omega, by go_num, by assumption, HN.out⟩
          case measure => simp [intOf]; omega
        · have HX := hide (nx_at hk40 (eqT_iff.1 he))
          have hzz : (s.extract 3 (3 + k)).size ≤ 40 := by rw [ext_size (by omega)]; omega
          have HB : Hid ((nx s).isSome = ((FT (s.extract 3 (3 + k))).toList == (s.extract 0 (k + 6)).toList)) := by
            have h := HX.out
            unfold Hid
            rw [HX.out, show FT (s.extract 3 (3 + k)) = frm (s.extract 3 (3 + k)) by unfold FT; rw [if_pos hzz], show isF s k = ((frm (s.extract 3 (3 + k))).toList == (s.extract 0 (k + 6)).toList) by unfold isF; rw [decide_eq_true hk40, decide_eq_true hks]; simp]
            split <;> rename_i h <;> simp [h]
          have HT : Hid (∀ n, nx s = some n → s.extract 3 (3 + k) = s.extract 3 (3 + n)) := fun n h => by
            rw [HX.out] at h
            split at h
            · cases h; rfl
            · cases h
          have hzz' : (s.extract 3 (3 + k)).size ≤ 9223372036854775807 := by omega
          go_wp2_with fail
          go_region_held3 (fun w' => Below w.heap.size w w')
            (first | exact hb.drew | exact bt2 (by assumption) hb2)
            (first | (go_at_call 30; refine (hex3_any _ _ (by omega) (by omega)).mono ?_; rintro e w2 ⟨rfl, hb2⟩))
          have p3 : (3 : Int) ≤ 3 + (k : Int) := by omega
          have p4 : 3 + (k : Int) ≤ (s.size : Int) := by omega
          have p5 : (0 : Int) ≤ 3 + (k : Int) := by omega
          have v4 : (3 + (k : Int)).toNat = 3 + k := by omega
          go_wp2_with fail
          have p1 : (0 : Int) ≤ (k : Int) + 6 := by omega
          have v1 : IntKind.i64.wrap ((k : Int) + 6) = k + 6 := IntWalk.i64_in _ (by omega)
          have v3 : ((k : Int) + 6).toNat = k + 6 := by omega
          go_region_held3 (fun w' => Below w.heap.size w w')
            (first | exact Below.drew (by assumption) | exact bt2 (by assumption) hb3)
            (first | (go_at_call 14; refine (ftI _ _ hzz').mono ?_; rintro e w3 ⟨rfl, hb3⟩))
          go_wp2_with fail
          go_ret2
          exact ⟨s.extract 3 (3 + k), firstRet HB.out, HT.out, by assumption⟩
      · have H : Hid (nx s = none) := nx_none.2 fun m => by
          cases hm : isF s m
          · rfl
          · have h1 := (isF_iff.1 hm).1
            have h2 := (isF_iff.1 hm).2.1
            rw [hno.out m (by omega)] at hm
            cases hm
        by_cases h40 : k ≤ 40
        · have g1 : (k : Int) ≤ 40 := by omega
          have g3 : decide ((k : Int) + 6 ≤ (s.size : Int)) = false := by simp only [decide_eq_false_iff_not]; omega
          go_wp2_with fail
          go_ret2
          exact ⟨ByteArray.empty, by rw [H.out]; rfl, (fun n h => by rw [H.out] at h; cases h), hb⟩
        · have g1 : ¬ ((k : Int) ≤ 40) := by omega
          go_wp2_with fail
          go_ret2
          exact ⟨ByteArray.empty, by rw [H.out]; rfl, (fun n h => by rw [H.out] at h; cases h), hb⟩

end Go.Proofs.Ytgcnaajinkhakaa
