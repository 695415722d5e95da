/-
  HeapScan of the program, walked. Conditions: the pages read as a list, and the slots of each; small enough.
-/
import Derived.Test.YtnhkpigakbiddaaScan
namespace Go.Proofs.Ytnhkpigakbiddaa
open Go.RowKit
set_option linter.unusedVariables false
set_option linter.unusedSimpArgs false

theorem encQ_one (x : Int × Int) : ∀ u ∈ encQ x, u.oneCell' = true := by
  intro u hu
  simp [encQ] at hu
  rcases hu with rfl | rfl <;> rfl
theorem infoR : (Try.prog.info? 60).map (fun i => (i.zero, i.size, i.bytes)) = some (some (.agg #[.int .i64 0, .int .i64 0]), 2, 16) := by kernel_rfl
theorem vh_page {ps : List Pg} (h : vh (xss ps) = true) {k : Nat} (hk : k < ps.length) : ps.length ≤ 6 ∧ ps[k].xs.length ≤ 8 := by
  unfold vh at h
  rw [Bool.and_eq_true, decide_eq_true_eq, xss_len, List.all_eq_true] at h
  have := h.2 ps[k].xs (List.mem_map.2 ⟨_, List.getElem_mem hk, rfl⟩)
  refine ⟨h.1, ?_⟩
  unfold vp at this
  simp only [Bool.and_eq_true, decide_eq_true_eq] at this
  exact this.1.1.1
theorem sck_page {ps : List Pg} {k : Nat} (hk : k < ps.length) : sck (xss ps) (k + 1) = sck (xss ps) k ++ scp k ps[k].xs ps[k].xs.length := by
  rw [sck_step (by rw [xss_len]; exact hk)]
  simp [xss]

set_option maxRecDepth 4000 in
set_option maxHeartbeats 2000000 in
theorem scI (A : Option Addr) (c : Nat) (ps : List Pg) (w : World) (hr : Hp w A ps) (hs : Small ps) :
    Calls Try.prog 32 #[.agg #[.slice A ps.length c]] w fun e w' => ∃ v, e = .returned v ∧ Below w.heap.size w w' ∧ w'.ownsRow w.heap.size 60 2 v (SC (xss ps)).length ((SC (xss ps)).flatMap encQ) := by
  have hr0 := hr.alloc (.cells #[.slice A ps.length c] 46)
  have hb0 : Below w.heap.size w (w.alloc (.cells #[.slice A ps.length c] 46)) := (Below.refl _ _).alloc (Nat.le_refl _) _
  have hB : (w.alloc (.cells #[.slice A ps.length c] 46)).cell? ⟨w.heap.size, 0, none⟩ = some (.slice A ps.length c) := (Blk.new w 46 #[.slice A ps.length c]).cell 0
  cases hv : vh (xss ps)
  · have H := hide (show SC (xss ps) = [] by unfold SC; rw [hv]; rfl)
    go_enter Try.func32, Try.ntmps32
    go_wp2_with fail
    generalize w.alloc (.cells #[.slice A ps.length c] 46) = w0 at hr0 hb0 hB
    refine (vhI A c ps _ hr0 hs).mono ?_
    rintro e w1 ⟨rfl, hb1⟩
    rw [hv]
    go_wp2_with fail
    go_ret
    refine ⟨_, rfl, bt hb0 hb1 hb0.size, ?_⟩
    rw [H.out]
    exact ow_nil _ _ _ _
  · have H := hide (show SC (xss ps) = sck (xss ps) ps.length by unfold SC; rw [hv, xss_len]; rfl)
    have hpg := hide (fun k (hk : k < ps.length) => vh_page hv hk)
    obtain ⟨i0, hi, hz0, hz1, hz2⟩ := info_parts infoR
    have hi' := hide hi
    have hz0' := hide hz0
    have hz1' := hide hz1
    have hz2' := hide hz2
    clear hi hz0 hz1 hz2
    have hsl := hs.1
    go_enter Try.func32, Try.ntmps32
    go_wp2_with fail
    generalize w.alloc (.cells #[.slice A ps.length c] 46) = w0 at hr0 hb0 hB
    refine (vhI A c ps _ hr0 hs).mono ?_
    rintro e w1 ⟨rfl, hb1⟩
    rw [hv]
    have hB1 := cell_on hb1 hB
    have hr1 := hr0.below hb1
    have hb1' := bt hb0 hb1 hb0.size
    clear hr0 hb0 hB hb1 hr1 hv
    go_wp2_with fail
    go_loopw [3, 14] (fun o v wr => ∃ (k : Nat) (z : Value) (L : List (Int × Int)), k ≤ ps.length ∧ v = .int .i64 k ∧ o = z ∧ L.length ≤ 8 * k ∧ Hid (L = sck (xss ps) k) ∧ Below w.heap.size w wr ∧ wr.ownsRow w.heap.size 60 2 z L.length (L.flatMap encQ)) (fun _ v _ => ps.length - (intOf v).toNat)
    case atStart => exact ⟨0, _, [], by omega, rfl, rfl, by simp, rfl, hb1', ow_nil _ _ _ _⟩
    case round =>
      obtain ⟨k, z, L, hk, rfl, rfl, hL, hLe, hb, hown⟩ := hrel
      by_cases hlt : k < ps.length
      · obtain ⟨b, off, rfl, c0, r0⟩ := (hr.below hb).page hlt
        have q0 := hr.2 _ (List.getElem_mem hlt)
        have hsm := hpg.out k hlt
        have hSP := hide (sck_page hlt)
        have hi : (k : Int) < (ps.length : Int) := by omega
        generalize ps[k] = x at c0 r0 q0 hsm hSP
        obtain ⟨xA, xc, xx⟩ := x
        simp only at c0 r0 q0 hsm hSP
        have hsm1 := hsm.1
        have hsm2 := hsm.2
        have hbx := hb.alloc hb.size (.cells #[.slice xA xx.length xc] 29)
        have hownx := ow_below hown ((Below.refl _ wr).alloc (Nat.le_refl _) (.cells #[.slice xA xx.length xc] 29))
        go_wp2_with fail
        generalize wr.alloc (.cells #[.slice xA xx.length xc] 29) = wx at hbx hownx
        go_loopw [3, 22] (fun o v wi => ∃ (j : Nat) (y : Value) (M : List (Int × Int)), j ≤ xx.length ∧ v = .int .i64 j ∧ o = y ∧ M.length ≤ 8 * k + j ∧ Hid (M = L ++ scp k xx j) ∧ Below w.heap.size w wi ∧ wi.ownsRow w.heap.size 60 2 y M.length (M.flatMap encQ)) (fun _ v _ => xx.length - (intOf v).toNat)
        case atStart => exact ⟨0, _, L, by omega, rfl, rfl, by omega, by simp [Hid, scp], hbx, hownx⟩
        case round =>
          obtain ⟨j, y, M, hj, rfl, rfl, hM, hMe, hb2, hown2⟩ := hrel
          by_cases hjl : j < xx.length
          · obtain ⟨b', off', rfl, d0, d1⟩ := (q0.below hb2).slot hjl
            have hst := hide (scp_step (i := k) hjl)
            have hji : (j : Int) < (xx.length : Int) := by omega
            generalize xx[j] = s at d0 d1 hst
            obtain ⟨sl, sd⟩ := s
            simp only at d0 d1 hst
            cases sl
            · have hM2 := hide (show M = L ++ scp k xx (j + 1) by rw [hst.out, hMe.out]; simp)
              clear hst hMe
              have hbs := hb2.alloc hb2.size (.cells #[.bool false, .string sd] 43)
              have howns := ow_below hown2 ((Below.refl _ _).alloc (Nat.le_refl _) (.cells #[.bool false, .string sd] 43))
              clear hown hownx hown2
              go_wp2_with fail
              go_roundw
              case rel => exact ⟨j + 1, _, M, by omega, by go_num, rfl, by omega, hM2, hbs, howns⟩
              case measure => simp [intOf]; omega
            · have hM2 := hide (show M ++ [((k : Int), (j : Int))] = L ++ scp k xx (j + 1) by rw [hst.out, hMe.out]; simp)
              clear hst hMe
              have hgeo := hide (fun g hg => ow_ge hown2 (k := g) hg)
              have hbs := hb2.alloc hb2.size (.cells #[.bool true, .string sd] 43)
              have hsA := hbs.size
              have hownA := ow_below hown2 ((Below.refl _ _).alloc (Nat.le_refl _) (.cells #[.bool true, .string sd] 43))
              clear hown hownx hown2
              go_wp2_with (first
                | (at_builtin; refine wpList_elem Try.underlying56 hi'.out hz0'.out hz1'.out hz2'.out rfl (by decide) (by decide) encQ_len encQ_one rfl _ _ rfl w.heap.size _ M rfl hownA ((k : Int), (j : Int)) _ rfl _ (World.size_alloc _ _) rfl (by omega) hsA ?_; intro v' w2 hown' hg2; clear hownA))
              go_roundw
              case rel => exact ⟨j + 1, _, M ++ [((k : Int), (j : Int))], by omega, by go_num, rfl, by simp; omega, hM2, hbs.grown hg2 hsA hgeo.out, hown'⟩
              case measure => simp [intOf]; omega
          · obtain rfl : j = xx.length := by omega
            have hM2 := hide (show M = sck (xss ps) (k + 1) by rw [hSP.out, hMe.out, hLe.out])
            clear hMe hLe
            go_wp2_with fail
            go_roundw
            case rel => exact ⟨k + 1, _, M, by omega, by go_num, rfl, by omega, hM2, hb2, hown2⟩
            case measure => simp [intOf]; omega
      · obtain rfl : k = ps.length := by omega
        go_wp2_with fail
        go_ret
        refine ⟨_, rfl, hb, ?_⟩
        rw [H.out, ← hLe.out]
        exact hown

end Go.Proofs.Ytnhkpigakbiddaa
