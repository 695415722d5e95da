/-
  HeapScan of the reference answer, walked. Conditions: the pages read as a list, and the slots of each; small enough.
-/
import Derived.Test.YtnhkpigakbiddaaScanI
namespace Go.Proofs.Ytnhkpigakbiddaa
open Go.RowKit
set_option linter.unusedVariables false
set_option linter.unusedSimpArgs false

set_option maxRecDepth 4000 in
set_option maxHeartbeats 2000000 in
theorem scS (A : Option Addr) (c : Nat) (ps : List Pg) (w : World) (hr : Hp w A ps) (hs : Small ps) :
    Calls Try.prog 34 #[.agg #[.slice A ps.length c]] w fun e w' => ∃ v, e = .returned v ∧ Below w.heap.size w w' ∧ w'.ownsRow w.heap.size 60 2 v (SC (xss ps)).length ((SC (xss ps)).flatMap encQ) := by
  have hrH := hr.alloc (.cells #[.slice A ps.length c] 46)
  have hbH : Below w.heap.size w (w.alloc (.cells #[.slice A ps.length c] 46)) := (Below.refl _ _).alloc (Nat.le_refl _) _
  have hBH : (w.alloc (.cells #[.slice A ps.length c] 46)).cell? ⟨w.heap.size, 0, none⟩ = some (.slice A ps.length c) := (Blk.new w 46 #[.slice A ps.length c]).cell 0
  have hsH : (w.alloc (.cells #[.slice A ps.length c] 46)).heap.size = w.heap.size + 1 := World.size_alloc _ _
  have o0 := ow_empty (w.alloc (.cells #[.slice A ps.length c] 46)) ((w.alloc (.cells #[.slice A ps.length c] 46)).alloc (.cells #[] 60)) 60 2 (heap_alloc_new _ _)
  rw [hsH] at o0
  cases hv : vh (xss ps)
  · have H := hide (show SC (xss ps) = [] by unfold SC; rw [hv]; rfl)
    go_enter Try.func34, Try.ntmps34
    go_wp2_with fail
    generalize w.alloc (.cells #[.slice A ps.length c] 46) = wH at hrH hbH hBH hsH o0
    have hb0 : Below wH.heap.size wH (wH.alloc (.cells #[] 60)) := (Below.refl _ _).alloc (Nat.le_refl _) _
    generalize wH.alloc (.cells #[] 60) = w0 at hb0 o0
    refine (vhS A c ps _ (hrH.below hb0) hs).mono ?_
    rintro e w1 ⟨rfl, hb1⟩
    rw [hv]
    go_wp2_with fail
    go_ret
    refine ⟨_, rfl, bt hbH (bt2 hb0 hb1) hbH.size, ?_⟩
    rw [H.out]
    exact ow_nil _ _ _ _
  · have H := hide (show SC (xss ps) = sck (xss ps) ps.length by unfold SC; rw [hv, xss_len]; rfl)
    have hpg := hide (fun k (hk : k < ps.length) => vh_page hv hk)
    obtain ⟨i0, hi, hz0, hz1, hz2⟩ := info_parts infoR
    have hi' := hide hi
    have hz0' := hide hz0
    have hz1' := hide hz1
    have hz2' := hide hz2
    clear hi hz0 hz1 hz2
    have hsl := hs.1
    go_enter Try.func34, Try.ntmps34
    go_wp2_with fail
    generalize w.alloc (.cells #[.slice A ps.length c] 46) = wH at hrH hbH hBH hsH o0
    have hb0 : Below wH.heap.size wH (wH.alloc (.cells #[] 60)) := (Below.refl _ _).alloc (Nat.le_refl _) _
    generalize wH.alloc (.cells #[] 60) = w0 at hb0 o0
    refine (vhS A c ps _ (hrH.below hb0) hs).mono ?_
    rintro e w1 ⟨rfl, hb1⟩
    rw [hv]
    have hb1' : Below (w.heap.size + 1) wH w1 := by have := bt2 hb0 hb1; rwa [hsH] at this
    have hB1 : w1.cell? ⟨w.heap.size, 0, none⟩ = some (.slice A ps.length c) := cell_on (bt2 hb0 hb1) hBH
    have o1 := ow_below o0 hb1
    have up : ∀ {W : World}, Below (w.heap.size + 1) wH W → Below wH.heap.size wH W := fun h => by rw [hsH]; exact h
    have hsH' := hide hsH
    clear hb0 hb1 hr hv o0 hsH
    go_wp2_with fail
    go_loopw [3, 4] (fun o v wr => ∃ (k : Nat) (z : Value) (L : List (Int × Int)), k ≤ ps.length ∧ v = .int .i64 k ∧ o = z ∧ L.length ≤ 8 * k ∧ Hid (L = sck (xss ps) k) ∧ Below (w.heap.size + 1) wH wr ∧ wr.ownsRow (w.heap.size + 1) 60 2 z L.length (L.flatMap encQ)) (fun _ v _ => ps.length - (intOf v).toNat)
    case atStart => exact ⟨0, _, [], by omega, rfl, rfl, by simp, rfl, hb1', o1⟩
    case round =>
      obtain ⟨k, z, L, hk, rfl, rfl, hL, hLe, hb, hown⟩ := hrel
      have hBr := cell_on (up hb) hBH
      by_cases hlt : k < ps.length
      · obtain ⟨b, off, rfl, cH, rH⟩ := hrH.page hlt
        have q0 := hrH.2 _ (List.getElem_mem hlt)
        have hsm := hpg.out k hlt
        have hSP := hide (sck_page hlt)
        have hi : (k : Int) < (ps.length : Int) := by omega
        generalize ps[k] = x at cH rH q0 hsm hSP
        obtain ⟨xA, xc, xx⟩ := x
        simp only at cH rH q0 hsm hSP
        have c0 := cell_on (up hb) cH
        have hsm1 := hsm.1
        have hsm2 := hsm.2
        go_wp2_with fail
        go_loopw [3, 5] (fun o v wi => ∃ (j : Nat) (y : Value) (M : List (Int × Int)), j ≤ xx.length ∧ v = .int .i64 j ∧ o = y ∧ M.length ≤ 8 * k + j ∧ Hid (M = L ++ scp k xx j) ∧ Below (w.heap.size + 1) wH wi ∧ wi.cell? ⟨b, off + k, none⟩ = some (.slice xA xx.length xc) ∧ wi.ownsRow (w.heap.size + 1) 60 2 y M.length (M.flatMap encQ)) (fun _ v _ => xx.length - (intOf v).toNat)
        case atStart => exact ⟨0, _, L, by omega, rfl, rfl, by omega, by simp [Hid, scp], hb, c0, hown⟩
        case round =>
          obtain ⟨j, y, M, hj, rfl, rfl, hM, hMe, hb2, c2, hown2⟩ := hrel
          have hBi := cell_on (up hb2) hBH
          by_cases hjl : j < xx.length
          · obtain ⟨b', off', rfl, d0, d1⟩ := (q0.below (up hb2)).slot hjl
            have hst := hide (scp_step (i := k) hjl)
            have hji : (j : Int) < (xx.length : Int) := by omega
            generalize xx[j] = s at d0 d1 hst
            obtain ⟨sl, sd⟩ := s
            simp only at d0 d1 hst
            cases sl
            · have hM2 := hide (show M = L ++ scp k xx (j + 1) by rw [hst.out, hMe.out]; simp)
              clear hst hMe
              go_wp2_with fail
              go_roundw
              case rel => exact ⟨j + 1, _, M, by omega, by go_num, rfl, by omega, hM2, hb2, c2, hown2⟩
              case measure => simp [intOf]; omega
            · have hM2 := hide (show M ++ [((k : Int), (j : Int))] = L ++ scp k xx (j + 1) by rw [hst.out, hMe.out]; simp)
              clear hst hMe
              have hgeo := hide (fun g hg => ow_ge hown2 (k := g) hg)
              have hsA := hb2.size
              rw [hsH'.out] at hsA
              have hownA := hown2
              clear hown hown2
              go_wp2_with (first
                | (at_builtin; refine wpList_elem Try.underlying56 hi'.out hz0'.out hz1'.out hz2'.out rfl (by decide) (by decide) encQ_len encQ_one rfl _ _ rfl (w.heap.size + 1) _ M rfl hownA ((k : Int), (j : Int)) _ rfl _ rfl rfl (by omega) hsA ?_; intro v' w2 hown' hg2; clear hownA))
              go_roundw
              case rel => exact ⟨j + 1, _, M ++ [((k : Int), (j : Int))], by omega, by go_num, rfl, by simp; omega, hM2, hb2.grown hg2 hsA hgeo.out, cell_on (up (hb2.grown hg2 hsA hgeo.out)) cH, hown'⟩
              case measure => simp [intOf]; omega
          · obtain rfl : j = xx.length := by omega
            have hM2 := hide (show M = sck (xss ps) (k + 1) by rw [hSP.out, hMe.out, hLe.out])
            clear hMe hLe
            go_wp2_with fail
            go_roundw
            case rel => exact ⟨k + 1, _, M, by omega, by go_num, rfl, by omega, hM2, hb2, hown2⟩
            case measure => simp [intOf]; omega
      · obtain rfl : k = ps.length := by omega
        go_wp2_with fail
        go_ret
        refine ⟨_, rfl, bt hbH (up hb) hbH.size, ?_⟩
        rw [H.out, ← hLe.out]
        exact ow_mono hown (by omega)

end Go.Proofs.Ytnhkpigakbiddaa
