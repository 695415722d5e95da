/-
  Drawing a page: some page of at most eight slots with bounded texts. Conditions: the reader is one that newReader made.
-/
import Derived.Test.YtnhkpigakbiddaaPut
import Derived.Test.YtnhkpigakbiddaaDrawS
import Derived.Test.YtnhkpigakbiddaaDrawR
namespace Go.Proofs.Ytnhkpigakbiddaa
open Go.RowKit
set_option linter.unusedVariables false
set_option linter.unusedSimpArgs false

theorem dataD (B R N : Nat) (w : World) (h : Rdr w B R N) (hN : N ≤ 1000) :
    Calls Try.prog 72 #[.pointer (some ⟨R, 0, none⟩)] w (DrawnS B R N 60 w) := by
  go_enter Try.func72, Try.ntmps72
  go_wp2_with fail
  refine (of_any 60 B R N 7 7 _ w h (by omega) (by kernel_rfl) (by rfl) (by omega) (by omega)).mono ?_
  rintro e w1 ⟨s, rfl, hs, hr, hg⟩
  go_wp2_with fail
  go_ret
  exact ⟨s, rfl, hs, hr, hg⟩
theorem blk_at {w : World} {G : Nat} {t : TypeId} {cs : Array Value} (hG : w.heap.size = G) : Blk (w.alloc (.cells cs t)) G t cs := by
  subst hG
  exact Blk.new w t cs
theorem grown_set_at (w : World) {G T : Nat} {cs : Array Value} (h : Blk w G T cs) (u : Value) : w.grownBy (w.setCell ⟨G, 0, none⟩ u) (some G) := grown_set (g := G) (World.grownBy.refl w _) (p := ⟨G, 0, none⟩) (.inl rfl) u
/-- A page drawn. -/
def PageD (M B R N : Nat) (w : World) (e : Ending) (w' : World) : Prop :=
  ∃ v : Value, ∃ xs : List Sl, e = .returned (.agg #[v]) ∧ w'.ownsRow w.heap.size 43 2 v xs.length (xs.flatMap encP) ∧ SmP xs ∧ Rdr w' B R (N + M) ∧ w.grownBy w' (some R)

set_option maxRecDepth 4000 in
set_option maxHeartbeats 4000000 in
theorem rndP (B R N : Nat) (w : World) (h : Rdr w B R N) (hN : N ≤ 500) :
    Calls Try.prog 67 #[.pointer (some ⟨R, 0, none⟩)] w (PageD 20 B R N w) := by
  have hR := h.lt
  have hBR := h.ge
  have kr := (Blk.new w 29 #[.slice none 0 0]).alloc (.cells #[.slice none 0 0] 29)
  have kp := Blk.new (w.alloc (.cells #[.slice none 0 0] 29)) 29 #[.slice none 0 0]
  have h0 := (h.alloc (.cells #[.slice none 0 0] 29)).alloc (.cells #[.slice none 0 0] 29)
  have g0 : w.grownBy ((w.alloc (.cells #[.slice none 0 0] 29)).alloc (.cells #[.slice none 0 0] 29)) (some R) := grown_alloc (w.grownBy_alloc _ _) _
  have s0 : Hid (((w.alloc (.cells #[.slice none 0 0] 29)).alloc (.cells #[.slice none 0 0] 29)).heap.size = w.heap.size + 1 + 1) := by simp [Hid]
  simp only [World.size_alloc] at kp
  go_enter Try.func67, Try.ntmps67
  go_wp2_with fail
  generalize (w.alloc (.cells #[.slice none 0 0] 29)).alloc (.cells #[.slice none 0 0] 29) = w0 at kr kp h0 g0 s0
  refine (oneR_at 0 8 B R N 7 7 _ _ w0 s0.out h0 (by omega) (by kernel_rfl) (by rfl) (by omega) (by omega)).mono ?_
  rintro e w1 ⟨z, rfl, z0, z1, hr1, hg1⟩
  obtain ⟨n, rfl⟩ := Int.eq_ofNat_of_zero_le z0
  have kr1 := kr.kept hg1 (by simp; omega)
  have kp1 := kp.kept hg1 (by simp; omega)
  have g1 := grown_trans g0 hg1
  have hz1 : w.heap.size + 1 + 1 ≤ w1.heap.size := by have := s0.out; have := hg1.size; omega
  clear h0 g0 hg1 s0 kr kp h
  go_wp2_with fail
  go_loopw [4] (fun u wr => ∃ (k : Nat) (a : Option Addr) (m c : Nat) (xs : List Sl), u = .int .i64 k ∧ k ≤ 8 ∧ Hid (SmP xs) ∧ wr.ownsRow (w.heap.size + 1 + 1) 43 2 (.slice a m c) xs.length (xs.flatMap encP) ∧ Blk wr (w.heap.size + 1) 29 #[.slice a m c] ∧ Rdr wr B R (N + 1 + (8 - k)) ∧ w.grownBy wr (some R) ∧ Blk wr w.heap.size 29 #[.slice none 0 0] ∧ w.heap.size + 1 + 1 ≤ wr.heap.size) (fun u _ => (intOf u).toNat)
  case atStart => exact ⟨n, none, 0, 0, [], rfl, by omega, ⟨by simp, fun x hx => by cases hx⟩, ow_nil _ _ _ _, kp1, hr1.mono (by omega), g1, kr1, hz1⟩
  case round =>
    obtain ⟨k, a, m, c, xs, rfl, hk, hsm, hown, kp, hr, hg, kr, hz⟩ := hrel
    clear hr1 g1 kr1 kp1 hz1
    have hL := ow_open (by omega) encP_len hown
    obtain ⟨a', c', hv, hLst, -⟩ := hL
    obtain ⟨rfl, rfl, rfl⟩ : a = a' ∧ m = xs.length ∧ c = c' := by simpa using hv
    clear hv
    have hAn : Hid (a = none → c = 0) := fun e => by subst e; exact own_none hown
    have hcap := hLst.cap
    have cp : wr.cell? ⟨w.heap.size + 1, 0, none⟩ = some (.slice a xs.length c) := kp.cell 0
    by_cases hp : 0 < k
    · have hp' : (0 : Int) < (k : Int) := by omega
      have hRl : Hid (∀ W, wr.grownBy W (some R) → Rl encP 2 W a xs) := fun W hg => hLst.rl.kept hg (fun g e ha => by
        have := (hLst.blk g ha).1
        cases e
        omega)
      have hgx : wr.grownBy wr.drew (some R) := grown_drew (World.grownBy.refl _ _)
      have hrx : Rdr wr.drew B R (N + 1 + (8 - k)) := hr
      have hRw : R < wr.heap.size := hr.lt
      go_wp2_with fail
      go_region_held3 (fun w' => w'.cell? ⟨w.heap.size + 1, 0, none⟩ = some (.slice a xs.length c))
        (first | exact cell_on (Below.refl _ _).drew cp | exact hgx.cell cp (by simp; omega) | exact (grown_alloc hgx _).cell cp (by simp; omega) | (rw [World.cell?_setCell_other _ _ _ _ (by intro e; simp at e <;> omega)]; exact hgx.cell cp (by simp; omega)))
        (first
          | (go_at_call 72; refine (dataD B R _ _ (by first | exact hrx | exact hrx.alloc _) (by omega)).mono ?_; rintro e wq ⟨s, rfl, hs, hrq, hgq⟩; (first | (have k5 := (Blk.new _ 29 #[.slice none 0 0]).kept hgq (by simp; omega)) | (have k5 := (Blk.new _ 29 #[.slice none 0 0]).drew.kept hgq (by simp; omega)) | skip); (replace hgx : wr.grownBy wq (some R) := (by first | exact grown_trans hgx hgq | exact grown_trans (grown_alloc hgx _) hgq)); (replace hrx := hrq); (have hwq : wr.heap.size ≤ wq.heap.size := hgx.size))
          | (go_at_call 71; refine (putS a c xs s _ (by first | exact hRl.out _ hgx | exact hRl.out _ (grown_alloc hgx _)) hAn.out hcap hsm.out hs).mono ?_; rintro e wt ⟨v, ys, n', ok, rfl, hbt, hown2, hsm2⟩; (obtain ⟨va, vm, vc, rfl⟩ := own_form hown2); (first | (have k5 := (Blk.new _ 29 #[.slice none 0 0]).below hbt) | (have k5 := k5.below hbt) | skip); (first | (have c5 : wt.cell? _ = some (.slice none 0 0) := k5.cell 0; have f5 := k5.free 0) | skip); (replace hgx : wr.grownBy wt (some R) := (by first | exact grown_trans hgx (grown_below hbt _) | exact grown_trans (grown_alloc hgx _) (grown_below hbt _)))))
      all_goals
        have kpT := kp.kept hgx (by simp; omega)
        have krT := kr.kept hgx (by simp; omega)
        have hrT : Rdr wt B R (N + 1 + (8 - k) + 1) := by first | exact hrx.below hbt | exact (hrx.alloc _).below hbt
        have hownT := ow_mono (B' := w.heap.size + 1 + 1) hown2 (by first | omega | (simp; omega))
        have hzT : wr.heap.size ≤ wt.heap.size := hgx.size
        first
          | (have k5s := k5.set 0 (.slice va vm vc)
             have hGw : w.heap.size + 1 + 1 ≤ wq.heap.size := by omega
             have gS := grown_set_at wt k5 (.slice va vm vc)
             have kpX := kpT.kept gS (by simp; omega)
             have krX := krT.kept gS (by simp; omega)
             have hrX := hrT.kept gS (fun q e => by cases e; omega)
             have hownX := World.ownsRow.kept hownT gS (.inr (fun e => absurd e (own_blk_ne hownT k5 (by decide))))
             have gX := grown_own hgx gS (fun q e => by cases e; omega)
             simp only [List.setIfInBounds_toArray, List.set_cons_zero] at k5s
             clear c5 f5 k5 gS
             generalize wt.setCell _ _ = X at k5s kpX krX hrX hownX gX ⊢)
          | (have k5s := Blk.new wt 29 #[.slice va vm vc]
             have kpX := kpT.alloc (.cells #[.slice va vm vc] 29)
             have krX := krT.alloc (.cells #[.slice va vm vc] 29)
             have hrX := hrT.alloc (.cells #[.slice va vm vc] 29)
             have hownX := ow_below hownT ((Below.refl _ _).alloc (Nat.le_refl _) (.cells #[.slice va vm vc] 29))
             have gX := grown_alloc hgx (.cells #[.slice va vm vc] 29)
             generalize wt.alloc (.cells #[.slice va vm vc] 29) = X at k5s kpX krX hrX hownX gX ⊢)
        have c5X := k5s.cell 0
        have cpX : X.cell? ⟨w.heap.size + 1, 0, none⟩ = some (.slice a xs.length c) := kpX.cell 0
        have fpX := kpX.free 0
        have hownO := ow_kept hown gX (fun q e => by cases e; omega)
        have gXX := grown_trans hg gX
        have hzX := gX.size
        have c5X' := hide c5X
        replace c5X : X.cell? _ = some (.slice va vm vc) := c5X
        have hsm2' := hide hsm2
        clear hsm2 hown2 hbt hgx hrx kpT krT hrT hownT c5X' hown kp hr hg kr
        cases ok
        · go_wp2_with fail
          go_roundw
          case rel => exact ⟨k - 1, a, xs.length, c, xs, by rw [Value.int.injEq]; exact ⟨rfl, by omega⟩, by omega, hsm, hownO, kpX, hrX.mono (by omega), gXX, krX, by omega⟩
          case measure => simp [intOf]; omega
        · go_wp2_with fail
          obtain ⟨kF, gF⟩ := res1 kpX (.slice va vm vc)
          have hownF := ow_kept hownX gF (fun q e => by cases e; omega)
          have krF := krX.kept gF (by simp)
          have hrF := hrX.kept gF (fun q e => by cases e; omega)
          have gFF := grown_own gXX gF (fun q e => by cases e; omega)
          have hzF := gF.size
          go_roundw
          case rel => exact ⟨k - 1, va, vm, vc, ys, by rw [Value.int.injEq]; exact ⟨rfl, by omega⟩, by omega, hsm2', hownF, kF, hrF.mono (by omega), gFF, krF, by omega⟩
          case measure => simp [intOf]; omega
    · obtain rfl : k = 0 := by omega
      go_wp2_with fail
      refine (pick_any B R _ 3 wr hr (by omega) (by omega) (by omega)).mono ?_
      rintro e w2 ⟨q, rfl, q0, q1, hr2, hg2⟩
      obtain ⟨n2, rfl⟩ := Int.eq_ofNat_of_zero_le q0
      have kr2 := kr.kept hg2 (by simp; omega)
      have kp2 := kp.kept hg2 (by simp; omega)
      have hown2 := ow_kept hown hg2 (fun g e => by cases e; omega)
      have g2 := grown_trans hg hg2
      have hz2 : w.heap.size + 1 + 1 ≤ w2.heap.size := by have := hg2.size; omega
      have hsmq := hsm
      have hn2 : n2 ≤ 2 := by omega
      clear hr hg hg2 kr kp hown hLst cp q1 hAn
      go_wp2_with fail
      go_loopw [8] (fun u wr => ∃ (k : Nat) (a : Option Addr) (m c : Nat) (xs : List Sl), u = .int .i64 k ∧ k ≤ 2 ∧ Hid (SmP xs) ∧ wr.ownsRow (w.heap.size + 1 + 1) 43 2 (.slice a m c) xs.length (xs.flatMap encP) ∧ Blk wr (w.heap.size + 1) 29 #[.slice a m c] ∧ Rdr wr B R (N + 10 + (2 - k)) ∧ w.grownBy wr (some R) ∧ Blk wr w.heap.size 29 #[.slice none 0 0] ∧ w.heap.size + 1 + 1 ≤ wr.heap.size) (fun u _ => (intOf u).toNat)
      case atStart => exact ⟨n2, _, _, _, xs, rfl, hn2, hsmq, hown2, kp2, hr2.mono (by omega), g2, kr2, hz2⟩
      case round =>
        obtain ⟨k, a, m, c, xs, rfl, hk, hsm, hown, kp, hr, hg, kr, hz⟩ := hrel
        clear hr2 g2 kr2 kp2 hown2 hsmq hz2
        have hL := ow_open (by omega) encP_len hown
        obtain ⟨a', c', hv, hLst, -⟩ := hL
        obtain ⟨rfl, rfl, rfl⟩ : a = a' ∧ m = xs.length ∧ c = c' := by simpa using hv
        clear hv
        have hAn : Hid (a = none → c = 0) := fun e => by subst e; exact own_none hown
        have hcap := hLst.cap
        have cp : wr.cell? ⟨w.heap.size + 1, 0, none⟩ = some (.slice a xs.length c) := kp.cell 0
        by_cases hp : 0 < k ∧ 0 < xs.length
        · have hp' : (0 : Int) < (k : Int) := by omega
          have hq' : (0 : Int) < (xs.length : Int) := by omega
          have hx8 : xs.length ≤ 8 := hsm.out.1
          have hRl : Hid (∀ W, wr.grownBy W (some R) → Rl encP 2 W a xs) := fun W hg => hLst.rl.kept hg (fun g e ha => by
            have := (hLst.blk g ha).1
            cases e
            omega)
          have hgx : wr.grownBy wr.drew (some R) := grown_drew (World.grownBy.refl _ _)
          have hrx : Rdr wr.drew B R (N + 10 + (2 - k)) := hr
          have hRw : R < wr.heap.size := hr.lt
          go_wp2_with fail
          go_region_held3 (fun w' => w'.cell? ⟨w.heap.size + 1, 0, none⟩ = some (.slice a xs.length c))
            (first | exact cell_on (Below.refl _ _).drew cp | exact hgx.cell cp (by simp; omega) | exact (grown_alloc hgx _).cell cp (by simp; omega) | (rw [World.cell?_setCell_other _ _ _ _ (by intro e; simp at e <;> omega)]; exact hgx.cell cp (by simp; omega)))
            (first
              | (go_at_call 68; refine (pick_any B R _ _ _ (by first | exact hrx | exact hrx.alloc _) (by omega) (by omega) (by omega)).mono ?_; rintro e wq ⟨s, rfl, s0, s1, hrq, hgq⟩; (first | (have k5 := (Blk.new _ 29 #[.slice none 0 0]).kept hgq (by simp; omega)) | (have k5 := (Blk.new _ 29 #[.slice none 0 0]).drew.kept hgq (by simp; omega)) | skip); (replace hgx : wr.grownBy wq (some R) := (by first | exact grown_trans hgx hgq | exact grown_trans (grown_alloc hgx _) hgq)); (replace hrx := hrq); (have hwq : wr.heap.size ≤ wq.heap.size := hgx.size))
              | (go_at_call 73; refine (clrS a c xs s _ (by first | exact hRl.out _ hgx | exact hRl.out _ (grown_alloc hgx _)) hAn.out hcap hsm.out ⟨s0, s1⟩).mono ?_; rintro e wt ⟨v, ys, ok, rfl, hbt, hown2, hsm2⟩; (obtain ⟨va, vm, vc, rfl⟩ := own_form hown2); (first | (have k5 := (Blk.new _ 29 #[.slice none 0 0]).below hbt) | (have k5 := k5.below hbt) | skip); (first | (have c5 : wt.cell? _ = some (.slice none 0 0) := k5.cell 0; have f5 := k5.free 0) | skip); (replace hgx : wr.grownBy wt (some R) := (by first | exact grown_trans hgx (grown_below hbt _) | exact grown_trans (grown_alloc hgx _) (grown_below hbt _)))))
          all_goals
            have kpT := kp.kept hgx (by simp; omega)
            have krT := kr.kept hgx (by simp; omega)
            have hrT : Rdr wt B R (N + 10 + (2 - k) + 1) := by first | exact hrx.below hbt | exact (hrx.alloc _).below hbt
            have hownT := ow_mono (B' := w.heap.size + 1 + 1) hown2 (by first | omega | (simp; omega))
            have hzT : wr.heap.size ≤ wt.heap.size := hgx.size
            first
              | (have k5s := k5.set 0 (.slice va vm vc)
                 have hGw : w.heap.size + 1 + 1 ≤ wq.heap.size := by omega
                 have gS := grown_set_at wt k5 (.slice va vm vc)
                 have kpX := kpT.kept gS (by simp; omega)
                 have krX := krT.kept gS (by simp; omega)
                 have hrX := hrT.kept gS (fun q e => by cases e; omega)
                 have hownX := World.ownsRow.kept hownT gS (.inr (fun e => absurd e (own_blk_ne hownT k5 (by decide))))
                 have gX := grown_own hgx gS (fun q e => by cases e; omega)
                 simp only [List.setIfInBounds_toArray, List.set_cons_zero] at k5s
                 clear c5 f5 k5 gS
                 generalize wt.setCell _ _ = X at k5s kpX krX hrX hownX gX ⊢)
              | (have k5s := Blk.new wt 29 #[.slice va vm vc]
                 have kpX := kpT.alloc (.cells #[.slice va vm vc] 29)
                 have krX := krT.alloc (.cells #[.slice va vm vc] 29)
                 have hrX := hrT.alloc (.cells #[.slice va vm vc] 29)
                 have hownX := ow_below hownT ((Below.refl _ _).alloc (Nat.le_refl _) (.cells #[.slice va vm vc] 29))
                 have gX := grown_alloc hgx (.cells #[.slice va vm vc] 29)
                 generalize wt.alloc (.cells #[.slice va vm vc] 29) = X at k5s kpX krX hrX hownX gX ⊢)
            have c5X := k5s.cell 0
            have cpX : X.cell? ⟨w.heap.size + 1, 0, none⟩ = some (.slice a xs.length c) := kpX.cell 0
            have fpX := kpX.free 0
            have hownO := ow_kept hown gX (fun q e => by cases e; omega)
            have gXX := grown_trans hg gX
            have hzX := gX.size
            have c5X' := hide c5X
            replace c5X : X.cell? _ = some (.slice va vm vc) := c5X
            have hsm2' := hide hsm2
            clear hsm2 hown2 hbt hgx hrx kpT krT hrT hownT c5X' hown kp hr hg kr
            cases ok
            · go_wp2_with fail
              go_roundw
              case rel => exact ⟨k - 1, a, xs.length, c, xs, by rw [Value.int.injEq]; exact ⟨rfl, by omega⟩, by omega, hsm, hownO, kpX, hrX.mono (by omega), gXX, krX, by omega⟩
              case measure => simp [intOf]; omega
            · go_wp2_with fail
              obtain ⟨kF, gF⟩ := res1 kpX (.slice va vm vc)
              have hownF := ow_kept hownX gF (fun q e => by cases e; omega)
              have krF := krX.kept gF (by simp)
              have hrF := hrX.kept gF (fun q e => by cases e; omega)
              have gFF := grown_own gXX gF (fun q e => by cases e; omega)
              have hzF := gF.size
              go_roundw
              case rel => exact ⟨k - 1, va, vm, vc, ys, by rw [Value.int.injEq]; exact ⟨rfl, by omega⟩, by omega, hsm2', hownF, kF, hrF.mono (by omega), gFF, krF, by omega⟩
              case measure => simp [intOf]; omega
        · have r0 : wr.cell? ⟨w.heap.size, 0, none⟩ = some (.slice none 0 0) := kr.cell 0
          have s0 := kr.free 0
          have fin : PageD 20 B R N w (.returned (.agg #[.slice a xs.length c])) (wr.setCell ⟨w.heap.size, 0, none⟩ (.slice a xs.length c)) := by
            obtain ⟨kF, gF⟩ := res1 kr (.slice a xs.length c)
            exact ⟨_, xs, rfl, ow_mono (ow_kept hown gF (fun q e => by cases e; omega)) (by omega), hsm.out, (hr.kept gF (fun q e => by cases e; omega)).mono (by omega), grown_own hg gF (fun q e => by cases e; omega)⟩
          obtain ⟨kF, -⟩ := res1 kr (.slice a xs.length c)
          have fin' := hide fin
          clear fin
          by_cases hk0 : 0 < k
          · have hk1 : (0 : Int) < (k : Int) := by omega
            have hx1 : ¬ ((0 : Int) < (xs.length : Int)) := by omega
            clear hr hg hown kr hLst kp
            go_wp2_with fail
            generalize hF : World.setCell _ _ _ = wF at kF fin' ⊢
            have y0 : wF.cell? ⟨w.heap.size, 0, none⟩ = some (.slice a xs.length c) := kF.cell 0
            exact bodyPost_ret (v := .agg #[.slice a xs.length c]) (by simp [results, Try.f67, go_sem, y0] <;> rfl) rfl fin'.out
          · have hk1 : ¬ ((0 : Int) < (k : Int)) := by omega
            clear hr hg hown kr hLst kp
            go_wp2_with fail
            generalize hF : World.setCell _ _ _ = wF at kF fin' ⊢
            have y0 : wF.cell? ⟨w.heap.size, 0, none⟩ = some (.slice a xs.length c) := kF.cell 0
            exact bodyPost_ret (v := .agg #[.slice a xs.length c]) (by simp [results, Try.f67, go_sem, y0] <;> rfl) rfl fin'.out

end Go.Proofs.Ytnhkpigakbiddaa
