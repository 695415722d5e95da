/-
  Disks: WriteSector of the reference answers as the program's. Conditions: the sectors and the writes read as lists.
-/
import Derived.Test.YtgabjepoooageaaWr
namespace Go.Proofs.Ytgabjepoooageaa
open Go.RowKit
set_option linter.unusedVariables false
set_option linter.unusedSimpArgs false

set_option maxHeartbeats 8000000 in
theorem wsS (A B : Option Addr) (c d : Nat) (xs : List Int) (ws : List (Int × Int)) (x : Int × Int) (w : World) (hr : Rl encD 1 w A xs) (hq : Rl encW 2 w B ws) (hc : xs.length ≤ 1048576) (hd : ws.length ≤ 1048576) :
    Calls Try.prog 26 #[.agg #[.slice A xs.length c, .slice B ws.length d], .agg #[.int .i64 x.1, .int .i64 x.2]] w (WrR xs ws x w) := by
  have hb0 : Below w.heap.size w (((w.alloc (.cells #[.slice A xs.length c, .slice B ws.length d] 30)).alloc (.cells #[.int .i64 x.1, .int .i64 x.2] 41)).alloc (.cells #[.slice none 0 0, .slice none 0 0] 30)) := by go_grown
  have kA := ((Blk.new w 30 #[.slice A xs.length c, .slice B ws.length d]).alloc (.cells #[.int .i64 x.1, .int .i64 x.2] 41)).alloc (.cells #[.slice none 0 0, .slice none 0 0] 30)
  have kX := (Blk.new (w.alloc (.cells #[.slice A xs.length c, .slice B ws.length d] 30)) 41 #[.int .i64 x.1, .int .i64 x.2]).alloc (.cells #[.slice none 0 0, .slice none 0 0] 30)
  have kR := Blk.new ((w.alloc (.cells #[.slice A xs.length c, .slice B ws.length d] 30)).alloc (.cells #[.int .i64 x.1, .int .i64 x.2] 41)) 30 #[.slice none 0 0, .slice none 0 0]
  simp only [World.size_alloc] at kR kX
  have HN := hide (fun (h : wok xs ws x = false) W x0 x1 kR hb hr => wr_no (w := w) (W := W) (r := w.heap.size + 1 + 1) (x0 := x0) (x1 := x1) kR hb hr h)
  have HB := hide (fun h => wok_bad (xs := xs) (ws := ws) (x := x) h)
  have HS := hide (fun h => vd_snoc (xs := xs) (ws := ws) (x := x) h)
  go_enter Try.func26, Try.ntmps26
  go_wp2_with fail
  generalize ((w.alloc (.cells #[.slice A xs.length c, .slice B ws.length d] 30)).alloc (.cells #[.int .i64 x.1, .int .i64 x.2] 41)).alloc (.cells #[.slice none 0 0, .slice none 0 0] 30) = w0 at hb0 kA kX kR ⊢
  refine (vdS A B c d xs ws _ (hr.below hb0) (hq.below hb0) hc hd).mono ?_
  rintro e w2 ⟨rfl, hb1⟩
  replace kA := kA.below hb1
  replace kX := kX.below hb1
  replace kR := kR.below hb1
  have hb2' := bt hb0 hb1 hb0.size
  clear hb0 hb1
  cases hv : vd xs ws
  · have H := hide (HB.out hv)
    clear HB HS hv
    have r0 : w2.cell? ⟨w.heap.size + 1 + 1, 0, none⟩ = some (.slice none 0 0) := kR.cell 0
    have r1 : w2.cell? ⟨w.heap.size + 1 + 1, 1, none⟩ = some (.slice none 0 0) := kR.cell 1
    have s0 := kR.free 0
    have s1 := kR.free 1
    go_wp2_with fail
    obtain ⟨kF, FF⟩ := HN.out H.out _ _ _ kR hb2' (by omega)
    generalize hF : World.setCell _ _ _ = wF at kF FF ⊢
    have y0 : wF.cell? ⟨w.heap.size + 1 + 1, 0, none⟩ = some (.slice none 0 0) := kF.cell 0
    have y1 : wF.cell? ⟨w.heap.size + 1 + 1, 1, none⟩ = some (.slice none 0 0) := kF.cell 1
    exact bodyPost_ret (v := .tuple #[.agg #[.slice none 0 0, .slice none 0 0], .bool false]) (by simp [results, Try.f26, go_sem, y0, y1] <;> rfl) rfl FF
  · obtain ⟨l1, l2, l3, hN, hW⟩ := vd_parts hv
    clear hN hW
    have c0 : w2.cell? ⟨w.heap.size, 0, none⟩ = some (.slice A xs.length c) := kA.cell 0
    have c1 : w2.cell? ⟨w.heap.size, 1, none⟩ = some (.slice B ws.length d) := kA.cell 1
    have c2 : w2.cell? ⟨w.heap.size + 1, 0, none⟩ = some (.int .i64 x.1) := kX.cell 0
    have c3 : w2.cell? ⟨w.heap.size + 1, 1, none⟩ = some (.int .i64 x.2) := kX.cell 1
    have hS := hide (HS.out hv)
    clear HB HS hv kA kX
    have hr2 := hr.below hb2'
    have hq2 := hq.below hb2'
    have hzR := kR.lt
    obtain ⟨a0, rfl⟩ : ∃ a0, A = some a0 := by
      obtain ⟨b, off, e, _⟩ := hr.at (k := 0) (by omega)
      exact ⟨_, e⟩
    go_wp2_with fail
    go_cut [6] (fun s6 wx => ∃ (K : Nat) (a p : Option Addr) (b c q s : Nat), s6 = .pointer (some ⟨K, 0, none⟩) ∧ Blk wx K 30 #[.slice a b c, .slice p q s] ∧ Below w2.heap.size w2 wx ∧ wx.ownsRow w2.heap.size 3 1 (.slice a b c) xs.length (xs.flatMap encD) ∧ wx.ownsRow w2.heap.size 41 2 (.slice p q s) (ws ++ [x]).length ((ws ++ [x]).flatMap encW))
    case first =>
      have hbx : Below w2.heap.size w2 w2.drew := (Below.refl _ _).drew
      refine wp_region_noPanic ?_
      refine wp_region_held_drew (S := (fun w' => w'.cell? ⟨w.heap.size, 0, none⟩ = some (.slice (some a0) xs.length c) ∧ w'.cell? ⟨w.heap.size, 1, none⟩ = some (.slice B ws.length d) ∧ w'.cell? ⟨w.heap.size + 1, 0, none⟩ = some (.int .i64 x.1) ∧ w'.cell? ⟨w.heap.size + 1, 1, none⟩ = some (.int .i64 x.2))) (by kernel_rfl) ?_ ?_
      · exact ⟨cell_on (hbx) c0, cell_on (hbx) c1, cell_on (hbx) c2, cell_on (hbx) c3⟩
      generalize w2.drew = W0 at hbx ⊢
      intro hHeld
      refine wpAnyH_take (i := 0) (oi := _) (v := ?_) rfl (by kernel_rfl) (by kernel_rfl) (by kernel_rfl) (fun _ _ _ h => h) (Or.inl ⟨by rfl, ?_⟩) (by assumption) ?_
      rotate_left
      · (intro wS hSw; (try dsimp only at hSw); (try go_split_ands); (simp only [List.getElem_toArray, List.getElem_cons_succ, List.getElem_cons_zero]); go_simp <;> (with_reducible rfl))
      try simp only [List.getElem_toArray, List.getElem_cons_succ, List.getElem_cons_zero, Act.put, List.setIfInBounds_toArray, List.set_cons_zero, List.set_cons_succ]
      refine wpAnyH_take (i := 1) (oi := _) (v := ?_) rfl (by kernel_rfl) (by kernel_rfl) (by kernel_rfl) (fun _ _ _ h => h) (Or.inl ⟨by rfl, ?_⟩) (by assumption) ?_
      rotate_left
      · (intro wS hSw; (try dsimp only at hSw); (try go_split_ands); (simp only [List.getElem_toArray, List.getElem_cons_succ, List.getElem_cons_zero]); go_simp <;> (with_reducible rfl))
      try simp only [List.getElem_toArray, List.getElem_cons_succ, List.getElem_cons_zero, Act.put, List.setIfInBounds_toArray, List.set_cons_zero, List.set_cons_succ]
      refine wpAnyH_take (i := 4) (oi := _) (v := ?_) rfl (by kernel_rfl) (by kernel_rfl) (by kernel_rfl) (fun _ _ _ h => h) (Or.inl ⟨by rfl, ?_⟩) (by assumption) ?_
      rotate_left
      · (intro wS hSw; (try dsimp only at hSw); (try go_split_ands); (simp only [List.getElem_toArray, List.getElem_cons_succ, List.getElem_cons_zero]); go_simp <;> (with_reducible rfl))
      try simp only [List.getElem_toArray, List.getElem_cons_succ, List.getElem_cons_zero, Act.put, List.setIfInBounds_toArray, List.set_cons_zero, List.set_cons_succ]
      refine wpAnyH_take (i := 5) (oi := _) (v := ?_) rfl (by kernel_rfl) (by kernel_rfl) (by kernel_rfl) (fun _ _ _ h => h) (Or.inl ⟨by rfl, ?_⟩) (by assumption) ?_
      rotate_left
      · (intro wS hSw; (try dsimp only at hSw); (try go_split_ands); (simp only [List.getElem_toArray, List.getElem_cons_succ, List.getElem_cons_zero]); go_simp <;> (with_reducible rfl))
      try simp only [List.getElem_toArray, List.getElem_cons_succ, List.getElem_cons_zero, Act.put, List.setIfInBounds_toArray, List.set_cons_zero, List.set_cons_succ]
      refine wpAnyH_take (i := 7) (oi := _) (v := ?_) rfl (by kernel_rfl) (by kernel_rfl) (by kernel_rfl) (fun _ _ _ h => h) (Or.inl ⟨by rfl, ?_⟩) (by assumption) ?_
      rotate_left
      · (intro wS hSw; (try dsimp only at hSw); (try go_split_ands); (simp only [List.getElem_toArray, List.getElem_cons_succ, List.getElem_cons_zero]); go_simp <;> (with_reducible rfl))
      try simp only [List.getElem_toArray, List.getElem_cons_succ, List.getElem_cons_zero, Act.put, List.setIfInBounds_toArray, List.set_cons_zero, List.set_cons_succ]
      refine wpAnyH_ready (rs := [2, 3, 8, 11]) (by kernel_rfl) (by simp) (AllReadyH.cons (o := _) rfl (fun K hK => ?_) (AllReadyH.cons (o := _) rfl (fun K hK => ?_) (AllReadyH.cons (o := _) rfl (fun K hK => ?_) (AllReadyH.cons (o := _) rfl (fun K hK => ?_) AllReadyH.nil))))
      · skip -- 2
        simp only [rq0, rq1, rq2]
        go_simp
        (go_at_call 53; refine (ciS _ c xs _ (hr2.below hbx) (by omega)).mono ?_; rintro e W1 ⟨v13, rfl, hn, own13⟩)
        obtain ⟨v13a, v13m, v13c, rfl⟩ := own_form own13
        replace own13 := ow_mono (B' := w2.heap.size) own13 hbx.size
        replace hbx := bt2 hbx hn
        clear hn
        refine hK.out _ _ ?_ (fun hHeld => ?_)
        · exact ⟨cell_on (hbx) c0, cell_on (hbx) c1, cell_on (hbx) c2, cell_on (hbx) c3⟩
        clear hK K
        try simp only [rq0, rq1, rq2, Act.put, rq3, rq4, rq5]
        refine wpAnyH_ready (rs := [3, 8, 11]) (by kernel_rfl) (by simp) (AllReadyH.cons (o := _) rfl (fun K hK => ?_) (AllReadyH.cons (o := _) rfl (fun K hK => ?_) (AllReadyH.cons (o := _) rfl (fun K hK => ?_) AllReadyH.nil)))
        · skip -- 3
          simp only [rq0, rq1, rq2]
          go_simp
          have hn : Below W1.heap.size W1 (W1.alloc (.cells #[] 41)) := (Below.refl _ _).alloc (Nat.le_refl _) _
          replace own13 := ow_below own13 hn
          have own14 := ow_mono (B' := w2.heap.size) (ow_empty W1 (W1.alloc (.cells #[] 41)) 41 2 (heap_alloc_new _ _)) hbx.size
          have hbn := bt2 hbx hn
          refine hK.out _ _ ?_ (fun hHeld => ?_)
          · exact ⟨cell_on (hbn) c0, cell_on (hbn) c1, cell_on (hbn) c2, cell_on (hbn) c3⟩
          clear hK K
          try simp only [rq0, rq1, rq2, Act.put, rq3, rq4, rq5]
          replace hbx := hbn
          clear hbn hn
          generalize W1.alloc (.cells #[] 41) = W2 at hbx own13 own14 ⊢
          refine wpAnyH_ready (rs := [6, 8, 11]) (by kernel_rfl) (by simp) (AllReadyH.cons (o := _) rfl (fun K hK => ?_) (AllReadyH.cons (o := _) rfl (fun K hK => ?_) (AllReadyH.cons (o := _) rfl (fun K hK => ?_) AllReadyH.nil)))
          · skip -- 6
            simp only [rq0, rq1, rq2]
            rw [if_pos (by rfl)]
            obtain ⟨v17, W3, hrun, own17, hg⟩ := app_ws W2 w2.heap.size _ own14 B d ws (hq2.below hbx) (by omega) hbx.size
            obtain ⟨v17a, v17m, v17c, rfl⟩ := own_form own17
            refine wp_appW (.tmp 14) (.tmp 16) (by rfl) (by rfl) (by rfl) (by rfl) hrun ?_
            clear hrun
            replace hbx := hbx.grown hg hbx.size (fun k hk => ow_ge own14 hk)
            replace own13 := World.ownsRow.kept own13 hg (own_dif own13 own14 (by decide))
            clear hg own14
            refine hK.out _ _ ?_ (fun hHeld => ?_)
            · exact ⟨cell_on (hbx) c0, cell_on (hbx) c1, cell_on (hbx) c2, cell_on (hbx) c3⟩
            clear hK K
            try simp only [rq0, rq1, rq2, Act.put, rq3, rq4, rq5]
            refine wpAnyH_ready (rs := [8, 11]) (by kernel_rfl) (by simp) (AllReadyH.cons (o := _) rfl (fun K hK => ?_) (AllReadyH.cons (o := _) rfl (fun K hK => ?_) AllReadyH.nil))
            · skip -- 8
              simp only [rq0, rq1, rq2]
              go_simp
              have hn : Below W3.heap.size W3 (W3.alloc (.cells #[.int .i64 x.1, .int .i64 x.2] 41)) := (Below.refl _ _).alloc (Nat.le_refl _) _
              replace own13 := ow_below own13 hn
              replace own17 := ow_below own17 hn
              have lit := Blk.new W3 41 #[.int .i64 x.1, .int .i64 x.2]
              have hbn := bt2 hbx hn
              refine hK.out _ _ ?_ (fun hHeld => ?_)
              · exact ⟨cell_on (hbn) c0, cell_on (hbn) c1, cell_on (hbn) c2, cell_on (hbn) c3⟩
              clear hK K
              try simp only [rq0, rq1, rq2, Act.put, rq3, rq4, rq5]
              replace hbx := hbn
              clear hbn hn
              generalize W3.alloc (.cells #[.int .i64 x.1, .int .i64 x.2] 41) = W4 at hbx own13 own17 lit ⊢
              refine wpAnyH_ready (rs := [9, 11]) (by kernel_rfl) (by simp) (AllReadyH.cons (o := _) rfl (fun K hK => ?_) (AllReadyH.cons (o := _) rfl (fun K hK => ?_) AllReadyH.nil))
              · skip -- 9
                simp only [rq0, rq1, rq2]
                rw [if_pos (by rfl)]
                obtain ⟨v20, W5, hrun, own20, hg⟩ := app_one W4 w2.heap.size _ _ ws own17 x lit (by omega) hbx.size
                obtain ⟨v20a, v20m, v20c, rfl⟩ := own_form own20
                refine wp_appW (.tmp 17) (.tmp 19) (by rfl) (by rfl) (by rfl) (by rfl) hrun ?_
                clear hrun
                replace hbx := hbx.grown hg hbx.size (fun k hk => ow_ge own17 hk)
                replace own13 := World.ownsRow.kept own13 hg (own_dif own13 own17 (by decide))
                clear hg own17 lit
                refine hK.out _ _ ?_ (fun hHeld => ?_)
                · exact ⟨cell_on (hbx) c0, cell_on (hbx) c1, cell_on (hbx) c2, cell_on (hbx) c3⟩
                clear hK K
                try simp only [rq0, rq1, rq2, Act.put, rq3, rq4, rq5]
                refine wpAnyH_take (i := 10) (oi := _) (v := ?_) rfl (by kernel_rfl) (by kernel_rfl) (by kernel_rfl) (fun _ _ _ h => h) (Or.inl ⟨by rfl, ?_⟩) (by assumption) ?_
                rotate_left
                · (intro wS hSw; (try dsimp only at hSw); (try go_split_ands); (simp only [List.getElem_toArray, List.getElem_cons_succ, List.getElem_cons_zero]); go_simp <;> (with_reducible rfl))
                try simp only [List.getElem_toArray, List.getElem_cons_succ, List.getElem_cons_zero, Act.put, List.setIfInBounds_toArray, List.set_cons_zero, List.set_cons_succ]
                refine wpAnyH_ready (rs := [11]) (by kernel_rfl) (by simp) (AllReadyH.cons (o := _) rfl (fun K hK => ?_) AllReadyH.nil)
                simp only [rq0, rq1, rq2]
                go_simp
                have hoK : w2.heap.size ≤ W5.heap.size := hbx.size
                have hn : Below W5.heap.size W5 (W5.alloc (.cells #[.slice none 0 0, .slice none 0 0] 30)) := (Below.refl _ _).alloc (Nat.le_refl _) _
                replace own13 := ow_below own13 hn
                replace own20 := ow_below own20 hn
                have out := Blk.new W5 30 #[.slice none 0 0, .slice none 0 0]
                have hbn := bt2 hbx hn
                refine hK.out _ _ ?_ (fun hHeld => ?_)
                · exact ⟨cell_on (hbn) c0, cell_on (hbn) c1, cell_on (hbn) c2, cell_on (hbn) c3⟩
                clear hK K
                try simp only [rq0, rq1, rq2, Act.put, rq3, rq4, rq5]
                replace hbx := hbn
                clear hbn hn
                generalize W5.alloc (.cells #[.slice none 0 0, .slice none 0 0] 30) = W6 at hbx own13 own20 out ⊢
                refine wpAnyH_ready (rs := [12]) (by kernel_rfl) (by simp) (AllReadyH.cons (o := _) rfl (fun K hK => ?_) AllReadyH.nil)
                have r0 : W6.cell? ⟨W5.heap.size, 0, none⟩ = some (.slice none 0 0) := out.cell 0
                have r1 : W6.cell? ⟨W5.heap.size, 1, none⟩ = some (.slice none 0 0) := out.cell 1
                have s0 : W6.frozen? ⟨W5.heap.size, 0, none⟩ = false := out.free 0
                have s1 : W6.frozen? ⟨W5.heap.size, 1, none⟩ = false := out.free 1
                simp only [rq0, rq1, rq2]
                go_simp
                refine hK.out _ _ ?_ (fun hHeld => ?_)
                · exact ⟨cell_on ((hbx.setCell hoK _).setCell hoK _) c0, cell_on ((hbx.setCell hoK _).setCell hoK _) c1, cell_on ((hbx.setCell hoK _).setCell hoK _) c2, cell_on ((hbx.setCell hoK _).setCell hoK _) c3⟩
                clear hK K
                try simp only [rq0, rq1, rq2, Act.put, rq3, rq4, rq5]
                clear r0 r1 s0 s1
                refine wpAnyH_done (by kernel_rfl) ?_ _
                refine NoPanic.normal ?_
                clear hHeld
                go_wp2_with fail
                go_meet
                exact ⟨_, _, _, _, _, _, _, rfl, by simpa using (out.set 0 (.slice v13a v13m v13c)).set 1 (.slice v20a v20m v20c), (hbx.setCell hoK _).setCell hoK _, own_set (own_set own13 out (by decide)) (out.set 0 _) (by decide), own_set (own_set own20 out (by decide)) (out.set 0 _) (by decide)⟩
              · skip -- 11
                simp only [rq0, rq1, rq2]
                go_simp
                have hoK : w2.heap.size ≤ W4.heap.size := hbx.size
                have hn : Below W4.heap.size W4 (W4.alloc (.cells #[.slice none 0 0, .slice none 0 0] 30)) := (Below.refl _ _).alloc (Nat.le_refl _) _
                replace own13 := ow_below own13 hn
                replace own17 := ow_below own17 hn
                replace lit := lit.below hn
                have out := Blk.new W4 30 #[.slice none 0 0, .slice none 0 0]
                have hbn := bt2 hbx hn
                refine hK.out _ _ ?_ (fun hHeld => ?_)
                · exact ⟨cell_on (hbn) c0, cell_on (hbn) c1, cell_on (hbn) c2, cell_on (hbn) c3⟩
                clear hK K
                try simp only [rq0, rq1, rq2, Act.put, rq3, rq4, rq5]
                replace hbx := hbn
                clear hbn hn
                generalize W4.alloc (.cells #[.slice none 0 0, .slice none 0 0] 30) = W5 at hbx own13 own17 lit out ⊢
                refine wpAnyH_ready (rs := [9]) (by kernel_rfl) (by simp) (AllReadyH.cons (o := _) rfl (fun K hK => ?_) AllReadyH.nil)
                simp only [rq0, rq1, rq2]
                rw [if_pos (by rfl)]
                obtain ⟨v20, W6, hrun, own20, hg⟩ := app_one W5 w2.heap.size _ _ ws own17 x lit (by omega) hbx.size
                obtain ⟨v20a, v20m, v20c, rfl⟩ := own_form own20
                refine wp_appW (.tmp 17) (.tmp 19) (by rfl) (by rfl) (by rfl) (by rfl) hrun ?_
                clear hrun
                replace hbx := hbx.grown hg hbx.size (fun k hk => ow_ge own17 hk)
                replace own13 := World.ownsRow.kept own13 hg (own_dif own13 own17 (by decide))
                replace out := out.kept hg (fun e => own_blk_ne own17 out (by decide) e.symm)
                clear hg own17 lit
                refine hK.out _ _ ?_ (fun hHeld => ?_)
                · exact ⟨cell_on (hbx) c0, cell_on (hbx) c1, cell_on (hbx) c2, cell_on (hbx) c3⟩
                clear hK K
                try simp only [rq0, rq1, rq2, Act.put, rq3, rq4, rq5]
                refine wpAnyH_take (i := 10) (oi := _) (v := ?_) rfl (by kernel_rfl) (by kernel_rfl) (by kernel_rfl) (fun _ _ _ h => h) (Or.inl ⟨by rfl, ?_⟩) (by assumption) ?_
                rotate_left
                · (intro wS hSw; (try dsimp only at hSw); (try go_split_ands); (simp only [List.getElem_toArray, List.getElem_cons_succ, List.getElem_cons_zero]); go_simp <;> (with_reducible rfl))
                try simp only [List.getElem_toArray, List.getElem_cons_succ, List.getElem_cons_zero, Act.put, List.setIfInBounds_toArray, List.set_cons_zero, List.set_cons_succ]
                refine wpAnyH_ready (rs := [12]) (by kernel_rfl) (by simp) (AllReadyH.cons (o := _) rfl (fun K hK => ?_) AllReadyH.nil)
                have r0 : W6.cell? ⟨W4.heap.size, 0, none⟩ = some (.slice none 0 0) := out.cell 0
                have r1 : W6.cell? ⟨W4.heap.size, 1, none⟩ = some (.slice none 0 0) := out.cell 1
                have s0 : W6.frozen? ⟨W4.heap.size, 0, none⟩ = false := out.free 0
                have s1 : W6.frozen? ⟨W4.heap.size, 1, none⟩ = false := out.free 1
                simp only [rq0, rq1, rq2]
                go_simp
                refine hK.out _ _ ?_ (fun hHeld => ?_)
                · exact ⟨cell_on ((hbx.setCell hoK _).setCell hoK _) c0, cell_on ((hbx.setCell hoK _).setCell hoK _) c1, cell_on ((hbx.setCell hoK _).setCell hoK _) c2, cell_on ((hbx.setCell hoK _).setCell hoK _) c3⟩
                clear hK K
                try simp only [rq0, rq1, rq2, Act.put, rq3, rq4, rq5]
                clear r0 r1 s0 s1
                refine wpAnyH_done (by kernel_rfl) ?_ _
                refine NoPanic.normal ?_
                clear hHeld
                go_wp2_with fail
                go_meet
                exact ⟨_, _, _, _, _, _, _, rfl, by simpa using (out.set 0 (.slice v13a v13m v13c)).set 1 (.slice v20a v20m v20c), (hbx.setCell hoK _).setCell hoK _, own_set (own_set own13 out (by decide)) (out.set 0 _) (by decide), own_set (own_set own20 out (by decide)) (out.set 0 _) (by decide)⟩
            · skip -- 11
              simp only [rq0, rq1, rq2]
              go_simp
              have hoK : w2.heap.size ≤ W3.heap.size := hbx.size
              have hn : Below W3.heap.size W3 (W3.alloc (.cells #[.slice none 0 0, .slice none 0 0] 30)) := (Below.refl _ _).alloc (Nat.le_refl _) _
              replace own13 := ow_below own13 hn
              replace own17 := ow_below own17 hn
              have out := Blk.new W3 30 #[.slice none 0 0, .slice none 0 0]
              have hbn := bt2 hbx hn
              refine hK.out _ _ ?_ (fun hHeld => ?_)
              · exact ⟨cell_on (hbn) c0, cell_on (hbn) c1, cell_on (hbn) c2, cell_on (hbn) c3⟩
              clear hK K
              try simp only [rq0, rq1, rq2, Act.put, rq3, rq4, rq5]
              replace hbx := hbn
              clear hbn hn
              generalize W3.alloc (.cells #[.slice none 0 0, .slice none 0 0] 30) = W4 at hbx own13 own17 out ⊢
              refine wpAnyH_ready (rs := [8]) (by kernel_rfl) (by simp) (AllReadyH.cons (o := _) rfl (fun K hK => ?_) AllReadyH.nil)
              simp only [rq0, rq1, rq2]
              go_simp
              have hn : Below W4.heap.size W4 (W4.alloc (.cells #[.int .i64 x.1, .int .i64 x.2] 41)) := (Below.refl _ _).alloc (Nat.le_refl _) _
              replace own13 := ow_below own13 hn
              replace own17 := ow_below own17 hn
              replace out := out.below hn
              have lit := Blk.new W4 41 #[.int .i64 x.1, .int .i64 x.2]
              have hbn := bt2 hbx hn
              refine hK.out _ _ ?_ (fun hHeld => ?_)
              · exact ⟨cell_on (hbn) c0, cell_on (hbn) c1, cell_on (hbn) c2, cell_on (hbn) c3⟩
              clear hK K
              try simp only [rq0, rq1, rq2, Act.put, rq3, rq4, rq5]
              replace hbx := hbn
              clear hbn hn
              generalize W4.alloc (.cells #[.int .i64 x.1, .int .i64 x.2] 41) = W5 at hbx own13 own17 out lit ⊢
              refine wpAnyH_ready (rs := [9]) (by kernel_rfl) (by simp) (AllReadyH.cons (o := _) rfl (fun K hK => ?_) AllReadyH.nil)
              simp only [rq0, rq1, rq2]
              rw [if_pos (by rfl)]
              obtain ⟨v20, W6, hrun, own20, hg⟩ := app_one W5 w2.heap.size _ _ ws own17 x lit (by omega) hbx.size
              obtain ⟨v20a, v20m, v20c, rfl⟩ := own_form own20
              refine wp_appW (.tmp 17) (.tmp 19) (by rfl) (by rfl) (by rfl) (by rfl) hrun ?_
              clear hrun
              replace hbx := hbx.grown hg hbx.size (fun k hk => ow_ge own17 hk)
              replace own13 := World.ownsRow.kept own13 hg (own_dif own13 own17 (by decide))
              replace out := out.kept hg (fun e => own_blk_ne own17 out (by decide) e.symm)
              clear hg own17 lit
              refine hK.out _ _ ?_ (fun hHeld => ?_)
              · exact ⟨cell_on (hbx) c0, cell_on (hbx) c1, cell_on (hbx) c2, cell_on (hbx) c3⟩
              clear hK K
              try simp only [rq0, rq1, rq2, Act.put, rq3, rq4, rq5]
              refine wpAnyH_take (i := 10) (oi := _) (v := ?_) rfl (by kernel_rfl) (by kernel_rfl) (by kernel_rfl) (fun _ _ _ h => h) (Or.inl ⟨by rfl, ?_⟩) (by assumption) ?_
              rotate_left
              · (intro wS hSw; (try dsimp only at hSw); (try go_split_ands); (simp only [List.getElem_toArray, List.getElem_cons_succ, List.getElem_cons_zero]); go_simp <;> (with_reducible rfl))
              try simp only [List.getElem_toArray, List.getElem_cons_succ, List.getElem_cons_zero, Act.put, List.setIfInBounds_toArray, List.set_cons_zero, List.set_cons_succ]
              refine wpAnyH_ready (rs := [12]) (by kernel_rfl) (by simp) (AllReadyH.cons (o := _) rfl (fun K hK => ?_) AllReadyH.nil)
              have r0 : W6.cell? ⟨W3.heap.size, 0, none⟩ = some (.slice none 0 0) := out.cell 0
              have r1 : W6.cell? ⟨W3.heap.size, 1, none⟩ = some (.slice none 0 0) := out.cell 1
              have s0 : W6.frozen? ⟨W3.heap.size, 0, none⟩ = false := out.free 0
              have s1 : W6.frozen? ⟨W3.heap.size, 1, none⟩ = false := out.free 1
              simp only [rq0, rq1, rq2]
              go_simp
              refine hK.out _ _ ?_ (fun hHeld => ?_)
              · exact ⟨cell_on ((hbx.setCell hoK _).setCell hoK _) c0, cell_on ((hbx.setCell hoK _).setCell hoK _) c1, cell_on ((hbx.setCell hoK _).setCell hoK _) c2, cell_on ((hbx.setCell hoK _).setCell hoK _) c3⟩
              clear hK K
              try simp only [rq0, rq1, rq2, Act.put, rq3, rq4, rq5]
              clear r0 r1 s0 s1
              refine wpAnyH_done (by kernel_rfl) ?_ _
              refine NoPanic.normal ?_
              clear hHeld
              go_wp2_with fail
              go_meet
              exact ⟨_, _, _, _, _, _, _, rfl, by simpa using (out.set 0 (.slice v13a v13m v13c)).set 1 (.slice v20a v20m v20c), (hbx.setCell hoK _).setCell hoK _, own_set (own_set own13 out (by decide)) (out.set 0 _) (by decide), own_set (own_set own20 out (by decide)) (out.set 0 _) (by decide)⟩
          · skip -- 8
            simp only [rq0, rq1, rq2]
            go_simp
            have hne : some (W2.heap.size) ≠ some (W1.heap.size) := by have : W1.heap.size < W2.heap.size := ow_lt own14 rfl; simp; omega
            have hn : Below W2.heap.size W2 (W2.alloc (.cells #[.int .i64 x.1, .int .i64 x.2] 41)) := (Below.refl _ _).alloc (Nat.le_refl _) _
            replace own13 := ow_below own13 hn
            replace own14 := ow_below own14 hn
            have lit := Blk.new W2 41 #[.int .i64 x.1, .int .i64 x.2]
            have hbn := bt2 hbx hn
            refine hK.out _ _ ?_ (fun hHeld => ?_)
            · exact ⟨cell_on (hbn) c0, cell_on (hbn) c1, cell_on (hbn) c2, cell_on (hbn) c3⟩
            clear hK K
            try simp only [rq0, rq1, rq2, Act.put, rq3, rq4, rq5]
            replace hbx := hbn
            clear hbn hn
            generalize W2.alloc (.cells #[.int .i64 x.1, .int .i64 x.2] 41) = W3 at hbx own13 own14 lit ⊢
            refine wpAnyH_ready (rs := [6, 11]) (by kernel_rfl) (by simp) (AllReadyH.cons (o := _) rfl (fun K hK => ?_) (AllReadyH.cons (o := _) rfl (fun K hK => ?_) AllReadyH.nil))
            · skip -- 6
              simp only [rq0, rq1, rq2]
              rw [if_pos (by rfl)]
              obtain ⟨v17, W4, hrun, own17, hg⟩ := app_ws W3 w2.heap.size _ own14 B d ws (hq2.below hbx) (by omega) hbx.size
              obtain ⟨v17a, v17m, v17c, rfl⟩ := own_form own17
              refine wp_appW (.tmp 14) (.tmp 16) (by rfl) (by rfl) (by rfl) (by rfl) hrun ?_
              clear hrun
              replace hbx := hbx.grown hg hbx.size (fun k hk => ow_ge own14 hk)
              replace own13 := World.ownsRow.kept own13 hg (own_dif own13 own14 (by decide))
              replace lit := lit.kept hg (hne)
              clear hg own14 hne
              refine hK.out _ _ ?_ (fun hHeld => ?_)
              · exact ⟨cell_on (hbx) c0, cell_on (hbx) c1, cell_on (hbx) c2, cell_on (hbx) c3⟩
              clear hK K
              try simp only [rq0, rq1, rq2, Act.put, rq3, rq4, rq5]
              refine wpAnyH_ready (rs := [9, 11]) (by kernel_rfl) (by simp) (AllReadyH.cons (o := _) rfl (fun K hK => ?_) (AllReadyH.cons (o := _) rfl (fun K hK => ?_) AllReadyH.nil))
              · skip -- 9
                simp only [rq0, rq1, rq2]
                rw [if_pos (by rfl)]
                obtain ⟨v20, W5, hrun, own20, hg⟩ := app_one W4 w2.heap.size _ _ ws own17 x lit (by omega) hbx.size
                obtain ⟨v20a, v20m, v20c, rfl⟩ := own_form own20
                refine wp_appW (.tmp 17) (.tmp 19) (by rfl) (by rfl) (by rfl) (by rfl) hrun ?_
                clear hrun
                replace hbx := hbx.grown hg hbx.size (fun k hk => ow_ge own17 hk)
                replace own13 := World.ownsRow.kept own13 hg (own_dif own13 own17 (by decide))
                clear hg own17 lit
                refine hK.out _ _ ?_ (fun hHeld => ?_)
                · exact ⟨cell_on (hbx) c0, cell_on (hbx) c1, cell_on (hbx) c2, cell_on (hbx) c3⟩
                clear hK K
                try simp only [rq0, rq1, rq2, Act.put, rq3, rq4, rq5]
                refine wpAnyH_take (i := 10) (oi := _) (v := ?_) rfl (by kernel_rfl) (by kernel_rfl) (by kernel_rfl) (fun _ _ _ h => h) (Or.inl ⟨by rfl, ?_⟩) (by assumption) ?_
                rotate_left
                · (intro wS hSw; (try dsimp only at hSw); (try go_split_ands); (simp only [List.getElem_toArray, List.getElem_cons_succ, List.getElem_cons_zero]); go_simp <;> (with_reducible rfl))
                try simp only [List.getElem_toArray, List.getElem_cons_succ, List.getElem_cons_zero, Act.put, List.setIfInBounds_toArray, List.set_cons_zero, List.set_cons_succ]
                refine wpAnyH_ready (rs := [11]) (by kernel_rfl) (by simp) (AllReadyH.cons (o := _) rfl (fun K hK => ?_) AllReadyH.nil)
                simp only [rq0, rq1, rq2]
                go_simp
                have hoK : w2.heap.size ≤ W5.heap.size := hbx.size
                have hn : Below W5.heap.size W5 (W5.alloc (.cells #[.slice none 0 0, .slice none 0 0] 30)) := (Below.refl _ _).alloc (Nat.le_refl _) _
                replace own13 := ow_below own13 hn
                replace own20 := ow_below own20 hn
                have out := Blk.new W5 30 #[.slice none 0 0, .slice none 0 0]
                have hbn := bt2 hbx hn
                refine hK.out _ _ ?_ (fun hHeld => ?_)
                · exact ⟨cell_on (hbn) c0, cell_on (hbn) c1, cell_on (hbn) c2, cell_on (hbn) c3⟩
                clear hK K
                try simp only [rq0, rq1, rq2, Act.put, rq3, rq4, rq5]
                replace hbx := hbn
                clear hbn hn
                generalize W5.alloc (.cells #[.slice none 0 0, .slice none 0 0] 30) = W6 at hbx own13 own20 out ⊢
                refine wpAnyH_ready (rs := [12]) (by kernel_rfl) (by simp) (AllReadyH.cons (o := _) rfl (fun K hK => ?_) AllReadyH.nil)
                have r0 : W6.cell? ⟨W5.heap.size, 0, none⟩ = some (.slice none 0 0) := out.cell 0
                have r1 : W6.cell? ⟨W5.heap.size, 1, none⟩ = some (.slice none 0 0) := out.cell 1
                have s0 : W6.frozen? ⟨W5.heap.size, 0, none⟩ = false := out.free 0
                have s1 : W6.frozen? ⟨W5.heap.size, 1, none⟩ = false := out.free 1
                simp only [rq0, rq1, rq2]
                go_simp
                refine hK.out _ _ ?_ (fun hHeld => ?_)
                · exact ⟨cell_on ((hbx.setCell hoK _).setCell hoK _) c0, cell_on ((hbx.setCell hoK _).setCell hoK _) c1, cell_on ((hbx.setCell hoK _).setCell hoK _) c2, cell_on ((hbx.setCell hoK _).setCell hoK _) c3⟩
                clear hK K
                try simp only [rq0, rq1, rq2, Act.put, rq3, rq4, rq5]
                clear r0 r1 s0 s1
                refine wpAnyH_done (by kernel_rfl) ?_ _
                refine NoPanic.normal ?_
                clear hHeld
                go_wp2_with fail
                go_meet
                exact ⟨_, _, _, _, _, _, _, rfl, by simpa using (out.set 0 (.slice v13a v13m v13c)).set 1 (.slice v20a v20m v20c), (hbx.setCell hoK _).setCell hoK _, own_set (own_set own13 out (by decide)) (out.set 0 _) (by decide), own_set (own_set own20 out (by decide)) (out.set 0 _) (by decide)⟩
              · skip -- 11
                simp only [rq0, rq1, rq2]
                go_simp
                have hoK : w2.heap.size ≤ W4.heap.size := hbx.size
                have hn : Below W4.heap.size W4 (W4.alloc (.cells #[.slice none 0 0, .slice none 0 0] 30)) := (Below.refl _ _).alloc (Nat.le_refl _) _
                replace own13 := ow_below own13 hn
                replace own17 := ow_below own17 hn
                replace lit := lit.below hn
                have out := Blk.new W4 30 #[.slice none 0 0, .slice none 0 0]
                have hbn := bt2 hbx hn
                refine hK.out _ _ ?_ (fun hHeld => ?_)
                · exact ⟨cell_on (hbn) c0, cell_on (hbn) c1, cell_on (hbn) c2, cell_on (hbn) c3⟩
                clear hK K
                try simp only [rq0, rq1, rq2, Act.put, rq3, rq4, rq5]
                replace hbx := hbn
                clear hbn hn
                generalize W4.alloc (.cells #[.slice none 0 0, .slice none 0 0] 30) = W5 at hbx own13 own17 lit out ⊢
                refine wpAnyH_ready (rs := [9]) (by kernel_rfl) (by simp) (AllReadyH.cons (o := _) rfl (fun K hK => ?_) AllReadyH.nil)
                simp only [rq0, rq1, rq2]
                rw [if_pos (by rfl)]
                obtain ⟨v20, W6, hrun, own20, hg⟩ := app_one W5 w2.heap.size _ _ ws own17 x lit (by omega) hbx.size
                obtain ⟨v20a, v20m, v20c, rfl⟩ := own_form own20
                refine wp_appW (.tmp 17) (.tmp 19) (by rfl) (by rfl) (by rfl) (by rfl) hrun ?_
                clear hrun
                replace hbx := hbx.grown hg hbx.size (fun k hk => ow_ge own17 hk)
                replace own13 := World.ownsRow.kept own13 hg (own_dif own13 own17 (by decide))
                replace out := out.kept hg (fun e => own_blk_ne own17 out (by decide) e.symm)
                clear hg own17 lit
                refine hK.out _ _ ?_ (fun hHeld => ?_)
                · exact ⟨cell_on (hbx) c0, cell_on (hbx) c1, cell_on (hbx) c2, cell_on (hbx) c3⟩
                clear hK K
                try simp only [rq0, rq1, rq2, Act.put, rq3, rq4, rq5]
                refine wpAnyH_take (i := 10) (oi := _) (v := ?_) rfl (by kernel_rfl) (by kernel_rfl) (by kernel_rfl) (fun _ _ _ h => h) (Or.inl ⟨by rfl, ?_⟩) (by assumption) ?_
                rotate_left
                · (intro wS hSw; (try dsimp only at hSw); (try go_split_ands); (simp only [List.getElem_toArray, List.getElem_cons_succ, List.getElem_cons_zero]); go_simp <;> (with_reducible rfl))
                try simp only [List.getElem_toArray, List.getElem_cons_succ, List.getElem_cons_zero, Act.put, List.setIfInBounds_toArray, List.set_cons_zero, List.set_cons_succ]
                refine wpAnyH_ready (rs := [12]) (by kernel_rfl) (by simp) (AllReadyH.cons (o := _) rfl (fun K hK => ?_) AllReadyH.nil)
                have r0 : W6.cell? ⟨W4.heap.size, 0, none⟩ = some (.slice none 0 0) := out.cell 0
                have r1 : W6.cell? ⟨W4.heap.size, 1, none⟩ = some (.slice none 0 0) := out.cell 1
                have s0 : W6.frozen? ⟨W4.heap.size, 0, none⟩ = false := out.free 0
                have s1 : W6.frozen? ⟨W4.heap.size, 1, none⟩ = false := out.free 1
                simp only [rq0, rq1, rq2]
                go_simp
                refine hK.out _ _ ?_ (fun hHeld => ?_)
                · exact ⟨cell_on ((hbx.setCell hoK _).setCell hoK _) c0, cell_on ((hbx.setCell hoK _).setCell hoK _) c1, cell_on ((hbx.setCell hoK _).setCell hoK _) c2, cell_on ((hbx.setCell hoK _).setCell hoK _) c3⟩
                clear hK K
                try simp only [rq0, rq1, rq2, Act.put, rq3, rq4, rq5]
                clear r0 r1 s0 s1
                refine wpAnyH_done (by kernel_rfl) ?_ _
                refine NoPanic.normal ?_
                clear hHeld
                go_wp2_with fail
                go_meet
                exact ⟨_, _, _, _, _, _, _, rfl, by simpa using (out.set 0 (.slice v13a v13m v13c)).set 1 (.slice v20a v20m v20c), (hbx.setCell hoK _).setCell hoK _, own_set (own_set own13 out (by decide)) (out.set 0 _) (by decide), own_set (own_set own20 out (by decide)) (out.set 0 _) (by decide)⟩
            · skip -- 11
              simp only [rq0, rq1, rq2]
              go_simp
              have hoK : w2.heap.size ≤ W3.heap.size := hbx.size
              have hn : Below W3.heap.size W3 (W3.alloc (.cells #[.slice none 0 0, .slice none 0 0] 30)) := (Below.refl _ _).alloc (Nat.le_refl _) _
              replace own13 := ow_below own13 hn
              replace own14 := ow_below own14 hn
              replace lit := lit.below hn
              have out := Blk.new W3 30 #[.slice none 0 0, .slice none 0 0]
              have hbn := bt2 hbx hn
              refine hK.out _ _ ?_ (fun hHeld => ?_)
              · exact ⟨cell_on (hbn) c0, cell_on (hbn) c1, cell_on (hbn) c2, cell_on (hbn) c3⟩
              clear hK K
              try simp only [rq0, rq1, rq2, Act.put, rq3, rq4, rq5]
              replace hbx := hbn
              clear hbn hn
              generalize W3.alloc (.cells #[.slice none 0 0, .slice none 0 0] 30) = W4 at hbx own13 own14 lit out ⊢
              refine wpAnyH_ready (rs := [6]) (by kernel_rfl) (by simp) (AllReadyH.cons (o := _) rfl (fun K hK => ?_) AllReadyH.nil)
              simp only [rq0, rq1, rq2]
              rw [if_pos (by rfl)]
              obtain ⟨v17, W5, hrun, own17, hg⟩ := app_ws W4 w2.heap.size _ own14 B d ws (hq2.below hbx) (by omega) hbx.size
              obtain ⟨v17a, v17m, v17c, rfl⟩ := own_form own17
              refine wp_appW (.tmp 14) (.tmp 16) (by rfl) (by rfl) (by rfl) (by rfl) hrun ?_
              clear hrun
              replace hbx := hbx.grown hg hbx.size (fun k hk => ow_ge own14 hk)
              replace own13 := World.ownsRow.kept own13 hg (own_dif own13 own14 (by decide))
              replace lit := lit.kept hg (hne)
              replace out := out.kept hg (fun e => own_blk_ne own14 out (by decide) e.symm)
              clear hg own14 hne
              refine hK.out _ _ ?_ (fun hHeld => ?_)
              · exact ⟨cell_on (hbx) c0, cell_on (hbx) c1, cell_on (hbx) c2, cell_on (hbx) c3⟩
              clear hK K
              try simp only [rq0, rq1, rq2, Act.put, rq3, rq4, rq5]
              refine wpAnyH_ready (rs := [9]) (by kernel_rfl) (by simp) (AllReadyH.cons (o := _) rfl (fun K hK => ?_) AllReadyH.nil)
              simp only [rq0, rq1, rq2]
              rw [if_pos (by rfl)]
              obtain ⟨v20, W6, hrun, own20, hg⟩ := app_one W5 w2.heap.size _ _ ws own17 x lit (by omega) hbx.size
              obtain ⟨v20a, v20m, v20c, rfl⟩ := own_form own20
              refine wp_appW (.tmp 17) (.tmp 19) (by rfl) (by rfl) (by rfl) (by rfl) hrun ?_
              clear hrun
              replace hbx := hbx.grown hg hbx.size (fun k hk => ow_ge own17 hk)
              replace own13 := World.ownsRow.kept own13 hg (own_dif own13 own17 (by decide))
              replace out := out.kept hg (fun e => own_blk_ne own17 out (by decide) e.symm)
              clear hg own17 lit
              refine hK.out _ _ ?_ (fun hHeld => ?_)
              · exact ⟨cell_on (hbx) c0, cell_on (hbx) c1, cell_on (hbx) c2, cell_on (hbx) c3⟩
              clear hK K
              try simp only [rq0, rq1, rq2, Act.put, rq3, rq4, rq5]
              refine wpAnyH_take (i := 10) (oi := _) (v := ?_) rfl (by kernel_rfl) (by kernel_rfl) (by kernel_rfl) (fun _ _ _ h => h) (Or.inl ⟨by rfl, ?_⟩) (by assumption) ?_
              rotate_left
              · (intro wS hSw; (try dsimp only at hSw); (try go_split_ands); (simp only [List.getElem_toArray, List.getElem_cons_succ, List.getElem_cons_zero]); go_simp <;> (with_reducible rfl))
              try simp only [List.getElem_toArray, List.getElem_cons_succ, List.getElem_cons_zero, Act.put, List.setIfInBounds_toArray, List.set_cons_zero, List.set_cons_succ]
              refine wpAnyH_ready (rs := [12]) (by kernel_rfl) (by simp) (AllReadyH.cons (o := _) rfl (fun K hK => ?_) AllReadyH.nil)
              have r0 : W6.cell? ⟨W3.heap.size, 0, none⟩ = some (.slice none 0 0) := out.cell 0
              have r1 : W6.cell? ⟨W3.heap.size, 1, none⟩ = some (.slice none 0 0) := out.cell 1
              have s0 : W6.frozen? ⟨W3.heap.size, 0, none⟩ = false := out.free 0
              have s1 : W6.frozen? ⟨W3.heap.size, 1, none⟩ = false := out.free 1
              simp only [rq0, rq1, rq2]
              go_simp
              refine hK.out _ _ ?_ (fun hHeld => ?_)
              · exact ⟨cell_on ((hbx.setCell hoK _).setCell hoK _) c0, cell_on ((hbx.setCell hoK _).setCell hoK _) c1, cell_on ((hbx.setCell hoK _).setCell hoK _) c2, cell_on ((hbx.setCell hoK _).setCell hoK _) c3⟩
              clear hK K
              try simp only [rq0, rq1, rq2, Act.put, rq3, rq4, rq5]
              clear r0 r1 s0 s1
              refine wpAnyH_done (by kernel_rfl) ?_ _
              refine NoPanic.normal ?_
              clear hHeld
              go_wp2_with fail
              go_meet
              exact ⟨_, _, _, _, _, _, _, rfl, by simpa using (out.set 0 (.slice v13a v13m v13c)).set 1 (.slice v20a v20m v20c), (hbx.setCell hoK _).setCell hoK _, own_set (own_set own13 out (by decide)) (out.set 0 _) (by decide), own_set (own_set own20 out (by decide)) (out.set 0 _) (by decide)⟩
          · skip -- 11
            simp only [rq0, rq1, rq2]
            go_simp
            have hoK : w2.heap.size ≤ W2.heap.size := hbx.size
            have hn : Below W2.heap.size W2 (W2.alloc (.cells #[.slice none 0 0, .slice none 0 0] 30)) := (Below.refl _ _).alloc (Nat.le_refl _) _
            replace own13 := ow_below own13 hn
            replace own14 := ow_below own14 hn
            have out := Blk.new W2 30 #[.slice none 0 0, .slice none 0 0]
            have hbn := bt2 hbx hn
            refine hK.out _ _ ?_ (fun hHeld => ?_)
            · exact ⟨cell_on (hbn) c0, cell_on (hbn) c1, cell_on (hbn) c2, cell_on (hbn) c3⟩
            clear hK K
            try simp only [rq0, rq1, rq2, Act.put, rq3, rq4, rq5]
            replace hbx := hbn
            clear hbn hn
            generalize W2.alloc (.cells #[.slice none 0 0, .slice none 0 0] 30) = W3 at hbx own13 own14 out ⊢
            refine wpAnyH_ready (rs := [6, 8]) (by kernel_rfl) (by simp) (AllReadyH.cons (o := _) rfl (fun K hK => ?_) (AllReadyH.cons (o := _) rfl (fun K hK => ?_) AllReadyH.nil))
            · skip -- 6
              simp only [rq0, rq1, rq2]
              rw [if_pos (by rfl)]
              obtain ⟨v17, W4, hrun, own17, hg⟩ := app_ws W3 w2.heap.size _ own14 B d ws (hq2.below hbx) (by omega) hbx.size
              obtain ⟨v17a, v17m, v17c, rfl⟩ := own_form own17
              refine wp_appW (.tmp 14) (.tmp 16) (by rfl) (by rfl) (by rfl) (by rfl) hrun ?_
              clear hrun
              replace hbx := hbx.grown hg hbx.size (fun k hk => ow_ge own14 hk)
              replace own13 := World.ownsRow.kept own13 hg (own_dif own13 own14 (by decide))
              replace out := out.kept hg (fun e => own_blk_ne own14 out (by decide) e.symm)
              clear hg own14
              refine hK.out _ _ ?_ (fun hHeld => ?_)
              · exact ⟨cell_on (hbx) c0, cell_on (hbx) c1, cell_on (hbx) c2, cell_on (hbx) c3⟩
              clear hK K
              try simp only [rq0, rq1, rq2, Act.put, rq3, rq4, rq5]
              refine wpAnyH_ready (rs := [8]) (by kernel_rfl) (by simp) (AllReadyH.cons (o := _) rfl (fun K hK => ?_) AllReadyH.nil)
              simp only [rq0, rq1, rq2]
              go_simp
              have hn : Below W4.heap.size W4 (W4.alloc (.cells #[.int .i64 x.1, .int .i64 x.2] 41)) := (Below.refl _ _).alloc (Nat.le_refl _) _
              replace own13 := ow_below own13 hn
              replace own17 := ow_below own17 hn
              replace out := out.below hn
              have lit := Blk.new W4 41 #[.int .i64 x.1, .int .i64 x.2]
              have hbn := bt2 hbx hn
              refine hK.out _ _ ?_ (fun hHeld => ?_)
              · exact ⟨cell_on (hbn) c0, cell_on (hbn) c1, cell_on (hbn) c2, cell_on (hbn) c3⟩
              clear hK K
              try simp only [rq0, rq1, rq2, Act.put, rq3, rq4, rq5]
              replace hbx := hbn
              clear hbn hn
              generalize W4.alloc (.cells #[.int .i64 x.1, .int .i64 x.2] 41) = W5 at hbx own13 own17 out lit ⊢
              refine wpAnyH_ready (rs := [9]) (by kernel_rfl) (by simp) (AllReadyH.cons (o := _) rfl (fun K hK => ?_) AllReadyH.nil)
              simp only [rq0, rq1, rq2]
              rw [if_pos (by rfl)]
              obtain ⟨v20, W6, hrun, own20, hg⟩ := app_one W5 w2.heap.size _ _ ws own17 x lit (by omega) hbx.size
              obtain ⟨v20a, v20m, v20c, rfl⟩ := own_form own20
              refine wp_appW (.tmp 17) (.tmp 19) (by rfl) (by rfl) (by rfl) (by rfl) hrun ?_
              clear hrun
              replace hbx := hbx.grown hg hbx.size (fun k hk => ow_ge own17 hk)
              replace own13 := World.ownsRow.kept own13 hg (own_dif own13 own17 (by decide))
              replace out := out.kept hg (fun e => own_blk_ne own17 out (by decide) e.symm)
              clear hg own17 lit
              refine hK.out _ _ ?_ (fun hHeld => ?_)
              · exact ⟨cell_on (hbx) c0, cell_on (hbx) c1, cell_on (hbx) c2, cell_on (hbx) c3⟩
              clear hK K
              try simp only [rq0, rq1, rq2, Act.put, rq3, rq4, rq5]
              refine wpAnyH_take (i := 10) (oi := _) (v := ?_) rfl (by kernel_rfl) (by kernel_rfl) (by kernel_rfl) (fun _ _ _ h => h) (Or.inl ⟨by rfl, ?_⟩) (by assumption) ?_
              rotate_left
              · (intro wS hSw; (try dsimp only at hSw); (try go_split_ands); (simp only [List.getElem_toArray, List.getElem_cons_succ, List.getElem_cons_zero]); go_simp <;> (with_reducible rfl))
              try simp only [List.getElem_toArray, List.getElem_cons_succ, List.getElem_cons_zero, Act.put, List.setIfInBounds_toArray, List.set_cons_zero, List.set_cons_succ]
              refine wpAnyH_ready (rs := [12]) (by kernel_rfl) (by simp) (AllReadyH.cons (o := _) rfl (fun K hK => ?_) AllReadyH.nil)
              have r0 : W6.cell? ⟨W2.heap.size, 0, none⟩ = some (.slice none 0 0) := out.cell 0
              have r1 : W6.cell? ⟨W2.heap.size, 1, none⟩ = some (.slice none 0 0) := out.cell 1
              have s0 : W6.frozen? ⟨W2.heap.size, 0, none⟩ = false := out.free 0
              have s1 : W6.frozen? ⟨W2.heap.size, 1, none⟩ = false := out.free 1
              simp only [rq0, rq1, rq2]
              go_simp
              refine hK.out _ _ ?_ (fun hHeld => ?_)
              · exact ⟨cell_on ((hbx.setCell hoK _).setCell hoK _) c0, cell_on ((hbx.setCell hoK _).setCell hoK _) c1, cell_on ((hbx.setCell hoK _).setCell hoK _) c2, cell_on ((hbx.setCell hoK _).setCell hoK _) c3⟩
              clear hK K
              try simp only [rq0, rq1, rq2, Act.put, rq3, rq4, rq5]
              clear r0 r1 s0 s1
              refine wpAnyH_done (by kernel_rfl) ?_ _
              refine NoPanic.normal ?_
              clear hHeld
              go_wp2_with fail
              go_meet
              exact ⟨_, _, _, _, _, _, _, rfl, by simpa using (out.set 0 (.slice v13a v13m v13c)).set 1 (.slice v20a v20m v20c), (hbx.setCell hoK _).setCell hoK _, own_set (own_set own13 out (by decide)) (out.set 0 _) (by decide), own_set (own_set own20 out (by decide)) (out.set 0 _) (by decide)⟩
            · skip -- 8
              simp only [rq0, rq1, rq2]
              go_simp
              have hne : some (W3.heap.size) ≠ some (W1.heap.size) := by have : W1.heap.size < W3.heap.size := ow_lt own14 rfl; simp; omega
              have hn : Below W3.heap.size W3 (W3.alloc (.cells #[.int .i64 x.1, .int .i64 x.2] 41)) := (Below.refl _ _).alloc (Nat.le_refl _) _
              replace own13 := ow_below own13 hn
              replace own14 := ow_below own14 hn
              replace out := out.below hn
              have lit := Blk.new W3 41 #[.int .i64 x.1, .int .i64 x.2]
              have hbn := bt2 hbx hn
              refine hK.out _ _ ?_ (fun hHeld => ?_)
              · exact ⟨cell_on (hbn) c0, cell_on (hbn) c1, cell_on (hbn) c2, cell_on (hbn) c3⟩
              clear hK K
              try simp only [rq0, rq1, rq2, Act.put, rq3, rq4, rq5]
              replace hbx := hbn
              clear hbn hn
              generalize W3.alloc (.cells #[.int .i64 x.1, .int .i64 x.2] 41) = W4 at hbx own13 own14 out lit ⊢
              refine wpAnyH_ready (rs := [6]) (by kernel_rfl) (by simp) (AllReadyH.cons (o := _) rfl (fun K hK => ?_) AllReadyH.nil)
              simp only [rq0, rq1, rq2]
              rw [if_pos (by rfl)]
              obtain ⟨v17, W5, hrun, own17, hg⟩ := app_ws W4 w2.heap.size _ own14 B d ws (hq2.below hbx) (by omega) hbx.size
              obtain ⟨v17a, v17m, v17c, rfl⟩ := own_form own17
              refine wp_appW (.tmp 14) (.tmp 16) (by rfl) (by rfl) (by rfl) (by rfl) hrun ?_
              clear hrun
              replace hbx := hbx.grown hg hbx.size (fun k hk => ow_ge own14 hk)
              replace own13 := World.ownsRow.kept own13 hg (own_dif own13 own14 (by decide))
              replace out := out.kept hg (fun e => own_blk_ne own14 out (by decide) e.symm)
              replace lit := lit.kept hg (hne)
              clear hg own14 hne
              refine hK.out _ _ ?_ (fun hHeld => ?_)
              · exact ⟨cell_on (hbx) c0, cell_on (hbx) c1, cell_on (hbx) c2, cell_on (hbx) c3⟩
              clear hK K
              try simp only [rq0, rq1, rq2, Act.put, rq3, rq4, rq5]
              refine wpAnyH_ready (rs := [9]) (by kernel_rfl) (by simp) (AllReadyH.cons (o := _) rfl (fun K hK => ?_) AllReadyH.nil)
              simp only [rq0, rq1, rq2]
              rw [if_pos (by rfl)]
              obtain ⟨v20, W6, hrun, own20, hg⟩ := app_one W5 w2.heap.size _ _ ws own17 x lit (by omega) hbx.size
              obtain ⟨v20a, v20m, v20c, rfl⟩ := own_form own20
              refine wp_appW (.tmp 17) (.tmp 19) (by rfl) (by rfl) (by rfl) (by rfl) hrun ?_
              clear hrun
              replace hbx := hbx.grown hg hbx.size (fun k hk => ow_ge own17 hk)
              replace own13 := World.ownsRow.kept own13 hg (own_dif own13 own17 (by decide))
              replace out := out.kept hg (fun e => own_blk_ne own17 out (by decide) e.symm)
              clear hg own17 lit
              refine hK.out _ _ ?_ (fun hHeld => ?_)
              · exact ⟨cell_on (hbx) c0, cell_on (hbx) c1, cell_on (hbx) c2, cell_on (hbx) c3⟩
              clear hK K
              try simp only [rq0, rq1, rq2, Act.put, rq3, rq4, rq5]
              refine wpAnyH_take (i := 10) (oi := _) (v := ?_) rfl (by kernel_rfl) (by kernel_rfl) (by kernel_rfl) (fun _ _ _ h => h) (Or.inl ⟨by rfl, ?_⟩) (by assumption) ?_
              rotate_left
              · (intro wS hSw; (try dsimp only at hSw); (try go_split_ands); (simp only [List.getElem_toArray, List.getElem_cons_succ, List.getElem_cons_zero]); go_simp <;> (with_reducible rfl))
              try simp only [List.getElem_toArray, List.getElem_cons_succ, List.getElem_cons_zero, Act.put, List.setIfInBounds_toArray, List.set_cons_zero, List.set_cons_succ]
              refine wpAnyH_ready (rs := [12]) (by kernel_rfl) (by simp) (AllReadyH.cons (o := _) rfl (fun K hK => ?_) AllReadyH.nil)
              have r0 : W6.cell? ⟨W2.heap.size, 0, none⟩ = some (.slice none 0 0) := out.cell 0
              have r1 : W6.cell? ⟨W2.heap.size, 1, none⟩ = some (.slice none 0 0) := out.cell 1
              have s0 : W6.frozen? ⟨W2.heap.size, 0, none⟩ = false := out.free 0
              have s1 : W6.frozen? ⟨W2.heap.size, 1, none⟩ = false := out.free 1
              simp only [rq0, rq1, rq2]
              go_simp
              refine hK.out _ _ ?_ (fun hHeld => ?_)
              · exact ⟨cell_on ((hbx.setCell hoK _).setCell hoK _) c0, cell_on ((hbx.setCell hoK _).setCell hoK _) c1, cell_on ((hbx.setCell hoK _).setCell hoK _) c2, cell_on ((hbx.setCell hoK _).setCell hoK _) c3⟩
              clear hK K
              try simp only [rq0, rq1, rq2, Act.put, rq3, rq4, rq5]
              clear r0 r1 s0 s1
              refine wpAnyH_done (by kernel_rfl) ?_ _
              refine NoPanic.normal ?_
              clear hHeld
              go_wp2_with fail
              go_meet
              exact ⟨_, _, _, _, _, _, _, rfl, by simpa using (out.set 0 (.slice v13a v13m v13c)).set 1 (.slice v20a v20m v20c), (hbx.setCell hoK _).setCell hoK _, own_set (own_set own13 out (by decide)) (out.set 0 _) (by decide), own_set (own_set own20 out (by decide)) (out.set 0 _) (by decide)⟩
        · skip -- 8
          simp only [rq0, rq1, rq2]
          go_simp
          have hn : Below W1.heap.size W1 (W1.alloc (.cells #[.int .i64 x.1, .int .i64 x.2] 41)) := (Below.refl _ _).alloc (Nat.le_refl _) _
          replace own13 := ow_below own13 hn
          have lit := Blk.new W1 41 #[.int .i64 x.1, .int .i64 x.2]
          have hbn := bt2 hbx hn
          refine hK.out _ _ ?_ (fun hHeld => ?_)
          · exact ⟨cell_on (hbn) c0, cell_on (hbn) c1, cell_on (hbn) c2, cell_on (hbn) c3⟩
          clear hK K
          try simp only [rq0, rq1, rq2, Act.put, rq3, rq4, rq5]
          replace hbx := hbn
          clear hbn hn
          generalize W1.alloc (.cells #[.int .i64 x.1, .int .i64 x.2] 41) = W2 at hbx own13 lit ⊢
          refine wpAnyH_ready (rs := [3, 11]) (by kernel_rfl) (by simp) (AllReadyH.cons (o := _) rfl (fun K hK => ?_) (AllReadyH.cons (o := _) rfl (fun K hK => ?_) AllReadyH.nil))
          · skip -- 3
            simp only [rq0, rq1, rq2]
            go_simp
            have hne : some (W1.heap.size) ≠ some (W2.heap.size) := by have := lit.lt; simp; omega
            have hn : Below W2.heap.size W2 (W2.alloc (.cells #[] 41)) := (Below.refl _ _).alloc (Nat.le_refl _) _
            replace own13 := ow_below own13 hn
            replace lit := lit.below hn
            have own14 := ow_mono (B' := w2.heap.size) (ow_empty W2 (W2.alloc (.cells #[] 41)) 41 2 (heap_alloc_new _ _)) hbx.size
            have hbn := bt2 hbx hn
            refine hK.out _ _ ?_ (fun hHeld => ?_)
            · exact ⟨cell_on (hbn) c0, cell_on (hbn) c1, cell_on (hbn) c2, cell_on (hbn) c3⟩
            clear hK K
            try simp only [rq0, rq1, rq2, Act.put, rq3, rq4, rq5]
            replace hbx := hbn
            clear hbn hn
            generalize W2.alloc (.cells #[] 41) = W3 at hbx own13 lit own14 ⊢
            refine wpAnyH_ready (rs := [6, 11]) (by kernel_rfl) (by simp) (AllReadyH.cons (o := _) rfl (fun K hK => ?_) (AllReadyH.cons (o := _) rfl (fun K hK => ?_) AllReadyH.nil))
            · skip -- 6
              simp only [rq0, rq1, rq2]
              rw [if_pos (by rfl)]
              obtain ⟨v17, W4, hrun, own17, hg⟩ := app_ws W3 w2.heap.size _ own14 B d ws (hq2.below hbx) (by omega) hbx.size
              obtain ⟨v17a, v17m, v17c, rfl⟩ := own_form own17
              refine wp_appW (.tmp 14) (.tmp 16) (by rfl) (by rfl) (by rfl) (by rfl) hrun ?_
              clear hrun
              replace hbx := hbx.grown hg hbx.size (fun k hk => ow_ge own14 hk)
              replace own13 := World.ownsRow.kept own13 hg (own_dif own13 own14 (by decide))
              replace lit := lit.kept hg (hne)
              clear hg own14 hne
              refine hK.out _ _ ?_ (fun hHeld => ?_)
              · exact ⟨cell_on (hbx) c0, cell_on (hbx) c1, cell_on (hbx) c2, cell_on (hbx) c3⟩
              clear hK K
              try simp only [rq0, rq1, rq2, Act.put, rq3, rq4, rq5]
              refine wpAnyH_ready (rs := [9, 11]) (by kernel_rfl) (by simp) (AllReadyH.cons (o := _) rfl (fun K hK => ?_) (AllReadyH.cons (o := _) rfl (fun K hK => ?_) AllReadyH.nil))
              · skip -- 9
                simp only [rq0, rq1, rq2]
                rw [if_pos (by rfl)]
                obtain ⟨v20, W5, hrun, own20, hg⟩ := app_one W4 w2.heap.size _ _ ws own17 x lit (by omega) hbx.size
                obtain ⟨v20a, v20m, v20c, rfl⟩ := own_form own20
                refine wp_appW (.tmp 17) (.tmp 19) (by rfl) (by rfl) (by rfl) (by rfl) hrun ?_
                clear hrun
                replace hbx := hbx.grown hg hbx.size (fun k hk => ow_ge own17 hk)
                replace own13 := World.ownsRow.kept own13 hg (own_dif own13 own17 (by decide))
                clear hg own17 lit
                refine hK.out _ _ ?_ (fun hHeld => ?_)
                · exact ⟨cell_on (hbx) c0, cell_on (hbx) c1, cell_on (hbx) c2, cell_on (hbx) c3⟩
                clear hK K
                try simp only [rq0, rq1, rq2, Act.put, rq3, rq4, rq5]
                refine wpAnyH_take (i := 10) (oi := _) (v := ?_) rfl (by kernel_rfl) (by kernel_rfl) (by kernel_rfl) (fun _ _ _ h => h) (Or.inl ⟨by rfl, ?_⟩) (by assumption) ?_
                rotate_left
                · (intro wS hSw; (try dsimp only at hSw); (try go_split_ands); (simp only [List.getElem_toArray, List.getElem_cons_succ, List.getElem_cons_zero]); go_simp <;> (with_reducible rfl))
                try simp only [List.getElem_toArray, List.getElem_cons_succ, List.getElem_cons_zero, Act.put, List.setIfInBounds_toArray, List.set_cons_zero, List.set_cons_succ]
                refine wpAnyH_ready (rs := [11]) (by kernel_rfl) (by simp) (AllReadyH.cons (o := _) rfl (fun K hK => ?_) AllReadyH.nil)
                simp only [rq0, rq1, rq2]
                go_simp
                have hoK : w2.heap.size ≤ W5.heap.size := hbx.size
                have hn : Below W5.heap.size W5 (W5.alloc (.cells #[.slice none 0 0, .slice none 0 0] 30)) := (Below.refl _ _).alloc (Nat.le_refl _) _
                replace own13 := ow_below own13 hn
                replace own20 := ow_below own20 hn
                have out := Blk.new W5 30 #[.slice none 0 0, .slice none 0 0]
                have hbn := bt2 hbx hn
                refine hK.out _ _ ?_ (fun hHeld => ?_)
                · exact ⟨cell_on (hbn) c0, cell_on (hbn) c1, cell_on (hbn) c2, cell_on (hbn) c3⟩
                clear hK K
                try simp only [rq0, rq1, rq2, Act.put, rq3, rq4, rq5]
                replace hbx := hbn
                clear hbn hn
                generalize W5.alloc (.cells #[.slice none 0 0, .slice none 0 0] 30) = W6 at hbx own13 own20 out ⊢
                refine wpAnyH_ready (rs := [12]) (by kernel_rfl) (by simp) (AllReadyH.cons (o := _) rfl (fun K hK => ?_) AllReadyH.nil)
                have r0 : W6.cell? ⟨W5.heap.size, 0, none⟩ = some (.slice none 0 0) := out.cell 0
                have r1 : W6.cell? ⟨W5.heap.size, 1, none⟩ = some (.slice none 0 0) := out.cell 1
                have s0 : W6.frozen? ⟨W5.heap.size, 0, none⟩ = false := out.free 0
                have s1 : W6.frozen? ⟨W5.heap.size, 1, none⟩ = false := out.free 1
                simp only [rq0, rq1, rq2]
                go_simp
                refine hK.out _ _ ?_ (fun hHeld => ?_)
                · exact ⟨cell_on ((hbx.setCell hoK _).setCell hoK _) c0, cell_on ((hbx.setCell hoK _).setCell hoK _) c1, cell_on ((hbx.setCell hoK _).setCell hoK _) c2, cell_on ((hbx.setCell hoK _).setCell hoK _) c3⟩
                clear hK K
                try simp only [rq0, rq1, rq2, Act.put, rq3, rq4, rq5]
                clear r0 r1 s0 s1
                refine wpAnyH_done (by kernel_rfl) ?_ _
                refine NoPanic.normal ?_
                clear hHeld
                go_wp2_with fail
                go_meet
                exact ⟨_, _, _, _, _, _, _, rfl, by simpa using (out.set 0 (.slice v13a v13m v13c)).set 1 (.slice v20a v20m v20c), (hbx.setCell hoK _).setCell hoK _, own_set (own_set own13 out (by decide)) (out.set 0 _) (by decide), own_set (own_set own20 out (by decide)) (out.set 0 _) (by decide)⟩
              · skip -- 11
                simp only [rq0, rq1, rq2]
                go_simp
                have hoK : w2.heap.size ≤ W4.heap.size := hbx.size
                have hn : Below W4.heap.size W4 (W4.alloc (.cells #[.slice none 0 0, .slice none 0 0] 30)) := (Below.refl _ _).alloc (Nat.le_refl _) _
                replace own13 := ow_below own13 hn
                replace own17 := ow_below own17 hn
                replace lit := lit.below hn
                have out := Blk.new W4 30 #[.slice none 0 0, .slice none 0 0]
                have hbn := bt2 hbx hn
                refine hK.out _ _ ?_ (fun hHeld => ?_)
                · exact ⟨cell_on (hbn) c0, cell_on (hbn) c1, cell_on (hbn) c2, cell_on (hbn) c3⟩
                clear hK K
                try simp only [rq0, rq1, rq2, Act.put, rq3, rq4, rq5]
                replace hbx := hbn
                clear hbn hn
                generalize W4.alloc (.cells #[.slice none 0 0, .slice none 0 0] 30) = W5 at hbx own13 own17 lit out ⊢
                refine wpAnyH_ready (rs := [9]) (by kernel_rfl) (by simp) (AllReadyH.cons (o := _) rfl (fun K hK => ?_) AllReadyH.nil)
                simp only [rq0, rq1, rq2]
                rw [if_pos (by rfl)]
                obtain ⟨v20, W6, hrun, own20, hg⟩ := app_one W5 w2.heap.size _ _ ws own17 x lit (by omega) hbx.size
                obtain ⟨v20a, v20m, v20c, rfl⟩ := own_form own20
                refine wp_appW (.tmp 17) (.tmp 19) (by rfl) (by rfl) (by rfl) (by rfl) hrun ?_
                clear hrun
                replace hbx := hbx.grown hg hbx.size (fun k hk => ow_ge own17 hk)
                replace own13 := World.ownsRow.kept own13 hg (own_dif own13 own17 (by decide))
                replace out := out.kept hg (fun e => own_blk_ne own17 out (by decide) e.symm)
                clear hg own17 lit
                refine hK.out _ _ ?_ (fun hHeld => ?_)
                · exact ⟨cell_on (hbx) c0, cell_on (hbx) c1, cell_on (hbx) c2, cell_on (hbx) c3⟩
                clear hK K
                try simp only [rq0, rq1, rq2, Act.put, rq3, rq4, rq5]
                refine wpAnyH_take (i := 10) (oi := _) (v := ?_) rfl (by kernel_rfl) (by kernel_rfl) (by kernel_rfl) (fun _ _ _ h => h) (Or.inl ⟨by rfl, ?_⟩) (by assumption) ?_
                rotate_left
                · (intro wS hSw; (try dsimp only at hSw); (try go_split_ands); (simp only [List.getElem_toArray, List.getElem_cons_succ, List.getElem_cons_zero]); go_simp <;> (with_reducible rfl))
                try simp only [List.getElem_toArray, List.getElem_cons_succ, List.getElem_cons_zero, Act.put, List.setIfInBounds_toArray, List.set_cons_zero, List.set_cons_succ]
                refine wpAnyH_ready (rs := [12]) (by kernel_rfl) (by simp) (AllReadyH.cons (o := _) rfl (fun K hK => ?_) AllReadyH.nil)
                have r0 : W6.cell? ⟨W4.heap.size, 0, none⟩ = some (.slice none 0 0) := out.cell 0
                have r1 : W6.cell? ⟨W4.heap.size, 1, none⟩ = some (.slice none 0 0) := out.cell 1
                have s0 : W6.frozen? ⟨W4.heap.size, 0, none⟩ = false := out.free 0
                have s1 : W6.frozen? ⟨W4.heap.size, 1, none⟩ = false := out.free 1
                simp only [rq0, rq1, rq2]
                go_simp
                refine hK.out _ _ ?_ (fun hHeld => ?_)
                · exact ⟨cell_on ((hbx.setCell hoK _).setCell hoK _) c0, cell_on ((hbx.setCell hoK _).setCell hoK _) c1, cell_on ((hbx.setCell hoK _).setCell hoK _) c2, cell_on ((hbx.setCell hoK _).setCell hoK _) c3⟩
                clear hK K
                try simp only [rq0, rq1, rq2, Act.put, rq3, rq4, rq5]
                clear r0 r1 s0 s1
                refine wpAnyH_done (by kernel_rfl) ?_ _
                refine NoPanic.normal ?_
                clear hHeld
                go_wp2_with fail
                go_meet
                exact ⟨_, _, _, _, _, _, _, rfl, by simpa using (out.set 0 (.slice v13a v13m v13c)).set 1 (.slice v20a v20m v20c), (hbx.setCell hoK _).setCell hoK _, own_set (own_set own13 out (by decide)) (out.set 0 _) (by decide), own_set (own_set own20 out (by decide)) (out.set 0 _) (by decide)⟩
            · skip -- 11
              simp only [rq0, rq1, rq2]
              go_simp
              have hoK : w2.heap.size ≤ W3.heap.size := hbx.size
              have hn : Below W3.heap.size W3 (W3.alloc (.cells #[.slice none 0 0, .slice none 0 0] 30)) := (Below.refl _ _).alloc (Nat.le_refl _) _
              replace own13 := ow_below own13 hn
              replace own14 := ow_below own14 hn
              replace lit := lit.below hn
              have out := Blk.new W3 30 #[.slice none 0 0, .slice none 0 0]
              have hbn := bt2 hbx hn
              refine hK.out _ _ ?_ (fun hHeld => ?_)
              · exact ⟨cell_on (hbn) c0, cell_on (hbn) c1, cell_on (hbn) c2, cell_on (hbn) c3⟩
              clear hK K
              try simp only [rq0, rq1, rq2, Act.put, rq3, rq4, rq5]
              replace hbx := hbn
              clear hbn hn
              generalize W3.alloc (.cells #[.slice none 0 0, .slice none 0 0] 30) = W4 at hbx own13 own14 lit out ⊢
              refine wpAnyH_ready (rs := [6]) (by kernel_rfl) (by simp) (AllReadyH.cons (o := _) rfl (fun K hK => ?_) AllReadyH.nil)
              simp only [rq0, rq1, rq2]
              rw [if_pos (by rfl)]
              obtain ⟨v17, W5, hrun, own17, hg⟩ := app_ws W4 w2.heap.size _ own14 B d ws (hq2.below hbx) (by omega) hbx.size
              obtain ⟨v17a, v17m, v17c, rfl⟩ := own_form own17
              refine wp_appW (.tmp 14) (.tmp 16) (by rfl) (by rfl) (by rfl) (by rfl) hrun ?_
              clear hrun
              replace hbx := hbx.grown hg hbx.size (fun k hk => ow_ge own14 hk)
              replace own13 := World.ownsRow.kept own13 hg (own_dif own13 own14 (by decide))
              replace lit := lit.kept hg (hne)
              replace out := out.kept hg (fun e => own_blk_ne own14 out (by decide) e.symm)
              clear hg own14 hne
              refine hK.out _ _ ?_ (fun hHeld => ?_)
              · exact ⟨cell_on (hbx) c0, cell_on (hbx) c1, cell_on (hbx) c2, cell_on (hbx) c3⟩
              clear hK K
              try simp only [rq0, rq1, rq2, Act.put, rq3, rq4, rq5]
              refine wpAnyH_ready (rs := [9]) (by kernel_rfl) (by simp) (AllReadyH.cons (o := _) rfl (fun K hK => ?_) AllReadyH.nil)
              simp only [rq0, rq1, rq2]
              rw [if_pos (by rfl)]
              obtain ⟨v20, W6, hrun, own20, hg⟩ := app_one W5 w2.heap.size _ _ ws own17 x lit (by omega) hbx.size
              obtain ⟨v20a, v20m, v20c, rfl⟩ := own_form own20
              refine wp_appW (.tmp 17) (.tmp 19) (by rfl) (by rfl) (by rfl) (by rfl) hrun ?_
              clear hrun
              replace hbx := hbx.grown hg hbx.size (fun k hk => ow_ge own17 hk)
              replace own13 := World.ownsRow.kept own13 hg (own_dif own13 own17 (by decide))
              replace out := out.kept hg (fun e => own_blk_ne own17 out (by decide) e.symm)
              clear hg own17 lit
              refine hK.out _ _ ?_ (fun hHeld => ?_)
              · exact ⟨cell_on (hbx) c0, cell_on (hbx) c1, cell_on (hbx) c2, cell_on (hbx) c3⟩
              clear hK K
              try simp only [rq0, rq1, rq2, Act.put, rq3, rq4, rq5]
              refine wpAnyH_take (i := 10) (oi := _) (v := ?_) rfl (by kernel_rfl) (by kernel_rfl) (by kernel_rfl) (fun _ _ _ h => h) (Or.inl ⟨by rfl, ?_⟩) (by assumption) ?_
              rotate_left
              · (intro wS hSw; (try dsimp only at hSw); (try go_split_ands); (simp only [List.getElem_toArray, List.getElem_cons_succ, List.getElem_cons_zero]); go_simp <;> (with_reducible rfl))
              try simp only [List.getElem_toArray, List.getElem_cons_succ, List.getElem_cons_zero, Act.put, List.setIfInBounds_toArray, List.set_cons_zero, List.set_cons_succ]
              refine wpAnyH_ready (rs := [12]) (by kernel_rfl) (by simp) (AllReadyH.cons (o := _) rfl (fun K hK => ?_) AllReadyH.nil)
              have r0 : W6.cell? ⟨W3.heap.size, 0, none⟩ = some (.slice none 0 0) := out.cell 0
              have r1 : W6.cell? ⟨W3.heap.size, 1, none⟩ = some (.slice none 0 0) := out.cell 1
              have s0 : W6.frozen? ⟨W3.heap.size, 0, none⟩ = false := out.free 0
              have s1 : W6.frozen? ⟨W3.heap.size, 1, none⟩ = false := out.free 1
              simp only [rq0, rq1, rq2]
              go_simp
              refine hK.out _ _ ?_ (fun hHeld => ?_)
              · exact ⟨cell_on ((hbx.setCell hoK _).setCell hoK _) c0, cell_on ((hbx.setCell hoK _).setCell hoK _) c1, cell_on ((hbx.setCell hoK _).setCell hoK _) c2, cell_on ((hbx.setCell hoK _).setCell hoK _) c3⟩
              clear hK K
              try simp only [rq0, rq1, rq2, Act.put, rq3, rq4, rq5]
              clear r0 r1 s0 s1
              refine wpAnyH_done (by kernel_rfl) ?_ _
              refine NoPanic.normal ?_
              clear hHeld
              go_wp2_with fail
              go_meet
              exact ⟨_, _, _, _, _, _, _, rfl, by simpa using (out.set 0 (.slice v13a v13m v13c)).set 1 (.slice v20a v20m v20c), (hbx.setCell hoK _).setCell hoK _, own_set (own_set own13 out (by decide)) (out.set 0 _) (by decide), own_set (own_set own20 out (by decide)) (out.set 0 _) (by decide)⟩
          · skip -- 11
            simp only [rq0, rq1, rq2]
            go_simp
            have hoK : w2.heap.size ≤ W2.heap.size := hbx.size
            have hn : Below W2.heap.size W2 (W2.alloc (.cells #[.slice none 0 0, .slice none 0 0] 30)) := (Below.refl _ _).alloc (Nat.le_refl _) _
            replace own13 := ow_below own13 hn
            replace lit := lit.below hn
            have out := Blk.new W2 30 #[.slice none 0 0, .slice none 0 0]
            have hbn := bt2 hbx hn
            refine hK.out _ _ ?_ (fun hHeld => ?_)
            · exact ⟨cell_on (hbn) c0, cell_on (hbn) c1, cell_on (hbn) c2, cell_on (hbn) c3⟩
            clear hK K
            try simp only [rq0, rq1, rq2, Act.put, rq3, rq4, rq5]
            replace hbx := hbn
            clear hbn hn
            generalize W2.alloc (.cells #[.slice none 0 0, .slice none 0 0] 30) = W3 at hbx own13 lit out ⊢
            refine wpAnyH_ready (rs := [3]) (by kernel_rfl) (by simp) (AllReadyH.cons (o := _) rfl (fun K hK => ?_) AllReadyH.nil)
            simp only [rq0, rq1, rq2]
            go_simp
            have hne : some (W1.heap.size) ≠ some (W3.heap.size) := by have := lit.lt; simp; omega
            have hn : Below W3.heap.size W3 (W3.alloc (.cells #[] 41)) := (Below.refl _ _).alloc (Nat.le_refl _) _
            replace own13 := ow_below own13 hn
            replace lit := lit.below hn
            replace out := out.below hn
            have own14 := ow_mono (B' := w2.heap.size) (ow_empty W3 (W3.alloc (.cells #[] 41)) 41 2 (heap_alloc_new _ _)) hbx.size
            have hbn := bt2 hbx hn
            refine hK.out _ _ ?_ (fun hHeld => ?_)
            · exact ⟨cell_on (hbn) c0, cell_on (hbn) c1, cell_on (hbn) c2, cell_on (hbn) c3⟩
            clear hK K
            try simp only [rq0, rq1, rq2, Act.put, rq3, rq4, rq5]
            replace hbx := hbn
            clear hbn hn
            generalize W3.alloc (.cells #[] 41) = W4 at hbx own13 lit out own14 ⊢
            refine wpAnyH_ready (rs := [6]) (by kernel_rfl) (by simp) (AllReadyH.cons (o := _) rfl (fun K hK => ?_) AllReadyH.nil)
            simp only [rq0, rq1, rq2]
            rw [if_pos (by rfl)]
            obtain ⟨v17, W5, hrun, own17, hg⟩ := app_ws W4 w2.heap.size _ own14 B d ws (hq2.below hbx) (by omega) hbx.size
            obtain ⟨v17a, v17m, v17c, rfl⟩ := own_form own17
            refine wp_appW (.tmp 14) (.tmp 16) (by rfl) (by rfl) (by rfl) (by rfl) hrun ?_
            clear hrun
            replace hbx := hbx.grown hg hbx.size (fun k hk => ow_ge own14 hk)
            replace own13 := World.ownsRow.kept own13 hg (own_dif own13 own14 (by decide))
            replace lit := lit.kept hg (hne)
            replace out := out.kept hg (fun e => own_blk_ne own14 out (by decide) e.symm)
            clear hg own14 hne
            refine hK.out _ _ ?_ (fun hHeld => ?_)
            · exact ⟨cell_on (hbx) c0, cell_on (hbx) c1, cell_on (hbx) c2, cell_on (hbx) c3⟩
            clear hK K
            try simp only [rq0, rq1, rq2, Act.put, rq3, rq4, rq5]
            refine wpAnyH_ready (rs := [9]) (by kernel_rfl) (by simp) (AllReadyH.cons (o := _) rfl (fun K hK => ?_) AllReadyH.nil)
            simp only [rq0, rq1, rq2]
            rw [if_pos (by rfl)]
            obtain ⟨v20, W6, hrun, own20, hg⟩ := app_one W5 w2.heap.size _ _ ws own17 x lit (by omega) hbx.size
            obtain ⟨v20a, v20m, v20c, rfl⟩ := own_form own20
            refine wp_appW (.tmp 17) (.tmp 19) (by rfl) (by rfl) (by rfl) (by rfl) hrun ?_
            clear hrun
            replace hbx := hbx.grown hg hbx.size (fun k hk => ow_ge own17 hk)
            replace own13 := World.ownsRow.kept own13 hg (own_dif own13 own17 (by decide))
            replace out := out.kept hg (fun e => own_blk_ne own17 out (by decide) e.symm)
            clear hg own17 lit
            refine hK.out _ _ ?_ (fun hHeld => ?_)
            · exact ⟨cell_on (hbx) c0, cell_on (hbx) c1, cell_on (hbx) c2, cell_on (hbx) c3⟩
            clear hK K
            try simp only [rq0, rq1, rq2, Act.put, rq3, rq4, rq5]
            refine wpAnyH_take (i := 10) (oi := _) (v := ?_) rfl (by kernel_rfl) (by kernel_rfl) (by kernel_rfl) (fun _ _ _ h => h) (Or.inl ⟨by rfl, ?_⟩) (by assumption) ?_
            rotate_left
            · (intro wS hSw; (try dsimp only at hSw); (try go_split_ands); (simp only [List.getElem_toArray, List.getElem_cons_succ, List.getElem_cons_zero]); go_simp <;> (with_reducible rfl))
            try simp only [List.getElem_toArray, List.getElem_cons_succ, List.getElem_cons_zero, Act.put, List.setIfInBounds_toArray, List.set_cons_zero, List.set_cons_succ]
            refine wpAnyH_ready (rs := [12]) (by kernel_rfl) (by simp) (AllReadyH.cons (o := _) rfl (fun K hK => ?_) AllReadyH.nil)
            have r0 : W6.cell? ⟨W2.heap.size, 0, none⟩ = some (.slice none 0 0) := out.cell 0
            have r1 : W6.cell? ⟨W2.heap.size, 1, none⟩ = some (.slice none 0 0) := out.cell 1
            have s0 : W6.frozen? ⟨W2.heap.size, 0, none⟩ = false := out.free 0
            have s1 : W6.frozen? ⟨W2.heap.size, 1, none⟩ = false := out.free 1
            simp only [rq0, rq1, rq2]
            go_simp
            refine hK.out _ _ ?_ (fun hHeld => ?_)
            · exact ⟨cell_on ((hbx.setCell hoK _).setCell hoK _) c0, cell_on ((hbx.setCell hoK _).setCell hoK _) c1, cell_on ((hbx.setCell hoK _).setCell hoK _) c2, cell_on ((hbx.setCell hoK _).setCell hoK _) c3⟩
            clear hK K
            try simp only [rq0, rq1, rq2, Act.put, rq3, rq4, rq5]
            clear r0 r1 s0 s1
            refine wpAnyH_done (by kernel_rfl) ?_ _
            refine NoPanic.normal ?_
            clear hHeld
            go_wp2_with fail
            go_meet
            exact ⟨_, _, _, _, _, _, _, rfl, by simpa using (out.set 0 (.slice v13a v13m v13c)).set 1 (.slice v20a v20m v20c), (hbx.setCell hoK _).setCell hoK _, own_set (own_set own13 out (by decide)) (out.set 0 _) (by decide), own_set (own_set own20 out (by decide)) (out.set 0 _) (by decide)⟩
        · skip -- 11
          simp only [rq0, rq1, rq2]
          go_simp
          have hoK : w2.heap.size ≤ W1.heap.size := hbx.size
          have hn : Below W1.heap.size W1 (W1.alloc (.cells #[.slice none 0 0, .slice none 0 0] 30)) := (Below.refl _ _).alloc (Nat.le_refl _) _
          replace own13 := ow_below own13 hn
          have out := Blk.new W1 30 #[.slice none 0 0, .slice none 0 0]
          have hbn := bt2 hbx hn
          refine hK.out _ _ ?_ (fun hHeld => ?_)
          · exact ⟨cell_on (hbn) c0, cell_on (hbn) c1, cell_on (hbn) c2, cell_on (hbn) c3⟩
          clear hK K
          try simp only [rq0, rq1, rq2, Act.put, rq3, rq4, rq5]
          replace hbx := hbn
          clear hbn hn
          generalize W1.alloc (.cells #[.slice none 0 0, .slice none 0 0] 30) = W2 at hbx own13 out ⊢
          refine wpAnyH_ready (rs := [3, 8]) (by kernel_rfl) (by simp) (AllReadyH.cons (o := _) rfl (fun K hK => ?_) (AllReadyH.cons (o := _) rfl (fun K hK => ?_) AllReadyH.nil))
          · skip -- 3
            simp only [rq0, rq1, rq2]
            go_simp
            have hn : Below W2.heap.size W2 (W2.alloc (.cells #[] 41)) := (Below.refl _ _).alloc (Nat.le_refl _) _
            replace own13 := ow_below own13 hn
            replace out := out.below hn
            have own14 := ow_mono (B' := w2.heap.size) (ow_empty W2 (W2.alloc (.cells #[] 41)) 41 2 (heap_alloc_new _ _)) hbx.size
            have hbn := bt2 hbx hn
            refine hK.out _ _ ?_ (fun hHeld => ?_)
            · exact ⟨cell_on (hbn) c0, cell_on (hbn) c1, cell_on (hbn) c2, cell_on (hbn) c3⟩
            clear hK K
            try simp only [rq0, rq1, rq2, Act.put, rq3, rq4, rq5]
            replace hbx := hbn
            clear hbn hn
            generalize W2.alloc (.cells #[] 41) = W3 at hbx own13 out own14 ⊢
            refine wpAnyH_ready (rs := [6, 8]) (by kernel_rfl) (by simp) (AllReadyH.cons (o := _) rfl (fun K hK => ?_) (AllReadyH.cons (o := _) rfl (fun K hK => ?_) AllReadyH.nil))
            · skip -- 6
              simp only [rq0, rq1, rq2]
              rw [if_pos (by rfl)]
              obtain ⟨v17, W4, hrun, own17, hg⟩ := app_ws W3 w2.heap.size _ own14 B d ws (hq2.below hbx) (by omega) hbx.size
              obtain ⟨v17a, v17m, v17c, rfl⟩ := own_form own17
              refine wp_appW (.tmp 14) (.tmp 16) (by rfl) (by rfl) (by rfl) (by rfl) hrun ?_
              clear hrun
              replace hbx := hbx.grown hg hbx.size (fun k hk => ow_ge own14 hk)
              replace own13 := World.ownsRow.kept own13 hg (own_dif own13 own14 (by decide))
              replace out := out.kept hg (fun e => own_blk_ne own14 out (by decide) e.symm)
              clear hg own14
              refine hK.out _ _ ?_ (fun hHeld => ?_)
              · exact ⟨cell_on (hbx) c0, cell_on (hbx) c1, cell_on (hbx) c2, cell_on (hbx) c3⟩
              clear hK K
              try simp only [rq0, rq1, rq2, Act.put, rq3, rq4, rq5]
              refine wpAnyH_ready (rs := [8]) (by kernel_rfl) (by simp) (AllReadyH.cons (o := _) rfl (fun K hK => ?_) AllReadyH.nil)
              simp only [rq0, rq1, rq2]
              go_simp
              have hn : Below W4.heap.size W4 (W4.alloc (.cells #[.int .i64 x.1, .int .i64 x.2] 41)) := (Below.refl _ _).alloc (Nat.le_refl _) _
              replace own13 := ow_below own13 hn
              replace own17 := ow_below own17 hn
              replace out := out.below hn
              have lit := Blk.new W4 41 #[.int .i64 x.1, .int .i64 x.2]
              have hbn := bt2 hbx hn
              refine hK.out _ _ ?_ (fun hHeld => ?_)
              · exact ⟨cell_on (hbn) c0, cell_on (hbn) c1, cell_on (hbn) c2, cell_on (hbn) c3⟩
              clear hK K
              try simp only [rq0, rq1, rq2, Act.put, rq3, rq4, rq5]
              replace hbx := hbn
              clear hbn hn
              generalize W4.alloc (.cells #[.int .i64 x.1, .int .i64 x.2] 41) = W5 at hbx own13 own17 out lit ⊢
              refine wpAnyH_ready (rs := [9]) (by kernel_rfl) (by simp) (AllReadyH.cons (o := _) rfl (fun K hK => ?_) AllReadyH.nil)
              simp only [rq0, rq1, rq2]
              rw [if_pos (by rfl)]
              obtain ⟨v20, W6, hrun, own20, hg⟩ := app_one W5 w2.heap.size _ _ ws own17 x lit (by omega) hbx.size
              obtain ⟨v20a, v20m, v20c, rfl⟩ := own_form own20
              refine wp_appW (.tmp 17) (.tmp 19) (by rfl) (by rfl) (by rfl) (by rfl) hrun ?_
              clear hrun
              replace hbx := hbx.grown hg hbx.size (fun k hk => ow_ge own17 hk)
              replace own13 := World.ownsRow.kept own13 hg (own_dif own13 own17 (by decide))
              replace out := out.kept hg (fun e => own_blk_ne own17 out (by decide) e.symm)
              clear hg own17 lit
              refine hK.out _ _ ?_ (fun hHeld => ?_)
              · exact ⟨cell_on (hbx) c0, cell_on (hbx) c1, cell_on (hbx) c2, cell_on (hbx) c3⟩
              clear hK K
              try simp only [rq0, rq1, rq2, Act.put, rq3, rq4, rq5]
              refine wpAnyH_take (i := 10) (oi := _) (v := ?_) rfl (by kernel_rfl) (by kernel_rfl) (by kernel_rfl) (fun _ _ _ h => h) (Or.inl ⟨by rfl, ?_⟩) (by assumption) ?_
              rotate_left
              · (intro wS hSw; (try dsimp only at hSw); (try go_split_ands); (simp only [List.getElem_toArray, List.getElem_cons_succ, List.getElem_cons_zero]); go_simp <;> (with_reducible rfl))
              try simp only [List.getElem_toArray, List.getElem_cons_succ, List.getElem_cons_zero, Act.put, List.setIfInBounds_toArray, List.set_cons_zero, List.set_cons_succ]
              refine wpAnyH_ready (rs := [12]) (by kernel_rfl) (by simp) (AllReadyH.cons (o := _) rfl (fun K hK => ?_) AllReadyH.nil)
              have r0 : W6.cell? ⟨W1.heap.size, 0, none⟩ = some (.slice none 0 0) := out.cell 0
              have r1 : W6.cell? ⟨W1.heap.size, 1, none⟩ = some (.slice none 0 0) := out.cell 1
              have s0 : W6.frozen? ⟨W1.heap.size, 0, none⟩ = false := out.free 0
              have s1 : W6.frozen? ⟨W1.heap.size, 1, none⟩ = false := out.free 1
              simp only [rq0, rq1, rq2]
              go_simp
              refine hK.out _ _ ?_ (fun hHeld => ?_)
              · exact ⟨cell_on ((hbx.setCell hoK _).setCell hoK _) c0, cell_on ((hbx.setCell hoK _).setCell hoK _) c1, cell_on ((hbx.setCell hoK _).setCell hoK _) c2, cell_on ((hbx.setCell hoK _).setCell hoK _) c3⟩
              clear hK K
              try simp only [rq0, rq1, rq2, Act.put, rq3, rq4, rq5]
              clear r0 r1 s0 s1
              refine wpAnyH_done (by kernel_rfl) ?_ _
              refine NoPanic.normal ?_
              clear hHeld
              go_wp2_with fail
              go_meet
              exact ⟨_, _, _, _, _, _, _, rfl, by simpa using (out.set 0 (.slice v13a v13m v13c)).set 1 (.slice v20a v20m v20c), (hbx.setCell hoK _).setCell hoK _, own_set (own_set own13 out (by decide)) (out.set 0 _) (by decide), own_set (own_set own20 out (by decide)) (out.set 0 _) (by decide)⟩
            · skip -- 8
              simp only [rq0, rq1, rq2]
              go_simp
              have hne : some (W3.heap.size) ≠ some (W2.heap.size) := by have : W2.heap.size < W3.heap.size := ow_lt own14 rfl; simp; omega
              have hn : Below W3.heap.size W3 (W3.alloc (.cells #[.int .i64 x.1, .int .i64 x.2] 41)) := (Below.refl _ _).alloc (Nat.le_refl _) _
              replace own13 := ow_below own13 hn
              replace own14 := ow_below own14 hn
              replace out := out.below hn
              have lit := Blk.new W3 41 #[.int .i64 x.1, .int .i64 x.2]
              have hbn := bt2 hbx hn
              refine hK.out _ _ ?_ (fun hHeld => ?_)
              · exact ⟨cell_on (hbn) c0, cell_on (hbn) c1, cell_on (hbn) c2, cell_on (hbn) c3⟩
              clear hK K
              try simp only [rq0, rq1, rq2, Act.put, rq3, rq4, rq5]
              replace hbx := hbn
              clear hbn hn
              generalize W3.alloc (.cells #[.int .i64 x.1, .int .i64 x.2] 41) = W4 at hbx own13 own14 out lit ⊢
              refine wpAnyH_ready (rs := [6]) (by kernel_rfl) (by simp) (AllReadyH.cons (o := _) rfl (fun K hK => ?_) AllReadyH.nil)
              simp only [rq0, rq1, rq2]
              rw [if_pos (by rfl)]
              obtain ⟨v17, W5, hrun, own17, hg⟩ := app_ws W4 w2.heap.size _ own14 B d ws (hq2.below hbx) (by omega) hbx.size
              obtain ⟨v17a, v17m, v17c, rfl⟩ := own_form own17
              refine wp_appW (.tmp 14) (.tmp 16) (by rfl) (by rfl) (by rfl) (by rfl) hrun ?_
              clear hrun
              replace hbx := hbx.grown hg hbx.size (fun k hk => ow_ge own14 hk)
              replace own13 := World.ownsRow.kept own13 hg (own_dif own13 own14 (by decide))
              replace out := out.kept hg (fun e => own_blk_ne own14 out (by decide) e.symm)
              replace lit := lit.kept hg (hne)
              clear hg own14 hne
              refine hK.out _ _ ?_ (fun hHeld => ?_)
              · exact ⟨cell_on (hbx) c0, cell_on (hbx) c1, cell_on (hbx) c2, cell_on (hbx) c3⟩
              clear hK K
              try simp only [rq0, rq1, rq2, Act.put, rq3, rq4, rq5]
              refine wpAnyH_ready (rs := [9]) (by kernel_rfl) (by simp) (AllReadyH.cons (o := _) rfl (fun K hK => ?_) AllReadyH.nil)
              simp only [rq0, rq1, rq2]
              rw [if_pos (by rfl)]
              obtain ⟨v20, W6, hrun, own20, hg⟩ := app_one W5 w2.heap.size _ _ ws own17 x lit (by omega) hbx.size
              obtain ⟨v20a, v20m, v20c, rfl⟩ := own_form own20
              refine wp_appW (.tmp 17) (.tmp 19) (by rfl) (by rfl) (by rfl) (by rfl) hrun ?_
              clear hrun
              replace hbx := hbx.grown hg hbx.size (fun k hk => ow_ge own17 hk)
              replace own13 := World.ownsRow.kept own13 hg (own_dif own13 own17 (by decide))
              replace out := out.kept hg (fun e => own_blk_ne own17 out (by decide) e.symm)
              clear hg own17 lit
              refine hK.out _ _ ?_ (fun hHeld => ?_)
              · exact ⟨cell_on (hbx) c0, cell_on (hbx) c1, cell_on (hbx) c2, cell_on (hbx) c3⟩
              clear hK K
              try simp only [rq0, rq1, rq2, Act.put, rq3, rq4, rq5]
              refine wpAnyH_take (i := 10) (oi := _) (v := ?_) rfl (by kernel_rfl) (by kernel_rfl) (by kernel_rfl) (fun _ _ _ h => h) (Or.inl ⟨by rfl, ?_⟩) (by assumption) ?_
              rotate_left
              · (intro wS hSw; (try dsimp only at hSw); (try go_split_ands); (simp only [List.getElem_toArray, List.getElem_cons_succ, List.getElem_cons_zero]); go_simp <;> (with_reducible rfl))
              try simp only [List.getElem_toArray, List.getElem_cons_succ, List.getElem_cons_zero, Act.put, List.setIfInBounds_toArray, List.set_cons_zero, List.set_cons_succ]
              refine wpAnyH_ready (rs := [12]) (by kernel_rfl) (by simp) (AllReadyH.cons (o := _) rfl (fun K hK => ?_) AllReadyH.nil)
              have r0 : W6.cell? ⟨W1.heap.size, 0, none⟩ = some (.slice none 0 0) := out.cell 0
              have r1 : W6.cell? ⟨W1.heap.size, 1, none⟩ = some (.slice none 0 0) := out.cell 1
              have s0 : W6.frozen? ⟨W1.heap.size, 0, none⟩ = false := out.free 0
              have s1 : W6.frozen? ⟨W1.heap.size, 1, none⟩ = false := out.free 1
              simp only [rq0, rq1, rq2]
              go_simp
              refine hK.out _ _ ?_ (fun hHeld => ?_)
              · exact ⟨cell_on ((hbx.setCell hoK _).setCell hoK _) c0, cell_on ((hbx.setCell hoK _).setCell hoK _) c1, cell_on ((hbx.setCell hoK _).setCell hoK _) c2, cell_on ((hbx.setCell hoK _).setCell hoK _) c3⟩
              clear hK K
              try simp only [rq0, rq1, rq2, Act.put, rq3, rq4, rq5]
              clear r0 r1 s0 s1
              refine wpAnyH_done (by kernel_rfl) ?_ _
              refine NoPanic.normal ?_
              clear hHeld
              go_wp2_with fail
              go_meet
              exact ⟨_, _, _, _, _, _, _, rfl, by simpa using (out.set 0 (.slice v13a v13m v13c)).set 1 (.slice v20a v20m v20c), (hbx.setCell hoK _).setCell hoK _, own_set (own_set own13 out (by decide)) (out.set 0 _) (by decide), own_set (own_set own20 out (by decide)) (out.set 0 _) (by decide)⟩
          · skip -- 8
            simp only [rq0, rq1, rq2]
            go_simp
            have hn : Below W2.heap.size W2 (W2.alloc (.cells #[.int .i64 x.1, .int .i64 x.2] 41)) := (Below.refl _ _).alloc (Nat.le_refl _) _
            replace own13 := ow_below own13 hn
            replace out := out.below hn
            have lit := Blk.new W2 41 #[.int .i64 x.1, .int .i64 x.2]
            have hbn := bt2 hbx hn
            refine hK.out _ _ ?_ (fun hHeld => ?_)
            · exact ⟨cell_on (hbn) c0, cell_on (hbn) c1, cell_on (hbn) c2, cell_on (hbn) c3⟩
            clear hK K
            try simp only [rq0, rq1, rq2, Act.put, rq3, rq4, rq5]
            replace hbx := hbn
            clear hbn hn
            generalize W2.alloc (.cells #[.int .i64 x.1, .int .i64 x.2] 41) = W3 at hbx own13 out lit ⊢
            refine wpAnyH_ready (rs := [3]) (by kernel_rfl) (by simp) (AllReadyH.cons (o := _) rfl (fun K hK => ?_) AllReadyH.nil)
            simp only [rq0, rq1, rq2]
            go_simp
            have hne : some (W2.heap.size) ≠ some (W3.heap.size) := by have := lit.lt; simp; omega
            have hn : Below W3.heap.size W3 (W3.alloc (.cells #[] 41)) := (Below.refl _ _).alloc (Nat.le_refl _) _
            replace own13 := ow_below own13 hn
            replace out := out.below hn
            replace lit := lit.below hn
            have own14 := ow_mono (B' := w2.heap.size) (ow_empty W3 (W3.alloc (.cells #[] 41)) 41 2 (heap_alloc_new _ _)) hbx.size
            have hbn := bt2 hbx hn
            refine hK.out _ _ ?_ (fun hHeld => ?_)
            · exact ⟨cell_on (hbn) c0, cell_on (hbn) c1, cell_on (hbn) c2, cell_on (hbn) c3⟩
            clear hK K
            try simp only [rq0, rq1, rq2, Act.put, rq3, rq4, rq5]
            replace hbx := hbn
            clear hbn hn
            generalize W3.alloc (.cells #[] 41) = W4 at hbx own13 out lit own14 ⊢
            refine wpAnyH_ready (rs := [6]) (by kernel_rfl) (by simp) (AllReadyH.cons (o := _) rfl (fun K hK => ?_) AllReadyH.nil)
            simp only [rq0, rq1, rq2]
            rw [if_pos (by rfl)]
            obtain ⟨v17, W5, hrun, own17, hg⟩ := app_ws W4 w2.heap.size _ own14 B d ws (hq2.below hbx) (by omega) hbx.size
            obtain ⟨v17a, v17m, v17c, rfl⟩ := own_form own17
            refine wp_appW (.tmp 14) (.tmp 16) (by rfl) (by rfl) (by rfl) (by rfl) hrun ?_
            clear hrun
            replace hbx := hbx.grown hg hbx.size (fun k hk => ow_ge own14 hk)
            replace own13 := World.ownsRow.kept own13 hg (own_dif own13 own14 (by decide))
            replace out := out.kept hg (fun e => own_blk_ne own14 out (by decide) e.symm)
            replace lit := lit.kept hg (hne)
            clear hg own14 hne
            refine hK.out _ _ ?_ (fun hHeld => ?_)
            · exact ⟨cell_on (hbx) c0, cell_on (hbx) c1, cell_on (hbx) c2, cell_on (hbx) c3⟩
            clear hK K
            try simp only [rq0, rq1, rq2, Act.put, rq3, rq4, rq5]
            refine wpAnyH_ready (rs := [9]) (by kernel_rfl) (by simp) (AllReadyH.cons (o := _) rfl (fun K hK => ?_) AllReadyH.nil)
            simp only [rq0, rq1, rq2]
            rw [if_pos (by rfl)]
            obtain ⟨v20, W6, hrun, own20, hg⟩ := app_one W5 w2.heap.size _ _ ws own17 x lit (by omega) hbx.size
            obtain ⟨v20a, v20m, v20c, rfl⟩ := own_form own20
            refine wp_appW (.tmp 17) (.tmp 19) (by rfl) (by rfl) (by rfl) (by rfl) hrun ?_
            clear hrun
            replace hbx := hbx.grown hg hbx.size (fun k hk => ow_ge own17 hk)
            replace own13 := World.ownsRow.kept own13 hg (own_dif own13 own17 (by decide))
            replace out := out.kept hg (fun e => own_blk_ne own17 out (by decide) e.symm)
            clear hg own17 lit
            refine hK.out _ _ ?_ (fun hHeld => ?_)
            · exact ⟨cell_on (hbx) c0, cell_on (hbx) c1, cell_on (hbx) c2, cell_on (hbx) c3⟩
            clear hK K
            try simp only [rq0, rq1, rq2, Act.put, rq3, rq4, rq5]
            refine wpAnyH_take (i := 10) (oi := _) (v := ?_) rfl (by kernel_rfl) (by kernel_rfl) (by kernel_rfl) (fun _ _ _ h => h) (Or.inl ⟨by rfl, ?_⟩) (by assumption) ?_
            rotate_left
            · (intro wS hSw; (try dsimp only at hSw); (try go_split_ands); (simp only [List.getElem_toArray, List.getElem_cons_succ, List.getElem_cons_zero]); go_simp <;> (with_reducible rfl))
            try simp only [List.getElem_toArray, List.getElem_cons_succ, List.getElem_cons_zero, Act.put, List.setIfInBounds_toArray, List.set_cons_zero, List.set_cons_succ]
            refine wpAnyH_ready (rs := [12]) (by kernel_rfl) (by simp) (AllReadyH.cons (o := _) rfl (fun K hK => ?_) AllReadyH.nil)
            have r0 : W6.cell? ⟨W1.heap.size, 0, none⟩ = some (.slice none 0 0) := out.cell 0
            have r1 : W6.cell? ⟨W1.heap.size, 1, none⟩ = some (.slice none 0 0) := out.cell 1
            have s0 : W6.frozen? ⟨W1.heap.size, 0, none⟩ = false := out.free 0
            have s1 : W6.frozen? ⟨W1.heap.size, 1, none⟩ = false := out.free 1
            simp only [rq0, rq1, rq2]
            go_simp
            refine hK.out _ _ ?_ (fun hHeld => ?_)
            · exact ⟨cell_on ((hbx.setCell hoK _).setCell hoK _) c0, cell_on ((hbx.setCell hoK _).setCell hoK _) c1, cell_on ((hbx.setCell hoK _).setCell hoK _) c2, cell_on ((hbx.setCell hoK _).setCell hoK _) c3⟩
            clear hK K
            try simp only [rq0, rq1, rq2, Act.put, rq3, rq4, rq5]
            clear r0 r1 s0 s1
            refine wpAnyH_done (by kernel_rfl) ?_ _
            refine NoPanic.normal ?_
            clear hHeld
            go_wp2_with fail
            go_meet
            exact ⟨_, _, _, _, _, _, _, rfl, by simpa using (out.set 0 (.slice v13a v13m v13c)).set 1 (.slice v20a v20m v20c), (hbx.setCell hoK _).setCell hoK _, own_set (own_set own13 out (by decide)) (out.set 0 _) (by decide), own_set (own_set own20 out (by decide)) (out.set 0 _) (by decide)⟩
      · skip -- 3
        simp only [rq0, rq1, rq2]
        go_simp
        have hn : Below W0.heap.size W0 (W0.alloc (.cells #[] 41)) := (Below.refl _ _).alloc (Nat.le_refl _) _
        have own14 := ow_mono (B' := w2.heap.size) (ow_empty W0 (W0.alloc (.cells #[] 41)) 41 2 (heap_alloc_new _ _)) hbx.size
        have hbn := bt2 hbx hn
        refine hK.out _ _ ?_ (fun hHeld => ?_)
        · exact ⟨cell_on (hbn) c0, cell_on (hbn) c1, cell_on (hbn) c2, cell_on (hbn) c3⟩
        clear hK K
        try simp only [rq0, rq1, rq2, Act.put, rq3, rq4, rq5]
        replace hbx := hbn
        clear hbn hn
        generalize W0.alloc (.cells #[] 41) = W1 at hbx own14 ⊢
        refine wpAnyH_ready (rs := [2, 8, 11]) (by kernel_rfl) (by simp) (AllReadyH.cons (o := _) rfl (fun K hK => ?_) (AllReadyH.cons (o := _) rfl (fun K hK => ?_) (AllReadyH.cons (o := _) rfl (fun K hK => ?_) AllReadyH.nil)))
        · skip -- 2
          simp only [rq0, rq1, rq2]
          go_simp
          (go_at_call 53; refine (ciS _ c xs _ (hr2.below hbx) (by omega)).mono ?_; rintro e W2 ⟨v13, rfl, hn, own13⟩)
          obtain ⟨v13a, v13m, v13c, rfl⟩ := own_form own13
          replace own14 := ow_below own14 hn
          replace own13 := ow_mono (B' := w2.heap.size) own13 hbx.size
          replace hbx := bt2 hbx hn
          clear hn
          refine hK.out _ _ ?_ (fun hHeld => ?_)
          · exact ⟨cell_on (hbx) c0, cell_on (hbx) c1, cell_on (hbx) c2, cell_on (hbx) c3⟩
          clear hK K
          try simp only [rq0, rq1, rq2, Act.put, rq3, rq4, rq5]
          refine wpAnyH_ready (rs := [6, 8, 11]) (by kernel_rfl) (by simp) (AllReadyH.cons (o := _) rfl (fun K hK => ?_) (AllReadyH.cons (o := _) rfl (fun K hK => ?_) (AllReadyH.cons (o := _) rfl (fun K hK => ?_) AllReadyH.nil)))
          · skip -- 6
            simp only [rq0, rq1, rq2]
            rw [if_pos (by rfl)]
            obtain ⟨v17, W3, hrun, own17, hg⟩ := app_ws W2 w2.heap.size _ own14 B d ws (hq2.below hbx) (by omega) hbx.size
            obtain ⟨v17a, v17m, v17c, rfl⟩ := own_form own17
            refine wp_appW (.tmp 14) (.tmp 16) (by rfl) (by rfl) (by rfl) (by rfl) hrun ?_
            clear hrun
            replace hbx := hbx.grown hg hbx.size (fun k hk => ow_ge own14 hk)
            replace own13 := World.ownsRow.kept own13 hg (own_dif own13 own14 (by decide))
            clear hg own14
            refine hK.out _ _ ?_ (fun hHeld => ?_)
            · exact ⟨cell_on (hbx) c0, cell_on (hbx) c1, cell_on (hbx) c2, cell_on (hbx) c3⟩
            clear hK K
            try simp only [rq0, rq1, rq2, Act.put, rq3, rq4, rq5]
            refine wpAnyH_ready (rs := [8, 11]) (by kernel_rfl) (by simp) (AllReadyH.cons (o := _) rfl (fun K hK => ?_) (AllReadyH.cons (o := _) rfl (fun K hK => ?_) AllReadyH.nil))
            · skip -- 8
              simp only [rq0, rq1, rq2]
              go_simp
              have hn : Below W3.heap.size W3 (W3.alloc (.cells #[.int .i64 x.1, .int .i64 x.2] 41)) := (Below.refl _ _).alloc (Nat.le_refl _) _
              replace own13 := ow_below own13 hn
              replace own17 := ow_below own17 hn
              have lit := Blk.new W3 41 #[.int .i64 x.1, .int .i64 x.2]
              have hbn := bt2 hbx hn
              refine hK.out _ _ ?_ (fun hHeld => ?_)
              · exact ⟨cell_on (hbn) c0, cell_on (hbn) c1, cell_on (hbn) c2, cell_on (hbn) c3⟩
              clear hK K
              try simp only [rq0, rq1, rq2, Act.put, rq3, rq4, rq5]
              replace hbx := hbn
              clear hbn hn
              generalize W3.alloc (.cells #[.int .i64 x.1, .int .i64 x.2] 41) = W4 at hbx own13 own17 lit ⊢
              refine wpAnyH_ready (rs := [9, 11]) (by kernel_rfl) (by simp) (AllReadyH.cons (o := _) rfl (fun K hK => ?_) (AllReadyH.cons (o := _) rfl (fun K hK => ?_) AllReadyH.nil))
              · skip -- 9
                simp only [rq0, rq1, rq2]
                rw [if_pos (by rfl)]
                obtain ⟨v20, W5, hrun, own20, hg⟩ := app_one W4 w2.heap.size _ _ ws own17 x lit (by omega) hbx.size
                obtain ⟨v20a, v20m, v20c, rfl⟩ := own_form own20
                refine wp_appW (.tmp 17) (.tmp 19) (by rfl) (by rfl) (by rfl) (by rfl) hrun ?_
                clear hrun
                replace hbx := hbx.grown hg hbx.size (fun k hk => ow_ge own17 hk)
                replace own13 := World.ownsRow.kept own13 hg (own_dif own13 own17 (by decide))
                clear hg own17 lit
                refine hK.out _ _ ?_ (fun hHeld => ?_)
                · exact ⟨cell_on (hbx) c0, cell_on (hbx) c1, cell_on (hbx) c2, cell_on (hbx) c3⟩
                clear hK K
                try simp only [rq0, rq1, rq2, Act.put, rq3, rq4, rq5]
                refine wpAnyH_take (i := 10) (oi := _) (v := ?_) rfl (by kernel_rfl) (by kernel_rfl) (by kernel_rfl) (fun _ _ _ h => h) (Or.inl ⟨by rfl, ?_⟩) (by assumption) ?_
                rotate_left
                · (intro wS hSw; (try dsimp only at hSw); (try go_split_ands); (simp only [List.getElem_toArray, List.getElem_cons_succ, List.getElem_cons_zero]); go_simp <;> (with_reducible rfl))
                try simp only [List.getElem_toArray, List.getElem_cons_succ, List.getElem_cons_zero, Act.put, List.setIfInBounds_toArray, List.set_cons_zero, List.set_cons_succ]
                refine wpAnyH_ready (rs := [11]) (by kernel_rfl) (by simp) (AllReadyH.cons (o := _) rfl (fun K hK => ?_) AllReadyH.nil)
                simp only [rq0, rq1, rq2]
                go_simp
                have hoK : w2.heap.size ≤ W5.heap.size := hbx.size
                have hn : Below W5.heap.size W5 (W5.alloc (.cells #[.slice none 0 0, .slice none 0 0] 30)) := (Below.refl _ _).alloc (Nat.le_refl _) _
                replace own13 := ow_below own13 hn
                replace own20 := ow_below own20 hn
                have out := Blk.new W5 30 #[.slice none 0 0, .slice none 0 0]
                have hbn := bt2 hbx hn
                refine hK.out _ _ ?_ (fun hHeld => ?_)
                · exact ⟨cell_on (hbn) c0, cell_on (hbn) c1, cell_on (hbn) c2, cell_on (hbn) c3⟩
                clear hK K
                try simp only [rq0, rq1, rq2, Act.put, rq3, rq4, rq5]
                replace hbx := hbn
                clear hbn hn
                generalize W5.alloc (.cells #[.slice none 0 0, .slice none 0 0] 30) = W6 at hbx own13 own20 out ⊢
                refine wpAnyH_ready (rs := [12]) (by kernel_rfl) (by simp) (AllReadyH.cons (o := _) rfl (fun K hK => ?_) AllReadyH.nil)
                have r0 : W6.cell? ⟨W5.heap.size, 0, none⟩ = some (.slice none 0 0) := out.cell 0
                have r1 : W6.cell? ⟨W5.heap.size, 1, none⟩ = some (.slice none 0 0) := out.cell 1
                have s0 : W6.frozen? ⟨W5.heap.size, 0, none⟩ = false := out.free 0
                have s1 : W6.frozen? ⟨W5.heap.size, 1, none⟩ = false := out.free 1
                simp only [rq0, rq1, rq2]
                go_simp
                refine hK.out _ _ ?_ (fun hHeld => ?_)
                · exact ⟨cell_on ((hbx.setCell hoK _).setCell hoK _) c0, cell_on ((hbx.setCell hoK _).setCell hoK _) c1, cell_on ((hbx.setCell hoK _).setCell hoK _) c2, cell_on ((hbx.setCell hoK _).setCell hoK _) c3⟩
                clear hK K
                try simp only [rq0, rq1, rq2, Act.put, rq3, rq4, rq5]
                clear r0 r1 s0 s1
                refine wpAnyH_done (by kernel_rfl) ?_ _
                refine NoPanic.normal ?_
                clear hHeld
                go_wp2_with fail
                go_meet
                exact ⟨_, _, _, _, _, _, _, rfl, by simpa using (out.set 0 (.slice v13a v13m v13c)).set 1 (.slice v20a v20m v20c), (hbx.setCell hoK _).setCell hoK _, own_set (own_set own13 out (by decide)) (out.set 0 _) (by decide), own_set (own_set own20 out (by decide)) (out.set 0 _) (by decide)⟩
              · skip -- 11
                simp only [rq0, rq1, rq2]
                go_simp
                have hoK : w2.heap.size ≤ W4.heap.size := hbx.size
                have hn : Below W4.heap.size W4 (W4.alloc (.cells #[.slice none 0 0, .slice none 0 0] 30)) := (Below.refl _ _).alloc (Nat.le_refl _) _
                replace own13 := ow_below own13 hn
                replace own17 := ow_below own17 hn
                replace lit := lit.below hn
                have out := Blk.new W4 30 #[.slice none 0 0, .slice none 0 0]
                have hbn := bt2 hbx hn
                refine hK.out _ _ ?_ (fun hHeld => ?_)
                · exact ⟨cell_on (hbn) c0, cell_on (hbn) c1, cell_on (hbn) c2, cell_on (hbn) c3⟩
                clear hK K
                try simp only [rq0, rq1, rq2, Act.put, rq3, rq4, rq5]
                replace hbx := hbn
                clear hbn hn
                generalize W4.alloc (.cells #[.slice none 0 0, .slice none 0 0] 30) = W5 at hbx own13 own17 lit out ⊢
                refine wpAnyH_ready (rs := [9]) (by kernel_rfl) (by simp) (AllReadyH.cons (o := _) rfl (fun K hK => ?_) AllReadyH.nil)
                simp only [rq0, rq1, rq2]
                rw [if_pos (by rfl)]
                obtain ⟨v20, W6, hrun, own20, hg⟩ := app_one W5 w2.heap.size _ _ ws own17 x lit (by omega) hbx.size
                obtain ⟨v20a, v20m, v20c, rfl⟩ := own_form own20
                refine wp_appW (.tmp 17) (.tmp 19) (by rfl) (by rfl) (by rfl) (by rfl) hrun ?_
                clear hrun
                replace hbx := hbx.grown hg hbx.size (fun k hk => ow_ge own17 hk)
                replace own13 := World.ownsRow.kept own13 hg (own_dif own13 own17 (by decide))
                replace out := out.kept hg (fun e => own_blk_ne own17 out (by decide) e.symm)
                clear hg own17 lit
                refine hK.out _ _ ?_ (fun hHeld => ?_)
                · exact ⟨cell_on (hbx) c0, cell_on (hbx) c1, cell_on (hbx) c2, cell_on (hbx) c3⟩
                clear hK K
                try simp only [rq0, rq1, rq2, Act.put, rq3, rq4, rq5]
                refine wpAnyH_take (i := 10) (oi := _) (v := ?_) rfl (by kernel_rfl) (by kernel_rfl) (by kernel_rfl) (fun _ _ _ h => h) (Or.inl ⟨by rfl, ?_⟩) (by assumption) ?_
                rotate_left
                · (intro wS hSw; (try dsimp only at hSw); (try go_split_ands); (simp only [List.getElem_toArray, List.getElem_cons_succ, List.getElem_cons_zero]); go_simp <;> (with_reducible rfl))
                try simp only [List.getElem_toArray, List.getElem_cons_succ, List.getElem_cons_zero, Act.put, List.setIfInBounds_toArray, List.set_cons_zero, List.set_cons_succ]
                refine wpAnyH_ready (rs := [12]) (by kernel_rfl) (by simp) (AllReadyH.cons (o := _) rfl (fun K hK => ?_) AllReadyH.nil)
                have r0 : W6.cell? ⟨W4.heap.size, 0, none⟩ = some (.slice none 0 0) := out.cell 0
                have r1 : W6.cell? ⟨W4.heap.size, 1, none⟩ = some (.slice none 0 0) := out.cell 1
                have s0 : W6.frozen? ⟨W4.heap.size, 0, none⟩ = false := out.free 0
                have s1 : W6.frozen? ⟨W4.heap.size, 1, none⟩ = false := out.free 1
                simp only [rq0, rq1, rq2]
                go_simp
                refine hK.out _ _ ?_ (fun hHeld => ?_)
                · exact ⟨cell_on ((hbx.setCell hoK _).setCell hoK _) c0, cell_on ((hbx.setCell hoK _).setCell hoK _) c1, cell_on ((hbx.setCell hoK _).setCell hoK _) c2, cell_on ((hbx.setCell hoK _).setCell hoK _) c3⟩
                clear hK K
                try simp only [rq0, rq1, rq2, Act.put, rq3, rq4, rq5]
                clear r0 r1 s0 s1
                refine wpAnyH_done (by kernel_rfl) ?_ _
                refine NoPanic.normal ?_
                clear hHeld
                go_wp2_with fail
                go_meet
                exact ⟨_, _, _, _, _, _, _, rfl, by simpa using (out.set 0 (.slice v13a v13m v13c)).set 1 (.slice v20a v20m v20c), (hbx.setCell hoK _).setCell hoK _, own_set (own_set own13 out (by decide)) (out.set 0 _) (by decide), own_set (own_set own20 out (by decide)) (out.set 0 _) (by decide)⟩
            · skip -- 11
              simp only [rq0, rq1, rq2]
              go_simp
              have hoK : w2.heap.size ≤ W3.heap.size := hbx.size
              have hn : Below W3.heap.size W3 (W3.alloc (.cells #[.slice none 0 0, .slice none 0 0] 30)) := (Below.refl _ _).alloc (Nat.le_refl _) _
              replace own13 := ow_below own13 hn
              replace own17 := ow_below own17 hn
              have out := Blk.new W3 30 #[.slice none 0 0, .slice none 0 0]
              have hbn := bt2 hbx hn
              refine hK.out _ _ ?_ (fun hHeld => ?_)
              · exact ⟨cell_on (hbn) c0, cell_on (hbn) c1, cell_on (hbn) c2, cell_on (hbn) c3⟩
              clear hK K
              try simp only [rq0, rq1, rq2, Act.put, rq3, rq4, rq5]
              replace hbx := hbn
              clear hbn hn
              generalize W3.alloc (.cells #[.slice none 0 0, .slice none 0 0] 30) = W4 at hbx own13 own17 out ⊢
              refine wpAnyH_ready (rs := [8]) (by kernel_rfl) (by simp) (AllReadyH.cons (o := _) rfl (fun K hK => ?_) AllReadyH.nil)
              simp only [rq0, rq1, rq2]
              go_simp
              have hn : Below W4.heap.size W4 (W4.alloc (.cells #[.int .i64 x.1, .int .i64 x.2] 41)) := (Below.refl _ _).alloc (Nat.le_refl _) _
              replace own13 := ow_below own13 hn
              replace own17 := ow_below own17 hn
              replace out := out.below hn
              have lit := Blk.new W4 41 #[.int .i64 x.1, .int .i64 x.2]
              have hbn := bt2 hbx hn
              refine hK.out _ _ ?_ (fun hHeld => ?_)
              · exact ⟨cell_on (hbn) c0, cell_on (hbn) c1, cell_on (hbn) c2, cell_on (hbn) c3⟩
              clear hK K
              try simp only [rq0, rq1, rq2, Act.put, rq3, rq4, rq5]
              replace hbx := hbn
              clear hbn hn
              generalize W4.alloc (.cells #[.int .i64 x.1, .int .i64 x.2] 41) = W5 at hbx own13 own17 out lit ⊢
              refine wpAnyH_ready (rs := [9]) (by kernel_rfl) (by simp) (AllReadyH.cons (o := _) rfl (fun K hK => ?_) AllReadyH.nil)
              simp only [rq0, rq1, rq2]
              rw [if_pos (by rfl)]
              obtain ⟨v20, W6, hrun, own20, hg⟩ := app_one W5 w2.heap.size _ _ ws own17 x lit (by omega) hbx.size
              obtain ⟨v20a, v20m, v20c, rfl⟩ := own_form own20
              refine wp_appW (.tmp 17) (.tmp 19) (by rfl) (by rfl) (by rfl) (by rfl) hrun ?_
              clear hrun
              replace hbx := hbx.grown hg hbx.size (fun k hk => ow_ge own17 hk)
              replace own13 := World.ownsRow.kept own13 hg (own_dif own13 own17 (by decide))
              replace out := out.kept hg (fun e => own_blk_ne own17 out (by decide) e.symm)
              clear hg own17 lit
              refine hK.out _ _ ?_ (fun hHeld => ?_)
              · exact ⟨cell_on (hbx) c0, cell_on (hbx) c1, cell_on (hbx) c2, cell_on (hbx) c3⟩
              clear hK K
              try simp only [rq0, rq1, rq2, Act.put, rq3, rq4, rq5]
              refine wpAnyH_take (i := 10) (oi := _) (v := ?_) rfl (by kernel_rfl) (by kernel_rfl) (by kernel_rfl) (fun _ _ _ h => h) (Or.inl ⟨by rfl, ?_⟩) (by assumption) ?_
              rotate_left
              · (intro wS hSw; (try dsimp only at hSw); (try go_split_ands); (simp only [List.getElem_toArray, List.getElem_cons_succ, List.getElem_cons_zero]); go_simp <;> (with_reducible rfl))
              try simp only [List.getElem_toArray, List.getElem_cons_succ, List.getElem_cons_zero, Act.put, List.setIfInBounds_toArray, List.set_cons_zero, List.set_cons_succ]
              refine wpAnyH_ready (rs := [12]) (by kernel_rfl) (by simp) (AllReadyH.cons (o := _) rfl (fun K hK => ?_) AllReadyH.nil)
              have r0 : W6.cell? ⟨W3.heap.size, 0, none⟩ = some (.slice none 0 0) := out.cell 0
              have r1 : W6.cell? ⟨W3.heap.size, 1, none⟩ = some (.slice none 0 0) := out.cell 1
              have s0 : W6.frozen? ⟨W3.heap.size, 0, none⟩ = false := out.free 0
              have s1 : W6.frozen? ⟨W3.heap.size, 1, none⟩ = false := out.free 1
              simp only [rq0, rq1, rq2]
              go_simp
              refine hK.out _ _ ?_ (fun hHeld => ?_)
              · exact ⟨cell_on ((hbx.setCell hoK _).setCell hoK _) c0, cell_on ((hbx.setCell hoK _).setCell hoK _) c1, cell_on ((hbx.setCell hoK _).setCell hoK _) c2, cell_on ((hbx.setCell hoK _).setCell hoK _) c3⟩
              clear hK K
              try simp only [rq0, rq1, rq2, Act.put, rq3, rq4, rq5]
              clear r0 r1 s0 s1
              refine wpAnyH_done (by kernel_rfl) ?_ _
              refine NoPanic.normal ?_
              clear hHeld
              go_wp2_with fail
              go_meet
              exact ⟨_, _, _, _, _, _, _, rfl, by simpa using (out.set 0 (.slice v13a v13m v13c)).set 1 (.slice v20a v20m v20c), (hbx.setCell hoK _).setCell hoK _, own_set (own_set own13 out (by decide)) (out.set 0 _) (by decide), own_set (own_set own20 out (by decide)) (out.set 0 _) (by decide)⟩
          · skip -- 8
            simp only [rq0, rq1, rq2]
            go_simp
            have hne : some (W2.heap.size) ≠ some (W0.heap.size) := by have : W0.heap.size < W2.heap.size := ow_lt own14 rfl; simp; omega
            have hn : Below W2.heap.size W2 (W2.alloc (.cells #[.int .i64 x.1, .int .i64 x.2] 41)) := (Below.refl _ _).alloc (Nat.le_refl _) _
            replace own14 := ow_below own14 hn
            replace own13 := ow_below own13 hn
            have lit := Blk.new W2 41 #[.int .i64 x.1, .int .i64 x.2]
            have hbn := bt2 hbx hn
            refine hK.out _ _ ?_ (fun hHeld => ?_)
            · exact ⟨cell_on (hbn) c0, cell_on (hbn) c1, cell_on (hbn) c2, cell_on (hbn) c3⟩
            clear hK K
            try simp only [rq0, rq1, rq2, Act.put, rq3, rq4, rq5]
            replace hbx := hbn
            clear hbn hn
            generalize W2.alloc (.cells #[.int .i64 x.1, .int .i64 x.2] 41) = W3 at hbx own14 own13 lit ⊢
            refine wpAnyH_ready (rs := [6, 11]) (by kernel_rfl) (by simp) (AllReadyH.cons (o := _) rfl (fun K hK => ?_) (AllReadyH.cons (o := _) rfl (fun K hK => ?_) AllReadyH.nil))
            · skip -- 6
              simp only [rq0, rq1, rq2]
              rw [if_pos (by rfl)]
              obtain ⟨v17, W4, hrun, own17, hg⟩ := app_ws W3 w2.heap.size _ own14 B d ws (hq2.below hbx) (by omega) hbx.size
              obtain ⟨v17a, v17m, v17c, rfl⟩ := own_form own17
              refine wp_appW (.tmp 14) (.tmp 16) (by rfl) (by rfl) (by rfl) (by rfl) hrun ?_
              clear hrun
              replace hbx := hbx.grown hg hbx.size (fun k hk => ow_ge own14 hk)
              replace own13 := World.ownsRow.kept own13 hg (own_dif own13 own14 (by decide))
              replace lit := lit.kept hg (hne)
              clear hg own14 hne
              refine hK.out _ _ ?_ (fun hHeld => ?_)
              · exact ⟨cell_on (hbx) c0, cell_on (hbx) c1, cell_on (hbx) c2, cell_on (hbx) c3⟩
              clear hK K
              try simp only [rq0, rq1, rq2, Act.put, rq3, rq4, rq5]
              refine wpAnyH_ready (rs := [9, 11]) (by kernel_rfl) (by simp) (AllReadyH.cons (o := _) rfl (fun K hK => ?_) (AllReadyH.cons (o := _) rfl (fun K hK => ?_) AllReadyH.nil))
              · skip -- 9
                simp only [rq0, rq1, rq2]
                rw [if_pos (by rfl)]
                obtain ⟨v20, W5, hrun, own20, hg⟩ := app_one W4 w2.heap.size _ _ ws own17 x lit (by omega) hbx.size
                obtain ⟨v20a, v20m, v20c, rfl⟩ := own_form own20
                refine wp_appW (.tmp 17) (.tmp 19) (by rfl) (by rfl) (by rfl) (by rfl) hrun ?_
                clear hrun
                replace hbx := hbx.grown hg hbx.size (fun k hk => ow_ge own17 hk)
                replace own13 := World.ownsRow.kept own13 hg (own_dif own13 own17 (by decide))
                clear hg own17 lit
                refine hK.out _ _ ?_ (fun hHeld => ?_)
                · exact ⟨cell_on (hbx) c0, cell_on (hbx) c1, cell_on (hbx) c2, cell_on (hbx) c3⟩
                clear hK K
                try simp only [rq0, rq1, rq2, Act.put, rq3, rq4, rq5]
                refine wpAnyH_take (i := 10) (oi := _) (v := ?_) rfl (by kernel_rfl) (by kernel_rfl) (by kernel_rfl) (fun _ _ _ h => h) (Or.inl ⟨by rfl, ?_⟩) (by assumption) ?_
                rotate_left
                · (intro wS hSw; (try dsimp only at hSw); (try go_split_ands); (simp only [List.getElem_toArray, List.getElem_cons_succ, List.getElem_cons_zero]); go_simp <;> (with_reducible rfl))
                try simp only [List.getElem_toArray, List.getElem_cons_succ, List.getElem_cons_zero, Act.put, List.setIfInBounds_toArray, List.set_cons_zero, List.set_cons_succ]
                refine wpAnyH_ready (rs := [11]) (by kernel_rfl) (by simp) (AllReadyH.cons (o := _) rfl (fun K hK => ?_) AllReadyH.nil)
                simp only [rq0, rq1, rq2]
                go_simp
                have hoK : w2.heap.size ≤ W5.heap.size := hbx.size
                have hn : Below W5.heap.size W5 (W5.alloc (.cells #[.slice none 0 0, .slice none 0 0] 30)) := (Below.refl _ _).alloc (Nat.le_refl _) _
                replace own13 := ow_below own13 hn
                replace own20 := ow_below own20 hn
                have out := Blk.new W5 30 #[.slice none 0 0, .slice none 0 0]
                have hbn := bt2 hbx hn
                refine hK.out _ _ ?_ (fun hHeld => ?_)
                · exact ⟨cell_on (hbn) c0, cell_on (hbn) c1, cell_on (hbn) c2, cell_on (hbn) c3⟩
                clear hK K
                try simp only [rq0, rq1, rq2, Act.put, rq3, rq4, rq5]
                replace hbx := hbn
                clear hbn hn
                generalize W5.alloc (.cells #[.slice none 0 0, .slice none 0 0] 30) = W6 at hbx own13 own20 out ⊢
                refine wpAnyH_ready (rs := [12]) (by kernel_rfl) (by simp) (AllReadyH.cons (o := _) rfl (fun K hK => ?_) AllReadyH.nil)
                have r0 : W6.cell? ⟨W5.heap.size, 0, none⟩ = some (.slice none 0 0) := out.cell 0
                have r1 : W6.cell? ⟨W5.heap.size, 1, none⟩ = some (.slice none 0 0) := out.cell 1
                have s0 : W6.frozen? ⟨W5.heap.size, 0, none⟩ = false := out.free 0
                have s1 : W6.frozen? ⟨W5.heap.size, 1, none⟩ = false := out.free 1
                simp only [rq0, rq1, rq2]
                go_simp
                refine hK.out _ _ ?_ (fun hHeld => ?_)
                · exact ⟨cell_on ((hbx.setCell hoK _).setCell hoK _) c0, cell_on ((hbx.setCell hoK _).setCell hoK _) c1, cell_on ((hbx.setCell hoK _).setCell hoK _) c2, cell_on ((hbx.setCell hoK _).setCell hoK _) c3⟩
                clear hK K
                try simp only [rq0, rq1, rq2, Act.put, rq3, rq4, rq5]
                clear r0 r1 s0 s1
                refine wpAnyH_done (by kernel_rfl) ?_ _
                refine NoPanic.normal ?_
                clear hHeld
                go_wp2_with fail
                go_meet
                exact ⟨_, _, _, _, _, _, _, rfl, by simpa using (out.set 0 (.slice v13a v13m v13c)).set 1 (.slice v20a v20m v20c), (hbx.setCell hoK _).setCell hoK _, own_set (own_set own13 out (by decide)) (out.set 0 _) (by decide), own_set (own_set own20 out (by decide)) (out.set 0 _) (by decide)⟩
              · skip -- 11
                simp only [rq0, rq1, rq2]
                go_simp
                have hoK : w2.heap.size ≤ W4.heap.size := hbx.size
                have hn : Below W4.heap.size W4 (W4.alloc (.cells #[.slice none 0 0, .slice none 0 0] 30)) := (Below.refl _ _).alloc (Nat.le_refl _) _
                replace own13 := ow_below own13 hn
                replace own17 := ow_below own17 hn
                replace lit := lit.below hn
                have out := Blk.new W4 30 #[.slice none 0 0, .slice none 0 0]
                have hbn := bt2 hbx hn
                refine hK.out _ _ ?_ (fun hHeld => ?_)
                · exact ⟨cell_on (hbn) c0, cell_on (hbn) c1, cell_on (hbn) c2, cell_on (hbn) c3⟩
                clear hK K
                try simp only [rq0, rq1, rq2, Act.put, rq3, rq4, rq5]
                replace hbx := hbn
                clear hbn hn
                generalize W4.alloc (.cells #[.slice none 0 0, .slice none 0 0] 30) = W5 at hbx own13 own17 lit out ⊢
                refine wpAnyH_ready (rs := [9]) (by kernel_rfl) (by simp) (AllReadyH.cons (o := _) rfl (fun K hK => ?_) AllReadyH.nil)
                simp only [rq0, rq1, rq2]
                rw [if_pos (by rfl)]
                obtain ⟨v20, W6, hrun, own20, hg⟩ := app_one W5 w2.heap.size _ _ ws own17 x lit (by omega) hbx.size
                obtain ⟨v20a, v20m, v20c, rfl⟩ := own_form own20
                refine wp_appW (.tmp 17) (.tmp 19) (by rfl) (by rfl) (by rfl) (by rfl) hrun ?_
                clear hrun
                replace hbx := hbx.grown hg hbx.size (fun k hk => ow_ge own17 hk)
                replace own13 := World.ownsRow.kept own13 hg (own_dif own13 own17 (by decide))
                replace out := out.kept hg (fun e => own_blk_ne own17 out (by decide) e.symm)
                clear hg own17 lit
                refine hK.out _ _ ?_ (fun hHeld => ?_)
                · exact ⟨cell_on (hbx) c0, cell_on (hbx) c1, cell_on (hbx) c2, cell_on (hbx) c3⟩
                clear hK K
                try simp only [rq0, rq1, rq2, Act.put, rq3, rq4, rq5]
                refine wpAnyH_take (i := 10) (oi := _) (v := ?_) rfl (by kernel_rfl) (by kernel_rfl) (by kernel_rfl) (fun _ _ _ h => h) (Or.inl ⟨by rfl, ?_⟩) (by assumption) ?_
                rotate_left
                · (intro wS hSw; (try dsimp only at hSw); (try go_split_ands); (simp only [List.getElem_toArray, List.getElem_cons_succ, List.getElem_cons_zero]); go_simp <;> (with_reducible rfl))
                try simp only [List.getElem_toArray, List.getElem_cons_succ, List.getElem_cons_zero, Act.put, List.setIfInBounds_toArray, List.set_cons_zero, List.set_cons_succ]
                refine wpAnyH_ready (rs := [12]) (by kernel_rfl) (by simp) (AllReadyH.cons (o := _) rfl (fun K hK => ?_) AllReadyH.nil)
                have r0 : W6.cell? ⟨W4.heap.size, 0, none⟩ = some (.slice none 0 0) := out.cell 0
                have r1 : W6.cell? ⟨W4.heap.size, 1, none⟩ = some (.slice none 0 0) := out.cell 1
                have s0 : W6.frozen? ⟨W4.heap.size, 0, none⟩ = false := out.free 0
                have s1 : W6.frozen? ⟨W4.heap.size, 1, none⟩ = false := out.free 1
                simp only [rq0, rq1, rq2]
                go_simp
                refine hK.out _ _ ?_ (fun hHeld => ?_)
                · exact ⟨cell_on ((hbx.setCell hoK _).setCell hoK _) c0, cell_on ((hbx.setCell hoK _).setCell hoK _) c1, cell_on ((hbx.setCell hoK _).setCell hoK _) c2, cell_on ((hbx.setCell hoK _).setCell hoK _) c3⟩
                clear hK K
                try simp only [rq0, rq1, rq2, Act.put, rq3, rq4, rq5]
                clear r0 r1 s0 s1
                refine wpAnyH_done (by kernel_rfl) ?_ _
                refine NoPanic.normal ?_
                clear hHeld
                go_wp2_with fail
                go_meet
                exact ⟨_, _, _, _, _, _, _, rfl, by simpa using (out.set 0 (.slice v13a v13m v13c)).set 1 (.slice v20a v20m v20c), (hbx.setCell hoK _).setCell hoK _, own_set (own_set own13 out (by decide)) (out.set 0 _) (by decide), own_set (own_set own20 out (by decide)) (out.set 0 _) (by decide)⟩
            · skip -- 11
              simp only [rq0, rq1, rq2]
              go_simp
              have hoK : w2.heap.size ≤ W3.heap.size := hbx.size
              have hn : Below W3.heap.size W3 (W3.alloc (.cells #[.slice none 0 0, .slice none 0 0] 30)) := (Below.refl _ _).alloc (Nat.le_refl _) _
              replace own14 := ow_below own14 hn
              replace own13 := ow_below own13 hn
              replace lit := lit.below hn
              have out := Blk.new W3 30 #[.slice none 0 0, .slice none 0 0]
              have hbn := bt2 hbx hn
              refine hK.out _ _ ?_ (fun hHeld => ?_)
              · exact ⟨cell_on (hbn) c0, cell_on (hbn) c1, cell_on (hbn) c2, cell_on (hbn) c3⟩
              clear hK K
              try simp only [rq0, rq1, rq2, Act.put, rq3, rq4, rq5]
              replace hbx := hbn
              clear hbn hn
              generalize W3.alloc (.cells #[.slice none 0 0, .slice none 0 0] 30) = W4 at hbx own14 own13 lit out ⊢
              refine wpAnyH_ready (rs := [6]) (by kernel_rfl) (by simp) (AllReadyH.cons (o := _) rfl (fun K hK => ?_) AllReadyH.nil)
              simp only [rq0, rq1, rq2]
              rw [if_pos (by rfl)]
              obtain ⟨v17, W5, hrun, own17, hg⟩ := app_ws W4 w2.heap.size _ own14 B d ws (hq2.below hbx) (by omega) hbx.size
              obtain ⟨v17a, v17m, v17c, rfl⟩ := own_form own17
              refine wp_appW (.tmp 14) (.tmp 16) (by rfl) (by rfl) (by rfl) (by rfl) hrun ?_
              clear hrun
              replace hbx := hbx.grown hg hbx.size (fun k hk => ow_ge own14 hk)
              replace own13 := World.ownsRow.kept own13 hg (own_dif own13 own14 (by decide))
              replace lit := lit.kept hg (hne)
              replace out := out.kept hg (fun e => own_blk_ne own14 out (by decide) e.symm)
              clear hg own14 hne
              refine hK.out _ _ ?_ (fun hHeld => ?_)
              · exact ⟨cell_on (hbx) c0, cell_on (hbx) c1, cell_on (hbx) c2, cell_on (hbx) c3⟩
              clear hK K
              try simp only [rq0, rq1, rq2, Act.put, rq3, rq4, rq5]
              refine wpAnyH_ready (rs := [9]) (by kernel_rfl) (by simp) (AllReadyH.cons (o := _) rfl (fun K hK => ?_) AllReadyH.nil)
              simp only [rq0, rq1, rq2]
              rw [if_pos (by rfl)]
              obtain ⟨v20, W6, hrun, own20, hg⟩ := app_one W5 w2.heap.size _ _ ws own17 x lit (by omega) hbx.size
              obtain ⟨v20a, v20m, v20c, rfl⟩ := own_form own20
              refine wp_appW (.tmp 17) (.tmp 19) (by rfl) (by rfl) (by rfl) (by rfl) hrun ?_
              clear hrun
              replace hbx := hbx.grown hg hbx.size (fun k hk => ow_ge own17 hk)
              replace own13 := World.ownsRow.kept own13 hg (own_dif own13 own17 (by decide))
              replace out := out.kept hg (fun e => own_blk_ne own17 out (by decide) e.symm)
              clear hg own17 lit
              refine hK.out _ _ ?_ (fun hHeld => ?_)
              · exact ⟨cell_on (hbx) c0, cell_on (hbx) c1, cell_on (hbx) c2, cell_on (hbx) c3⟩
              clear hK K
              try simp only [rq0, rq1, rq2, Act.put, rq3, rq4, rq5]
              refine wpAnyH_take (i := 10) (oi := _) (v := ?_) rfl (by kernel_rfl) (by kernel_rfl) (by kernel_rfl) (fun _ _ _ h => h) (Or.inl ⟨by rfl, ?_⟩) (by assumption) ?_
              rotate_left
              · (intro wS hSw; (try dsimp only at hSw); (try go_split_ands); (simp only [List.getElem_toArray, List.getElem_cons_succ, List.getElem_cons_zero]); go_simp <;> (with_reducible rfl))
              try simp only [List.getElem_toArray, List.getElem_cons_succ, List.getElem_cons_zero, Act.put, List.setIfInBounds_toArray, List.set_cons_zero, List.set_cons_succ]
              refine wpAnyH_ready (rs := [12]) (by kernel_rfl) (by simp) (AllReadyH.cons (o := _) rfl (fun K hK => ?_) AllReadyH.nil)
              have r0 : W6.cell? ⟨W3.heap.size, 0, none⟩ = some (.slice none 0 0) := out.cell 0
              have r1 : W6.cell? ⟨W3.heap.size, 1, none⟩ = some (.slice none 0 0) := out.cell 1
              have s0 : W6.frozen? ⟨W3.heap.size, 0, none⟩ = false := out.free 0
              have s1 : W6.frozen? ⟨W3.heap.size, 1, none⟩ = false := out.free 1
              simp only [rq0, rq1, rq2]
              go_simp
              refine hK.out _ _ ?_ (fun hHeld => ?_)
              · exact ⟨cell_on ((hbx.setCell hoK _).setCell hoK _) c0, cell_on ((hbx.setCell hoK _).setCell hoK _) c1, cell_on ((hbx.setCell hoK _).setCell hoK _) c2, cell_on ((hbx.setCell hoK _).setCell hoK _) c3⟩
              clear hK K
              try simp only [rq0, rq1, rq2, Act.put, rq3, rq4, rq5]
              clear r0 r1 s0 s1
              refine wpAnyH_done (by kernel_rfl) ?_ _
              refine NoPanic.normal ?_
              clear hHeld
              go_wp2_with fail
              go_meet
              exact ⟨_, _, _, _, _, _, _, rfl, by simpa using (out.set 0 (.slice v13a v13m v13c)).set 1 (.slice v20a v20m v20c), (hbx.setCell hoK _).setCell hoK _, own_set (own_set own13 out (by decide)) (out.set 0 _) (by decide), own_set (own_set own20 out (by decide)) (out.set 0 _) (by decide)⟩
          · skip -- 11
            simp only [rq0, rq1, rq2]
            go_simp
            have hoK : w2.heap.size ≤ W2.heap.size := hbx.size
            have hn : Below W2.heap.size W2 (W2.alloc (.cells #[.slice none 0 0, .slice none 0 0] 30)) := (Below.refl _ _).alloc (Nat.le_refl _) _
            replace own14 := ow_below own14 hn
            replace own13 := ow_below own13 hn
            have out := Blk.new W2 30 #[.slice none 0 0, .slice none 0 0]
            have hbn := bt2 hbx hn
            refine hK.out _ _ ?_ (fun hHeld => ?_)
            · exact ⟨cell_on (hbn) c0, cell_on (hbn) c1, cell_on (hbn) c2, cell_on (hbn) c3⟩
            clear hK K
            try simp only [rq0, rq1, rq2, Act.put, rq3, rq4, rq5]
            replace hbx := hbn
            clear hbn hn
            generalize W2.alloc (.cells #[.slice none 0 0, .slice none 0 0] 30) = W3 at hbx own14 own13 out ⊢
            refine wpAnyH_ready (rs := [6, 8]) (by kernel_rfl) (by simp) (AllReadyH.cons (o := _) rfl (fun K hK => ?_) (AllReadyH.cons (o := _) rfl (fun K hK => ?_) AllReadyH.nil))
            · skip -- 6
              simp only [rq0, rq1, rq2]
              rw [if_pos (by rfl)]
              obtain ⟨v17, W4, hrun, own17, hg⟩ := app_ws W3 w2.heap.size _ own14 B d ws (hq2.below hbx) (by omega) hbx.size
              obtain ⟨v17a, v17m, v17c, rfl⟩ := own_form own17
              refine wp_appW (.tmp 14) (.tmp 16) (by rfl) (by rfl) (by rfl) (by rfl) hrun ?_
              clear hrun
              replace hbx := hbx.grown hg hbx.size (fun k hk => ow_ge own14 hk)
              replace own13 := World.ownsRow.kept own13 hg (own_dif own13 own14 (by decide))
              replace out := out.kept hg (fun e => own_blk_ne own14 out (by decide) e.symm)
              clear hg own14
              refine hK.out _ _ ?_ (fun hHeld => ?_)
              · exact ⟨cell_on (hbx) c0, cell_on (hbx) c1, cell_on (hbx) c2, cell_on (hbx) c3⟩
              clear hK K
              try simp only [rq0, rq1, rq2, Act.put, rq3, rq4, rq5]
              refine wpAnyH_ready (rs := [8]) (by kernel_rfl) (by simp) (AllReadyH.cons (o := _) rfl (fun K hK => ?_) AllReadyH.nil)
              simp only [rq0, rq1, rq2]
              go_simp
              have hn : Below W4.heap.size W4 (W4.alloc (.cells #[.int .i64 x.1, .int .i64 x.2] 41)) := (Below.refl _ _).alloc (Nat.le_refl _) _
              replace own13 := ow_below own13 hn
              replace own17 := ow_below own17 hn
              replace out := out.below hn
              have lit := Blk.new W4 41 #[.int .i64 x.1, .int .i64 x.2]
              have hbn := bt2 hbx hn
              refine hK.out _ _ ?_ (fun hHeld => ?_)
              · exact ⟨cell_on (hbn) c0, cell_on (hbn) c1, cell_on (hbn) c2, cell_on (hbn) c3⟩
              clear hK K
              try simp only [rq0, rq1, rq2, Act.put, rq3, rq4, rq5]
              replace hbx := hbn
              clear hbn hn
              generalize W4.alloc (.cells #[.int .i64 x.1, .int .i64 x.2] 41) = W5 at hbx own13 own17 out lit ⊢
              refine wpAnyH_ready (rs := [9]) (by kernel_rfl) (by simp) (AllReadyH.cons (o := _) rfl (fun K hK => ?_) AllReadyH.nil)
              simp only [rq0, rq1, rq2]
              rw [if_pos (by rfl)]
              obtain ⟨v20, W6, hrun, own20, hg⟩ := app_one W5 w2.heap.size _ _ ws own17 x lit (by omega) hbx.size
              obtain ⟨v20a, v20m, v20c, rfl⟩ := own_form own20
              refine wp_appW (.tmp 17) (.tmp 19) (by rfl) (by rfl) (by rfl) (by rfl) hrun ?_
              clear hrun
              replace hbx := hbx.grown hg hbx.size (fun k hk => ow_ge own17 hk)
              replace own13 := World.ownsRow.kept own13 hg (own_dif own13 own17 (by decide))
              replace out := out.kept hg (fun e => own_blk_ne own17 out (by decide) e.symm)
              clear hg own17 lit
              refine hK.out _ _ ?_ (fun hHeld => ?_)
              · exact ⟨cell_on (hbx) c0, cell_on (hbx) c1, cell_on (hbx) c2, cell_on (hbx) c3⟩
              clear hK K
              try simp only [rq0, rq1, rq2, Act.put, rq3, rq4, rq5]
              refine wpAnyH_take (i := 10) (oi := _) (v := ?_) rfl (by kernel_rfl) (by kernel_rfl) (by kernel_rfl) (fun _ _ _ h => h) (Or.inl ⟨by rfl, ?_⟩) (by assumption) ?_
              rotate_left
              · (intro wS hSw; (try dsimp only at hSw); (try go_split_ands); (simp only [List.getElem_toArray, List.getElem_cons_succ, List.getElem_cons_zero]); go_simp <;> (with_reducible rfl))
              try simp only [List.getElem_toArray, List.getElem_cons_succ, List.getElem_cons_zero, Act.put, List.setIfInBounds_toArray, List.set_cons_zero, List.set_cons_succ]
              refine wpAnyH_ready (rs := [12]) (by kernel_rfl) (by simp) (AllReadyH.cons (o := _) rfl (fun K hK => ?_) AllReadyH.nil)
              have r0 : W6.cell? ⟨W2.heap.size, 0, none⟩ = some (.slice none 0 0) := out.cell 0
              have r1 : W6.cell? ⟨W2.heap.size, 1, none⟩ = some (.slice none 0 0) := out.cell 1
              have s0 : W6.frozen? ⟨W2.heap.size, 0, none⟩ = false := out.free 0
              have s1 : W6.frozen? ⟨W2.heap.size, 1, none⟩ = false := out.free 1
              simp only [rq0, rq1, rq2]
              go_simp
              refine hK.out _ _ ?_ (fun hHeld => ?_)
              · exact ⟨cell_on ((hbx.setCell hoK _).setCell hoK _) c0, cell_on ((hbx.setCell hoK _).setCell hoK _) c1, cell_on ((hbx.setCell hoK _).setCell hoK _) c2, cell_on ((hbx.setCell hoK _).setCell hoK _) c3⟩
              clear hK K
              try simp only [rq0, rq1, rq2, Act.put, rq3, rq4, rq5]
              clear r0 r1 s0 s1
              refine wpAnyH_done (by kernel_rfl) ?_ _
              refine NoPanic.normal ?_
              clear hHeld
              go_wp2_with fail
              go_meet
              exact ⟨_, _, _, _, _, _, _, rfl, by simpa using (out.set 0 (.slice v13a v13m v13c)).set 1 (.slice v20a v20m v20c), (hbx.setCell hoK _).setCell hoK _, own_set (own_set own13 out (by decide)) (out.set 0 _) (by decide), own_set (own_set own20 out (by decide)) (out.set 0 _) (by decide)⟩
            · skip -- 8
              simp only [rq0, rq1, rq2]
              go_simp
              have hne : some (W3.heap.size) ≠ some (W0.heap.size) := by have : W0.heap.size < W3.heap.size := ow_lt own14 rfl; simp; omega
              have hn : Below W3.heap.size W3 (W3.alloc (.cells #[.int .i64 x.1, .int .i64 x.2] 41)) := (Below.refl _ _).alloc (Nat.le_refl _) _
              replace own14 := ow_below own14 hn
              replace own13 := ow_below own13 hn
              replace out := out.below hn
              have lit := Blk.new W3 41 #[.int .i64 x.1, .int .i64 x.2]
              have hbn := bt2 hbx hn
              refine hK.out _ _ ?_ (fun hHeld => ?_)
              · exact ⟨cell_on (hbn) c0, cell_on (hbn) c1, cell_on (hbn) c2, cell_on (hbn) c3⟩
              clear hK K
              try simp only [rq0, rq1, rq2, Act.put, rq3, rq4, rq5]
              replace hbx := hbn
              clear hbn hn
              generalize W3.alloc (.cells #[.int .i64 x.1, .int .i64 x.2] 41) = W4 at hbx own14 own13 out lit ⊢
              refine wpAnyH_ready (rs := [6]) (by kernel_rfl) (by simp) (AllReadyH.cons (o := _) rfl (fun K hK => ?_) AllReadyH.nil)
              simp only [rq0, rq1, rq2]
              rw [if_pos (by rfl)]
              obtain ⟨v17, W5, hrun, own17, hg⟩ := app_ws W4 w2.heap.size _ own14 B d ws (hq2.below hbx) (by omega) hbx.size
              obtain ⟨v17a, v17m, v17c, rfl⟩ := own_form own17
              refine wp_appW (.tmp 14) (.tmp 16) (by rfl) (by rfl) (by rfl) (by rfl) hrun ?_
              clear hrun
              replace hbx := hbx.grown hg hbx.size (fun k hk => ow_ge own14 hk)
              replace own13 := World.ownsRow.kept own13 hg (own_dif own13 own14 (by decide))
              replace out := out.kept hg (fun e => own_blk_ne own14 out (by decide) e.symm)
              replace lit := lit.kept hg (hne)
              clear hg own14 hne
              refine hK.out _ _ ?_ (fun hHeld => ?_)
              · exact ⟨cell_on (hbx) c0, cell_on (hbx) c1, cell_on (hbx) c2, cell_on (hbx) c3⟩
              clear hK K
              try simp only [rq0, rq1, rq2, Act.put, rq3, rq4, rq5]
              refine wpAnyH_ready (rs := [9]) (by kernel_rfl) (by simp) (AllReadyH.cons (o := _) rfl (fun K hK => ?_) AllReadyH.nil)
              simp only [rq0, rq1, rq2]
              rw [if_pos (by rfl)]
              obtain ⟨v20, W6, hrun, own20, hg⟩ := app_one W5 w2.heap.size _ _ ws own17 x lit (by omega) hbx.size
              obtain ⟨v20a, v20m, v20c, rfl⟩ := own_form own20
              refine wp_appW (.tmp 17) (.tmp 19) (by rfl) (by rfl) (by rfl) (by rfl) hrun ?_
              clear hrun
              replace hbx := hbx.grown hg hbx.size (fun k hk => ow_ge own17 hk)
              replace own13 := World.ownsRow.kept own13 hg (own_dif own13 own17 (by decide))
              replace out := out.kept hg (fun e => own_blk_ne own17 out (by decide) e.symm)
              clear hg own17 lit
              refine hK.out _ _ ?_ (fun hHeld => ?_)
              · exact ⟨cell_on (hbx) c0, cell_on (hbx) c1, cell_on (hbx) c2, cell_on (hbx) c3⟩
              clear hK K
              try simp only [rq0, rq1, rq2, Act.put, rq3, rq4, rq5]
              refine wpAnyH_take (i := 10) (oi := _) (v := ?_) rfl (by kernel_rfl) (by kernel_rfl) (by kernel_rfl) (fun _ _ _ h => h) (Or.inl ⟨by rfl, ?_⟩) (by assumption) ?_
              rotate_left
              · (intro wS hSw; (try dsimp only at hSw); (try go_split_ands); (simp only [List.getElem_toArray, List.getElem_cons_succ, List.getElem_cons_zero]); go_simp <;> (with_reducible rfl))
              try simp only [List.getElem_toArray, List.getElem_cons_succ, List.getElem_cons_zero, Act.put, List.setIfInBounds_toArray, List.set_cons_zero, List.set_cons_succ]
              refine wpAnyH_ready (rs := [12]) (by kernel_rfl) (by simp) (AllReadyH.cons (o := _) rfl (fun K hK => ?_) AllReadyH.nil)
              have r0 : W6.cell? ⟨W2.heap.size, 0, none⟩ = some (.slice none 0 0) := out.cell 0
              have r1 : W6.cell? ⟨W2.heap.size, 1, none⟩ = some (.slice none 0 0) := out.cell 1
              have s0 : W6.frozen? ⟨W2.heap.size, 0, none⟩ = false := out.free 0
              have s1 : W6.frozen? ⟨W2.heap.size, 1, none⟩ = false := out.free 1
              simp only [rq0, rq1, rq2]
              go_simp
              refine hK.out _ _ ?_ (fun hHeld => ?_)
              · exact ⟨cell_on ((hbx.setCell hoK _).setCell hoK _) c0, cell_on ((hbx.setCell hoK _).setCell hoK _) c1, cell_on ((hbx.setCell hoK _).setCell hoK _) c2, cell_on ((hbx.setCell hoK _).setCell hoK _) c3⟩
              clear hK K
              try simp only [rq0, rq1, rq2, Act.put, rq3, rq4, rq5]
              clear r0 r1 s0 s1
              refine wpAnyH_done (by kernel_rfl) ?_ _
              refine NoPanic.normal ?_
              clear hHeld
              go_wp2_with fail
              go_meet
              exact ⟨_, _, _, _, _, _, _, rfl, by simpa using (out.set 0 (.slice v13a v13m v13c)).set 1 (.slice v20a v20m v20c), (hbx.setCell hoK _).setCell hoK _, own_set (own_set own13 out (by decide)) (out.set 0 _) (by decide), own_set (own_set own20 out (by decide)) (out.set 0 _) (by decide)⟩
        · skip -- 8
          simp only [rq0, rq1, rq2]
          go_simp
          have hne : some (W1.heap.size) ≠ some (W0.heap.size) := by have : W0.heap.size < W1.heap.size := ow_lt own14 rfl; simp; omega
          have hn : Below W1.heap.size W1 (W1.alloc (.cells #[.int .i64 x.1, .int .i64 x.2] 41)) := (Below.refl _ _).alloc (Nat.le_refl _) _
          replace own14 := ow_below own14 hn
          have lit := Blk.new W1 41 #[.int .i64 x.1, .int .i64 x.2]
          have hbn := bt2 hbx hn
          refine hK.out _ _ ?_ (fun hHeld => ?_)
          · exact ⟨cell_on (hbn) c0, cell_on (hbn) c1, cell_on (hbn) c2, cell_on (hbn) c3⟩
          clear hK K
          try simp only [rq0, rq1, rq2, Act.put, rq3, rq4, rq5]
          replace hbx := hbn
          clear hbn hn
          generalize W1.alloc (.cells #[.int .i64 x.1, .int .i64 x.2] 41) = W2 at hbx own14 lit ⊢
          refine wpAnyH_ready (rs := [2, 11]) (by kernel_rfl) (by simp) (AllReadyH.cons (o := _) rfl (fun K hK => ?_) (AllReadyH.cons (o := _) rfl (fun K hK => ?_) AllReadyH.nil))
          · skip -- 2
            simp only [rq0, rq1, rq2]
            go_simp
            (go_at_call 53; refine (ciS _ c xs _ (hr2.below hbx) (by omega)).mono ?_; rintro e W3 ⟨v13, rfl, hn, own13⟩)
            obtain ⟨v13a, v13m, v13c, rfl⟩ := own_form own13
            replace own14 := ow_below own14 hn
            replace lit := lit.below hn
            replace own13 := ow_mono (B' := w2.heap.size) own13 hbx.size
            replace hbx := bt2 hbx hn
            clear hn
            refine hK.out _ _ ?_ (fun hHeld => ?_)
            · exact ⟨cell_on (hbx) c0, cell_on (hbx) c1, cell_on (hbx) c2, cell_on (hbx) c3⟩
            clear hK K
            try simp only [rq0, rq1, rq2, Act.put, rq3, rq4, rq5]
            refine wpAnyH_ready (rs := [6, 11]) (by kernel_rfl) (by simp) (AllReadyH.cons (o := _) rfl (fun K hK => ?_) (AllReadyH.cons (o := _) rfl (fun K hK => ?_) AllReadyH.nil))
            · skip -- 6
              simp only [rq0, rq1, rq2]
              rw [if_pos (by rfl)]
              obtain ⟨v17, W4, hrun, own17, hg⟩ := app_ws W3 w2.heap.size _ own14 B d ws (hq2.below hbx) (by omega) hbx.size
              obtain ⟨v17a, v17m, v17c, rfl⟩ := own_form own17
              refine wp_appW (.tmp 14) (.tmp 16) (by rfl) (by rfl) (by rfl) (by rfl) hrun ?_
              clear hrun
              replace hbx := hbx.grown hg hbx.size (fun k hk => ow_ge own14 hk)
              replace own13 := World.ownsRow.kept own13 hg (own_dif own13 own14 (by decide))
              replace lit := lit.kept hg (hne)
              clear hg own14 hne
              refine hK.out _ _ ?_ (fun hHeld => ?_)
              · exact ⟨cell_on (hbx) c0, cell_on (hbx) c1, cell_on (hbx) c2, cell_on (hbx) c3⟩
              clear hK K
              try simp only [rq0, rq1, rq2, Act.put, rq3, rq4, rq5]
              refine wpAnyH_ready (rs := [9, 11]) (by kernel_rfl) (by simp) (AllReadyH.cons (o := _) rfl (fun K hK => ?_) (AllReadyH.cons (o := _) rfl (fun K hK => ?_) AllReadyH.nil))
              · skip -- 9
                simp only [rq0, rq1, rq2]
                rw [if_pos (by rfl)]
                obtain ⟨v20, W5, hrun, own20, hg⟩ := app_one W4 w2.heap.size _ _ ws own17 x lit (by omega) hbx.size
                obtain ⟨v20a, v20m, v20c, rfl⟩ := own_form own20
                refine wp_appW (.tmp 17) (.tmp 19) (by rfl) (by rfl) (by rfl) (by rfl) hrun ?_
                clear hrun
                replace hbx := hbx.grown hg hbx.size (fun k hk => ow_ge own17 hk)
                replace own13 := World.ownsRow.kept own13 hg (own_dif own13 own17 (by decide))
                clear hg own17 lit
                refine hK.out _ _ ?_ (fun hHeld => ?_)
                · exact ⟨cell_on (hbx) c0, cell_on (hbx) c1, cell_on (hbx) c2, cell_on (hbx) c3⟩
                clear hK K
                try simp only [rq0, rq1, rq2, Act.put, rq3, rq4, rq5]
                refine wpAnyH_take (i := 10) (oi := _) (v := ?_) rfl (by kernel_rfl) (by kernel_rfl) (by kernel_rfl) (fun _ _ _ h => h) (Or.inl ⟨by rfl, ?_⟩) (by assumption) ?_
                rotate_left
                · (intro wS hSw; (try dsimp only at hSw); (try go_split_ands); (simp only [List.getElem_toArray, List.getElem_cons_succ, List.getElem_cons_zero]); go_simp <;> (with_reducible rfl))
                try simp only [List.getElem_toArray, List.getElem_cons_succ, List.getElem_cons_zero, Act.put, List.setIfInBounds_toArray, List.set_cons_zero, List.set_cons_succ]
                refine wpAnyH_ready (rs := [11]) (by kernel_rfl) (by simp) (AllReadyH.cons (o := _) rfl (fun K hK => ?_) AllReadyH.nil)
                simp only [rq0, rq1, rq2]
                go_simp
                have hoK : w2.heap.size ≤ W5.heap.size := hbx.size
                have hn : Below W5.heap.size W5 (W5.alloc (.cells #[.slice none 0 0, .slice none 0 0] 30)) := (Below.refl _ _).alloc (Nat.le_refl _) _
                replace own13 := ow_below own13 hn
                replace own20 := ow_below own20 hn
                have out := Blk.new W5 30 #[.slice none 0 0, .slice none 0 0]
                have hbn := bt2 hbx hn
                refine hK.out _ _ ?_ (fun hHeld => ?_)
                · exact ⟨cell_on (hbn) c0, cell_on (hbn) c1, cell_on (hbn) c2, cell_on (hbn) c3⟩
                clear hK K
                try simp only [rq0, rq1, rq2, Act.put, rq3, rq4, rq5]
                replace hbx := hbn
                clear hbn hn
                generalize W5.alloc (.cells #[.slice none 0 0, .slice none 0 0] 30) = W6 at hbx own13 own20 out ⊢
                refine wpAnyH_ready (rs := [12]) (by kernel_rfl) (by simp) (AllReadyH.cons (o := _) rfl (fun K hK => ?_) AllReadyH.nil)
                have r0 : W6.cell? ⟨W5.heap.size, 0, none⟩ = some (.slice none 0 0) := out.cell 0
                have r1 : W6.cell? ⟨W5.heap.size, 1, none⟩ = some (.slice none 0 0) := out.cell 1
                have s0 : W6.frozen? ⟨W5.heap.size, 0, none⟩ = false := out.free 0
                have s1 : W6.frozen? ⟨W5.heap.size, 1, none⟩ = false := out.free 1
                simp only [rq0, rq1, rq2]
                go_simp
                refine hK.out _ _ ?_ (fun hHeld => ?_)
                · exact ⟨cell_on ((hbx.setCell hoK _).setCell hoK _) c0, cell_on ((hbx.setCell hoK _).setCell hoK _) c1, cell_on ((hbx.setCell hoK _).setCell hoK _) c2, cell_on ((hbx.setCell hoK _).setCell hoK _) c3⟩
                clear hK K
                try simp only [rq0, rq1, rq2, Act.put, rq3, rq4, rq5]
                clear r0 r1 s0 s1
                refine wpAnyH_done (by kernel_rfl) ?_ _
                refine NoPanic.normal ?_
                clear hHeld
                go_wp2_with fail
                go_meet
                exact ⟨_, _, _, _, _, _, _, rfl, by simpa using (out.set 0 (.slice v13a v13m v13c)).set 1 (.slice v20a v20m v20c), (hbx.setCell hoK _).setCell hoK _, own_set (own_set own13 out (by decide)) (out.set 0 _) (by decide), own_set (own_set own20 out (by decide)) (out.set 0 _) (by decide)⟩
              · skip -- 11
                simp only [rq0, rq1, rq2]
                go_simp
                have hoK : w2.heap.size ≤ W4.heap.size := hbx.size
                have hn : Below W4.heap.size W4 (W4.alloc (.cells #[.slice none 0 0, .slice none 0 0] 30)) := (Below.refl _ _).alloc (Nat.le_refl _) _
                replace own13 := ow_below own13 hn
                replace own17 := ow_below own17 hn
                replace lit := lit.below hn
                have out := Blk.new W4 30 #[.slice none 0 0, .slice none 0 0]
                have hbn := bt2 hbx hn
                refine hK.out _ _ ?_ (fun hHeld => ?_)
                · exact ⟨cell_on (hbn) c0, cell_on (hbn) c1, cell_on (hbn) c2, cell_on (hbn) c3⟩
                clear hK K
                try simp only [rq0, rq1, rq2, Act.put, rq3, rq4, rq5]
                replace hbx := hbn
                clear hbn hn
                generalize W4.alloc (.cells #[.slice none 0 0, .slice none 0 0] 30) = W5 at hbx own13 own17 lit out ⊢
                refine wpAnyH_ready (rs := [9]) (by kernel_rfl) (by simp) (AllReadyH.cons (o := _) rfl (fun K hK => ?_) AllReadyH.nil)
                simp only [rq0, rq1, rq2]
                rw [if_pos (by rfl)]
                obtain ⟨v20, W6, hrun, own20, hg⟩ := app_one W5 w2.heap.size _ _ ws own17 x lit (by omega) hbx.size
                obtain ⟨v20a, v20m, v20c, rfl⟩ := own_form own20
                refine wp_appW (.tmp 17) (.tmp 19) (by rfl) (by rfl) (by rfl) (by rfl) hrun ?_
                clear hrun
                replace hbx := hbx.grown hg hbx.size (fun k hk => ow_ge own17 hk)
                replace own13 := World.ownsRow.kept own13 hg (own_dif own13 own17 (by decide))
                replace out := out.kept hg (fun e => own_blk_ne own17 out (by decide) e.symm)
                clear hg own17 lit
                refine hK.out _ _ ?_ (fun hHeld => ?_)
                · exact ⟨cell_on (hbx) c0, cell_on (hbx) c1, cell_on (hbx) c2, cell_on (hbx) c3⟩
                clear hK K
                try simp only [rq0, rq1, rq2, Act.put, rq3, rq4, rq5]
                refine wpAnyH_take (i := 10) (oi := _) (v := ?_) rfl (by kernel_rfl) (by kernel_rfl) (by kernel_rfl) (fun _ _ _ h => h) (Or.inl ⟨by rfl, ?_⟩) (by assumption) ?_
                rotate_left
                · (intro wS hSw; (try dsimp only at hSw); (try go_split_ands); (simp only [List.getElem_toArray, List.getElem_cons_succ, List.getElem_cons_zero]); go_simp <;> (with_reducible rfl))
                try simp only [List.getElem_toArray, List.getElem_cons_succ, List.getElem_cons_zero, Act.put, List.setIfInBounds_toArray, List.set_cons_zero, List.set_cons_succ]
                refine wpAnyH_ready (rs := [12]) (by kernel_rfl) (by simp) (AllReadyH.cons (o := _) rfl (fun K hK => ?_) AllReadyH.nil)
                have r0 : W6.cell? ⟨W4.heap.size, 0, none⟩ = some (.slice none 0 0) := out.cell 0
                have r1 : W6.cell? ⟨W4.heap.size, 1, none⟩ = some (.slice none 0 0) := out.cell 1
                have s0 : W6.frozen? ⟨W4.heap.size, 0, none⟩ = false := out.free 0
                have s1 : W6.frozen? ⟨W4.heap.size, 1, none⟩ = false := out.free 1
                simp only [rq0, rq1, rq2]
                go_simp
                refine hK.out _ _ ?_ (fun hHeld => ?_)
                · exact ⟨cell_on ((hbx.setCell hoK _).setCell hoK _) c0, cell_on ((hbx.setCell hoK _).setCell hoK _) c1, cell_on ((hbx.setCell hoK _).setCell hoK _) c2, cell_on ((hbx.setCell hoK _).setCell hoK _) c3⟩
                clear hK K
                try simp only [rq0, rq1, rq2, Act.put, rq3, rq4, rq5]
                clear r0 r1 s0 s1
                refine wpAnyH_done (by kernel_rfl) ?_ _
                refine NoPanic.normal ?_
                clear hHeld
                go_wp2_with fail
                go_meet
                exact ⟨_, _, _, _, _, _, _, rfl, by simpa using (out.set 0 (.slice v13a v13m v13c)).set 1 (.slice v20a v20m v20c), (hbx.setCell hoK _).setCell hoK _, own_set (own_set own13 out (by decide)) (out.set 0 _) (by decide), own_set (own_set own20 out (by decide)) (out.set 0 _) (by decide)⟩
            · skip -- 11
              simp only [rq0, rq1, rq2]
              go_simp
              have hoK : w2.heap.size ≤ W3.heap.size := hbx.size
              have hn : Below W3.heap.size W3 (W3.alloc (.cells #[.slice none 0 0, .slice none 0 0] 30)) := (Below.refl _ _).alloc (Nat.le_refl _) _
              replace own14 := ow_below own14 hn
              replace own13 := ow_below own13 hn
              replace lit := lit.below hn
              have out := Blk.new W3 30 #[.slice none 0 0, .slice none 0 0]
              have hbn := bt2 hbx hn
              refine hK.out _ _ ?_ (fun hHeld => ?_)
              · exact ⟨cell_on (hbn) c0, cell_on (hbn) c1, cell_on (hbn) c2, cell_on (hbn) c3⟩
              clear hK K
              try simp only [rq0, rq1, rq2, Act.put, rq3, rq4, rq5]
              replace hbx := hbn
              clear hbn hn
              generalize W3.alloc (.cells #[.slice none 0 0, .slice none 0 0] 30) = W4 at hbx own14 own13 lit out ⊢
              refine wpAnyH_ready (rs := [6]) (by kernel_rfl) (by simp) (AllReadyH.cons (o := _) rfl (fun K hK => ?_) AllReadyH.nil)
              simp only [rq0, rq1, rq2]
              rw [if_pos (by rfl)]
              obtain ⟨v17, W5, hrun, own17, hg⟩ := app_ws W4 w2.heap.size _ own14 B d ws (hq2.below hbx) (by omega) hbx.size
              obtain ⟨v17a, v17m, v17c, rfl⟩ := own_form own17
              refine wp_appW (.tmp 14) (.tmp 16) (by rfl) (by rfl) (by rfl) (by rfl) hrun ?_
              clear hrun
              replace hbx := hbx.grown hg hbx.size (fun k hk => ow_ge own14 hk)
              replace own13 := World.ownsRow.kept own13 hg (own_dif own13 own14 (by decide))
              replace lit := lit.kept hg (hne)
              replace out := out.kept hg (fun e => own_blk_ne own14 out (by decide) e.symm)
              clear hg own14 hne
              refine hK.out _ _ ?_ (fun hHeld => ?_)
              · exact ⟨cell_on (hbx) c0, cell_on (hbx) c1, cell_on (hbx) c2, cell_on (hbx) c3⟩
              clear hK K
              try simp only [rq0, rq1, rq2, Act.put, rq3, rq4, rq5]
              refine wpAnyH_ready (rs := [9]) (by kernel_rfl) (by simp) (AllReadyH.cons (o := _) rfl (fun K hK => ?_) AllReadyH.nil)
              simp only [rq0, rq1, rq2]
              rw [if_pos (by rfl)]
              obtain ⟨v20, W6, hrun, own20, hg⟩ := app_one W5 w2.heap.size _ _ ws own17 x lit (by omega) hbx.size
              obtain ⟨v20a, v20m, v20c, rfl⟩ := own_form own20
              refine wp_appW (.tmp 17) (.tmp 19) (by rfl) (by rfl) (by rfl) (by rfl) hrun ?_
              clear hrun
              replace hbx := hbx.grown hg hbx.size (fun k hk => ow_ge own17 hk)
              replace own13 := World.ownsRow.kept own13 hg (own_dif own13 own17 (by decide))
              replace out := out.kept hg (fun e => own_blk_ne own17 out (by decide) e.symm)
              clear hg own17 lit
              refine hK.out _ _ ?_ (fun hHeld => ?_)
              · exact ⟨cell_on (hbx) c0, cell_on (hbx) c1, cell_on (hbx) c2, cell_on (hbx) c3⟩
              clear hK K
              try simp only [rq0, rq1, rq2, Act.put, rq3, rq4, rq5]
              refine wpAnyH_take (i := 10) (oi := _) (v := ?_) rfl (by kernel_rfl) (by kernel_rfl) (by kernel_rfl) (fun _ _ _ h => h) (Or.inl ⟨by rfl, ?_⟩) (by assumption) ?_
              rotate_left
              · (intro wS hSw; (try dsimp only at hSw); (try go_split_ands); (simp only [List.getElem_toArray, List.getElem_cons_succ, List.getElem_cons_zero]); go_simp <;> (with_reducible rfl))
              try simp only [List.getElem_toArray, List.getElem_cons_succ, List.getElem_cons_zero, Act.put, List.setIfInBounds_toArray, List.set_cons_zero, List.set_cons_succ]
              refine wpAnyH_ready (rs := [12]) (by kernel_rfl) (by simp) (AllReadyH.cons (o := _) rfl (fun K hK => ?_) AllReadyH.nil)
              have r0 : W6.cell? ⟨W3.heap.size, 0, none⟩ = some (.slice none 0 0) := out.cell 0
              have r1 : W6.cell? ⟨W3.heap.size, 1, none⟩ = some (.slice none 0 0) := out.cell 1
              have s0 : W6.frozen? ⟨W3.heap.size, 0, none⟩ = false := out.free 0
              have s1 : W6.frozen? ⟨W3.heap.size, 1, none⟩ = false := out.free 1
              simp only [rq0, rq1, rq2]
              go_simp
              refine hK.out _ _ ?_ (fun hHeld => ?_)
              · exact ⟨cell_on ((hbx.setCell hoK _).setCell hoK _) c0, cell_on ((hbx.setCell hoK _).setCell hoK _) c1, cell_on ((hbx.setCell hoK _).setCell hoK _) c2, cell_on ((hbx.setCell hoK _).setCell hoK _) c3⟩
              clear hK K
              try simp only [rq0, rq1, rq2, Act.put, rq3, rq4, rq5]
              clear r0 r1 s0 s1
              refine wpAnyH_done (by kernel_rfl) ?_ _
              refine NoPanic.normal ?_
              clear hHeld
              go_wp2_with fail
              go_meet
              exact ⟨_, _, _, _, _, _, _, rfl, by simpa using (out.set 0 (.slice v13a v13m v13c)).set 1 (.slice v20a v20m v20c), (hbx.setCell hoK _).setCell hoK _, own_set (own_set own13 out (by decide)) (out.set 0 _) (by decide), own_set (own_set own20 out (by decide)) (out.set 0 _) (by decide)⟩
          · skip -- 11
            simp only [rq0, rq1, rq2]
            go_simp
            have hoK : w2.heap.size ≤ W2.heap.size := hbx.size
            have hn : Below W2.heap.size W2 (W2.alloc (.cells #[.slice none 0 0, .slice none 0 0] 30)) := (Below.refl _ _).alloc (Nat.le_refl _) _
            replace own14 := ow_below own14 hn
            replace lit := lit.below hn
            have out := Blk.new W2 30 #[.slice none 0 0, .slice none 0 0]
            have hbn := bt2 hbx hn
            refine hK.out _ _ ?_ (fun hHeld => ?_)
            · exact ⟨cell_on (hbn) c0, cell_on (hbn) c1, cell_on (hbn) c2, cell_on (hbn) c3⟩
            clear hK K
            try simp only [rq0, rq1, rq2, Act.put, rq3, rq4, rq5]
            replace hbx := hbn
            clear hbn hn
            generalize W2.alloc (.cells #[.slice none 0 0, .slice none 0 0] 30) = W3 at hbx own14 lit out ⊢
            refine wpAnyH_ready (rs := [2]) (by kernel_rfl) (by simp) (AllReadyH.cons (o := _) rfl (fun K hK => ?_) AllReadyH.nil)
            simp only [rq0, rq1, rq2]
            go_simp
            (go_at_call 53; refine (ciS _ c xs _ (hr2.below hbx) (by omega)).mono ?_; rintro e W4 ⟨v13, rfl, hn, own13⟩)
            obtain ⟨v13a, v13m, v13c, rfl⟩ := own_form own13
            replace own14 := ow_below own14 hn
            replace lit := lit.below hn
            replace out := out.below hn
            replace own13 := ow_mono (B' := w2.heap.size) own13 hbx.size
            replace hbx := bt2 hbx hn
            clear hn
            refine hK.out _ _ ?_ (fun hHeld => ?_)
            · exact ⟨cell_on (hbx) c0, cell_on (hbx) c1, cell_on (hbx) c2, cell_on (hbx) c3⟩
            clear hK K
            try simp only [rq0, rq1, rq2, Act.put, rq3, rq4, rq5]
            refine wpAnyH_ready (rs := [6]) (by kernel_rfl) (by simp) (AllReadyH.cons (o := _) rfl (fun K hK => ?_) AllReadyH.nil)
            simp only [rq0, rq1, rq2]
            rw [if_pos (by rfl)]
            obtain ⟨v17, W5, hrun, own17, hg⟩ := app_ws W4 w2.heap.size _ own14 B d ws (hq2.below hbx) (by omega) hbx.size
            obtain ⟨v17a, v17m, v17c, rfl⟩ := own_form own17
            refine wp_appW (.tmp 14) (.tmp 16) (by rfl) (by rfl) (by rfl) (by rfl) hrun ?_
            clear hrun
            replace hbx := hbx.grown hg hbx.size (fun k hk => ow_ge own14 hk)
            replace own13 := World.ownsRow.kept own13 hg (own_dif own13 own14 (by decide))
            replace lit := lit.kept hg (hne)
            replace out := out.kept hg (fun e => own_blk_ne own14 out (by decide) e.symm)
            clear hg own14 hne
            refine hK.out _ _ ?_ (fun hHeld => ?_)
            · exact ⟨cell_on (hbx) c0, cell_on (hbx) c1, cell_on (hbx) c2, cell_on (hbx) c3⟩
            clear hK K
            try simp only [rq0, rq1, rq2, Act.put, rq3, rq4, rq5]
            refine wpAnyH_ready (rs := [9]) (by kernel_rfl) (by simp) (AllReadyH.cons (o := _) rfl (fun K hK => ?_) AllReadyH.nil)
            simp only [rq0, rq1, rq2]
            rw [if_pos (by rfl)]
            obtain ⟨v20, W6, hrun, own20, hg⟩ := app_one W5 w2.heap.size _ _ ws own17 x lit (by omega) hbx.size
            obtain ⟨v20a, v20m, v20c, rfl⟩ := own_form own20
            refine wp_appW (.tmp 17) (.tmp 19) (by rfl) (by rfl) (by rfl) (by rfl) hrun ?_
            clear hrun
            replace hbx := hbx.grown hg hbx.size (fun k hk => ow_ge own17 hk)
            replace own13 := World.ownsRow.kept own13 hg (own_dif own13 own17 (by decide))
            replace out := out.kept hg (fun e => own_blk_ne own17 out (by decide) e.symm)
            clear hg own17 lit
            refine hK.out _ _ ?_ (fun hHeld => ?_)
            · exact ⟨cell_on (hbx) c0, cell_on (hbx) c1, cell_on (hbx) c2, cell_on (hbx) c3⟩
            clear hK K
            try simp only [rq0, rq1, rq2, Act.put, rq3, rq4, rq5]
            refine wpAnyH_take (i := 10) (oi := _) (v := ?_) rfl (by kernel_rfl) (by kernel_rfl) (by kernel_rfl) (fun _ _ _ h => h) (Or.inl ⟨by rfl, ?_⟩) (by assumption) ?_
            rotate_left
            · (intro wS hSw; (try dsimp only at hSw); (try go_split_ands); (simp only [List.getElem_toArray, List.getElem_cons_succ, List.getElem_cons_zero]); go_simp <;> (with_reducible rfl))
            try simp only [List.getElem_toArray, List.getElem_cons_succ, List.getElem_cons_zero, Act.put, List.setIfInBounds_toArray, List.set_cons_zero, List.set_cons_succ]
            refine wpAnyH_ready (rs := [12]) (by kernel_rfl) (by simp) (AllReadyH.cons (o := _) rfl (fun K hK => ?_) AllReadyH.nil)
            have r0 : W6.cell? ⟨W2.heap.size, 0, none⟩ = some (.slice none 0 0) := out.cell 0
            have r1 : W6.cell? ⟨W2.heap.size, 1, none⟩ = some (.slice none 0 0) := out.cell 1
            have s0 : W6.frozen? ⟨W2.heap.size, 0, none⟩ = false := out.free 0
            have s1 : W6.frozen? ⟨W2.heap.size, 1, none⟩ = false := out.free 1
            simp only [rq0, rq1, rq2]
            go_simp
            refine hK.out _ _ ?_ (fun hHeld => ?_)
            · exact ⟨cell_on ((hbx.setCell hoK _).setCell hoK _) c0, cell_on ((hbx.setCell hoK _).setCell hoK _) c1, cell_on ((hbx.setCell hoK _).setCell hoK _) c2, cell_on ((hbx.setCell hoK _).setCell hoK _) c3⟩
            clear hK K
            try simp only [rq0, rq1, rq2, Act.put, rq3, rq4, rq5]
            clear r0 r1 s0 s1
            refine wpAnyH_done (by kernel_rfl) ?_ _
            refine NoPanic.normal ?_
            clear hHeld
            go_wp2_with fail
            go_meet
            exact ⟨_, _, _, _, _, _, _, rfl, by simpa using (out.set 0 (.slice v13a v13m v13c)).set 1 (.slice v20a v20m v20c), (hbx.setCell hoK _).setCell hoK _, own_set (own_set own13 out (by decide)) (out.set 0 _) (by decide), own_set (own_set own20 out (by decide)) (out.set 0 _) (by decide)⟩
        · skip -- 11
          simp only [rq0, rq1, rq2]
          go_simp
          have hoK : w2.heap.size ≤ W1.heap.size := hbx.size
          have hn : Below W1.heap.size W1 (W1.alloc (.cells #[.slice none 0 0, .slice none 0 0] 30)) := (Below.refl _ _).alloc (Nat.le_refl _) _
          replace own14 := ow_below own14 hn
          have out := Blk.new W1 30 #[.slice none 0 0, .slice none 0 0]
          have hbn := bt2 hbx hn
          refine hK.out _ _ ?_ (fun hHeld => ?_)
          · exact ⟨cell_on (hbn) c0, cell_on (hbn) c1, cell_on (hbn) c2, cell_on (hbn) c3⟩
          clear hK K
          try simp only [rq0, rq1, rq2, Act.put, rq3, rq4, rq5]
          replace hbx := hbn
          clear hbn hn
          generalize W1.alloc (.cells #[.slice none 0 0, .slice none 0 0] 30) = W2 at hbx own14 out ⊢
          refine wpAnyH_ready (rs := [2, 8]) (by kernel_rfl) (by simp) (AllReadyH.cons (o := _) rfl (fun K hK => ?_) (AllReadyH.cons (o := _) rfl (fun K hK => ?_) AllReadyH.nil))
          · skip -- 2
            simp only [rq0, rq1, rq2]
            go_simp
            (go_at_call 53; refine (ciS _ c xs _ (hr2.below hbx) (by omega)).mono ?_; rintro e W3 ⟨v13, rfl, hn, own13⟩)
            obtain ⟨v13a, v13m, v13c, rfl⟩ := own_form own13
            replace own14 := ow_below own14 hn
            replace out := out.below hn
            replace own13 := ow_mono (B' := w2.heap.size) own13 hbx.size
            replace hbx := bt2 hbx hn
            clear hn
            refine hK.out _ _ ?_ (fun hHeld => ?_)
            · exact ⟨cell_on (hbx) c0, cell_on (hbx) c1, cell_on (hbx) c2, cell_on (hbx) c3⟩
            clear hK K
            try simp only [rq0, rq1, rq2, Act.put, rq3, rq4, rq5]
            refine wpAnyH_ready (rs := [6, 8]) (by kernel_rfl) (by simp) (AllReadyH.cons (o := _) rfl (fun K hK => ?_) (AllReadyH.cons (o := _) rfl (fun K hK => ?_) AllReadyH.nil))
            · skip -- 6
              simp only [rq0, rq1, rq2]
              rw [if_pos (by rfl)]
              obtain ⟨v17, W4, hrun, own17, hg⟩ := app_ws W3 w2.heap.size _ own14 B d ws (hq2.below hbx) (by omega) hbx.size
              obtain ⟨v17a, v17m, v17c, rfl⟩ := own_form own17
              refine wp_appW (.tmp 14) (.tmp 16) (by rfl) (by rfl) (by rfl) (by rfl) hrun ?_
              clear hrun
              replace hbx := hbx.grown hg hbx.size (fun k hk => ow_ge own14 hk)
              replace own13 := World.ownsRow.kept own13 hg (own_dif own13 own14 (by decide))
              replace out := out.kept hg (fun e => own_blk_ne own14 out (by decide) e.symm)
              clear hg own14
              refine hK.out _ _ ?_ (fun hHeld => ?_)
              · exact ⟨cell_on (hbx) c0, cell_on (hbx) c1, cell_on (hbx) c2, cell_on (hbx) c3⟩
              clear hK K
              try simp only [rq0, rq1, rq2, Act.put, rq3, rq4, rq5]
              refine wpAnyH_ready (rs := [8]) (by kernel_rfl) (by simp) (AllReadyH.cons (o := _) rfl (fun K hK => ?_) AllReadyH.nil)
              simp only [rq0, rq1, rq2]
              go_simp
              have hn : Below W4.heap.size W4 (W4.alloc (.cells #[.int .i64 x.1, .int .i64 x.2] 41)) := (Below.refl _ _).alloc (Nat.le_refl _) _
              replace own13 := ow_below own13 hn
              replace own17 := ow_below own17 hn
              replace out := out.below hn
              have lit := Blk.new W4 41 #[.int .i64 x.1, .int .i64 x.2]
              have hbn := bt2 hbx hn
              refine hK.out _ _ ?_ (fun hHeld => ?_)
              · exact ⟨cell_on (hbn) c0, cell_on (hbn) c1, cell_on (hbn) c2, cell_on (hbn) c3⟩
              clear hK K
              try simp only [rq0, rq1, rq2, Act.put, rq3, rq4, rq5]
              replace hbx := hbn
              clear hbn hn
              generalize W4.alloc (.cells #[.int .i64 x.1, .int .i64 x.2] 41) = W5 at hbx own13 own17 out lit ⊢
              refine wpAnyH_ready (rs := [9]) (by kernel_rfl) (by simp) (AllReadyH.cons (o := _) rfl (fun K hK => ?_) AllReadyH.nil)
              simp only [rq0, rq1, rq2]
              rw [if_pos (by rfl)]
              obtain ⟨v20, W6, hrun, own20, hg⟩ := app_one W5 w2.heap.size _ _ ws own17 x lit (by omega) hbx.size
              obtain ⟨v20a, v20m, v20c, rfl⟩ := own_form own20
              refine wp_appW (.tmp 17) (.tmp 19) (by rfl) (by rfl) (by rfl) (by rfl) hrun ?_
              clear hrun
              replace hbx := hbx.grown hg hbx.size (fun k hk => ow_ge own17 hk)
              replace own13 := World.ownsRow.kept own13 hg (own_dif own13 own17 (by decide))
              replace out := out.kept hg (fun e => own_blk_ne own17 out (by decide) e.symm)
              clear hg own17 lit
              refine hK.out _ _ ?_ (fun hHeld => ?_)
              · exact ⟨cell_on (hbx) c0, cell_on (hbx) c1, cell_on (hbx) c2, cell_on (hbx) c3⟩
              clear hK K
              try simp only [rq0, rq1, rq2, Act.put, rq3, rq4, rq5]
              refine wpAnyH_take (i := 10) (oi := _) (v := ?_) rfl (by kernel_rfl) (by kernel_rfl) (by kernel_rfl) (fun _ _ _ h => h) (Or.inl ⟨by rfl, ?_⟩) (by assumption) ?_
              rotate_left
              · (intro wS hSw; (try dsimp only at hSw); (try go_split_ands); (simp only [List.getElem_toArray, List.getElem_cons_succ, List.getElem_cons_zero]); go_simp <;> (with_reducible rfl))
              try simp only [List.getElem_toArray, List.getElem_cons_succ, List.getElem_cons_zero, Act.put, List.setIfInBounds_toArray, List.set_cons_zero, List.set_cons_succ]
              refine wpAnyH_ready (rs := [12]) (by kernel_rfl) (by simp) (AllReadyH.cons (o := _) rfl (fun K hK => ?_) AllReadyH.nil)
              have r0 : W6.cell? ⟨W1.heap.size, 0, none⟩ = some (.slice none 0 0) := out.cell 0
              have r1 : W6.cell? ⟨W1.heap.size, 1, none⟩ = some (.slice none 0 0) := out.cell 1
              have s0 : W6.frozen? ⟨W1.heap.size, 0, none⟩ = false := out.free 0
              have s1 : W6.frozen? ⟨W1.heap.size, 1, none⟩ = false := out.free 1
              simp only [rq0, rq1, rq2]
              go_simp
              refine hK.out _ _ ?_ (fun hHeld => ?_)
              · exact ⟨cell_on ((hbx.setCell hoK _).setCell hoK _) c0, cell_on ((hbx.setCell hoK _).setCell hoK _) c1, cell_on ((hbx.setCell hoK _).setCell hoK _) c2, cell_on ((hbx.setCell hoK _).setCell hoK _) c3⟩
              clear hK K
              try simp only [rq0, rq1, rq2, Act.put, rq3, rq4, rq5]
              clear r0 r1 s0 s1
              refine wpAnyH_done (by kernel_rfl) ?_ _
              refine NoPanic.normal ?_
              clear hHeld
              go_wp2_with fail
              go_meet
              exact ⟨_, _, _, _, _, _, _, rfl, by simpa using (out.set 0 (.slice v13a v13m v13c)).set 1 (.slice v20a v20m v20c), (hbx.setCell hoK _).setCell hoK _, own_set (own_set own13 out (by decide)) (out.set 0 _) (by decide), own_set (own_set own20 out (by decide)) (out.set 0 _) (by decide)⟩
            · skip -- 8
              simp only [rq0, rq1, rq2]
              go_simp
              have hne : some (W3.heap.size) ≠ some (W0.heap.size) := by have : W0.heap.size < W3.heap.size := ow_lt own14 rfl; simp; omega
              have hn : Below W3.heap.size W3 (W3.alloc (.cells #[.int .i64 x.1, .int .i64 x.2] 41)) := (Below.refl _ _).alloc (Nat.le_refl _) _
              replace own14 := ow_below own14 hn
              replace own13 := ow_below own13 hn
              replace out := out.below hn
              have lit := Blk.new W3 41 #[.int .i64 x.1, .int .i64 x.2]
              have hbn := bt2 hbx hn
              refine hK.out _ _ ?_ (fun hHeld => ?_)
              · exact ⟨cell_on (hbn) c0, cell_on (hbn) c1, cell_on (hbn) c2, cell_on (hbn) c3⟩
              clear hK K
              try simp only [rq0, rq1, rq2, Act.put, rq3, rq4, rq5]
              replace hbx := hbn
              clear hbn hn
              generalize W3.alloc (.cells #[.int .i64 x.1, .int .i64 x.2] 41) = W4 at hbx own14 own13 out lit ⊢
              refine wpAnyH_ready (rs := [6]) (by kernel_rfl) (by simp) (AllReadyH.cons (o := _) rfl (fun K hK => ?_) AllReadyH.nil)
              simp only [rq0, rq1, rq2]
              rw [if_pos (by rfl)]
              obtain ⟨v17, W5, hrun, own17, hg⟩ := app_ws W4 w2.heap.size _ own14 B d ws (hq2.below hbx) (by omega) hbx.size
              obtain ⟨v17a, v17m, v17c, rfl⟩ := own_form own17
              refine wp_appW (.tmp 14) (.tmp 16) (by rfl) (by rfl) (by rfl) (by rfl) hrun ?_
              clear hrun
              replace hbx := hbx.grown hg hbx.size (fun k hk => ow_ge own14 hk)
              replace own13 := World.ownsRow.kept own13 hg (own_dif own13 own14 (by decide))
              replace out := out.kept hg (fun e => own_blk_ne own14 out (by decide) e.symm)
              replace lit := lit.kept hg (hne)
              clear hg own14 hne
              refine hK.out _ _ ?_ (fun hHeld => ?_)
              · exact ⟨cell_on (hbx) c0, cell_on (hbx) c1, cell_on (hbx) c2, cell_on (hbx) c3⟩
              clear hK K
              try simp only [rq0, rq1, rq2, Act.put, rq3, rq4, rq5]
              refine wpAnyH_ready (rs := [9]) (by kernel_rfl) (by simp) (AllReadyH.cons (o := _) rfl (fun K hK => ?_) AllReadyH.nil)
              simp only [rq0, rq1, rq2]
              rw [if_pos (by rfl)]
              obtain ⟨v20, W6, hrun, own20, hg⟩ := app_one W5 w2.heap.size _ _ ws own17 x lit (by omega) hbx.size
              obtain ⟨v20a, v20m, v20c, rfl⟩ := own_form own20
              refine wp_appW (.tmp 17) (.tmp 19) (by rfl) (by rfl) (by rfl) (by rfl) hrun ?_
              clear hrun
              replace hbx := hbx.grown hg hbx.size (fun k hk => ow_ge own17 hk)
              replace own13 := World.ownsRow.kept own13 hg (own_dif own13 own17 (by decide))
              replace out := out.kept hg (fun e => own_blk_ne own17 out (by decide) e.symm)
              clear hg own17 lit
              refine hK.out _ _ ?_ (fun hHeld => ?_)
              · exact ⟨cell_on (hbx) c0, cell_on (hbx) c1, cell_on (hbx) c2, cell_on (hbx) c3⟩
              clear hK K
              try simp only [rq0, rq1, rq2, Act.put, rq3, rq4, rq5]
              refine wpAnyH_take (i := 10) (oi := _) (v := ?_) rfl (by kernel_rfl) (by kernel_rfl) (by kernel_rfl) (fun _ _ _ h => h) (Or.inl ⟨by rfl, ?_⟩) (by assumption) ?_
              rotate_left
              · (intro wS hSw; (try dsimp only at hSw); (try go_split_ands); (simp only [List.getElem_toArray, List.getElem_cons_succ, List.getElem_cons_zero]); go_simp <;> (with_reducible rfl))
              try simp only [List.getElem_toArray, List.getElem_cons_succ, List.getElem_cons_zero, Act.put, List.setIfInBounds_toArray, List.set_cons_zero, List.set_cons_succ]
              refine wpAnyH_ready (rs := [12]) (by kernel_rfl) (by simp) (AllReadyH.cons (o := _) rfl (fun K hK => ?_) AllReadyH.nil)
              have r0 : W6.cell? ⟨W1.heap.size, 0, none⟩ = some (.slice none 0 0) := out.cell 0
              have r1 : W6.cell? ⟨W1.heap.size, 1, none⟩ = some (.slice none 0 0) := out.cell 1
              have s0 : W6.frozen? ⟨W1.heap.size, 0, none⟩ = false := out.free 0
              have s1 : W6.frozen? ⟨W1.heap.size, 1, none⟩ = false := out.free 1
              simp only [rq0, rq1, rq2]
              go_simp
              refine hK.out _ _ ?_ (fun hHeld => ?_)
              · exact ⟨cell_on ((hbx.setCell hoK _).setCell hoK _) c0, cell_on ((hbx.setCell hoK _).setCell hoK _) c1, cell_on ((hbx.setCell hoK _).setCell hoK _) c2, cell_on ((hbx.setCell hoK _).setCell hoK _) c3⟩
              clear hK K
              try simp only [rq0, rq1, rq2, Act.put, rq3, rq4, rq5]
              clear r0 r1 s0 s1
              refine wpAnyH_done (by kernel_rfl) ?_ _
              refine NoPanic.normal ?_
              clear hHeld
              go_wp2_with fail
              go_meet
              exact ⟨_, _, _, _, _, _, _, rfl, by simpa using (out.set 0 (.slice v13a v13m v13c)).set 1 (.slice v20a v20m v20c), (hbx.setCell hoK _).setCell hoK _, own_set (own_set own13 out (by decide)) (out.set 0 _) (by decide), own_set (own_set own20 out (by decide)) (out.set 0 _) (by decide)⟩
          · skip -- 8
            simp only [rq0, rq1, rq2]
            go_simp
            have hne : some (W2.heap.size) ≠ some (W0.heap.size) := by have : W0.heap.size < W2.heap.size := ow_lt own14 rfl; simp; omega
            have hn : Below W2.heap.size W2 (W2.alloc (.cells #[.int .i64 x.1, .int .i64 x.2] 41)) := (Below.refl _ _).alloc (Nat.le_refl _) _
            replace own14 := ow_below own14 hn
            replace out := out.below hn
            have lit := Blk.new W2 41 #[.int .i64 x.1, .int .i64 x.2]
            have hbn := bt2 hbx hn
            refine hK.out _ _ ?_ (fun hHeld => ?_)
            · exact ⟨cell_on (hbn) c0, cell_on (hbn) c1, cell_on (hbn) c2, cell_on (hbn) c3⟩
            clear hK K
            try simp only [rq0, rq1, rq2, Act.put, rq3, rq4, rq5]
            replace hbx := hbn
            clear hbn hn
            generalize W2.alloc (.cells #[.int .i64 x.1, .int .i64 x.2] 41) = W3 at hbx own14 out lit ⊢
            refine wpAnyH_ready (rs := [2]) (by kernel_rfl) (by simp) (AllReadyH.cons (o := _) rfl (fun K hK => ?_) AllReadyH.nil)
            simp only [rq0, rq1, rq2]
            go_simp
            (go_at_call 53; refine (ciS _ c xs _ (hr2.below hbx) (by omega)).mono ?_; rintro e W4 ⟨v13, rfl, hn, own13⟩)
            obtain ⟨v13a, v13m, v13c, rfl⟩ := own_form own13
            replace own14 := ow_below own14 hn
            replace out := out.below hn
            replace lit := lit.below hn
            replace own13 := ow_mono (B' := w2.heap.size) own13 hbx.size
            replace hbx := bt2 hbx hn
            clear hn
            refine hK.out _ _ ?_ (fun hHeld => ?_)
            · exact ⟨cell_on (hbx) c0, cell_on (hbx) c1, cell_on (hbx) c2, cell_on (hbx) c3⟩
            clear hK K
            try simp only [rq0, rq1, rq2, Act.put, rq3, rq4, rq5]
            refine wpAnyH_ready (rs := [6]) (by kernel_rfl) (by simp) (AllReadyH.cons (o := _) rfl (fun K hK => ?_) AllReadyH.nil)
            simp only [rq0, rq1, rq2]
            rw [if_pos (by rfl)]
            obtain ⟨v17, W5, hrun, own17, hg⟩ := app_ws W4 w2.heap.size _ own14 B d ws (hq2.below hbx) (by omega) hbx.size
            obtain ⟨v17a, v17m, v17c, rfl⟩ := own_form own17
            refine wp_appW (.tmp 14) (.tmp 16) (by rfl) (by rfl) (by rfl) (by rfl) hrun ?_
            clear hrun
            replace hbx := hbx.grown hg hbx.size (fun k hk => ow_ge own14 hk)
            replace own13 := World.ownsRow.kept own13 hg (own_dif own13 own14 (by decide))
            replace out := out.kept hg (fun e => own_blk_ne own14 out (by decide) e.symm)
            replace lit := lit.kept hg (hne)
            clear hg own14 hne
            refine hK.out _ _ ?_ (fun hHeld => ?_)
            · exact ⟨cell_on (hbx) c0, cell_on (hbx) c1, cell_on (hbx) c2, cell_on (hbx) c3⟩
            clear hK K
            try simp only [rq0, rq1, rq2, Act.put, rq3, rq4, rq5]
            refine wpAnyH_ready (rs := [9]) (by kernel_rfl) (by simp) (AllReadyH.cons (o := _) rfl (fun K hK => ?_) AllReadyH.nil)
            simp only [rq0, rq1, rq2]
            rw [if_pos (by rfl)]
            obtain ⟨v20, W6, hrun, own20, hg⟩ := app_one W5 w2.heap.size _ _ ws own17 x lit (by omega) hbx.size
            obtain ⟨v20a, v20m, v20c, rfl⟩ := own_form own20
            refine wp_appW (.tmp 17) (.tmp 19) (by rfl) (by rfl) (by rfl) (by rfl) hrun ?_
            clear hrun
            replace hbx := hbx.grown hg hbx.size (fun k hk => ow_ge own17 hk)
            replace own13 := World.ownsRow.kept own13 hg (own_dif own13 own17 (by decide))
            replace out := out.kept hg (fun e => own_blk_ne own17 out (by decide) e.symm)
            clear hg own17 lit
            refine hK.out _ _ ?_ (fun hHeld => ?_)
            · exact ⟨cell_on (hbx) c0, cell_on (hbx) c1, cell_on (hbx) c2, cell_on (hbx) c3⟩
            clear hK K
            try simp only [rq0, rq1, rq2, Act.put, rq3, rq4, rq5]
            refine wpAnyH_take (i := 10) (oi := _) (v := ?_) rfl (by kernel_rfl) (by kernel_rfl) (by kernel_rfl) (fun _ _ _ h => h) (Or.inl ⟨by rfl, ?_⟩) (by assumption) ?_
            rotate_left
            · (intro wS hSw; (try dsimp only at hSw); (try go_split_ands); (simp only [List.getElem_toArray, List.getElem_cons_succ, List.getElem_cons_zero]); go_simp <;> (with_reducible rfl))
            try simp only [List.getElem_toArray, List.getElem_cons_succ, List.getElem_cons_zero, Act.put, List.setIfInBounds_toArray, List.set_cons_zero, List.set_cons_succ]
            refine wpAnyH_ready (rs := [12]) (by kernel_rfl) (by simp) (AllReadyH.cons (o := _) rfl (fun K hK => ?_) AllReadyH.nil)
            have r0 : W6.cell? ⟨W1.heap.size, 0, none⟩ = some (.slice none 0 0) := out.cell 0
            have r1 : W6.cell? ⟨W1.heap.size, 1, none⟩ = some (.slice none 0 0) := out.cell 1
            have s0 : W6.frozen? ⟨W1.heap.size, 0, none⟩ = false := out.free 0
            have s1 : W6.frozen? ⟨W1.heap.size, 1, none⟩ = false := out.free 1
            simp only [rq0, rq1, rq2]
            go_simp
            refine hK.out _ _ ?_ (fun hHeld => ?_)
            · exact ⟨cell_on ((hbx.setCell hoK _).setCell hoK _) c0, cell_on ((hbx.setCell hoK _).setCell hoK _) c1, cell_on ((hbx.setCell hoK _).setCell hoK _) c2, cell_on ((hbx.setCell hoK _).setCell hoK _) c3⟩
            clear hK K
            try simp only [rq0, rq1, rq2, Act.put, rq3, rq4, rq5]
            clear r0 r1 s0 s1
            refine wpAnyH_done (by kernel_rfl) ?_ _
            refine NoPanic.normal ?_
            clear hHeld
            go_wp2_with fail
            go_meet
            exact ⟨_, _, _, _, _, _, _, rfl, by simpa using (out.set 0 (.slice v13a v13m v13c)).set 1 (.slice v20a v20m v20c), (hbx.setCell hoK _).setCell hoK _, own_set (own_set own13 out (by decide)) (out.set 0 _) (by decide), own_set (own_set own20 out (by decide)) (out.set 0 _) (by decide)⟩
      · skip -- 8
        simp only [rq0, rq1, rq2]
        go_simp
        have hn : Below W0.heap.size W0 (W0.alloc (.cells #[.int .i64 x.1, .int .i64 x.2] 41)) := (Below.refl _ _).alloc (Nat.le_refl _) _
        have lit := Blk.new W0 41 #[.int .i64 x.1, .int .i64 x.2]
        have hbn := bt2 hbx hn
        refine hK.out _ _ ?_ (fun hHeld => ?_)
        · exact ⟨cell_on (hbn) c0, cell_on (hbn) c1, cell_on (hbn) c2, cell_on (hbn) c3⟩
        clear hK K
        try simp only [rq0, rq1, rq2, Act.put, rq3, rq4, rq5]
        replace hbx := hbn
        clear hbn hn
        generalize W0.alloc (.cells #[.int .i64 x.1, .int .i64 x.2] 41) = W1 at hbx lit ⊢
        refine wpAnyH_ready (rs := [2, 3, 11]) (by kernel_rfl) (by simp) (AllReadyH.cons (o := _) rfl (fun K hK => ?_) (AllReadyH.cons (o := _) rfl (fun K hK => ?_) (AllReadyH.cons (o := _) rfl (fun K hK => ?_) AllReadyH.nil)))
        · skip -- 2
          simp only [rq0, rq1, rq2]
          go_simp
          (go_at_call 53; refine (ciS _ c xs _ (hr2.below hbx) (by omega)).mono ?_; rintro e W2 ⟨v13, rfl, hn, own13⟩)
          obtain ⟨v13a, v13m, v13c, rfl⟩ := own_form own13
          replace lit := lit.below hn
          replace own13 := ow_mono (B' := w2.heap.size) own13 hbx.size
          replace hbx := bt2 hbx hn
          clear hn
          refine hK.out _ _ ?_ (fun hHeld => ?_)
          · exact ⟨cell_on (hbx) c0, cell_on (hbx) c1, cell_on (hbx) c2, cell_on (hbx) c3⟩
          clear hK K
          try simp only [rq0, rq1, rq2, Act.put, rq3, rq4, rq5]
          refine wpAnyH_ready (rs := [3, 11]) (by kernel_rfl) (by simp) (AllReadyH.cons (o := _) rfl (fun K hK => ?_) (AllReadyH.cons (o := _) rfl (fun K hK => ?_) AllReadyH.nil))
          · skip -- 3
            simp only [rq0, rq1, rq2]
            go_simp
            have hne : some (W0.heap.size) ≠ some (W2.heap.size) := by have := lit.lt; simp; omega
            have hn : Below W2.heap.size W2 (W2.alloc (.cells #[] 41)) := (Below.refl _ _).alloc (Nat.le_refl _) _
            replace own13 := ow_below own13 hn
            replace lit := lit.below hn
            have own14 := ow_mono (B' := w2.heap.size) (ow_empty W2 (W2.alloc (.cells #[] 41)) 41 2 (heap_alloc_new _ _)) hbx.size
            have hbn := bt2 hbx hn
            refine hK.out _ _ ?_ (fun hHeld => ?_)
            · exact ⟨cell_on (hbn) c0, cell_on (hbn) c1, cell_on (hbn) c2, cell_on (hbn) c3⟩
            clear hK K
            try simp only [rq0, rq1, rq2, Act.put, rq3, rq4, rq5]
            replace hbx := hbn
            clear hbn hn
            generalize W2.alloc (.cells #[] 41) = W3 at hbx own13 lit own14 ⊢
            refine wpAnyH_ready (rs := [6, 11]) (by kernel_rfl) (by simp) (AllReadyH.cons (o := _) rfl (fun K hK => ?_) (AllReadyH.cons (o := _) rfl (fun K hK => ?_) AllReadyH.nil))
            · skip -- 6
              simp only [rq0, rq1, rq2]
              rw [if_pos (by rfl)]
              obtain ⟨v17, W4, hrun, own17, hg⟩ := app_ws W3 w2.heap.size _ own14 B d ws (hq2.below hbx) (by omega) hbx.size
              obtain ⟨v17a, v17m, v17c, rfl⟩ := own_form own17
              refine wp_appW (.tmp 14) (.tmp 16) (by rfl) (by rfl) (by rfl) (by rfl) hrun ?_
              clear hrun
              replace hbx := hbx.grown hg hbx.size (fun k hk => ow_ge own14 hk)
              replace own13 := World.ownsRow.kept own13 hg (own_dif own13 own14 (by decide))
              replace lit := lit.kept hg (hne)
              clear hg own14 hne
              refine hK.out _ _ ?_ (fun hHeld => ?_)
              · exact ⟨cell_on (hbx) c0, cell_on (hbx) c1, cell_on (hbx) c2, cell_on (hbx) c3⟩
              clear hK K
              try simp only [rq0, rq1, rq2, Act.put, rq3, rq4, rq5]
              refine wpAnyH_ready (rs := [9, 11]) (by kernel_rfl) (by simp) (AllReadyH.cons (o := _) rfl (fun K hK => ?_) (AllReadyH.cons (o := _) rfl (fun K hK => ?_) AllReadyH.nil))
              · skip -- 9
                simp only [rq0, rq1, rq2]
                rw [if_pos (by rfl)]
                obtain ⟨v20, W5, hrun, own20, hg⟩ := app_one W4 w2.heap.size _ _ ws own17 x lit (by omega) hbx.size
                obtain ⟨v20a, v20m, v20c, rfl⟩ := own_form own20
                refine wp_appW (.tmp 17) (.tmp 19) (by rfl) (by rfl) (by rfl) (by rfl) hrun ?_
                clear hrun
                replace hbx := hbx.grown hg hbx.size (fun k hk => ow_ge own17 hk)
                replace own13 := World.ownsRow.kept own13 hg (own_dif own13 own17 (by decide))
                clear hg own17 lit
                refine hK.out _ _ ?_ (fun hHeld => ?_)
                · exact ⟨cell_on (hbx) c0, cell_on (hbx) c1, cell_on (hbx) c2, cell_on (hbx) c3⟩
                clear hK K
                try simp only [rq0, rq1, rq2, Act.put, rq3, rq4, rq5]
                refine wpAnyH_take (i := 10) (oi := _) (v := ?_) rfl (by kernel_rfl) (by kernel_rfl) (by kernel_rfl) (fun _ _ _ h => h) (Or.inl ⟨by rfl, ?_⟩) (by assumption) ?_
                rotate_left
                · (intro wS hSw; (try dsimp only at hSw); (try go_split_ands); (simp only [List.getElem_toArray, List.getElem_cons_succ, List.getElem_cons_zero]); go_simp <;> (with_reducible rfl))
                try simp only [List.getElem_toArray, List.getElem_cons_succ, List.getElem_cons_zero, Act.put, List.setIfInBounds_toArray, List.set_cons_zero, List.set_cons_succ]
                refine wpAnyH_ready (rs := [11]) (by kernel_rfl) (by simp) (AllReadyH.cons (o := _) rfl (fun K hK => ?_) AllReadyH.nil)
                simp only [rq0, rq1, rq2]
                go_simp
                have hoK : w2.heap.size ≤ W5.heap.size := hbx.size
                have hn : Below W5.heap.size W5 (W5.alloc (.cells #[.slice none 0 0, .slice none 0 0] 30)) := (Below.refl _ _).alloc (Nat.le_refl _) _
                replace own13 := ow_below own13 hn
                replace own20 := ow_below own20 hn
                have out := Blk.new W5 30 #[.slice none 0 0, .slice none 0 0]
                have hbn := bt2 hbx hn
                refine hK.out _ _ ?_ (fun hHeld => ?_)
                · exact ⟨cell_on (hbn) c0, cell_on (hbn) c1, cell_on (hbn) c2, cell_on (hbn) c3⟩
                clear hK K
                try simp only [rq0, rq1, rq2, Act.put, rq3, rq4, rq5]
                replace hbx := hbn
                clear hbn hn
                generalize W5.alloc (.cells #[.slice none 0 0, .slice none 0 0] 30) = W6 at hbx own13 own20 out ⊢
                refine wpAnyH_ready (rs := [12]) (by kernel_rfl) (by simp) (AllReadyH.cons (o := _) rfl (fun K hK => ?_) AllReadyH.nil)
                have r0 : W6.cell? ⟨W5.heap.size, 0, none⟩ = some (.slice none 0 0) := out.cell 0
                have r1 : W6.cell? ⟨W5.heap.size, 1, none⟩ = some (.slice none 0 0) := out.cell 1
                have s0 : W6.frozen? ⟨W5.heap.size, 0, none⟩ = false := out.free 0
                have s1 : W6.frozen? ⟨W5.heap.size, 1, none⟩ = false := out.free 1
                simp only [rq0, rq1, rq2]
                go_simp
                refine hK.out _ _ ?_ (fun hHeld => ?_)
                · exact ⟨cell_on ((hbx.setCell hoK _).setCell hoK _) c0, cell_on ((hbx.setCell hoK _).setCell hoK _) c1, cell_on ((hbx.setCell hoK _).setCell hoK _) c2, cell_on ((hbx.setCell hoK _).setCell hoK _) c3⟩
                clear hK K
                try simp only [rq0, rq1, rq2, Act.put, rq3, rq4, rq5]
                clear r0 r1 s0 s1
                refine wpAnyH_done (by kernel_rfl) ?_ _
                refine NoPanic.normal ?_
                clear hHeld
                go_wp2_with fail
                go_meet
                exact ⟨_, _, _, _, _, _, _, rfl, by simpa using (out.set 0 (.slice v13a v13m v13c)).set 1 (.slice v20a v20m v20c), (hbx.setCell hoK _).setCell hoK _, own_set (own_set own13 out (by decide)) (out.set 0 _) (by decide), own_set (own_set own20 out (by decide)) (out.set 0 _) (by decide)⟩
              · skip -- 11
                simp only [rq0, rq1, rq2]
                go_simp
                have hoK : w2.heap.size ≤ W4.heap.size := hbx.size
                have hn : Below W4.heap.size W4 (W4.alloc (.cells #[.slice none 0 0, .slice none 0 0] 30)) := (Below.refl _ _).alloc (Nat.le_refl _) _
                replace own13 := ow_below own13 hn
                replace own17 := ow_below own17 hn
                replace lit := lit.below hn
                have out := Blk.new W4 30 #[.slice none 0 0, .slice none 0 0]
                have hbn := bt2 hbx hn
                refine hK.out _ _ ?_ (fun hHeld => ?_)
                · exact ⟨cell_on (hbn) c0, cell_on (hbn) c1, cell_on (hbn) c2, cell_on (hbn) c3⟩
                clear hK K
                try simp only [rq0, rq1, rq2, Act.put, rq3, rq4, rq5]
                replace hbx := hbn
                clear hbn hn
                generalize W4.alloc (.cells #[.slice none 0 0, .slice none 0 0] 30) = W5 at hbx own13 own17 lit out ⊢
                refine wpAnyH_ready (rs := [9]) (by kernel_rfl) (by simp) (AllReadyH.cons (o := _) rfl (fun K hK => ?_) AllReadyH.nil)
                simp only [rq0, rq1, rq2]
                rw [if_pos (by rfl)]
                obtain ⟨v20, W6, hrun, own20, hg⟩ := app_one W5 w2.heap.size _ _ ws own17 x lit (by omega) hbx.size
                obtain ⟨v20a, v20m, v20c, rfl⟩ := own_form own20
                refine wp_appW (.tmp 17) (.tmp 19) (by rfl) (by rfl) (by rfl) (by rfl) hrun ?_
                clear hrun
                replace hbx := hbx.grown hg hbx.size (fun k hk => ow_ge own17 hk)
                replace own13 := World.ownsRow.kept own13 hg (own_dif own13 own17 (by decide))
                replace out := out.kept hg (fun e => own_blk_ne own17 out (by decide) e.symm)
                clear hg own17 lit
                refine hK.out _ _ ?_ (fun hHeld => ?_)
                · exact ⟨cell_on (hbx) c0, cell_on (hbx) c1, cell_on (hbx) c2, cell_on (hbx) c3⟩
                clear hK K
                try simp only [rq0, rq1, rq2, Act.put, rq3, rq4, rq5]
                refine wpAnyH_take (i := 10) (oi := _) (v := ?_) rfl (by kernel_rfl) (by kernel_rfl) (by kernel_rfl) (fun _ _ _ h => h) (Or.inl ⟨by rfl, ?_⟩) (by assumption) ?_
                rotate_left
                · (intro wS hSw; (try dsimp only at hSw); (try go_split_ands); (simp only [List.getElem_toArray, List.getElem_cons_succ, List.getElem_cons_zero]); go_simp <;> (with_reducible rfl))
                try simp only [List.getElem_toArray, List.getElem_cons_succ, List.getElem_cons_zero, Act.put, List.setIfInBounds_toArray, List.set_cons_zero, List.set_cons_succ]
                refine wpAnyH_ready (rs := [12]) (by kernel_rfl) (by simp) (AllReadyH.cons (o := _) rfl (fun K hK => ?_) AllReadyH.nil)
                have r0 : W6.cell? ⟨W4.heap.size, 0, none⟩ = some (.slice none 0 0) := out.cell 0
                have r1 : W6.cell? ⟨W4.heap.size, 1, none⟩ = some (.slice none 0 0) := out.cell 1
                have s0 : W6.frozen? ⟨W4.heap.size, 0, none⟩ = false := out.free 0
                have s1 : W6.frozen? ⟨W4.heap.size, 1, none⟩ = false := out.free 1
                simp only [rq0, rq1, rq2]
                go_simp
                refine hK.out _ _ ?_ (fun hHeld => ?_)
                · exact ⟨cell_on ((hbx.setCell hoK _).setCell hoK _) c0, cell_on ((hbx.setCell hoK _).setCell hoK _) c1, cell_on ((hbx.setCell hoK _).setCell hoK _) c2, cell_on ((hbx.setCell hoK _).setCell hoK _) c3⟩
                clear hK K
                try simp only [rq0, rq1, rq2, Act.put, rq3, rq4, rq5]
                clear r0 r1 s0 s1
                refine wpAnyH_done (by kernel_rfl) ?_ _
                refine NoPanic.normal ?_
                clear hHeld
                go_wp2_with fail
                go_meet
                exact ⟨_, _, _, _, _, _, _, rfl, by simpa using (out.set 0 (.slice v13a v13m v13c)).set 1 (.slice v20a v20m v20c), (hbx.setCell hoK _).setCell hoK _, own_set (own_set own13 out (by decide)) (out.set 0 _) (by decide), own_set (own_set own20 out (by decide)) (out.set 0 _) (by decide)⟩
            · skip -- 11
              simp only [rq0, rq1, rq2]
              go_simp
              have hoK : w2.heap.size ≤ W3.heap.size := hbx.size
              have hn : Below W3.heap.size W3 (W3.alloc (.cells #[.slice none 0 0, .slice none 0 0] 30)) := (Below.refl _ _).alloc (Nat.le_refl _) _
              replace own13 := ow_below own13 hn
              replace own14 := ow_below own14 hn
              replace lit := lit.below hn
              have out := Blk.new W3 30 #[.slice none 0 0, .slice none 0 0]
              have hbn := bt2 hbx hn
              refine hK.out _ _ ?_ (fun hHeld => ?_)
              · exact ⟨cell_on (hbn) c0, cell_on (hbn) c1, cell_on (hbn) c2, cell_on (hbn) c3⟩
              clear hK K
              try simp only [rq0, rq1, rq2, Act.put, rq3, rq4, rq5]
              replace hbx := hbn
              clear hbn hn
              generalize W3.alloc (.cells #[.slice none 0 0, .slice none 0 0] 30) = W4 at hbx own13 own14 lit out ⊢
              refine wpAnyH_ready (rs := [6]) (by kernel_rfl) (by simp) (AllReadyH.cons (o := _) rfl (fun K hK => ?_) AllReadyH.nil)
              simp only [rq0, rq1, rq2]
              rw [if_pos (by rfl)]
              obtain ⟨v17, W5, hrun, own17, hg⟩ := app_ws W4 w2.heap.size _ own14 B d ws (hq2.below hbx) (by omega) hbx.size
              obtain ⟨v17a, v17m, v17c, rfl⟩ := own_form own17
              refine wp_appW (.tmp 14) (.tmp 16) (by rfl) (by rfl) (by rfl) (by rfl) hrun ?_
              clear hrun
              replace hbx := hbx.grown hg hbx.size (fun k hk => ow_ge own14 hk)
              replace own13 := World.ownsRow.kept own13 hg (own_dif own13 own14 (by decide))
              replace lit := lit.kept hg (hne)
              replace out := out.kept hg (fun e => own_blk_ne own14 out (by decide) e.symm)
              clear hg own14 hne
              refine hK.out _ _ ?_ (fun hHeld => ?_)
              · exact ⟨cell_on (hbx) c0, cell_on (hbx) c1, cell_on (hbx) c2, cell_on (hbx) c3⟩
              clear hK K
              try simp only [rq0, rq1, rq2, Act.put, rq3, rq4, rq5]
              refine wpAnyH_ready (rs := [9]) (by kernel_rfl) (by simp) (AllReadyH.cons (o := _) rfl (fun K hK => ?_) AllReadyH.nil)
              simp only [rq0, rq1, rq2]
              rw [if_pos (by rfl)]
              obtain ⟨v20, W6, hrun, own20, hg⟩ := app_one W5 w2.heap.size _ _ ws own17 x lit (by omega) hbx.size
              obtain ⟨v20a, v20m, v20c, rfl⟩ := own_form own20
              refine wp_appW (.tmp 17) (.tmp 19) (by rfl) (by rfl) (by rfl) (by rfl) hrun ?_
              clear hrun
              replace hbx := hbx.grown hg hbx.size (fun k hk => ow_ge own17 hk)
              replace own13 := World.ownsRow.kept own13 hg (own_dif own13 own17 (by decide))
              replace out := out.kept hg (fun e => own_blk_ne own17 out (by decide) e.symm)
              clear hg own17 lit
              refine hK.out _ _ ?_ (fun hHeld => ?_)
              · exact ⟨cell_on (hbx) c0, cell_on (hbx) c1, cell_on (hbx) c2, cell_on (hbx) c3⟩
              clear hK K
              try simp only [rq0, rq1, rq2, Act.put, rq3, rq4, rq5]
              refine wpAnyH_take (i := 10) (oi := _) (v := ?_) rfl (by kernel_rfl) (by kernel_rfl) (by kernel_rfl) (fun _ _ _ h => h) (Or.inl ⟨by rfl, ?_⟩) (by assumption) ?_
              rotate_left
              · (intro wS hSw; (try dsimp only at hSw); (try go_split_ands); (simp only [List.getElem_toArray, List.getElem_cons_succ, List.getElem_cons_zero]); go_simp <;> (with_reducible rfl))
              try simp only [List.getElem_toArray, List.getElem_cons_succ, List.getElem_cons_zero, Act.put, List.setIfInBounds_toArray, List.set_cons_zero, List.set_cons_succ]
              refine wpAnyH_ready (rs := [12]) (by kernel_rfl) (by simp) (AllReadyH.cons (o := _) rfl (fun K hK => ?_) AllReadyH.nil)
              have r0 : W6.cell? ⟨W3.heap.size, 0, none⟩ = some (.slice none 0 0) := out.cell 0
              have r1 : W6.cell? ⟨W3.heap.size, 1, none⟩ = some (.slice none 0 0) := out.cell 1
              have s0 : W6.frozen? ⟨W3.heap.size, 0, none⟩ = false := out.free 0
              have s1 : W6.frozen? ⟨W3.heap.size, 1, none⟩ = false := out.free 1
              simp only [rq0, rq1, rq2]
              go_simp
              refine hK.out _ _ ?_ (fun hHeld => ?_)
              · exact ⟨cell_on ((hbx.setCell hoK _).setCell hoK _) c0, cell_on ((hbx.setCell hoK _).setCell hoK _) c1, cell_on ((hbx.setCell hoK _).setCell hoK _) c2, cell_on ((hbx.setCell hoK _).setCell hoK _) c3⟩
              clear hK K
              try simp only [rq0, rq1, rq2, Act.put, rq3, rq4, rq5]
              clear r0 r1 s0 s1
              refine wpAnyH_done (by kernel_rfl) ?_ _
              refine NoPanic.normal ?_
              clear hHeld
              go_wp2_with fail
              go_meet
              exact ⟨_, _, _, _, _, _, _, rfl, by simpa using (out.set 0 (.slice v13a v13m v13c)).set 1 (.slice v20a v20m v20c), (hbx.setCell hoK _).setCell hoK _, own_set (own_set own13 out (by decide)) (out.set 0 _) (by decide), own_set (own_set own20 out (by decide)) (out.set 0 _) (by decide)⟩
          · skip -- 11
            simp only [rq0, rq1, rq2]
            go_simp
            have hoK : w2.heap.size ≤ W2.heap.size := hbx.size
            have hn : Below W2.heap.size W2 (W2.alloc (.cells #[.slice none 0 0, .slice none 0 0] 30)) := (Below.refl _ _).alloc (Nat.le_refl _) _
            replace own13 := ow_below own13 hn
            replace lit := lit.below hn
            have out := Blk.new W2 30 #[.slice none 0 0, .slice none 0 0]
            have hbn := bt2 hbx hn
            refine hK.out _ _ ?_ (fun hHeld => ?_)
            · exact ⟨cell_on (hbn) c0, cell_on (hbn) c1, cell_on (hbn) c2, cell_on (hbn) c3⟩
            clear hK K
            try simp only [rq0, rq1, rq2, Act.put, rq3, rq4, rq5]
            replace hbx := hbn
            clear hbn hn
            generalize W2.alloc (.cells #[.slice none 0 0, .slice none 0 0] 30) = W3 at hbx own13 lit out ⊢
            refine wpAnyH_ready (rs := [3]) (by kernel_rfl) (by simp) (AllReadyH.cons (o := _) rfl (fun K hK => ?_) AllReadyH.nil)
            simp only [rq0, rq1, rq2]
            go_simp
            have hne : some (W0.heap.size) ≠ some (W3.heap.size) := by have := lit.lt; simp; omega
            have hn : Below W3.heap.size W3 (W3.alloc (.cells #[] 41)) := (Below.refl _ _).alloc (Nat.le_refl _) _
            replace own13 := ow_below own13 hn
            replace lit := lit.below hn
            replace out := out.below hn
            have own14 := ow_mono (B' := w2.heap.size) (ow_empty W3 (W3.alloc (.cells #[] 41)) 41 2 (heap_alloc_new _ _)) hbx.size
            have hbn := bt2 hbx hn
            refine hK.out _ _ ?_ (fun hHeld => ?_)
            · exact ⟨cell_on (hbn) c0, cell_on (hbn) c1, cell_on (hbn) c2, cell_on (hbn) c3⟩
            clear hK K
            try simp only [rq0, rq1, rq2, Act.put, rq3, rq4, rq5]
            replace hbx := hbn
            clear hbn hn
            generalize W3.alloc (.cells #[] 41) = W4 at hbx own13 lit out own14 ⊢
            refine wpAnyH_ready (rs := [6]) (by kernel_rfl) (by simp) (AllReadyH.cons (o := _) rfl (fun K hK => ?_) AllReadyH.nil)
            simp only [rq0, rq1, rq2]
            rw [if_pos (by rfl)]
            obtain ⟨v17, W5, hrun, own17, hg⟩ := app_ws W4 w2.heap.size _ own14 B d ws (hq2.below hbx) (by omega) hbx.size
            obtain ⟨v17a, v17m, v17c, rfl⟩ := own_form own17
            refine wp_appW (.tmp 14) (.tmp 16) (by rfl) (by rfl) (by rfl) (by rfl) hrun ?_
            clear hrun
            replace hbx := hbx.grown hg hbx.size (fun k hk => ow_ge own14 hk)
            replace own13 := World.ownsRow.kept own13 hg (own_dif own13 own14 (by decide))
            replace lit := lit.kept hg (hne)
            replace out := out.kept hg (fun e => own_blk_ne own14 out (by decide) e.symm)
            clear hg own14 hne
            refine hK.out _ _ ?_ (fun hHeld => ?_)
            · exact ⟨cell_on (hbx) c0, cell_on (hbx) c1, cell_on (hbx) c2, cell_on (hbx) c3⟩
            clear hK K
            try simp only [rq0, rq1, rq2, Act.put, rq3, rq4, rq5]
            refine wpAnyH_ready (rs := [9]) (by kernel_rfl) (by simp) (AllReadyH.cons (o := _) rfl (fun K hK => ?_) AllReadyH.nil)
            simp only [rq0, rq1, rq2]
            rw [if_pos (by rfl)]
            obtain ⟨v20, W6, hrun, own20, hg⟩ := app_one W5 w2.heap.size _ _ ws own17 x lit (by omega) hbx.size
            obtain ⟨v20a, v20m, v20c, rfl⟩ := own_form own20
            refine wp_appW (.tmp 17) (.tmp 19) (by rfl) (by rfl) (by rfl) (by rfl) hrun ?_
            clear hrun
            replace hbx := hbx.grown hg hbx.size (fun k hk => ow_ge own17 hk)
            replace own13 := World.ownsRow.kept own13 hg (own_dif own13 own17 (by decide))
            replace out := out.kept hg (fun e => own_blk_ne own17 out (by decide) e.symm)
            clear hg own17 lit
            refine hK.out _ _ ?_ (fun hHeld => ?_)
            · exact ⟨cell_on (hbx) c0, cell_on (hbx) c1, cell_on (hbx) c2, cell_on (hbx) c3⟩
            clear hK K
            try simp only [rq0, rq1, rq2, Act.put, rq3, rq4, rq5]
            refine wpAnyH_take (i := 10) (oi := _) (v := ?_) rfl (by kernel_rfl) (by kernel_rfl) (by kernel_rfl) (fun _ _ _ h => h) (Or.inl ⟨by rfl, ?_⟩) (by assumption) ?_
            rotate_left
            · (intro wS hSw; (try dsimp only at hSw); (try go_split_ands); (simp only [List.getElem_toArray, List.getElem_cons_succ, List.getElem_cons_zero]); go_simp <;> (with_reducible rfl))
            try simp only [List.getElem_toArray, List.getElem_cons_succ, List.getElem_cons_zero, Act.put, List.setIfInBounds_toArray, List.set_cons_zero, List.set_cons_succ]
            refine wpAnyH_ready (rs := [12]) (by kernel_rfl) (by simp) (AllReadyH.cons (o := _) rfl (fun K hK => ?_) AllReadyH.nil)
            have r0 : W6.cell? ⟨W2.heap.size, 0, none⟩ = some (.slice none 0 0) := out.cell 0
            have r1 : W6.cell? ⟨W2.heap.size, 1, none⟩ = some (.slice none 0 0) := out.cell 1
            have s0 : W6.frozen? ⟨W2.heap.size, 0, none⟩ = false := out.free 0
            have s1 : W6.frozen? ⟨W2.heap.size, 1, none⟩ = false := out.free 1
            simp only [rq0, rq1, rq2]
            go_simp
            refine hK.out _ _ ?_ (fun hHeld => ?_)
            · exact ⟨cell_on ((hbx.setCell hoK _).setCell hoK _) c0, cell_on ((hbx.setCell hoK _).setCell hoK _) c1, cell_on ((hbx.setCell hoK _).setCell hoK _) c2, cell_on ((hbx.setCell hoK _).setCell hoK _) c3⟩
            clear hK K
            try simp only [rq0, rq1, rq2, Act.put, rq3, rq4, rq5]
            clear r0 r1 s0 s1
            refine wpAnyH_done (by kernel_rfl) ?_ _
            refine NoPanic.normal ?_
            clear hHeld
            go_wp2_with fail
            go_meet
            exact ⟨_, _, _, _, _, _, _, rfl, by simpa using (out.set 0 (.slice v13a v13m v13c)).set 1 (.slice v20a v20m v20c), (hbx.setCell hoK _).setCell hoK _, own_set (own_set own13 out (by decide)) (out.set 0 _) (by decide), own_set (own_set own20 out (by decide)) (out.set 0 _) (by decide)⟩
        · skip -- 3
          simp only [rq0, rq1, rq2]
          go_simp
          have hne : some (W0.heap.size) ≠ some (W1.heap.size) := by have := lit.lt; simp; omega
          have hn : Below W1.heap.size W1 (W1.alloc (.cells #[] 41)) := (Below.refl _ _).alloc (Nat.le_refl _) _
          replace lit := lit.below hn
          have own14 := ow_mono (B' := w2.heap.size) (ow_empty W1 (W1.alloc (.cells #[] 41)) 41 2 (heap_alloc_new _ _)) hbx.size
          have hbn := bt2 hbx hn
          refine hK.out _ _ ?_ (fun hHeld => ?_)
          · exact ⟨cell_on (hbn) c0, cell_on (hbn) c1, cell_on (hbn) c2, cell_on (hbn) c3⟩
          clear hK K
          try simp only [rq0, rq1, rq2, Act.put, rq3, rq4, rq5]
          replace hbx := hbn
          clear hbn hn
          generalize W1.alloc (.cells #[] 41) = W2 at hbx lit own14 ⊢
          refine wpAnyH_ready (rs := [2, 11]) (by kernel_rfl) (by simp) (AllReadyH.cons (o := _) rfl (fun K hK => ?_) (AllReadyH.cons (o := _) rfl (fun K hK => ?_) AllReadyH.nil))
          · skip -- 2
            simp only [rq0, rq1, rq2]
            go_simp
            (go_at_call 53; refine (ciS _ c xs _ (hr2.below hbx) (by omega)).mono ?_; rintro e W3 ⟨v13, rfl, hn, own13⟩)
            obtain ⟨v13a, v13m, v13c, rfl⟩ := own_form own13
            replace own14 := ow_below own14 hn
            replace lit := lit.below hn
            replace own13 := ow_mono (B' := w2.heap.size) own13 hbx.size
            replace hbx := bt2 hbx hn
            clear hn
            refine hK.out _ _ ?_ (fun hHeld => ?_)
            · exact ⟨cell_on (hbx) c0, cell_on (hbx) c1, cell_on (hbx) c2, cell_on (hbx) c3⟩
            clear hK K
            try simp only [rq0, rq1, rq2, Act.put, rq3, rq4, rq5]
            refine wpAnyH_ready (rs := [6, 11]) (by kernel_rfl) (by simp) (AllReadyH.cons (o := _) rfl (fun K hK => ?_) (AllReadyH.cons (o := _) rfl (fun K hK => ?_) AllReadyH.nil))
            · skip -- 6
              simp only [rq0, rq1, rq2]
              rw [if_pos (by rfl)]
              obtain ⟨v17, W4, hrun, own17, hg⟩ := app_ws W3 w2.heap.size _ own14 B d ws (hq2.below hbx) (by omega) hbx.size
              obtain ⟨v17a, v17m, v17c, rfl⟩ := own_form own17
              refine wp_appW (.tmp 14) (.tmp 16) (by rfl) (by rfl) (by rfl) (by rfl) hrun ?_
              clear hrun
              replace hbx := hbx.grown hg hbx.size (fun k hk => ow_ge own14 hk)
              replace own13 := World.ownsRow.kept own13 hg (own_dif own13 own14 (by decide))
              replace lit := lit.kept hg (hne)
              clear hg own14 hne
              refine hK.out _ _ ?_ (fun hHeld => ?_)
              · exact ⟨cell_on (hbx) c0, cell_on (hbx) c1, cell_on (hbx) c2, cell_on (hbx) c3⟩
              clear hK K
              try simp only [rq0, rq1, rq2, Act.put, rq3, rq4, rq5]
              refine wpAnyH_ready (rs := [9, 11]) (by kernel_rfl) (by simp) (AllReadyH.cons (o := _) rfl (fun K hK => ?_) (AllReadyH.cons (o := _) rfl (fun K hK => ?_) AllReadyH.nil))
              · skip -- 9
                simp only [rq0, rq1, rq2]
                rw [if_pos (by rfl)]
                obtain ⟨v20, W5, hrun, own20, hg⟩ := app_one W4 w2.heap.size _ _ ws own17 x lit (by omega) hbx.size
                obtain ⟨v20a, v20m, v20c, rfl⟩ := own_form own20
                refine wp_appW (.tmp 17) (.tmp 19) (by rfl) (by rfl) (by rfl) (by rfl) hrun ?_
                clear hrun
                replace hbx := hbx.grown hg hbx.size (fun k hk => ow_ge own17 hk)
                replace own13 := World.ownsRow.kept own13 hg (own_dif own13 own17 (by decide))
                clear hg own17 lit
                refine hK.out _ _ ?_ (fun hHeld => ?_)
                · exact ⟨cell_on (hbx) c0, cell_on (hbx) c1, cell_on (hbx) c2, cell_on (hbx) c3⟩
                clear hK K
                try simp only [rq0, rq1, rq2, Act.put, rq3, rq4, rq5]
                refine wpAnyH_take (i := 10) (oi := _) (v := ?_) rfl (by kernel_rfl) (by kernel_rfl) (by kernel_rfl) (fun _ _ _ h => h) (Or.inl ⟨by rfl, ?_⟩) (by assumption) ?_
                rotate_left
                · (intro wS hSw; (try dsimp only at hSw); (try go_split_ands); (simp only [List.getElem_toArray, List.getElem_cons_succ, List.getElem_cons_zero]); go_simp <;> (with_reducible rfl))
                try simp only [List.getElem_toArray, List.getElem_cons_succ, List.getElem_cons_zero, Act.put, List.setIfInBounds_toArray, List.set_cons_zero, List.set_cons_succ]
                refine wpAnyH_ready (rs := [11]) (by kernel_rfl) (by simp) (AllReadyH.cons (o := _) rfl (fun K hK => ?_) AllReadyH.nil)
                simp only [rq0, rq1, rq2]
                go_simp
                have hoK : w2.heap.size ≤ W5.heap.size := hbx.size
                have hn : Below W5.heap.size W5 (W5.alloc (.cells #[.slice none 0 0, .slice none 0 0] 30)) := (Below.refl _ _).alloc (Nat.le_refl _) _
                replace own13 := ow_below own13 hn
                replace own20 := ow_below own20 hn
                have out := Blk.new W5 30 #[.slice none 0 0, .slice none 0 0]
                have hbn := bt2 hbx hn
                refine hK.out _ _ ?_ (fun hHeld => ?_)
                · exact ⟨cell_on (hbn) c0, cell_on (hbn) c1, cell_on (hbn) c2, cell_on (hbn) c3⟩
                clear hK K
                try simp only [rq0, rq1, rq2, Act.put, rq3, rq4, rq5]
                replace hbx := hbn
                clear hbn hn
                generalize W5.alloc (.cells #[.slice none 0 0, .slice none 0 0] 30) = W6 at hbx own13 own20 out ⊢
                refine wpAnyH_ready (rs := [12]) (by kernel_rfl) (by simp) (AllReadyH.cons (o := _) rfl (fun K hK => ?_) AllReadyH.nil)
                have r0 : W6.cell? ⟨W5.heap.size, 0, none⟩ = some (.slice none 0 0) := out.cell 0
                have r1 : W6.cell? ⟨W5.heap.size, 1, none⟩ = some (.slice none 0 0) := out.cell 1
                have s0 : W6.frozen? ⟨W5.heap.size, 0, none⟩ = false := out.free 0
                have s1 : W6.frozen? ⟨W5.heap.size, 1, none⟩ = false := out.free 1
                simp only [rq0, rq1, rq2]
                go_simp
                refine hK.out _ _ ?_ (fun hHeld => ?_)
                · exact ⟨cell_on ((hbx.setCell hoK _).setCell hoK _) c0, cell_on ((hbx.setCell hoK _).setCell hoK _) c1, cell_on ((hbx.setCell hoK _).setCell hoK _) c2, cell_on ((hbx.setCell hoK _).setCell hoK _) c3⟩
                clear hK K
                try simp only [rq0, rq1, rq2, Act.put, rq3, rq4, rq5]
                clear r0 r1 s0 s1
                refine wpAnyH_done (by kernel_rfl) ?_ _
                refine NoPanic.normal ?_
                clear hHeld
                go_wp2_with fail
                go_meet
                exact ⟨_, _, _, _, _, _, _, rfl, by simpa using (out.set 0 (.slice v13a v13m v13c)).set 1 (.slice v20a v20m v20c), (hbx.setCell hoK _).setCell hoK _, own_set (own_set own13 out (by decide)) (out.set 0 _) (by decide), own_set (own_set own20 out (by decide)) (out.set 0 _) (by decide)⟩
              · skip -- 11
                simp only [rq0, rq1, rq2]
                go_simp
                have hoK : w2.heap.size ≤ W4.heap.size := hbx.size
                have hn : Below W4.heap.size W4 (W4.alloc (.cells #[.slice none 0 0, .slice none 0 0] 30)) := (Below.refl _ _).alloc (Nat.le_refl _) _
                replace own13 := ow_below own13 hn
                replace own17 := ow_below own17 hn
                replace lit := lit.below hn
                have out := Blk.new W4 30 #[.slice none 0 0, .slice none 0 0]
                have hbn := bt2 hbx hn
                refine hK.out _ _ ?_ (fun hHeld => ?_)
                · exact ⟨cell_on (hbn) c0, cell_on (hbn) c1, cell_on (hbn) c2, cell_on (hbn) c3⟩
                clear hK K
                try simp only [rq0, rq1, rq2, Act.put, rq3, rq4, rq5]
                replace hbx := hbn
                clear hbn hn
                generalize W4.alloc (.cells #[.slice none 0 0, .slice none 0 0] 30) = W5 at hbx own13 own17 lit out ⊢
                refine wpAnyH_ready (rs := [9]) (by kernel_rfl) (by simp) (AllReadyH.cons (o := _) rfl (fun K hK => ?_) AllReadyH.nil)
                simp only [rq0, rq1, rq2]
                rw [if_pos (by rfl)]
                obtain ⟨v20, W6, hrun, own20, hg⟩ := app_one W5 w2.heap.size _ _ ws own17 x lit (by omega) hbx.size
                obtain ⟨v20a, v20m, v20c, rfl⟩ := own_form own20
                refine wp_appW (.tmp 17) (.tmp 19) (by rfl) (by rfl) (by rfl) (by rfl) hrun ?_
                clear hrun
                replace hbx := hbx.grown hg hbx.size (fun k hk => ow_ge own17 hk)
                replace own13 := World.ownsRow.kept own13 hg (own_dif own13 own17 (by decide))
                replace out := out.kept hg (fun e => own_blk_ne own17 out (by decide) e.symm)
                clear hg own17 lit
                refine hK.out _ _ ?_ (fun hHeld => ?_)
                · exact ⟨cell_on (hbx) c0, cell_on (hbx) c1, cell_on (hbx) c2, cell_on (hbx) c3⟩
                clear hK K
                try simp only [rq0, rq1, rq2, Act.put, rq3, rq4, rq5]
                refine wpAnyH_take (i := 10) (oi := _) (v := ?_) rfl (by kernel_rfl) (by kernel_rfl) (by kernel_rfl) (fun _ _ _ h => h) (Or.inl ⟨by rfl, ?_⟩) (by assumption) ?_
                rotate_left
                · (intro wS hSw; (try dsimp only at hSw); (try go_split_ands); (simp only [List.getElem_toArray, List.getElem_cons_succ, List.getElem_cons_zero]); go_simp <;> (with_reducible rfl))
                try simp only [List.getElem_toArray, List.getElem_cons_succ, List.getElem_cons_zero, Act.put, List.setIfInBounds_toArray, List.set_cons_zero, List.set_cons_succ]
                refine wpAnyH_ready (rs := [12]) (by kernel_rfl) (by simp) (AllReadyH.cons (o := _) rfl (fun K hK => ?_) AllReadyH.nil)
                have r0 : W6.cell? ⟨W4.heap.size, 0, none⟩ = some (.slice none 0 0) := out.cell 0
                have r1 : W6.cell? ⟨W4.heap.size, 1, none⟩ = some (.slice none 0 0) := out.cell 1
                have s0 : W6.frozen? ⟨W4.heap.size, 0, none⟩ = false := out.free 0
                have s1 : W6.frozen? ⟨W4.heap.size, 1, none⟩ = false := out.free 1
                simp only [rq0, rq1, rq2]
                go_simp
                refine hK.out _ _ ?_ (fun hHeld => ?_)
                · exact ⟨cell_on ((hbx.setCell hoK _).setCell hoK _) c0, cell_on ((hbx.setCell hoK _).setCell hoK _) c1, cell_on ((hbx.setCell hoK _).setCell hoK _) c2, cell_on ((hbx.setCell hoK _).setCell hoK _) c3⟩
                clear hK K
                try simp only [rq0, rq1, rq2, Act.put, rq3, rq4, rq5]
                clear r0 r1 s0 s1
                refine wpAnyH_done (by kernel_rfl) ?_ _
                refine NoPanic.normal ?_
                clear hHeld
                go_wp2_with fail
                go_meet
                exact ⟨_, _, _, _, _, _, _, rfl, by simpa using (out.set 0 (.slice v13a v13m v13c)).set 1 (.slice v20a v20m v20c), (hbx.setCell hoK _).setCell hoK _, own_set (own_set own13 out (by decide)) (out.set 0 _) (by decide), own_set (own_set own20 out (by decide)) (out.set 0 _) (by decide)⟩
            · skip -- 11
              simp only [rq0, rq1, rq2]
              go_simp
              have hoK : w2.heap.size ≤ W3.heap.size := hbx.size
              have hn : Below W3.heap.size W3 (W3.alloc (.cells #[.slice none 0 0, .slice none 0 0] 30)) := (Below.refl _ _).alloc (Nat.le_refl _) _
              replace own14 := ow_below own14 hn
              replace own13 := ow_below own13 hn
              replace lit := lit.below hn
              have out := Blk.new W3 30 #[.slice none 0 0, .slice none 0 0]
              have hbn := bt2 hbx hn
              refine hK.out _ _ ?_ (fun hHeld => ?_)
              · exact ⟨cell_on (hbn) c0, cell_on (hbn) c1, cell_on (hbn) c2, cell_on (hbn) c3⟩
              clear hK K
              try simp only [rq0, rq1, rq2, Act.put, rq3, rq4, rq5]
              replace hbx := hbn
              clear hbn hn
              generalize W3.alloc (.cells #[.slice none 0 0, .slice none 0 0] 30) = W4 at hbx own14 own13 lit out ⊢
              refine wpAnyH_ready (rs := [6]) (by kernel_rfl) (by simp) (AllReadyH.cons (o := _) rfl (fun K hK => ?_) AllReadyH.nil)
              simp only [rq0, rq1, rq2]
              rw [if_pos (by rfl)]
              obtain ⟨v17, W5, hrun, own17, hg⟩ := app_ws W4 w2.heap.size _ own14 B d ws (hq2.below hbx) (by omega) hbx.size
              obtain ⟨v17a, v17m, v17c, rfl⟩ := own_form own17
              refine wp_appW (.tmp 14) (.tmp 16) (by rfl) (by rfl) (by rfl) (by rfl) hrun ?_
              clear hrun
              replace hbx := hbx.grown hg hbx.size (fun k hk => ow_ge own14 hk)
              replace own13 := World.ownsRow.kept own13 hg (own_dif own13 own14 (by decide))
              replace lit := lit.kept hg (hne)
              replace out := out.kept hg (fun e => own_blk_ne own14 out (by decide) e.symm)
              clear hg own14 hne
              refine hK.out _ _ ?_ (fun hHeld => ?_)
              · exact ⟨cell_on (hbx) c0, cell_on (hbx) c1, cell_on (hbx) c2, cell_on (hbx) c3⟩
              clear hK K
              try simp only [rq0, rq1, rq2, Act.put, rq3, rq4, rq5]
              refine wpAnyH_ready (rs := [9]) (by kernel_rfl) (by simp) (AllReadyH.cons (o := _) rfl (fun K hK => ?_) AllReadyH.nil)
              simp only [rq0, rq1, rq2]
              rw [if_pos (by rfl)]
              obtain ⟨v20, W6, hrun, own20, hg⟩ := app_one W5 w2.heap.size _ _ ws own17 x lit (by omega) hbx.size
              obtain ⟨v20a, v20m, v20c, rfl⟩ := own_form own20
              refine wp_appW (.tmp 17) (.tmp 19) (by rfl) (by rfl) (by rfl) (by rfl) hrun ?_
              clear hrun
              replace hbx := hbx.grown hg hbx.size (fun k hk => ow_ge own17 hk)
              replace own13 := World.ownsRow.kept own13 hg (own_dif own13 own17 (by decide))
              replace out := out.kept hg (fun e => own_blk_ne own17 out (by decide) e.symm)
              clear hg own17 lit
              refine hK.out _ _ ?_ (fun hHeld => ?_)
              · exact ⟨cell_on (hbx) c0, cell_on (hbx) c1, cell_on (hbx) c2, cell_on (hbx) c3⟩
              clear hK K
              try simp only [rq0, rq1, rq2, Act.put, rq3, rq4, rq5]
              refine wpAnyH_take (i := 10) (oi := _) (v := ?_) rfl (by kernel_rfl) (by kernel_rfl) (by kernel_rfl) (fun _ _ _ h => h) (Or.inl ⟨by rfl, ?_⟩) (by assumption) ?_
              rotate_left
              · (intro wS hSw; (try dsimp only at hSw); (try go_split_ands); (simp only [List.getElem_toArray, List.getElem_cons_succ, List.getElem_cons_zero]); go_simp <;> (with_reducible rfl))
              try simp only [List.getElem_toArray, List.getElem_cons_succ, List.getElem_cons_zero, Act.put, List.setIfInBounds_toArray, List.set_cons_zero, List.set_cons_succ]
              refine wpAnyH_ready (rs := [12]) (by kernel_rfl) (by simp) (AllReadyH.cons (o := _) rfl (fun K hK => ?_) AllReadyH.nil)
              have r0 : W6.cell? ⟨W3.heap.size, 0, none⟩ = some (.slice none 0 0) := out.cell 0
              have r1 : W6.cell? ⟨W3.heap.size, 1, none⟩ = some (.slice none 0 0) := out.cell 1
              have s0 : W6.frozen? ⟨W3.heap.size, 0, none⟩ = false := out.free 0
              have s1 : W6.frozen? ⟨W3.heap.size, 1, none⟩ = false := out.free 1
              simp only [rq0, rq1, rq2]
              go_simp
              refine hK.out _ _ ?_ (fun hHeld => ?_)
              · exact ⟨cell_on ((hbx.setCell hoK _).setCell hoK _) c0, cell_on ((hbx.setCell hoK _).setCell hoK _) c1, cell_on ((hbx.setCell hoK _).setCell hoK _) c2, cell_on ((hbx.setCell hoK _).setCell hoK _) c3⟩
              clear hK K
              try simp only [rq0, rq1, rq2, Act.put, rq3, rq4, rq5]
              clear r0 r1 s0 s1
              refine wpAnyH_done (by kernel_rfl) ?_ _
              refine NoPanic.normal ?_
              clear hHeld
              go_wp2_with fail
              go_meet
              exact ⟨_, _, _, _, _, _, _, rfl, by simpa using (out.set 0 (.slice v13a v13m v13c)).set 1 (.slice v20a v20m v20c), (hbx.setCell hoK _).setCell hoK _, own_set (own_set own13 out (by decide)) (out.set 0 _) (by decide), own_set (own_set own20 out (by decide)) (out.set 0 _) (by decide)⟩
          · skip -- 11
            simp only [rq0, rq1, rq2]
            go_simp
            have hoK : w2.heap.size ≤ W2.heap.size := hbx.size
            have hn : Below W2.heap.size W2 (W2.alloc (.cells #[.slice none 0 0, .slice none 0 0] 30)) := (Below.refl _ _).alloc (Nat.le_refl _) _
            replace own14 := ow_below own14 hn
            replace lit := lit.below hn
            have out := Blk.new W2 30 #[.slice none 0 0, .slice none 0 0]
            have hbn := bt2 hbx hn
            refine hK.out _ _ ?_ (fun hHeld => ?_)
            · exact ⟨cell_on (hbn) c0, cell_on (hbn) c1, cell_on (hbn) c2, cell_on (hbn) c3⟩
            clear hK K
            try simp only [rq0, rq1, rq2, Act.put, rq3, rq4, rq5]
            replace hbx := hbn
            clear hbn hn
            generalize W2.alloc (.cells #[.slice none 0 0, .slice none 0 0] 30) = W3 at hbx own14 lit out ⊢
            refine wpAnyH_ready (rs := [2]) (by kernel_rfl) (by simp) (AllReadyH.cons (o := _) rfl (fun K hK => ?_) AllReadyH.nil)
            simp only [rq0, rq1, rq2]
            go_simp
            (go_at_call 53; refine (ciS _ c xs _ (hr2.below hbx) (by omega)).mono ?_; rintro e W4 ⟨v13, rfl, hn, own13⟩)
            obtain ⟨v13a, v13m, v13c, rfl⟩ := own_form own13
            replace own14 := ow_below own14 hn
            replace lit := lit.below hn
            replace out := out.below hn
            replace own13 := ow_mono (B' := w2.heap.size) own13 hbx.size
            replace hbx := bt2 hbx hn
            clear hn
            refine hK.out _ _ ?_ (fun hHeld => ?_)
            · exact ⟨cell_on (hbx) c0, cell_on (hbx) c1, cell_on (hbx) c2, cell_on (hbx) c3⟩
            clear hK K
            try simp only [rq0, rq1, rq2, Act.put, rq3, rq4, rq5]
            refine wpAnyH_ready (rs := [6]) (by kernel_rfl) (by simp) (AllReadyH.cons (o := _) rfl (fun K hK => ?_) AllReadyH.nil)
            simp only [rq0, rq1, rq2]
            rw [if_pos (by rfl)]
            obtain ⟨v17, W5, hrun, own17, hg⟩ := app_ws W4 w2.heap.size _ own14 B d ws (hq2.below hbx) (by omega) hbx.size
            obtain ⟨v17a, v17m, v17c, rfl⟩ := own_form own17
            refine wp_appW (.tmp 14) (.tmp 16) (by rfl) (by rfl) (by rfl) (by rfl) hrun ?_
            clear hrun
            replace hbx := hbx.grown hg hbx.size (fun k hk => ow_ge own14 hk)
            replace own13 := World.ownsRow.kept own13 hg (own_dif own13 own14 (by decide))
            replace lit := lit.kept hg (hne)
            replace out := out.kept hg (fun e => own_blk_ne own14 out (by decide) e.symm)
            clear hg own14 hne
            refine hK.out _ _ ?_ (fun hHeld => ?_)
            · exact ⟨cell_on (hbx) c0, cell_on (hbx) c1, cell_on (hbx) c2, cell_on (hbx) c3⟩
            clear hK K
            try simp only [rq0, rq1, rq2, Act.put, rq3, rq4, rq5]
            refine wpAnyH_ready (rs := [9]) (by kernel_rfl) (by simp) (AllReadyH.cons (o := _) rfl (fun K hK => ?_) AllReadyH.nil)
            simp only [rq0, rq1, rq2]
            rw [if_pos (by rfl)]
            obtain ⟨v20, W6, hrun, own20, hg⟩ := app_one W5 w2.heap.size _ _ ws own17 x lit (by omega) hbx.size
            obtain ⟨v20a, v20m, v20c, rfl⟩ := own_form own20
            refine wp_appW (.tmp 17) (.tmp 19) (by rfl) (by rfl) (by rfl) (by rfl) hrun ?_
            clear hrun
            replace hbx := hbx.grown hg hbx.size (fun k hk => ow_ge own17 hk)
            replace own13 := World.ownsRow.kept own13 hg (own_dif own13 own17 (by decide))
            replace out := out.kept hg (fun e => own_blk_ne own17 out (by decide) e.symm)
            clear hg own17 lit
            refine hK.out _ _ ?_ (fun hHeld => ?_)
            · exact ⟨cell_on (hbx) c0, cell_on (hbx) c1, cell_on (hbx) c2, cell_on (hbx) c3⟩
            clear hK K
            try simp only [rq0, rq1, rq2, Act.put, rq3, rq4, rq5]
            refine wpAnyH_take (i := 10) (oi := _) (v := ?_) rfl (by kernel_rfl) (by kernel_rfl) (by kernel_rfl) (fun _ _ _ h => h) (Or.inl ⟨by rfl, ?_⟩) (by assumption) ?_
            rotate_left
            · (intro wS hSw; (try dsimp only at hSw); (try go_split_ands); (simp only [List.getElem_toArray, List.getElem_cons_succ, List.getElem_cons_zero]); go_simp <;> (with_reducible rfl))
            try simp only [List.getElem_toArray, List.getElem_cons_succ, List.getElem_cons_zero, Act.put, List.setIfInBounds_toArray, List.set_cons_zero, List.set_cons_succ]
            refine wpAnyH_ready (rs := [12]) (by kernel_rfl) (by simp) (AllReadyH.cons (o := _) rfl (fun K hK => ?_) AllReadyH.nil)
            have r0 : W6.cell? ⟨W2.heap.size, 0, none⟩ = some (.slice none 0 0) := out.cell 0
            have r1 : W6.cell? ⟨W2.heap.size, 1, none⟩ = some (.slice none 0 0) := out.cell 1
            have s0 : W6.frozen? ⟨W2.heap.size, 0, none⟩ = false := out.free 0
            have s1 : W6.frozen? ⟨W2.heap.size, 1, none⟩ = false := out.free 1
            simp only [rq0, rq1, rq2]
            go_simp
            refine hK.out _ _ ?_ (fun hHeld => ?_)
            · exact ⟨cell_on ((hbx.setCell hoK _).setCell hoK _) c0, cell_on ((hbx.setCell hoK _).setCell hoK _) c1, cell_on ((hbx.setCell hoK _).setCell hoK _) c2, cell_on ((hbx.setCell hoK _).setCell hoK _) c3⟩
            clear hK K
            try simp only [rq0, rq1, rq2, Act.put, rq3, rq4, rq5]
            clear r0 r1 s0 s1
            refine wpAnyH_done (by kernel_rfl) ?_ _
            refine NoPanic.normal ?_
            clear hHeld
            go_wp2_with fail
            go_meet
            exact ⟨_, _, _, _, _, _, _, rfl, by simpa using (out.set 0 (.slice v13a v13m v13c)).set 1 (.slice v20a v20m v20c), (hbx.setCell hoK _).setCell hoK _, own_set (own_set own13 out (by decide)) (out.set 0 _) (by decide), own_set (own_set own20 out (by decide)) (out.set 0 _) (by decide)⟩
        · skip -- 11
          simp only [rq0, rq1, rq2]
          go_simp
          have hoK : w2.heap.size ≤ W1.heap.size := hbx.size
          have hn : Below W1.heap.size W1 (W1.alloc (.cells #[.slice none 0 0, .slice none 0 0] 30)) := (Below.refl _ _).alloc (Nat.le_refl _) _
          replace lit := lit.below hn
          have out := Blk.new W1 30 #[.slice none 0 0, .slice none 0 0]
          have hbn := bt2 hbx hn
          refine hK.out _ _ ?_ (fun hHeld => ?_)
          · exact ⟨cell_on (hbn) c0, cell_on (hbn) c1, cell_on (hbn) c2, cell_on (hbn) c3⟩
          clear hK K
          try simp only [rq0, rq1, rq2, Act.put, rq3, rq4, rq5]
          replace hbx := hbn
          clear hbn hn
          generalize W1.alloc (.cells #[.slice none 0 0, .slice none 0 0] 30) = W2 at hbx lit out ⊢
          refine wpAnyH_ready (rs := [2, 3]) (by kernel_rfl) (by simp) (AllReadyH.cons (o := _) rfl (fun K hK => ?_) (AllReadyH.cons (o := _) rfl (fun K hK => ?_) AllReadyH.nil))
          · skip -- 2
            simp only [rq0, rq1, rq2]
            go_simp
            (go_at_call 53; refine (ciS _ c xs _ (hr2.below hbx) (by omega)).mono ?_; rintro e W3 ⟨v13, rfl, hn, own13⟩)
            obtain ⟨v13a, v13m, v13c, rfl⟩ := own_form own13
            replace lit := lit.below hn
            replace out := out.below hn
            replace own13 := ow_mono (B' := w2.heap.size) own13 hbx.size
            replace hbx := bt2 hbx hn
            clear hn
            refine hK.out _ _ ?_ (fun hHeld => ?_)
            · exact ⟨cell_on (hbx) c0, cell_on (hbx) c1, cell_on (hbx) c2, cell_on (hbx) c3⟩
            clear hK K
            try simp only [rq0, rq1, rq2, Act.put, rq3, rq4, rq5]
            refine wpAnyH_ready (rs := [3]) (by kernel_rfl) (by simp) (AllReadyH.cons (o := _) rfl (fun K hK => ?_) AllReadyH.nil)
            simp only [rq0, rq1, rq2]
            go_simp
            have hne : some (W0.heap.size) ≠ some (W3.heap.size) := by have := lit.lt; simp; omega
            have hn : Below W3.heap.size W3 (W3.alloc (.cells #[] 41)) := (Below.refl _ _).alloc (Nat.le_refl _) _
            replace own13 := ow_below own13 hn
            replace lit := lit.below hn
            replace out := out.below hn
            have own14 := ow_mono (B' := w2.heap.size) (ow_empty W3 (W3.alloc (.cells #[] 41)) 41 2 (heap_alloc_new _ _)) hbx.size
            have hbn := bt2 hbx hn
            refine hK.out _ _ ?_ (fun hHeld => ?_)
            · exact ⟨cell_on (hbn) c0, cell_on (hbn) c1, cell_on (hbn) c2, cell_on (hbn) c3⟩
            clear hK K
            try simp only [rq0, rq1, rq2, Act.put, rq3, rq4, rq5]
            replace hbx := hbn
            clear hbn hn
            generalize W3.alloc (.cells #[] 41) = W4 at hbx own13 lit out own14 ⊢
            refine wpAnyH_ready (rs := [6]) (by kernel_rfl) (by simp) (AllReadyH.cons (o := _) rfl (fun K hK => ?_) AllReadyH.nil)
            simp only [rq0, rq1, rq2]
            rw [if_pos (by rfl)]
            obtain ⟨v17, W5, hrun, own17, hg⟩ := app_ws W4 w2.heap.size _ own14 B d ws (hq2.below hbx) (by omega) hbx.size
            obtain ⟨v17a, v17m, v17c, rfl⟩ := own_form own17
            refine wp_appW (.tmp 14) (.tmp 16) (by rfl) (by rfl) (by rfl) (by rfl) hrun ?_
            clear hrun
            replace hbx := hbx.grown hg hbx.size (fun k hk => ow_ge own14 hk)
            replace own13 := World.ownsRow.kept own13 hg (own_dif own13 own14 (by decide))
            replace lit := lit.kept hg (hne)
            replace out := out.kept hg (fun e => own_blk_ne own14 out (by decide) e.symm)
            clear hg own14 hne
            refine hK.out _ _ ?_ (fun hHeld => ?_)
            · exact ⟨cell_on (hbx) c0, cell_on (hbx) c1, cell_on (hbx) c2, cell_on (hbx) c3⟩
            clear hK K
            try simp only [rq0, rq1, rq2, Act.put, rq3, rq4, rq5]
            refine wpAnyH_ready (rs := [9]) (by kernel_rfl) (by simp) (AllReadyH.cons (o := _) rfl (fun K hK => ?_) AllReadyH.nil)
            simp only [rq0, rq1, rq2]
            rw [if_pos (by rfl)]
            obtain ⟨v20, W6, hrun, own20, hg⟩ := app_one W5 w2.heap.size _ _ ws own17 x lit (by omega) hbx.size
            obtain ⟨v20a, v20m, v20c, rfl⟩ := own_form own20
            refine wp_appW (.tmp 17) (.tmp 19) (by rfl) (by rfl) (by rfl) (by rfl) hrun ?_
            clear hrun
            replace hbx := hbx.grown hg hbx.size (fun k hk => ow_ge own17 hk)
            replace own13 := World.ownsRow.kept own13 hg (own_dif own13 own17 (by decide))
            replace out := out.kept hg (fun e => own_blk_ne own17 out (by decide) e.symm)
            clear hg own17 lit
            refine hK.out _ _ ?_ (fun hHeld => ?_)
            · exact ⟨cell_on (hbx) c0, cell_on (hbx) c1, cell_on (hbx) c2, cell_on (hbx) c3⟩
            clear hK K
            try simp only [rq0, rq1, rq2, Act.put, rq3, rq4, rq5]
            refine wpAnyH_take (i := 10) (oi := _) (v := ?_) rfl (by kernel_rfl) (by kernel_rfl) (by kernel_rfl) (fun _ _ _ h => h) (Or.inl ⟨by rfl, ?_⟩) (by assumption) ?_
            rotate_left
            · (intro wS hSw; (try dsimp only at hSw); (try go_split_ands); (simp only [List.getElem_toArray, List.getElem_cons_succ, List.getElem_cons_zero]); go_simp <;> (with_reducible rfl))
            try simp only [List.getElem_toArray, List.getElem_cons_succ, List.getElem_cons_zero, Act.put, List.setIfInBounds_toArray, List.set_cons_zero, List.set_cons_succ]
            refine wpAnyH_ready (rs := [12]) (by kernel_rfl) (by simp) (AllReadyH.cons (o := _) rfl (fun K hK => ?_) AllReadyH.nil)
            have r0 : W6.cell? ⟨W1.heap.size, 0, none⟩ = some (.slice none 0 0) := out.cell 0
            have r1 : W6.cell? ⟨W1.heap.size, 1, none⟩ = some (.slice none 0 0) := out.cell 1
            have s0 : W6.frozen? ⟨W1.heap.size, 0, none⟩ = false := out.free 0
            have s1 : W6.frozen? ⟨W1.heap.size, 1, none⟩ = false := out.free 1
            simp only [rq0, rq1, rq2]
            go_simp
            refine hK.out _ _ ?_ (fun hHeld => ?_)
            · exact ⟨cell_on ((hbx.setCell hoK _).setCell hoK _) c0, cell_on ((hbx.setCell hoK _).setCell hoK _) c1, cell_on ((hbx.setCell hoK _).setCell hoK _) c2, cell_on ((hbx.setCell hoK _).setCell hoK _) c3⟩
            clear hK K
            try simp only [rq0, rq1, rq2, Act.put, rq3, rq4, rq5]
            clear r0 r1 s0 s1
            refine wpAnyH_done (by kernel_rfl) ?_ _
            refine NoPanic.normal ?_
            clear hHeld
            go_wp2_with fail
            go_meet
            exact ⟨_, _, _, _, _, _, _, rfl, by simpa using (out.set 0 (.slice v13a v13m v13c)).set 1 (.slice v20a v20m v20c), (hbx.setCell hoK _).setCell hoK _, own_set (own_set own13 out (by decide)) (out.set 0 _) (by decide), own_set (own_set own20 out (by decide)) (out.set 0 _) (by decide)⟩
          · skip -- 3
            simp only [rq0, rq1, rq2]
            go_simp
            have hne : some (W0.heap.size) ≠ some (W2.heap.size) := by have := lit.lt; simp; omega
            have hn : Below W2.heap.size W2 (W2.alloc (.cells #[] 41)) := (Below.refl _ _).alloc (Nat.le_refl _) _
            replace lit := lit.below hn
            replace out := out.below hn
            have own14 := ow_mono (B' := w2.heap.size) (ow_empty W2 (W2.alloc (.cells #[] 41)) 41 2 (heap_alloc_new _ _)) hbx.size
            have hbn := bt2 hbx hn
            refine hK.out _ _ ?_ (fun hHeld => ?_)
            · exact ⟨cell_on (hbn) c0, cell_on (hbn) c1, cell_on (hbn) c2, cell_on (hbn) c3⟩
            clear hK K
            try simp only [rq0, rq1, rq2, Act.put, rq3, rq4, rq5]
            replace hbx := hbn
            clear hbn hn
            generalize W2.alloc (.cells #[] 41) = W3 at hbx lit out own14 ⊢
            refine wpAnyH_ready (rs := [2]) (by kernel_rfl) (by simp) (AllReadyH.cons (o := _) rfl (fun K hK => ?_) AllReadyH.nil)
            simp only [rq0, rq1, rq2]
            go_simp
            (go_at_call 53; refine (ciS _ c xs _ (hr2.below hbx) (by omega)).mono ?_; rintro e W4 ⟨v13, rfl, hn, own13⟩)
            obtain ⟨v13a, v13m, v13c, rfl⟩ := own_form own13
            replace own14 := ow_below own14 hn
            replace lit := lit.below hn
            replace out := out.below hn
            replace own13 := ow_mono (B' := w2.heap.size) own13 hbx.size
            replace hbx := bt2 hbx hn
            clear hn
            refine hK.out _ _ ?_ (fun hHeld => ?_)
            · exact ⟨cell_on (hbx) c0, cell_on (hbx) c1, cell_on (hbx) c2, cell_on (hbx) c3⟩
            clear hK K
            try simp only [rq0, rq1, rq2, Act.put, rq3, rq4, rq5]
            refine wpAnyH_ready (rs := [6]) (by kernel_rfl) (by simp) (AllReadyH.cons (o := _) rfl (fun K hK => ?_) AllReadyH.nil)
            simp only [rq0, rq1, rq2]
            rw [if_pos (by rfl)]
            obtain ⟨v17, W5, hrun, own17, hg⟩ := app_ws W4 w2.heap.size _ own14 B d ws (hq2.below hbx) (by omega) hbx.size
            obtain ⟨v17a, v17m, v17c, rfl⟩ := own_form own17
            refine wp_appW (.tmp 14) (.tmp 16) (by rfl) (by rfl) (by rfl) (by rfl) hrun ?_
            clear hrun
            replace hbx := hbx.grown hg hbx.size (fun k hk => ow_ge own14 hk)
            replace own13 := World.ownsRow.kept own13 hg (own_dif own13 own14 (by decide))
            replace lit := lit.kept hg (hne)
            replace out := out.kept hg (fun e => own_blk_ne own14 out (by decide) e.symm)
            clear hg own14 hne
            refine hK.out _ _ ?_ (fun hHeld => ?_)
            · exact ⟨cell_on (hbx) c0, cell_on (hbx) c1, cell_on (hbx) c2, cell_on (hbx) c3⟩
            clear hK K
            try simp only [rq0, rq1, rq2, Act.put, rq3, rq4, rq5]
            refine wpAnyH_ready (rs := [9]) (by kernel_rfl) (by simp) (AllReadyH.cons (o := _) rfl (fun K hK => ?_) AllReadyH.nil)
            simp only [rq0, rq1, rq2]
            rw [if_pos (by rfl)]
            obtain ⟨v20, W6, hrun, own20, hg⟩ := app_one W5 w2.heap.size _ _ ws own17 x lit (by omega) hbx.size
            obtain ⟨v20a, v20m, v20c, rfl⟩ := own_form own20
            refine wp_appW (.tmp 17) (.tmp 19) (by rfl) (by rfl) (by rfl) (by rfl) hrun ?_
            clear hrun
            replace hbx := hbx.grown hg hbx.size (fun k hk => ow_ge own17 hk)
            replace own13 := World.ownsRow.kept own13 hg (own_dif own13 own17 (by decide))
            replace out := out.kept hg (fun e => own_blk_ne own17 out (by decide) e.symm)
            clear hg own17 lit
            refine hK.out _ _ ?_ (fun hHeld => ?_)
            · exact ⟨cell_on (hbx) c0, cell_on (hbx) c1, cell_on (hbx) c2, cell_on (hbx) c3⟩
            clear hK K
            try simp only [rq0, rq1, rq2, Act.put, rq3, rq4, rq5]
            refine wpAnyH_take (i := 10) (oi := _) (v := ?_) rfl (by kernel_rfl) (by kernel_rfl) (by kernel_rfl) (fun _ _ _ h => h) (Or.inl ⟨by rfl, ?_⟩) (by assumption) ?_
            rotate_left
            · (intro wS hSw; (try dsimp only at hSw); (try go_split_ands); (simp only [List.getElem_toArray, List.getElem_cons_succ, List.getElem_cons_zero]); go_simp <;> (with_reducible rfl))
            try simp only [List.getElem_toArray, List.getElem_cons_succ, List.getElem_cons_zero, Act.put, List.setIfInBounds_toArray, List.set_cons_zero, List.set_cons_succ]
            refine wpAnyH_ready (rs := [12]) (by kernel_rfl) (by simp) (AllReadyH.cons (o := _) rfl (fun K hK => ?_) AllReadyH.nil)
            have r0 : W6.cell? ⟨W1.heap.size, 0, none⟩ = some (.slice none 0 0) := out.cell 0
            have r1 : W6.cell? ⟨W1.heap.size, 1, none⟩ = some (.slice none 0 0) := out.cell 1
            have s0 : W6.frozen? ⟨W1.heap.size, 0, none⟩ = false := out.free 0
            have s1 : W6.frozen? ⟨W1.heap.size, 1, none⟩ = false := out.free 1
            simp only [rq0, rq1, rq2]
            go_simp
            refine hK.out _ _ ?_ (fun hHeld => ?_)
            · exact ⟨cell_on ((hbx.setCell hoK _).setCell hoK _) c0, cell_on ((hbx.setCell hoK _).setCell hoK _) c1, cell_on ((hbx.setCell hoK _).setCell hoK _) c2, cell_on ((hbx.setCell hoK _).setCell hoK _) c3⟩
            clear hK K
            try simp only [rq0, rq1, rq2, Act.put, rq3, rq4, rq5]
            clear r0 r1 s0 s1
            refine wpAnyH_done (by kernel_rfl) ?_ _
            refine NoPanic.normal ?_
            clear hHeld
            go_wp2_with fail
            go_meet
            exact ⟨_, _, _, _, _, _, _, rfl, by simpa using (out.set 0 (.slice v13a v13m v13c)).set 1 (.slice v20a v20m v20c), (hbx.setCell hoK _).setCell hoK _, own_set (own_set own13 out (by decide)) (out.set 0 _) (by decide), own_set (own_set own20 out (by decide)) (out.set 0 _) (by decide)⟩
      · skip -- 11
        simp only [rq0, rq1, rq2]
        go_simp
        have hoK : w2.heap.size ≤ W0.heap.size := hbx.size
        have hn : Below W0.heap.size W0 (W0.alloc (.cells #[.slice none 0 0, .slice none 0 0] 30)) := (Below.refl _ _).alloc (Nat.le_refl _) _
        have out := Blk.new W0 30 #[.slice none 0 0, .slice none 0 0]
        have hbn := bt2 hbx hn
        refine hK.out _ _ ?_ (fun hHeld => ?_)
        · exact ⟨cell_on (hbn) c0, cell_on (hbn) c1, cell_on (hbn) c2, cell_on (hbn) c3⟩
        clear hK K
        try simp only [rq0, rq1, rq2, Act.put, rq3, rq4, rq5]
        replace hbx := hbn
        clear hbn hn
        generalize W0.alloc (.cells #[.slice none 0 0, .slice none 0 0] 30) = W1 at hbx out ⊢
        refine wpAnyH_ready (rs := [2, 3, 8]) (by kernel_rfl) (by simp) (AllReadyH.cons (o := _) rfl (fun K hK => ?_) (AllReadyH.cons (o := _) rfl (fun K hK => ?_) (AllReadyH.cons (o := _) rfl (fun K hK => ?_) AllReadyH.nil)))
        · skip -- 2
          simp only [rq0, rq1, rq2]
          go_simp
          (go_at_call 53; refine (ciS _ c xs _ (hr2.below hbx) (by omega)).mono ?_; rintro e W2 ⟨v13, rfl, hn, own13⟩)
          obtain ⟨v13a, v13m, v13c, rfl⟩ := own_form own13
          replace out := out.below hn
          replace own13 := ow_mono (B' := w2.heap.size) own13 hbx.size
          replace hbx := bt2 hbx hn
          clear hn
          refine hK.out _ _ ?_ (fun hHeld => ?_)
          · exact ⟨cell_on (hbx) c0, cell_on (hbx) c1, cell_on (hbx) c2, cell_on (hbx) c3⟩
          clear hK K
          try simp only [rq0, rq1, rq2, Act.put, rq3, rq4, rq5]
          refine wpAnyH_ready (rs := [3, 8]) (by kernel_rfl) (by simp) (AllReadyH.cons (o := _) rfl (fun K hK => ?_) (AllReadyH.cons (o := _) rfl (fun K hK => ?_) AllReadyH.nil))
          · skip -- 3
            simp only [rq0, rq1, rq2]
            go_simp
            have hn : Below W2.heap.size W2 (W2.alloc (.cells #[] 41)) := (Below.refl _ _).alloc (Nat.le_refl _) _
            replace own13 := ow_below own13 hn
            replace out := out.below hn
            have own14 := ow_mono (B' := w2.heap.size) (ow_empty W2 (W2.alloc (.cells #[] 41)) 41 2 (heap_alloc_new _ _)) hbx.size
            have hbn := bt2 hbx hn
            refine hK.out _ _ ?_ (fun hHeld => ?_)
            · exact ⟨cell_on (hbn) c0, cell_on (hbn) c1, cell_on (hbn) c2, cell_on (hbn) c3⟩
            clear hK K
            try simp only [rq0, rq1, rq2, Act.put, rq3, rq4, rq5]
            replace hbx := hbn
            clear hbn hn
            generalize W2.alloc (.cells #[] 41) = W3 at hbx own13 out own14 ⊢
            refine wpAnyH_ready (rs := [6, 8]) (by kernel_rfl) (by simp) (AllReadyH.cons (o := _) rfl (fun K hK => ?_) (AllReadyH.cons (o := _) rfl (fun K hK => ?_) AllReadyH.nil))
            · skip -- 6
              simp only [rq0, rq1, rq2]
              rw [if_pos (by rfl)]
              obtain ⟨v17, W4, hrun, own17, hg⟩ := app_ws W3 w2.heap.size _ own14 B d ws (hq2.below hbx) (by omega) hbx.size
              obtain ⟨v17a, v17m, v17c, rfl⟩ := own_form own17
              refine wp_appW (.tmp 14) (.tmp 16) (by rfl) (by rfl) (by rfl) (by rfl) hrun ?_
              clear hrun
              replace hbx := hbx.grown hg hbx.size (fun k hk => ow_ge own14 hk)
              replace own13 := World.ownsRow.kept own13 hg (own_dif own13 own14 (by decide))
              replace out := out.kept hg (fun e => own_blk_ne own14 out (by decide) e.symm)
              clear hg own14
              refine hK.out _ _ ?_ (fun hHeld => ?_)
              · exact ⟨cell_on (hbx) c0, cell_on (hbx) c1, cell_on (hbx) c2, cell_on (hbx) c3⟩
              clear hK K
              try simp only [rq0, rq1, rq2, Act.put, rq3, rq4, rq5]
              refine wpAnyH_ready (rs := [8]) (by kernel_rfl) (by simp) (AllReadyH.cons (o := _) rfl (fun K hK => ?_) AllReadyH.nil)
              simp only [rq0, rq1, rq2]
              go_simp
              have hn : Below W4.heap.size W4 (W4.alloc (.cells #[.int .i64 x.1, .int .i64 x.2] 41)) := (Below.refl _ _).alloc (Nat.le_refl _) _
              replace own13 := ow_below own13 hn
              replace own17 := ow_below own17 hn
              replace out := out.below hn
              have lit := Blk.new W4 41 #[.int .i64 x.1, .int .i64 x.2]
              have hbn := bt2 hbx hn
              refine hK.out _ _ ?_ (fun hHeld => ?_)
              · exact ⟨cell_on (hbn) c0, cell_on (hbn) c1, cell_on (hbn) c2, cell_on (hbn) c3⟩
              clear hK K
              try simp only [rq0, rq1, rq2, Act.put, rq3, rq4, rq5]
              replace hbx := hbn
              clear hbn hn
              generalize W4.alloc (.cells #[.int .i64 x.1, .int .i64 x.2] 41) = W5 at hbx own13 own17 out lit ⊢
              refine wpAnyH_ready (rs := [9]) (by kernel_rfl) (by simp) (AllReadyH.cons (o := _) rfl (fun K hK => ?_) AllReadyH.nil)
              simp only [rq0, rq1, rq2]
              rw [if_pos (by rfl)]
              obtain ⟨v20, W6, hrun, own20, hg⟩ := app_one W5 w2.heap.size _ _ ws own17 x lit (by omega) hbx.size
              obtain ⟨v20a, v20m, v20c, rfl⟩ := own_form own20
              refine wp_appW (.tmp 17) (.tmp 19) (by rfl) (by rfl) (by rfl) (by rfl) hrun ?_
              clear hrun
              replace hbx := hbx.grown hg hbx.size (fun k hk => ow_ge own17 hk)
              replace own13 := World.ownsRow.kept own13 hg (own_dif own13 own17 (by decide))
              replace out := out.kept hg (fun e => own_blk_ne own17 out (by decide) e.symm)
              clear hg own17 lit
              refine hK.out _ _ ?_ (fun hHeld => ?_)
              · exact ⟨cell_on (hbx) c0, cell_on (hbx) c1, cell_on (hbx) c2, cell_on (hbx) c3⟩
              clear hK K
              try simp only [rq0, rq1, rq2, Act.put, rq3, rq4, rq5]
              refine wpAnyH_take (i := 10) (oi := _) (v := ?_) rfl (by kernel_rfl) (by kernel_rfl) (by kernel_rfl) (fun _ _ _ h => h) (Or.inl ⟨by rfl, ?_⟩) (by assumption) ?_
              rotate_left
              · (intro wS hSw; (try dsimp only at hSw); (try go_split_ands); (simp only [List.getElem_toArray, List.getElem_cons_succ, List.getElem_cons_zero]); go_simp <;> (with_reducible rfl))
              try simp only [List.getElem_toArray, List.getElem_cons_succ, List.getElem_cons_zero, Act.put, List.setIfInBounds_toArray, List.set_cons_zero, List.set_cons_succ]
              refine wpAnyH_ready (rs := [12]) (by kernel_rfl) (by simp) (AllReadyH.cons (o := _) rfl (fun K hK => ?_) AllReadyH.nil)
              have r0 : W6.cell? ⟨W0.heap.size, 0, none⟩ = some (.slice none 0 0) := out.cell 0
              have r1 : W6.cell? ⟨W0.heap.size, 1, none⟩ = some (.slice none 0 0) := out.cell 1
              have s0 : W6.frozen? ⟨W0.heap.size, 0, none⟩ = false := out.free 0
              have s1 : W6.frozen? ⟨W0.heap.size, 1, none⟩ = false := out.free 1
              simp only [rq0, rq1, rq2]
              go_simp
              refine hK.out _ _ ?_ (fun hHeld => ?_)
              · exact ⟨cell_on ((hbx.setCell hoK _).setCell hoK _) c0, cell_on ((hbx.setCell hoK _).setCell hoK _) c1, cell_on ((hbx.setCell hoK _).setCell hoK _) c2, cell_on ((hbx.setCell hoK _).setCell hoK _) c3⟩
              clear hK K
              try simp only [rq0, rq1, rq2, Act.put, rq3, rq4, rq5]
              clear r0 r1 s0 s1
              refine wpAnyH_done (by kernel_rfl) ?_ _
              refine NoPanic.normal ?_
              clear hHeld
              go_wp2_with fail
              go_meet
              exact ⟨_, _, _, _, _, _, _, rfl, by simpa using (out.set 0 (.slice v13a v13m v13c)).set 1 (.slice v20a v20m v20c), (hbx.setCell hoK _).setCell hoK _, own_set (own_set own13 out (by decide)) (out.set 0 _) (by decide), own_set (own_set own20 out (by decide)) (out.set 0 _) (by decide)⟩
            · skip -- 8
              simp only [rq0, rq1, rq2]
              go_simp
              have hne : some (W3.heap.size) ≠ some (W2.heap.size) := by have : W2.heap.size < W3.heap.size := ow_lt own14 rfl; simp; omega
              have hn : Below W3.heap.size W3 (W3.alloc (.cells #[.int .i64 x.1, .int .i64 x.2] 41)) := (Below.refl _ _).alloc (Nat.le_refl _) _
              replace own13 := ow_below own13 hn
              replace own14 := ow_below own14 hn
              replace out := out.below hn
              have lit := Blk.new W3 41 #[.int .i64 x.1, .int .i64 x.2]
              have hbn := bt2 hbx hn
              refine hK.out _ _ ?_ (fun hHeld => ?_)
              · exact ⟨cell_on (hbn) c0, cell_on (hbn) c1, cell_on (hbn) c2, cell_on (hbn) c3⟩
              clear hK K
              try simp only [rq0, rq1, rq2, Act.put, rq3, rq4, rq5]
              replace hbx := hbn
              clear hbn hn
              generalize W3.alloc (.cells #[.int .i64 x.1, .int .i64 x.2] 41) = W4 at hbx own13 own14 out lit ⊢
              refine wpAnyH_ready (rs := [6]) (by kernel_rfl) (by simp) (AllReadyH.cons (o := _) rfl (fun K hK => ?_) AllReadyH.nil)
              simp only [rq0, rq1, rq2]
              rw [if_pos (by rfl)]
              obtain ⟨v17, W5, hrun, own17, hg⟩ := app_ws W4 w2.heap.size _ own14 B d ws (hq2.below hbx) (by omega) hbx.size
              obtain ⟨v17a, v17m, v17c, rfl⟩ := own_form own17
              refine wp_appW (.tmp 14) (.tmp 16) (by rfl) (by rfl) (by rfl) (by rfl) hrun ?_
              clear hrun
              replace hbx := hbx.grown hg hbx.size (fun k hk => ow_ge own14 hk)
              replace own13 := World.ownsRow.kept own13 hg (own_dif own13 own14 (by decide))
              replace out := out.kept hg (fun e => own_blk_ne own14 out (by decide) e.symm)
              replace lit := lit.kept hg (hne)
              clear hg own14 hne
              refine hK.out _ _ ?_ (fun hHeld => ?_)
              · exact ⟨cell_on (hbx) c0, cell_on (hbx) c1, cell_on (hbx) c2, cell_on (hbx) c3⟩
              clear hK K
              try simp only [rq0, rq1, rq2, Act.put, rq3, rq4, rq5]
              refine wpAnyH_ready (rs := [9]) (by kernel_rfl) (by simp) (AllReadyH.cons (o := _) rfl (fun K hK => ?_) AllReadyH.nil)
              simp only [rq0, rq1, rq2]
              rw [if_pos (by rfl)]
              obtain ⟨v20, W6, hrun, own20, hg⟩ := app_one W5 w2.heap.size _ _ ws own17 x lit (by omega) hbx.size
              obtain ⟨v20a, v20m, v20c, rfl⟩ := own_form own20
              refine wp_appW (.tmp 17) (.tmp 19) (by rfl) (by rfl) (by rfl) (by rfl) hrun ?_
              clear hrun
              replace hbx := hbx.grown hg hbx.size (fun k hk => ow_ge own17 hk)
              replace own13 := World.ownsRow.kept own13 hg (own_dif own13 own17 (by decide))
              replace out := out.kept hg (fun e => own_blk_ne own17 out (by decide) e.symm)
              clear hg own17 lit
              refine hK.out _ _ ?_ (fun hHeld => ?_)
              · exact ⟨cell_on (hbx) c0, cell_on (hbx) c1, cell_on (hbx) c2, cell_on (hbx) c3⟩
              clear hK K
              try simp only [rq0, rq1, rq2, Act.put, rq3, rq4, rq5]
              refine wpAnyH_take (i := 10) (oi := _) (v := ?_) rfl (by kernel_rfl) (by kernel_rfl) (by kernel_rfl) (fun _ _ _ h => h) (Or.inl ⟨by rfl, ?_⟩) (by assumption) ?_
              rotate_left
              · (intro wS hSw; (try dsimp only at hSw); (try go_split_ands); (simp only [List.getElem_toArray, List.getElem_cons_succ, List.getElem_cons_zero]); go_simp <;> (with_reducible rfl))
              try simp only [List.getElem_toArray, List.getElem_cons_succ, List.getElem_cons_zero, Act.put, List.setIfInBounds_toArray, List.set_cons_zero, List.set_cons_succ]
              refine wpAnyH_ready (rs := [12]) (by kernel_rfl) (by simp) (AllReadyH.cons (o := _) rfl (fun K hK => ?_) AllReadyH.nil)
              have r0 : W6.cell? ⟨W0.heap.size, 0, none⟩ = some (.slice none 0 0) := out.cell 0
              have r1 : W6.cell? ⟨W0.heap.size, 1, none⟩ = some (.slice none 0 0) := out.cell 1
              have s0 : W6.frozen? ⟨W0.heap.size, 0, none⟩ = false := out.free 0
              have s1 : W6.frozen? ⟨W0.heap.size, 1, none⟩ = false := out.free 1
              simp only [rq0, rq1, rq2]
              go_simp
              refine hK.out _ _ ?_ (fun hHeld => ?_)
              · exact ⟨cell_on ((hbx.setCell hoK _).setCell hoK _) c0, cell_on ((hbx.setCell hoK _).setCell hoK _) c1, cell_on ((hbx.setCell hoK _).setCell hoK _) c2, cell_on ((hbx.setCell hoK _).setCell hoK _) c3⟩
              clear hK K
              try simp only [rq0, rq1, rq2, Act.put, rq3, rq4, rq5]
              clear r0 r1 s0 s1
              refine wpAnyH_done (by kernel_rfl) ?_ _
              refine NoPanic.normal ?_
              clear hHeld
              go_wp2_with fail
              go_meet
              exact ⟨_, _, _, _, _, _, _, rfl, by simpa using (out.set 0 (.slice v13a v13m v13c)).set 1 (.slice v20a v20m v20c), (hbx.setCell hoK _).setCell hoK _, own_set (own_set own13 out (by decide)) (out.set 0 _) (by decide), own_set (own_set own20 out (by decide)) (out.set 0 _) (by decide)⟩
          · skip -- 8
            simp only [rq0, rq1, rq2]
            go_simp
            have hn : Below W2.heap.size W2 (W2.alloc (.cells #[.int .i64 x.1, .int .i64 x.2] 41)) := (Below.refl _ _).alloc (Nat.le_refl _) _
            replace own13 := ow_below own13 hn
            replace out := out.below hn
            have lit := Blk.new W2 41 #[.int .i64 x.1, .int .i64 x.2]
            have hbn := bt2 hbx hn
            refine hK.out _ _ ?_ (fun hHeld => ?_)
            · exact ⟨cell_on (hbn) c0, cell_on (hbn) c1, cell_on (hbn) c2, cell_on (hbn) c3⟩
            clear hK K
            try simp only [rq0, rq1, rq2, Act.put, rq3, rq4, rq5]
            replace hbx := hbn
            clear hbn hn
            generalize W2.alloc (.cells #[.int .i64 x.1, .int .i64 x.2] 41) = W3 at hbx own13 out lit ⊢
            refine wpAnyH_ready (rs := [3]) (by kernel_rfl) (by simp) (AllReadyH.cons (o := _) rfl (fun K hK => ?_) AllReadyH.nil)
            simp only [rq0, rq1, rq2]
            go_simp
            have hne : some (W2.heap.size) ≠ some (W3.heap.size) := by have := lit.lt; simp; omega
            have hn : Below W3.heap.size W3 (W3.alloc (.cells #[] 41)) := (Below.refl _ _).alloc (Nat.le_refl _) _
            replace own13 := ow_below own13 hn
            replace out := out.below hn
            replace lit := lit.below hn
            have own14 := ow_mono (B' := w2.heap.size) (ow_empty W3 (W3.alloc (.cells #[] 41)) 41 2 (heap_alloc_new _ _)) hbx.size
            have hbn := bt2 hbx hn
            refine hK.out _ _ ?_ (fun hHeld => ?_)
            · exact ⟨cell_on (hbn) c0, cell_on (hbn) c1, cell_on (hbn) c2, cell_on (hbn) c3⟩
            clear hK K
            try simp only [rq0, rq1, rq2, Act.put, rq3, rq4, rq5]
            replace hbx := hbn
            clear hbn hn
            generalize W3.alloc (.cells #[] 41) = W4 at hbx own13 out lit own14 ⊢
            refine wpAnyH_ready (rs := [6]) (by kernel_rfl) (by simp) (AllReadyH.cons (o := _) rfl (fun K hK => ?_) AllReadyH.nil)
            simp only [rq0, rq1, rq2]
            rw [if_pos (by rfl)]
            obtain ⟨v17, W5, hrun, own17, hg⟩ := app_ws W4 w2.heap.size _ own14 B d ws (hq2.below hbx) (by omega) hbx.size
            obtain ⟨v17a, v17m, v17c, rfl⟩ := own_form own17
            refine wp_appW (.tmp 14) (.tmp 16) (by rfl) (by rfl) (by rfl) (by rfl) hrun ?_
            clear hrun
            replace hbx := hbx.grown hg hbx.size (fun k hk => ow_ge own14 hk)
            replace own13 := World.ownsRow.kept own13 hg (own_dif own13 own14 (by decide))
            replace out := out.kept hg (fun e => own_blk_ne own14 out (by decide) e.symm)
            replace lit := lit.kept hg (hne)
            clear hg own14 hne
            refine hK.out _ _ ?_ (fun hHeld => ?_)
            · exact ⟨cell_on (hbx) c0, cell_on (hbx) c1, cell_on (hbx) c2, cell_on (hbx) c3⟩
            clear hK K
            try simp only [rq0, rq1, rq2, Act.put, rq3, rq4, rq5]
            refine wpAnyH_ready (rs := [9]) (by kernel_rfl) (by simp) (AllReadyH.cons (o := _) rfl (fun K hK => ?_) AllReadyH.nil)
            simp only [rq0, rq1, rq2]
            rw [if_pos (by rfl)]
            obtain ⟨v20, W6, hrun, own20, hg⟩ := app_one W5 w2.heap.size _ _ ws own17 x lit (by omega) hbx.size
            obtain ⟨v20a, v20m, v20c, rfl⟩ := own_form own20
            refine wp_appW (.tmp 17) (.tmp 19) (by rfl) (by rfl) (by rfl) (by rfl) hrun ?_
            clear hrun
            replace hbx := hbx.grown hg hbx.size (fun k hk => ow_ge own17 hk)
            replace own13 := World.ownsRow.kept own13 hg (own_dif own13 own17 (by decide))
            replace out := out.kept hg (fun e => own_blk_ne own17 out (by decide) e.symm)
            clear hg own17 lit
            refine hK.out _ _ ?_ (fun hHeld => ?_)
            · exact ⟨cell_on (hbx) c0, cell_on (hbx) c1, cell_on (hbx) c2, cell_on (hbx) c3⟩
            clear hK K
            try simp only [rq0, rq1, rq2, Act.put, rq3, rq4, rq5]
            refine wpAnyH_take (i := 10) (oi := _) (v := ?_) rfl (by kernel_rfl) (by kernel_rfl) (by kernel_rfl) (fun _ _ _ h => h) (Or.inl ⟨by rfl, ?_⟩) (by assumption) ?_
            rotate_left
            · (intro wS hSw; (try dsimp only at hSw); (try go_split_ands); (simp only [List.getElem_toArray, List.getElem_cons_succ, List.getElem_cons_zero]); go_simp <;> (with_reducible rfl))
            try simp only [List.getElem_toArray, List.getElem_cons_succ, List.getElem_cons_zero, Act.put, List.setIfInBounds_toArray, List.set_cons_zero, List.set_cons_succ]
            refine wpAnyH_ready (rs := [12]) (by kernel_rfl) (by simp) (AllReadyH.cons (o := _) rfl (fun K hK => ?_) AllReadyH.nil)
            have r0 : W6.cell? ⟨W0.heap.size, 0, none⟩ = some (.slice none 0 0) := out.cell 0
            have r1 : W6.cell? ⟨W0.heap.size, 1, none⟩ = some (.slice none 0 0) := out.cell 1
            have s0 : W6.frozen? ⟨W0.heap.size, 0, none⟩ = false := out.free 0
            have s1 : W6.frozen? ⟨W0.heap.size, 1, none⟩ = false := out.free 1
            simp only [rq0, rq1, rq2]
            go_simp
            refine hK.out _ _ ?_ (fun hHeld => ?_)
            · exact ⟨cell_on ((hbx.setCell hoK _).setCell hoK _) c0, cell_on ((hbx.setCell hoK _).setCell hoK _) c1, cell_on ((hbx.setCell hoK _).setCell hoK _) c2, cell_on ((hbx.setCell hoK _).setCell hoK _) c3⟩
            clear hK K
            try simp only [rq0, rq1, rq2, Act.put, rq3, rq4, rq5]
            clear r0 r1 s0 s1
            refine wpAnyH_done (by kernel_rfl) ?_ _
            refine NoPanic.normal ?_
            clear hHeld
            go_wp2_with fail
            go_meet
            exact ⟨_, _, _, _, _, _, _, rfl, by simpa using (out.set 0 (.slice v13a v13m v13c)).set 1 (.slice v20a v20m v20c), (hbx.setCell hoK _).setCell hoK _, own_set (own_set own13 out (by decide)) (out.set 0 _) (by decide), own_set (own_set own20 out (by decide)) (out.set 0 _) (by decide)⟩
        · skip -- 3
          simp only [rq0, rq1, rq2]
          go_simp
          have hn : Below W1.heap.size W1 (W1.alloc (.cells #[] 41)) := (Below.refl _ _).alloc (Nat.le_refl _) _
          replace out := out.below hn
          have own14 := ow_mono (B' := w2.heap.size) (ow_empty W1 (W1.alloc (.cells #[] 41)) 41 2 (heap_alloc_new _ _)) hbx.size
          have hbn := bt2 hbx hn
          refine hK.out _ _ ?_ (fun hHeld => ?_)
          · exact ⟨cell_on (hbn) c0, cell_on (hbn) c1, cell_on (hbn) c2, cell_on (hbn) c3⟩
          clear hK K
          try simp only [rq0, rq1, rq2, Act.put, rq3, rq4, rq5]
          replace hbx := hbn
          clear hbn hn
          generalize W1.alloc (.cells #[] 41) = W2 at hbx out own14 ⊢
          refine wpAnyH_ready (rs := [2, 8]) (by kernel_rfl) (by simp) (AllReadyH.cons (o := _) rfl (fun K hK => ?_) (AllReadyH.cons (o := _) rfl (fun K hK => ?_) AllReadyH.nil))
          · skip -- 2
            simp only [rq0, rq1, rq2]
            go_simp
            (go_at_call 53; refine (ciS _ c xs _ (hr2.below hbx) (by omega)).mono ?_; rintro e W3 ⟨v13, rfl, hn, own13⟩)
            obtain ⟨v13a, v13m, v13c, rfl⟩ := own_form own13
            replace own14 := ow_below own14 hn
            replace out := out.below hn
            replace own13 := ow_mono (B' := w2.heap.size) own13 hbx.size
            replace hbx := bt2 hbx hn
            clear hn
            refine hK.out _ _ ?_ (fun hHeld => ?_)
            · exact ⟨cell_on (hbx) c0, cell_on (hbx) c1, cell_on (hbx) c2, cell_on (hbx) c3⟩
            clear hK K
            try simp only [rq0, rq1, rq2, Act.put, rq3, rq4, rq5]
            refine wpAnyH_ready (rs := [6, 8]) (by kernel_rfl) (by simp) (AllReadyH.cons (o := _) rfl (fun K hK => ?_) (AllReadyH.cons (o := _) rfl (fun K hK => ?_) AllReadyH.nil))
            · skip -- 6
              simp only [rq0, rq1, rq2]
              rw [if_pos (by rfl)]
              obtain ⟨v17, W4, hrun, own17, hg⟩ := app_ws W3 w2.heap.size _ own14 B d ws (hq2.below hbx) (by omega) hbx.size
              obtain ⟨v17a, v17m, v17c, rfl⟩ := own_form own17
              refine wp_appW (.tmp 14) (.tmp 16) (by rfl) (by rfl) (by rfl) (by rfl) hrun ?_
              clear hrun
              replace hbx := hbx.grown hg hbx.size (fun k hk => ow_ge own14 hk)
              replace own13 := World.ownsRow.kept own13 hg (own_dif own13 own14 (by decide))
              replace out := out.kept hg (fun e => own_blk_ne own14 out (by decide) e.symm)
              clear hg own14
              refine hK.out _ _ ?_ (fun hHeld => ?_)
              · exact ⟨cell_on (hbx) c0, cell_on (hbx) c1, cell_on (hbx) c2, cell_on (hbx) c3⟩
              clear hK K
              try simp only [rq0, rq1, rq2, Act.put, rq3, rq4, rq5]
              refine wpAnyH_ready (rs := [8]) (by kernel_rfl) (by simp) (AllReadyH.cons (o := _) rfl (fun K hK => ?_) AllReadyH.nil)
              simp only [rq0, rq1, rq2]
              go_simp
              have hn : Below W4.heap.size W4 (W4.alloc (.cells #[.int .i64 x.1, .int .i64 x.2] 41)) := (Below.refl _ _).alloc (Nat.le_refl _) _
              replace own13 := ow_below own13 hn
              replace own17 := ow_below own17 hn
              replace out := out.below hn
              have lit := Blk.new W4 41 #[.int .i64 x.1, .int .i64 x.2]
              have hbn := bt2 hbx hn
              refine hK.out _ _ ?_ (fun hHeld => ?_)
              · exact ⟨cell_on (hbn) c0, cell_on (hbn) c1, cell_on (hbn) c2, cell_on (hbn) c3⟩
              clear hK K
              try simp only [rq0, rq1, rq2, Act.put, rq3, rq4, rq5]
              replace hbx := hbn
              clear hbn hn
              generalize W4.alloc (.cells #[.int .i64 x.1, .int .i64 x.2] 41) = W5 at hbx own13 own17 out lit ⊢
              refine wpAnyH_ready (rs := [9]) (by kernel_rfl) (by simp) (AllReadyH.cons (o := _) rfl (fun K hK => ?_) AllReadyH.nil)
              simp only [rq0, rq1, rq2]
              rw [if_pos (by rfl)]
              obtain ⟨v20, W6, hrun, own20, hg⟩ := app_one W5 w2.heap.size _ _ ws own17 x lit (by omega) hbx.size
              obtain ⟨v20a, v20m, v20c, rfl⟩ := own_form own20
              refine wp_appW (.tmp 17) (.tmp 19) (by rfl) (by rfl) (by rfl) (by rfl) hrun ?_
              clear hrun
              replace hbx := hbx.grown hg hbx.size (fun k hk => ow_ge own17 hk)
              replace own13 := World.ownsRow.kept own13 hg (own_dif own13 own17 (by decide))
              replace out := out.kept hg (fun e => own_blk_ne own17 out (by decide) e.symm)
              clear hg own17 lit
              refine hK.out _ _ ?_ (fun hHeld => ?_)
              · exact ⟨cell_on (hbx) c0, cell_on (hbx) c1, cell_on (hbx) c2, cell_on (hbx) c3⟩
              clear hK K
              try simp only [rq0, rq1, rq2, Act.put, rq3, rq4, rq5]
              refine wpAnyH_take (i := 10) (oi := _) (v := ?_) rfl (by kernel_rfl) (by kernel_rfl) (by kernel_rfl) (fun _ _ _ h => h) (Or.inl ⟨by rfl, ?_⟩) (by assumption) ?_
              rotate_left
              · (intro wS hSw; (try dsimp only at hSw); (try go_split_ands); (simp only [List.getElem_toArray, List.getElem_cons_succ, List.getElem_cons_zero]); go_simp <;> (with_reducible rfl))
              try simp only [List.getElem_toArray, List.getElem_cons_succ, List.getElem_cons_zero, Act.put, List.setIfInBounds_toArray, List.set_cons_zero, List.set_cons_succ]
              refine wpAnyH_ready (rs := [12]) (by kernel_rfl) (by simp) (AllReadyH.cons (o := _) rfl (fun K hK => ?_) AllReadyH.nil)
              have r0 : W6.cell? ⟨W0.heap.size, 0, none⟩ = some (.slice none 0 0) := out.cell 0
              have r1 : W6.cell? ⟨W0.heap.size, 1, none⟩ = some (.slice none 0 0) := out.cell 1
              have s0 : W6.frozen? ⟨W0.heap.size, 0, none⟩ = false := out.free 0
              have s1 : W6.frozen? ⟨W0.heap.size, 1, none⟩ = false := out.free 1
              simp only [rq0, rq1, rq2]
              go_simp
              refine hK.out _ _ ?_ (fun hHeld => ?_)
              · exact ⟨cell_on ((hbx.setCell hoK _).setCell hoK _) c0, cell_on ((hbx.setCell hoK _).setCell hoK _) c1, cell_on ((hbx.setCell hoK _).setCell hoK _) c2, cell_on ((hbx.setCell hoK _).setCell hoK _) c3⟩
              clear hK K
              try simp only [rq0, rq1, rq2, Act.put, rq3, rq4, rq5]
              clear r0 r1 s0 s1
              refine wpAnyH_done (by kernel_rfl) ?_ _
              refine NoPanic.normal ?_
              clear hHeld
              go_wp2_with fail
              go_meet
              exact ⟨_, _, _, _, _, _, _, rfl, by simpa using (out.set 0 (.slice v13a v13m v13c)).set 1 (.slice v20a v20m v20c), (hbx.setCell hoK _).setCell hoK _, own_set (own_set own13 out (by decide)) (out.set 0 _) (by decide), own_set (own_set own20 out (by decide)) (out.set 0 _) (by decide)⟩
            · skip -- 8
              simp only [rq0, rq1, rq2]
              go_simp
              have hne : some (W3.heap.size) ≠ some (W1.heap.size) := by have : W1.heap.size < W3.heap.size := ow_lt own14 rfl; simp; omega
              have hn : Below W3.heap.size W3 (W3.alloc (.cells #[.int .i64 x.1, .int .i64 x.2] 41)) := (Below.refl _ _).alloc (Nat.le_refl _) _
              replace own14 := ow_below own14 hn
              replace own13 := ow_below own13 hn
              replace out := out.below hn
              have lit := Blk.new W3 41 #[.int .i64 x.1, .int .i64 x.2]
              have hbn := bt2 hbx hn
              refine hK.out _ _ ?_ (fun hHeld => ?_)
              · exact ⟨cell_on (hbn) c0, cell_on (hbn) c1, cell_on (hbn) c2, cell_on (hbn) c3⟩
              clear hK K
              try simp only [rq0, rq1, rq2, Act.put, rq3, rq4, rq5]
              replace hbx := hbn
              clear hbn hn
              generalize W3.alloc (.cells #[.int .i64 x.1, .int .i64 x.2] 41) = W4 at hbx own14 own13 out lit ⊢
              refine wpAnyH_ready (rs := [6]) (by kernel_rfl) (by simp) (AllReadyH.cons (o := _) rfl (fun K hK => ?_) AllReadyH.nil)
              simp only [rq0, rq1, rq2]
              rw [if_pos (by rfl)]
              obtain ⟨v17, W5, hrun, own17, hg⟩ := app_ws W4 w2.heap.size _ own14 B d ws (hq2.below hbx) (by omega) hbx.size
              obtain ⟨v17a, v17m, v17c, rfl⟩ := own_form own17
              refine wp_appW (.tmp 14) (.tmp 16) (by rfl) (by rfl) (by rfl) (by rfl) hrun ?_
              clear hrun
              replace hbx := hbx.grown hg hbx.size (fun k hk => ow_ge own14 hk)
              replace own13 := World.ownsRow.kept own13 hg (own_dif own13 own14 (by decide))
              replace out := out.kept hg (fun e => own_blk_ne own14 out (by decide) e.symm)
              replace lit := lit.kept hg (hne)
              clear hg own14 hne
              refine hK.out _ _ ?_ (fun hHeld => ?_)
              · exact ⟨cell_on (hbx) c0, cell_on (hbx) c1, cell_on (hbx) c2, cell_on (hbx) c3⟩
              clear hK K
              try simp only [rq0, rq1, rq2, Act.put, rq3, rq4, rq5]
              refine wpAnyH_ready (rs := [9]) (by kernel_rfl) (by simp) (AllReadyH.cons (o := _) rfl (fun K hK => ?_) AllReadyH.nil)
              simp only [rq0, rq1, rq2]
              rw [if_pos (by rfl)]
              obtain ⟨v20, W6, hrun, own20, hg⟩ := app_one W5 w2.heap.size _ _ ws own17 x lit (by omega) hbx.size
              obtain ⟨v20a, v20m, v20c, rfl⟩ := own_form own20
              refine wp_appW (.tmp 17) (.tmp 19) (by rfl) (by rfl) (by rfl) (by rfl) hrun ?_
              clear hrun
              replace hbx := hbx.grown hg hbx.size (fun k hk => ow_ge own17 hk)
              replace own13 := World.ownsRow.kept own13 hg (own_dif own13 own17 (by decide))
              replace out := out.kept hg (fun e => own_blk_ne own17 out (by decide) e.symm)
              clear hg own17 lit
              refine hK.out _ _ ?_ (fun hHeld => ?_)
              · exact ⟨cell_on (hbx) c0, cell_on (hbx) c1, cell_on (hbx) c2, cell_on (hbx) c3⟩
              clear hK K
              try simp only [rq0, rq1, rq2, Act.put, rq3, rq4, rq5]
              refine wpAnyH_take (i := 10) (oi := _) (v := ?_) rfl (by kernel_rfl) (by kernel_rfl) (by kernel_rfl) (fun _ _ _ h => h) (Or.inl ⟨by rfl, ?_⟩) (by assumption) ?_
              rotate_left
              · (intro wS hSw; (try dsimp only at hSw); (try go_split_ands); (simp only [List.getElem_toArray, List.getElem_cons_succ, List.getElem_cons_zero]); go_simp <;> (with_reducible rfl))
              try simp only [List.getElem_toArray, List.getElem_cons_succ, List.getElem_cons_zero, Act.put, List.setIfInBounds_toArray, List.set_cons_zero, List.set_cons_succ]
              refine wpAnyH_ready (rs := [12]) (by kernel_rfl) (by simp) (AllReadyH.cons (o := _) rfl (fun K hK => ?_) AllReadyH.nil)
              have r0 : W6.cell? ⟨W0.heap.size, 0, none⟩ = some (.slice none 0 0) := out.cell 0
              have r1 : W6.cell? ⟨W0.heap.size, 1, none⟩ = some (.slice none 0 0) := out.cell 1
              have s0 : W6.frozen? ⟨W0.heap.size, 0, none⟩ = false := out.free 0
              have s1 : W6.frozen? ⟨W0.heap.size, 1, none⟩ = false := out.free 1
              simp only [rq0, rq1, rq2]
              go_simp
              refine hK.out _ _ ?_ (fun hHeld => ?_)
              · exact ⟨cell_on ((hbx.setCell hoK _).setCell hoK _) c0, cell_on ((hbx.setCell hoK _).setCell hoK _) c1, cell_on ((hbx.setCell hoK _).setCell hoK _) c2, cell_on ((hbx.setCell hoK _).setCell hoK _) c3⟩
              clear hK K
              try simp only [rq0, rq1, rq2, Act.put, rq3, rq4, rq5]
              clear r0 r1 s0 s1
              refine wpAnyH_done (by kernel_rfl) ?_ _
              refine NoPanic.normal ?_
              clear hHeld
              go_wp2_with fail
              go_meet
              exact ⟨_, _, _, _, _, _, _, rfl, by simpa using (out.set 0 (.slice v13a v13m v13c)).set 1 (.slice v20a v20m v20c), (hbx.setCell hoK _).setCell hoK _, own_set (own_set own13 out (by decide)) (out.set 0 _) (by decide), own_set (own_set own20 out (by decide)) (out.set 0 _) (by decide)⟩
          · skip -- 8
            simp only [rq0, rq1, rq2]
            go_simp
            have hne : some (W2.heap.size) ≠ some (W1.heap.size) := by have : W1.heap.size < W2.heap.size := ow_lt own14 rfl; simp; omega
            have hn : Below W2.heap.size W2 (W2.alloc (.cells #[.int .i64 x.1, .int .i64 x.2] 41)) := (Below.refl _ _).alloc (Nat.le_refl _) _
            replace own14 := ow_below own14 hn
            replace out := out.below hn
            have lit := Blk.new W2 41 #[.int .i64 x.1, .int .i64 x.2]
            have hbn := bt2 hbx hn
            refine hK.out _ _ ?_ (fun hHeld => ?_)
            · exact ⟨cell_on (hbn) c0, cell_on (hbn) c1, cell_on (hbn) c2, cell_on (hbn) c3⟩
            clear hK K
            try simp only [rq0, rq1, rq2, Act.put, rq3, rq4, rq5]
            replace hbx := hbn
            clear hbn hn
            generalize W2.alloc (.cells #[.int .i64 x.1, .int .i64 x.2] 41) = W3 at hbx own14 out lit ⊢
            refine wpAnyH_ready (rs := [2]) (by kernel_rfl) (by simp) (AllReadyH.cons (o := _) rfl (fun K hK => ?_) AllReadyH.nil)
            simp only [rq0, rq1, rq2]
            go_simp
            (go_at_call 53; refine (ciS _ c xs _ (hr2.below hbx) (by omega)).mono ?_; rintro e W4 ⟨v13, rfl, hn, own13⟩)
            obtain ⟨v13a, v13m, v13c, rfl⟩ := own_form own13
            replace own14 := ow_below own14 hn
            replace out := out.below hn
            replace lit := lit.below hn
            replace own13 := ow_mono (B' := w2.heap.size) own13 hbx.size
            replace hbx := bt2 hbx hn
            clear hn
            refine hK.out _ _ ?_ (fun hHeld => ?_)
            · exact ⟨cell_on (hbx) c0, cell_on (hbx) c1, cell_on (hbx) c2, cell_on (hbx) c3⟩
            clear hK K
            try simp only [rq0, rq1, rq2, Act.put, rq3, rq4, rq5]
            refine wpAnyH_ready (rs := [6]) (by kernel_rfl) (by simp) (AllReadyH.cons (o := _) rfl (fun K hK => ?_) AllReadyH.nil)
            simp only [rq0, rq1, rq2]
            rw [if_pos (by rfl)]
            obtain ⟨v17, W5, hrun, own17, hg⟩ := app_ws W4 w2.heap.size _ own14 B d ws (hq2.below hbx) (by omega) hbx.size
            obtain ⟨v17a, v17m, v17c, rfl⟩ := own_form own17
            refine wp_appW (.tmp 14) (.tmp 16) (by rfl) (by rfl) (by rfl) (by rfl) hrun ?_
            clear hrun
            replace hbx := hbx.grown hg hbx.size (fun k hk => ow_ge own14 hk)
            replace own13 := World.ownsRow.kept own13 hg (own_dif own13 own14 (by decide))
            replace out := out.kept hg (fun e => own_blk_ne own14 out (by decide) e.symm)
            replace lit := lit.kept hg (hne)
            clear hg own14 hne
            refine hK.out _ _ ?_ (fun hHeld => ?_)
            · exact ⟨cell_on (hbx) c0, cell_on (hbx) c1, cell_on (hbx) c2, cell_on (hbx) c3⟩
            clear hK K
            try simp only [rq0, rq1, rq2, Act.put, rq3, rq4, rq5]
            refine wpAnyH_ready (rs := [9]) (by kernel_rfl) (by simp) (AllReadyH.cons (o := _) rfl (fun K hK => ?_) AllReadyH.nil)
            simp only [rq0, rq1, rq2]
            rw [if_pos (by rfl)]
            obtain ⟨v20, W6, hrun, own20, hg⟩ := app_one W5 w2.heap.size _ _ ws own17 x lit (by omega) hbx.size
            obtain ⟨v20a, v20m, v20c, rfl⟩ := own_form own20
            refine wp_appW (.tmp 17) (.tmp 19) (by rfl) (by rfl) (by rfl) (by rfl) hrun ?_
            clear hrun
            replace hbx := hbx.grown hg hbx.size (fun k hk => ow_ge own17 hk)
            replace own13 := World.ownsRow.kept own13 hg (own_dif own13 own17 (by decide))
            replace out := out.kept hg (fun e => own_blk_ne own17 out (by decide) e.symm)
            clear hg own17 lit
            refine hK.out _ _ ?_ (fun hHeld => ?_)
            · exact ⟨cell_on (hbx) c0, cell_on (hbx) c1, cell_on (hbx) c2, cell_on (hbx) c3⟩
            clear hK K
            try simp only [rq0, rq1, rq2, Act.put, rq3, rq4, rq5]
            refine wpAnyH_take (i := 10) (oi := _) (v := ?_) rfl (by kernel_rfl) (by kernel_rfl) (by kernel_rfl) (fun _ _ _ h => h) (Or.inl ⟨by rfl, ?_⟩) (by assumption) ?_
            rotate_left
            · (intro wS hSw; (try dsimp only at hSw); (try go_split_ands); (simp only [List.getElem_toArray, List.getElem_cons_succ, List.getElem_cons_zero]); go_simp <;> (with_reducible rfl))
            try simp only [List.getElem_toArray, List.getElem_cons_succ, List.getElem_cons_zero, Act.put, List.setIfInBounds_toArray, List.set_cons_zero, List.set_cons_succ]
            refine wpAnyH_ready (rs := [12]) (by kernel_rfl) (by simp) (AllReadyH.cons (o := _) rfl (fun K hK => ?_) AllReadyH.nil)
            have r0 : W6.cell? ⟨W0.heap.size, 0, none⟩ = some (.slice none 0 0) := out.cell 0
            have r1 : W6.cell? ⟨W0.heap.size, 1, none⟩ = some (.slice none 0 0) := out.cell 1
            have s0 : W6.frozen? ⟨W0.heap.size, 0, none⟩ = false := out.free 0
            have s1 : W6.frozen? ⟨W0.heap.size, 1, none⟩ = false := out.free 1
            simp only [rq0, rq1, rq2]
            go_simp
            refine hK.out _ _ ?_ (fun hHeld => ?_)
            · exact ⟨cell_on ((hbx.setCell hoK _).setCell hoK _) c0, cell_on ((hbx.setCell hoK _).setCell hoK _) c1, cell_on ((hbx.setCell hoK _).setCell hoK _) c2, cell_on ((hbx.setCell hoK _).setCell hoK _) c3⟩
            clear hK K
            try simp only [rq0, rq1, rq2, Act.put, rq3, rq4, rq5]
            clear r0 r1 s0 s1
            refine wpAnyH_done (by kernel_rfl) ?_ _
            refine NoPanic.normal ?_
            clear hHeld
            go_wp2_with fail
            go_meet
            exact ⟨_, _, _, _, _, _, _, rfl, by simpa using (out.set 0 (.slice v13a v13m v13c)).set 1 (.slice v20a v20m v20c), (hbx.setCell hoK _).setCell hoK _, own_set (own_set own13 out (by decide)) (out.set 0 _) (by decide), own_set (own_set own20 out (by decide)) (out.set 0 _) (by decide)⟩
        · skip -- 8
          simp only [rq0, rq1, rq2]
          go_simp
          have hn : Below W1.heap.size W1 (W1.alloc (.cells #[.int .i64 x.1, .int .i64 x.2] 41)) := (Below.refl _ _).alloc (Nat.le_refl _) _
          replace out := out.below hn
          have lit := Blk.new W1 41 #[.int .i64 x.1, .int .i64 x.2]
          have hbn := bt2 hbx hn
          refine hK.out _ _ ?_ (fun hHeld => ?_)
          · exact ⟨cell_on (hbn) c0, cell_on (hbn) c1, cell_on (hbn) c2, cell_on (hbn) c3⟩
          clear hK K
          try simp only [rq0, rq1, rq2, Act.put, rq3, rq4, rq5]
          replace hbx := hbn
          clear hbn hn
          generalize W1.alloc (.cells #[.int .i64 x.1, .int .i64 x.2] 41) = W2 at hbx out lit ⊢
          refine wpAnyH_ready (rs := [2, 3]) (by kernel_rfl) (by simp) (AllReadyH.cons (o := _) rfl (fun K hK => ?_) (AllReadyH.cons (o := _) rfl (fun K hK => ?_) AllReadyH.nil))
          · skip -- 2
            simp only [rq0, rq1, rq2]
            go_simp
            (go_at_call 53; refine (ciS _ c xs _ (hr2.below hbx) (by omega)).mono ?_; rintro e W3 ⟨v13, rfl, hn, own13⟩)
            obtain ⟨v13a, v13m, v13c, rfl⟩ := own_form own13
            replace out := out.below hn
            replace lit := lit.below hn
            replace own13 := ow_mono (B' := w2.heap.size) own13 hbx.size
            replace hbx := bt2 hbx hn
            clear hn
            refine hK.out _ _ ?_ (fun hHeld => ?_)
            · exact ⟨cell_on (hbx) c0, cell_on (hbx) c1, cell_on (hbx) c2, cell_on (hbx) c3⟩
            clear hK K
            try simp only [rq0, rq1, rq2, Act.put, rq3, rq4, rq5]
            refine wpAnyH_ready (rs := [3]) (by kernel_rfl) (by simp) (AllReadyH.cons (o := _) rfl (fun K hK => ?_) AllReadyH.nil)
            simp only [rq0, rq1, rq2]
            go_simp
            have hne : some (W1.heap.size) ≠ some (W3.heap.size) := by have := lit.lt; simp; omega
            have hn : Below W3.heap.size W3 (W3.alloc (.cells #[] 41)) := (Below.refl _ _).alloc (Nat.le_refl _) _
            replace own13 := ow_below own13 hn
            replace out := out.below hn
            replace lit := lit.below hn
            have own14 := ow_mono (B' := w2.heap.size) (ow_empty W3 (W3.alloc (.cells #[] 41)) 41 2 (heap_alloc_new _ _)) hbx.size
            have hbn := bt2 hbx hn
            refine hK.out _ _ ?_ (fun hHeld => ?_)
            · exact ⟨cell_on (hbn) c0, cell_on (hbn) c1, cell_on (hbn) c2, cell_on (hbn) c3⟩
            clear hK K
            try simp only [rq0, rq1, rq2, Act.put, rq3, rq4, rq5]
            replace hbx := hbn
            clear hbn hn
            generalize W3.alloc (.cells #[] 41) = W4 at hbx own13 out lit own14 ⊢
            refine wpAnyH_ready (rs := [6]) (by kernel_rfl) (by simp) (AllReadyH.cons (o := _) rfl (fun K hK => ?_) AllReadyH.nil)
            simp only [rq0, rq1, rq2]
            rw [if_pos (by rfl)]
            obtain ⟨v17, W5, hrun, own17, hg⟩ := app_ws W4 w2.heap.size _ own14 B d ws (hq2.below hbx) (by omega) hbx.size
            obtain ⟨v17a, v17m, v17c, rfl⟩ := own_form own17
            refine wp_appW (.tmp 14) (.tmp 16) (by rfl) (by rfl) (by rfl) (by rfl) hrun ?_
            clear hrun
            replace hbx := hbx.grown hg hbx.size (fun k hk => ow_ge own14 hk)
            replace own13 := World.ownsRow.kept own13 hg (own_dif own13 own14 (by decide))
            replace out := out.kept hg (fun e => own_blk_ne own14 out (by decide) e.symm)
            replace lit := lit.kept hg (hne)
            clear hg own14 hne
            refine hK.out _ _ ?_ (fun hHeld => ?_)
            · exact ⟨cell_on (hbx) c0, cell_on (hbx) c1, cell_on (hbx) c2, cell_on (hbx) c3⟩
            clear hK K
            try simp only [rq0, rq1, rq2, Act.put, rq3, rq4, rq5]
            refine wpAnyH_ready (rs := [9]) (by kernel_rfl) (by simp) (AllReadyH.cons (o := _) rfl (fun K hK => ?_) AllReadyH.nil)
            simp only [rq0, rq1, rq2]
            rw [if_pos (by rfl)]
            obtain ⟨v20, W6, hrun, own20, hg⟩ := app_one W5 w2.heap.size _ _ ws own17 x lit (by omega) hbx.size
            obtain ⟨v20a, v20m, v20c, rfl⟩ := own_form own20
            refine wp_appW (.tmp 17) (.tmp 19) (by rfl) (by rfl) (by rfl) (by rfl) hrun ?_
            clear hrun
            replace hbx := hbx.grown hg hbx.size (fun k hk => ow_ge own17 hk)
            replace own13 := World.ownsRow.kept own13 hg (own_dif own13 own17 (by decide))
            replace out := out.kept hg (fun e => own_blk_ne own17 out (by decide) e.symm)
            clear hg own17 lit
            refine hK.out _ _ ?_ (fun hHeld => ?_)
            · exact ⟨cell_on (hbx) c0, cell_on (hbx) c1, cell_on (hbx) c2, cell_on (hbx) c3⟩
            clear hK K
            try simp only [rq0, rq1, rq2, Act.put, rq3, rq4, rq5]
            refine wpAnyH_take (i := 10) (oi := _) (v := ?_) rfl (by kernel_rfl) (by kernel_rfl) (by kernel_rfl) (fun _ _ _ h => h) (Or.inl ⟨by rfl, ?_⟩) (by assumption) ?_
            rotate_left
            · (intro wS hSw; (try dsimp only at hSw); (try go_split_ands); (simp only [List.getElem_toArray, List.getElem_cons_succ, List.getElem_cons_zero]); go_simp <;> (with_reducible rfl))
            try simp only [List.getElem_toArray, List.getElem_cons_succ, List.getElem_cons_zero, Act.put, List.setIfInBounds_toArray, List.set_cons_zero, List.set_cons_succ]
            refine wpAnyH_ready (rs := [12]) (by kernel_rfl) (by simp) (AllReadyH.cons (o := _) rfl (fun K hK => ?_) AllReadyH.nil)
            have r0 : W6.cell? ⟨W0.heap.size, 0, none⟩ = some (.slice none 0 0) := out.cell 0
            have r1 : W6.cell? ⟨W0.heap.size, 1, none⟩ = some (.slice none 0 0) := out.cell 1
            have s0 : W6.frozen? ⟨W0.heap.size, 0, none⟩ = false := out.free 0
            have s1 : W6.frozen? ⟨W0.heap.size, 1, none⟩ = false := out.free 1
            simp only [rq0, rq1, rq2]
            go_simp
            refine hK.out _ _ ?_ (fun hHeld => ?_)
            · exact ⟨cell_on ((hbx.setCell hoK _).setCell hoK _) c0, cell_on ((hbx.setCell hoK _).setCell hoK _) c1, cell_on ((hbx.setCell hoK _).setCell hoK _) c2, cell_on ((hbx.setCell hoK _).setCell hoK _) c3⟩
            clear hK K
            try simp only [rq0, rq1, rq2, Act.put, rq3, rq4, rq5]
            clear r0 r1 s0 s1
            refine wpAnyH_done (by kernel_rfl) ?_ _
            refine NoPanic.normal ?_
            clear hHeld
            go_wp2_with fail
            go_meet
            exact ⟨_, _, _, _, _, _, _, rfl, by simpa using (out.set 0 (.slice v13a v13m v13c)).set 1 (.slice v20a v20m v20c), (hbx.setCell hoK _).setCell hoK _, own_set (own_set own13 out (by decide)) (out.set 0 _) (by decide), own_set (own_set own20 out (by decide)) (out.set 0 _) (by decide)⟩
          · skip -- 3
            simp only [rq0, rq1, rq2]
            go_simp
            have hne : some (W1.heap.size) ≠ some (W2.heap.size) := by have := lit.lt; simp; omega
            have hn : Below W2.heap.size W2 (W2.alloc (.cells #[] 41)) := (Below.refl _ _).alloc (Nat.le_refl _) _
            replace out := out.below hn
            replace lit := lit.below hn
            have own14 := ow_mono (B' := w2.heap.size) (ow_empty W2 (W2.alloc (.cells #[] 41)) 41 2 (heap_alloc_new _ _)) hbx.size
            have hbn := bt2 hbx hn
            refine hK.out _ _ ?_ (fun hHeld => ?_)
            · exact ⟨cell_on (hbn) c0, cell_on (hbn) c1, cell_on (hbn) c2, cell_on (hbn) c3⟩
            clear hK K
            try simp only [rq0, rq1, rq2, Act.put, rq3, rq4, rq5]
            replace hbx := hbn
            clear hbn hn
            generalize W2.alloc (.cells #[] 41) = W3 at hbx out lit own14 ⊢
            refine wpAnyH_ready (rs := [2]) (by kernel_rfl) (by simp) (AllReadyH.cons (o := _) rfl (fun K hK => ?_) AllReadyH.nil)
            simp only [rq0, rq1, rq2]
            go_simp
            (go_at_call 53; refine (ciS _ c xs _ (hr2.below hbx) (by omega)).mono ?_; rintro e W4 ⟨v13, rfl, hn, own13⟩)
            obtain ⟨v13a, v13m, v13c, rfl⟩ := own_form own13
            replace own14 := ow_below own14 hn
            replace out := out.below hn
            replace lit := lit.below hn
            replace own13 := ow_mono (B' := w2.heap.size) own13 hbx.size
            replace hbx := bt2 hbx hn
            clear hn
            refine hK.out _ _ ?_ (fun hHeld => ?_)
            · exact ⟨cell_on (hbx) c0, cell_on (hbx) c1, cell_on (hbx) c2, cell_on (hbx) c3⟩
            clear hK K
            try simp only [rq0, rq1, rq2, Act.put, rq3, rq4, rq5]
            refine wpAnyH_ready (rs := [6]) (by kernel_rfl) (by simp) (AllReadyH.cons (o := _) rfl (fun K hK => ?_) AllReadyH.nil)
            simp only [rq0, rq1, rq2]
            rw [if_pos (by rfl)]
            obtain ⟨v17, W5, hrun, own17, hg⟩ := app_ws W4 w2.heap.size _ own14 B d ws (hq2.below hbx) (by omega) hbx.size
            obtain ⟨v17a, v17m, v17c, rfl⟩ := own_form own17
            refine wp_appW (.tmp 14) (.tmp 16) (by rfl) (by rfl) (by rfl) (by rfl) hrun ?_
            clear hrun
            replace hbx := hbx.grown hg hbx.size (fun k hk => ow_ge own14 hk)
            replace own13 := World.ownsRow.kept own13 hg (own_dif own13 own14 (by decide))
            replace out := out.kept hg (fun e => own_blk_ne own14 out (by decide) e.symm)
            replace lit := lit.kept hg (hne)
            clear hg own14 hne
            refine hK.out _ _ ?_ (fun hHeld => ?_)
            · exact ⟨cell_on (hbx) c0, cell_on (hbx) c1, cell_on (hbx) c2, cell_on (hbx) c3⟩
            clear hK K
            try simp only [rq0, rq1, rq2, Act.put, rq3, rq4, rq5]
            refine wpAnyH_ready (rs := [9]) (by kernel_rfl) (by simp) (AllReadyH.cons (o := _) rfl (fun K hK => ?_) AllReadyH.nil)
            simp only [rq0, rq1, rq2]
            rw [if_pos (by rfl)]
            obtain ⟨v20, W6, hrun, own20, hg⟩ := app_one W5 w2.heap.size _ _ ws own17 x lit (by omega) hbx.size
            obtain ⟨v20a, v20m, v20c, rfl⟩ := own_form own20
            refine wp_appW (.tmp 17) (.tmp 19) (by rfl) (by rfl) (by rfl) (by rfl) hrun ?_
            clear hrun
            replace hbx := hbx.grown hg hbx.size (fun k hk => ow_ge own17 hk)
            replace own13 := World.ownsRow.kept own13 hg (own_dif own13 own17 (by decide))
            replace out := out.kept hg (fun e => own_blk_ne own17 out (by decide) e.symm)
            clear hg own17 lit
            refine hK.out _ _ ?_ (fun hHeld => ?_)
            · exact ⟨cell_on (hbx) c0, cell_on (hbx) c1, cell_on (hbx) c2, cell_on (hbx) c3⟩
            clear hK K
            try simp only [rq0, rq1, rq2, Act.put, rq3, rq4, rq5]
            refine wpAnyH_take (i := 10) (oi := _) (v := ?_) rfl (by kernel_rfl) (by kernel_rfl) (by kernel_rfl) (fun _ _ _ h => h) (Or.inl ⟨by rfl, ?_⟩) (by assumption) ?_
            rotate_left
            · (intro wS hSw; (try dsimp only at hSw); (try go_split_ands); (simp only [List.getElem_toArray, List.getElem_cons_succ, List.getElem_cons_zero]); go_simp <;> (with_reducible rfl))
            try simp only [List.getElem_toArray, List.getElem_cons_succ, List.getElem_cons_zero, Act.put, List.setIfInBounds_toArray, List.set_cons_zero, List.set_cons_succ]
            refine wpAnyH_ready (rs := [12]) (by kernel_rfl) (by simp) (AllReadyH.cons (o := _) rfl (fun K hK => ?_) AllReadyH.nil)
            have r0 : W6.cell? ⟨W0.heap.size, 0, none⟩ = some (.slice none 0 0) := out.cell 0
            have r1 : W6.cell? ⟨W0.heap.size, 1, none⟩ = some (.slice none 0 0) := out.cell 1
            have s0 : W6.frozen? ⟨W0.heap.size, 0, none⟩ = false := out.free 0
            have s1 : W6.frozen? ⟨W0.heap.size, 1, none⟩ = false := out.free 1
            simp only [rq0, rq1, rq2]
            go_simp
            refine hK.out _ _ ?_ (fun hHeld => ?_)
            · exact ⟨cell_on ((hbx.setCell hoK _).setCell hoK _) c0, cell_on ((hbx.setCell hoK _).setCell hoK _) c1, cell_on ((hbx.setCell hoK _).setCell hoK _) c2, cell_on ((hbx.setCell hoK _).setCell hoK _) c3⟩
            clear hK K
            try simp only [rq0, rq1, rq2, Act.put, rq3, rq4, rq5]
            clear r0 r1 s0 s1
            refine wpAnyH_done (by kernel_rfl) ?_ _
            refine NoPanic.normal ?_
            clear hHeld
            go_wp2_with fail
            go_meet
            exact ⟨_, _, _, _, _, _, _, rfl, by simpa using (out.set 0 (.slice v13a v13m v13c)).set 1 (.slice v20a v20m v20c), (hbx.setCell hoK _).setCell hoK _, own_set (own_set own13 out (by decide)) (out.set 0 _) (by decide), own_set (own_set own20 out (by decide)) (out.set 0 _) (by decide)⟩
    case rest =>
      obtain ⟨K, a, p, b, c', q, s, rfl, kD, hbx, o1, o2⟩ := hcut
      obtain ⟨A3, c3', h3, L3, -⟩ := ow_open (by omega) encD_len o1
      obtain ⟨A4, c4', h4, L4, -⟩ := ow_open (by omega) encW_len o2
      have d0 : wc.cell? ⟨K, 0, none⟩ = some (.slice a b c') := kD.cell 0
      have d1 : wc.cell? ⟨K, 1, none⟩ = some (.slice p q s) := kD.cell 1
      have hVV := hide ((vdS A3 A4 c3' c4' xs (ws ++ [x]) wc L3.rl L4.rl hc (by simp; omega)))
      rw [← h3, ← h4, hS.out] at hVV
      clear h3 h4 L3 L4
      go_wp2_with fail
      refine hVV.out.mono ?_
      rintro e w5 ⟨rfl, hb5⟩
      have hb5' := bt2 hb2' (bt2 hbx hb5)
      have kR5 := (kR.below hbx).below hb5
      replace d0 := cell_on hb5 d0
      replace d1 := cell_on hb5 d1
      replace o1 := ow_below o1 hb5
      replace o2 := ow_below o2 hb5
      have r0 : w5.cell? ⟨w.heap.size + 1 + 1, 0, none⟩ = some (.slice none 0 0) := kR5.cell 0
      have r1 : w5.cell? ⟨w.heap.size + 1 + 1, 1, none⟩ = some (.slice none 0 0) := kR5.cell 1
      have s0 := kR5.free 0
      have s1 := kR5.free 1
      clear hbx hb5 kD c0 c1 c2 c3
      cases hw : wok xs ws x
      · have NO := hide (HN.out hw _ _ _ kR5 hb5' (by omega))
        clear hw HN o1 o2
        go_wp2_with fail
        obtain ⟨kF, FF⟩ := NO.out
        generalize hF : World.setCell _ _ _ = wF at kF FF ⊢
        have y0 : wF.cell? ⟨w.heap.size + 1 + 1, 0, none⟩ = some (.slice none 0 0) := kF.cell 0
        have y1 : wF.cell? ⟨w.heap.size + 1 + 1, 1, none⟩ = some (.slice none 0 0) := kF.cell 1
        exact bodyPost_ret (v := .tuple #[.agg #[.slice none 0 0, .slice none 0 0], .bool false]) (by simp [results, Try.f26, go_sem, y0, y1] <;> rfl) rfl FF
      · have YES := hide (wr_yes kR5 hb5' (by omega) hzR hw o1 o2)
        clear hw HN o1 o2
        go_wp2_with fail
        obtain ⟨kF, FF⟩ := YES.out
        generalize hF : World.setCell _ _ _ = wF at kF FF ⊢
        have y0 : wF.cell? ⟨w.heap.size + 1 + 1, 0, none⟩ = some (.slice a b c') := kF.cell 0
        have y1 : wF.cell? ⟨w.heap.size + 1 + 1, 1, none⟩ = some (.slice p q s) := kF.cell 1
        exact bodyPost_ret (v := .tuple #[.agg #[.slice a b c', .slice p q s], .bool true]) (by simp [results, Try.f26, go_sem, y0, y1] <;> rfl) rfl FF

end Go.Proofs.Ytgabjepoooageaa
