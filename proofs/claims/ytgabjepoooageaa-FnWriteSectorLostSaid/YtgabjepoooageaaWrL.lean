/-
  The statements that what is written is read, and that what is not synced can be lost. Conditions: the argument reads as a list of bytes.
-/
import Derived.Test.YtgabjepoooageaaWrP
namespace Go.Proofs.Ytgabjepoooageaa
open Go.RowKit
set_option linter.unusedVariables false
set_option linter.unusedSimpArgs false


set_option maxHeartbeats 4000000 in
theorem writeS_law (A : Option Addr) (c : Nat) (zs : List Int) (w : World) (h : Bytes w A c zs) :
    Calls Try.prog 10 #[.slice A zs.length c] w fun e w' => e = .returned (.bool true) ∧ Below w.heap.size w w' := by
  have hcap := h.cap
  have hmax := h.max
  by_cases hl : 1048576 < zs.length
  · go_enter Try.func10, Try.ntmps10
    go_wp2
    go_ret
    exact ⟨rfl, Below.refl _ _⟩
  · go_enter Try.func10, Try.ntmps10
    go_wp2_with fail
    refine (drawWD A c zs _ h).mono ?_
    rintro e w1 ⟨A, c, xs, Z, d, ws, x, rfl, hx1, hx2, hD, hb1⟩
    have hla := hD.la
    have hlb := hD.lb
    have hWS : Hid (∀ W, Rl encD 1 W A xs → Rl encW 2 W Z ws → Calls Try.prog 26 #[.agg #[.slice A xs.length c, .slice Z ws.length d], .agg #[.int .i64 x.1, .int .i64 x.2]] W (WrQ xs ws x W)) := fun W h1 h2 => (wsS A Z c d xs ws x W h1 h2 (by omega) (by omega)).mono fun _ _ h => wr_q h
    have hWI : Hid (∀ W, Rl encD 1 W A xs → Rl encW 2 W Z ws → Calls Try.prog 25 #[.agg #[.slice A xs.length c, .slice Z ws.length d], .agg #[.int .i64 x.1, .int .i64 x.2]] W (WrQ xs ws x W)) := fun W h1 h2 => (wsI A Z c d xs ws x W h1 h2 (by omega) (by omega)).mono fun _ _ h => wr_q h
    have hok := hide (fun h => wok_parts (xs := xs) (ws := ws) (x := x) h)
    have hWX : Hid (wok xs ws x = true → WX xs ws x = xs ∧ WY xs ws x = ws ++ [x]) := fun h => by unfold WX WY; rw [h]; exact ⟨rfl, rfl⟩
    have hsn := hide (fun h => vd_snoc (xs := xs) (ws := ws) (x := x) h)
    have hl1 : (WX xs ws x).length ≤ 9 := by unfold WX; split <;> (first | omega | (simp; done) | (simp; omega))
    have hl2 : (WY xs ws x).length ≤ 10 := by unfold WY; split <;> (first | omega | (simp; done) | (simp; omega))
    have hbA : Below w.heap.size w ((w1.alloc (.cells #[.slice A xs.length c, .slice Z ws.length d] 30)).alloc (.cells #[.int .i64 x.1, .int .i64 x.2] 41)) := bt2 hb1 (by go_grown)
    have hbD : Below w1.heap.size w1 ((w1.alloc (.cells #[.slice A xs.length c, .slice Z ws.length d] 30)).alloc (.cells #[.int .i64 x.1, .int .i64 x.2] 41)) := by go_grown
    have kd := (Blk.new w1 30 #[.slice A xs.length c, .slice Z ws.length d]).alloc (.cells #[.int .i64 x.1, .int .i64 x.2] 41)
    have kx := Blk.new (w1.alloc (.cells #[.slice A xs.length c, .slice Z ws.length d] 30)) 41 #[.int .i64 x.1, .int .i64 x.2]
    simp only [World.size_alloc] at kx
    replace hD := hD.below hbD
    clear hb1 hbD
    go_wp2_with fail
    generalize (w1.alloc (.cells #[.slice A xs.length c, .slice Z ws.length d] 30)).alloc (.cells #[.int .i64 x.1, .int .i64 x.2] 41) = w2 at hbA kd kx hD ⊢
    have a0 : w2.cell? ⟨w1.heap.size, 0, none⟩ = some (.slice A xs.length c) := kd.cell 0
    have a1 : w2.cell? ⟨w1.heap.size, 1, none⟩ = some (.slice Z ws.length d) := kd.cell 1
    have a2 : w2.cell? ⟨w1.heap.size + 1, 0, none⟩ = some (.int .i64 x.1) := kx.cell 0
    have a3 : w2.cell? ⟨w1.heap.size + 1, 1, none⟩ = some (.int .i64 x.2) := kx.cell 1
    refine (hWI.out _ hD.a.rl hD.b.rl).mono ?_
    rintro e w3 ⟨A5, c5, B5, d5, rfl, hb3, L5, M5⟩
    obtain ⟨E, hE⟩ : ∃ E, E = WX xs ws x := ⟨_, rfl⟩
    obtain ⟨F, hF⟩ : ∃ F, F = WY xs ws x := ⟨_, rfl⟩
    have hWS' : Hid (∀ W, Rl encD 1 W A xs → Rl encW 2 W Z ws → Calls Try.prog 26 #[.agg #[.slice A xs.length c, .slice Z ws.length d], .agg #[.int .i64 x.1, .int .i64 x.2]] W (fun e w' => ∃ A c B d, e = .returned (.tuple #[.agg #[.slice A E.length c, .slice B F.length d], .bool (wok xs ws x)]) ∧ Below W.heap.size W w' ∧ Lst encD 1 W.heap.size w' A c E ∧ Lst encW 2 W.heap.size w' B d F)) := fun W h1 h2 => by rw [hE, hF]; exact hWS.out W h1 h2
    rw [← hE] at L5 hWX hl1 ⊢
    rw [← hF] at M5 hWX hl2 ⊢
    clear hE hF hWS hWI
    have hb4 : Below w3.heap.size w3 (w3.alloc (.cells #[.slice A5 E.length c5, .slice B5 F.length d5] 30)) := (Below.refl _ _).alloc (Nat.le_refl _) _
    have ke := Blk.new w3 30 #[.slice A5 E.length c5, .slice B5 F.length d5]
    have hb34 := bt2 hb3 hb4
    replace a0 := cell_on hb34 a0
    replace a1 := cell_on hb34 a1
    replace a2 := cell_on hb34 a2
    replace a3 := cell_on hb34 a3
    replace hD := hD.below hb34
    replace L5 := L5.below hb4
    replace M5 := M5.below hb4
    replace hbA := bt2 hbA hb34
    clear kd kx hb3 hb4 hb34
    go_wp2_with fail
    generalize w3.alloc (.cells #[.slice A5 E.length c5, .slice B5 F.length d5] 30) = w4 at hbA ke hD L5 M5 a0 a1 a2 a3 ⊢
    have b0 : w4.cell? ⟨w3.heap.size, 0, none⟩ = some (.slice A5 E.length c5) := ke.cell 0
    have b1 : w4.cell? ⟨w3.heap.size, 1, none⟩ = some (.slice B5 F.length d5) := ke.cell 1
    refine (hWS'.out _ hD.a.rl hD.b.rl).mono ?_
    rintro e w5 ⟨A7, c7, B7, d7, rfl, hb5, L7, M7⟩
    have hb6 : Below w5.heap.size w5 (w5.alloc (.cells #[.slice A7 E.length c7, .slice B7 F.length d7] 30)) := (Below.refl _ _).alloc (Nat.le_refl _) _
    have kf := Blk.new w5 30 #[.slice A7 E.length c7, .slice B7 F.length d7]
    have hb56 := bt2 hb5 hb6
    replace a0 := cell_on hb56 a0
    replace a1 := cell_on hb56 a1
    replace a2 := cell_on hb56 a2
    replace a3 := cell_on hb56 a3
    replace b0 := cell_on hb56 b0
    replace b1 := cell_on hb56 b1
    replace hD := hD.below hb56
    replace L5 := L5.below hb56
    replace M5 := M5.below hb56
    replace L7 := L7.below hb6
    replace M7 := M7.below hb6
    replace hbA := bt2 hbA hb56
    clear ke hb5 hb6 hb56 hWS'
    go_wp2_with fail
    generalize w5.alloc (.cells #[.slice A7 E.length c7, .slice B7 F.length d7] 30) = w6 at hbA kf hD L5 M5 L7 M7 a0 a1 a2 a3 b0 b1 ⊢
    have f0 : w6.cell? ⟨w5.heap.size, 0, none⟩ = some (.slice A7 E.length c7) := kf.cell 0
    have f1 : w6.cell? ⟨w5.heap.size, 1, none⟩ = some (.slice B7 F.length d7) := kf.cell 1
    have hEq : Hid (∀ W, Below w6.heap.size w6 W → Calls Try.prog 27 #[.agg #[.slice A5 E.length c5, .slice B5 F.length d5], .agg #[.slice A7 E.length c7, .slice B7 F.length d7]] W fun e w' => e = .returned (.bool true) ∧ Below W.heap.size W w') := fun W hb => eqlD _ _ _ _ _ _ _ _ E F _ (L5.rl.below hb) (M5.rl.below hb) (L7.rl.below hb) (M7.rl.below hb) (by omega) (by omega)
    refine (hEq.out _ (Below.refl _ _)).mono ?_
    rintro e w7 ⟨rfl, hb7⟩
    cases hk : wok xs ws x
    · replace f0 := cell_on hb7 f0
      replace f1 := cell_on hb7 f1
      replace b0 := cell_on hb7 b0
      replace b1 := cell_on hb7 b1
      have hEq7 := hide (hEq.out _ hb7)
      clear hk hok hWX hsn hD L5 M5 L7 M7 hEq a0 a1 a2 a3 kf
      go_wp2_with fail
      refine (hEq7.out).mono ?_
      rintro e w8 ⟨rfl, hb8⟩
      go_wp2_with fail
      go_ret
      exact ⟨rfl, bt2 (bt2 hbA hb7) hb8⟩
    · obtain ⟨hv, htk, h8⟩ := hok.out hk
      obtain ⟨rfl, hF⟩ := hWX.out hk
      have hv' : vd E (ws ++ [x]) = true := (hsn.out hv).trans hk
      have hn8 : E.length ≤ 8 := (vd_parts hv).2.1
      obtain ⟨j, hj, hjl, y0, y1⟩ := tk_sec htk
      have hF9 : F.length ≤ 9 := by rw [hF]; simp; omega
      have hRE : Hid (∀ (k : Nat), k < E.length → ∀ A B c d W, Rl encD 1 W A E → Rl encW 2 W B F → Calls Try.prog 21 #[.agg #[.slice A E.length c, .slice B F.length d], .int .i64 (k : Int)] W fun e w' => e = .returned (.int .i64 (if x.1 = (k : Int) then x.2 else RD E ws (k : Int))) ∧ Below W.heap.size W w') := fun k hk A B c d W h1 h2 => by
        have := rdI A B c d E F (k : Int) W h1 h2 (by omega) (by omega) (by omega)
        have e : RD E F (k : Int) = if x.1 = (k : Int) then x.2 else RD E ws (k : Int) := by
          rw [hF]
          by_cases hq : x.1 = (k : Int)
          · rw [if_pos hq, rd_eq hv' hk hq]
          · rw [if_neg hq, rd_ne hv hv' hk hq]
        rw [e] at this
        exact this
      have hRD : Hid (∀ (k : Nat), k < E.length → ∀ W, Rl encD 1 W A E → Rl encW 2 W Z ws → Calls Try.prog 21 #[.agg #[.slice A E.length c, .slice Z ws.length d], .int .i64 (k : Int)] W fun e w' => e = .returned (.int .i64 (RD E ws (k : Int))) ∧ Below W.heap.size W w') := fun k hk W h1 h2 => rdI A Z c d E ws (k : Int) W h1 h2 (by omega) (by omega) (by omega)
      replace hbA := bt2 hbA hb7
      replace hD := hD.below hb7
      replace L5 := L5.below hb7
      replace M5 := M5.below hb7
      replace a0 := cell_on hb7 a0
      replace a1 := cell_on hb7 a1
      replace a2 := cell_on hb7 a2
      replace a3 := cell_on hb7 a3
      replace b0 := cell_on hb7 b0
      replace b1 := cell_on hb7 b1
      clear hk hok hWX hsn L7 M7 hEq kf hb7 hv hv' htk f0 f1 hF
      obtain ⟨x1, x2⟩ := x
      simp only at hj y0 y1 hRE a2 a3
      subst hj
      go_wp2_with fail
      go_loopw [9] (fun v wr => ∃ k : Nat, k ≤ E.length ∧ v = .int .i64 k ∧ Below w7.heap.size w7 wr) (fun v _ => E.length - (intOf v).toNat)
      case atStart => exact ⟨0, by omega, rfl, Below.refl _ _⟩
      case round =>
        obtain ⟨k, hk, rfl, hb⟩ := hrel
        replace a0 := cell_on hb a0
        replace a1 := cell_on hb a1
        replace a2 := cell_on hb a2
        replace a3 := cell_on hb a3
        replace b0 := cell_on hb b0
        replace b1 := cell_on hb b1
        replace hD := hD.below hb
        replace L5 := L5.below hb
        replace M5 := M5.below hb
        have hbx : Below wr.heap.size wr wr.drew := (Below.refl _ _).drew
        by_cases hlt : k < E.length
        · have hki : (k : Int) < (E.length : Int) := by omega
          by_cases hjk : j = k
          · subst hjk
            have g1 : ((j : Int) != (j : Int)) = false := by simp
            clear hRE hRD
            go_wp2_with fail
            refine wp_region_noPanic ?_
            refine wp_region_held_drew (S := (fun w' => w'.cell? ⟨w1.heap.size, 0, none⟩ = some (.slice A E.length c) ∧ w'.cell? ⟨w1.heap.size, 1, none⟩ = some (.slice Z ws.length d) ∧ w'.cell? ⟨w1.heap.size + 1, 0, none⟩ = some (.int .i64 (j : Int)) ∧ w'.cell? ⟨w1.heap.size + 1, 1, none⟩ = some (.int .i64 x2) ∧ w'.cell? ⟨w3.heap.size, 0, none⟩ = some (.slice A5 E.length c5) ∧ w'.cell? ⟨w3.heap.size, 1, none⟩ = some (.slice B5 F.length d5))) (by kernel_rfl) ?_ (fun hHeld => ?_)
            · exact ⟨cell_on (hbx) a0, cell_on (hbx) a1, cell_on (hbx) a2, cell_on (hbx) a3, cell_on (hbx) b0, cell_on (hbx) b1⟩
            refine wpAnyH_take (i := 0) (oi := _) (v := ?_) rfl (by kernel_rfl) (by kernel_rfl) (by kernel_rfl) (fun _ _ _ h => h) (Or.inl ⟨by rfl, ?_⟩) (by assumption) ?_
            rotate_left
            · (intro wS hSw; (try dsimp only at hSw); (try go_split_ands); (simp only [List.getElem_toArray, List.getElem_cons_succ, List.getElem_cons_zero]); go_simp <;> (with_reducible rfl))
            try simp only [List.getElem_toArray, List.getElem_cons_succ, List.getElem_cons_zero, Act.put, List.setIfInBounds_toArray, List.set_cons_zero, List.set_cons_succ]
            refine wpAnyH_take (i := 1) (oi := _) (v := ?_) rfl (by kernel_rfl) (by kernel_rfl) (by kernel_rfl) (fun _ _ _ h => h) (Or.inl ⟨by rfl, ?_⟩) (by assumption) ?_
            rotate_left
            · (intro wS hSw; (try dsimp only at hSw); (try go_split_ands); (simp only [List.getElem_toArray, List.getElem_cons_succ, List.getElem_cons_zero]); go_simp <;> (with_reducible rfl))
            try simp only [List.getElem_toArray, List.getElem_cons_succ, List.getElem_cons_zero, Act.put, List.setIfInBounds_toArray, List.set_cons_zero, List.set_cons_succ]
            refine wpAnyH_take (i := 2) (oi := _) (v := ?_) rfl (by kernel_rfl) (by kernel_rfl) (by kernel_rfl) (fun _ _ _ h => h) (Or.inl ⟨by rfl, ?_⟩) (by assumption) ?_
            rotate_left
            · (intro wS hSw; (try dsimp only at hSw); (try go_split_ands); (simp only [List.getElem_toArray, List.getElem_cons_succ, List.getElem_cons_zero]); go_simp <;> (with_reducible rfl))
            try simp only [List.getElem_toArray, List.getElem_cons_succ, List.getElem_cons_zero, Act.put, List.setIfInBounds_toArray, List.set_cons_zero, List.set_cons_succ]
            refine wpAnyH_take (i := 3) (oi := _) (v := ?_) rfl (by kernel_rfl) (by kernel_rfl) (by kernel_rfl) (fun _ _ _ h => h) (Or.inl ⟨by rfl, ?_⟩) (by assumption) ?_
            rotate_left
            · (intro wS hSw; (try dsimp only at hSw); (try go_split_ands); (simp only [List.getElem_toArray, List.getElem_cons_succ, List.getElem_cons_zero]); go_simp <;> (with_reducible rfl))
            try simp only [List.getElem_toArray, List.getElem_cons_succ, List.getElem_cons_zero, Act.put, List.setIfInBounds_toArray, List.set_cons_zero, List.set_cons_succ]
            refine wpAnyH_take (i := 4) (oi := _) (v := ?_) rfl (by kernel_rfl) (by kernel_rfl) (by kernel_rfl) (fun _ _ _ h => h) (Or.inl ⟨by rfl, ?_⟩) (by assumption) ?_
            rotate_left
            · (intro wS hSw; (try dsimp only at hSw); (try go_split_ands); (simp only [List.getElem_toArray, List.getElem_cons_succ, List.getElem_cons_zero]); go_simp <;> (with_reducible rfl))
            try simp only [List.getElem_toArray, List.getElem_cons_succ, List.getElem_cons_zero, Act.put, List.setIfInBounds_toArray, List.set_cons_zero, List.set_cons_succ]
            refine wpAnyH_take (i := 5) (oi := _) (v := undef) rfl (by kernel_rfl) (by kernel_rfl) (by kernel_rfl) (fun _ _ _ h => h) (Or.inr ⟨by rfl, rfl⟩) (by assumption) ?_
            try simp only [List.getElem_toArray, List.getElem_cons_succ, List.getElem_cons_zero, Act.put, List.setIfInBounds_toArray, List.set_cons_zero, List.set_cons_succ]
            refine wpAnyH_take (i := 6) (oi := _) (v := undef) rfl (by kernel_rfl) (by kernel_rfl) (by kernel_rfl) (fun _ _ _ h => h) (Or.inr ⟨by rfl, rfl⟩) (by assumption) ?_
            try simp only [List.getElem_toArray, List.getElem_cons_succ, List.getElem_cons_zero, Act.put, List.setIfInBounds_toArray, List.set_cons_zero, List.set_cons_succ]
            refine wpAnyH_take (i := 7) (oi := _) (v := undef) rfl (by kernel_rfl) (by kernel_rfl) (by kernel_rfl) (fun _ _ _ h => h) (Or.inr ⟨by rfl, rfl⟩) (by assumption) ?_
            try simp only [List.getElem_toArray, List.getElem_cons_succ, List.getElem_cons_zero, Act.put, List.setIfInBounds_toArray, List.set_cons_zero, List.set_cons_succ]
            refine wpAnyH_take (i := 8) (oi := _) (v := undef) rfl (by kernel_rfl) (by kernel_rfl) (by kernel_rfl) (fun _ _ _ h => h) (Or.inr ⟨by rfl, rfl⟩) (by assumption) ?_
            try simp only [List.getElem_toArray, List.getElem_cons_succ, List.getElem_cons_zero, Act.put, List.setIfInBounds_toArray, List.set_cons_zero, List.set_cons_succ]
            refine wpAnyH_take (i := 9) (oi := _) (v := undef) rfl (by kernel_rfl) (by kernel_rfl) (by kernel_rfl) (fun _ _ _ h => h) (Or.inr ⟨by rfl, rfl⟩) (by assumption) ?_
            try simp only [List.getElem_toArray, List.getElem_cons_succ, List.getElem_cons_zero, Act.put, List.setIfInBounds_toArray, List.set_cons_zero, List.set_cons_succ]
            refine wpAnyH_take (i := 10) (oi := _) (v := undef) rfl (by kernel_rfl) (by kernel_rfl) (by kernel_rfl) (fun _ _ _ h => h) (Or.inr ⟨by rfl, rfl⟩) (by assumption) ?_
            try simp only [List.getElem_toArray, List.getElem_cons_succ, List.getElem_cons_zero, Act.put, List.setIfInBounds_toArray, List.set_cons_zero, List.set_cons_succ]
            refine wpAnyH_take (i := 11) (oi := _) (v := undef) rfl (by kernel_rfl) (by kernel_rfl) (by kernel_rfl) (fun _ _ _ h => h) (Or.inr ⟨by rfl, rfl⟩) (by assumption) ?_
            try simp only [List.getElem_toArray, List.getElem_cons_succ, List.getElem_cons_zero, Act.put, List.setIfInBounds_toArray, List.set_cons_zero, List.set_cons_succ]
            refine wpAnyH_take (i := 12) (oi := _) (v := ?_) rfl (by kernel_rfl) (by kernel_rfl) (by kernel_rfl) (fun _ _ _ h => h) (Or.inl ⟨by rfl, ?_⟩) (by assumption) ?_
            rotate_left
            · (intro wS hSw; (try dsimp only at hSw); (try go_split_ands); (simp only [List.getElem_toArray, List.getElem_cons_succ, List.getElem_cons_zero]); go_simp <;> (with_reducible rfl))
            try simp only [List.getElem_toArray, List.getElem_cons_succ, List.getElem_cons_zero, Act.put, List.setIfInBounds_toArray, List.set_cons_zero, List.set_cons_succ]
            refine wpAnyH_done (by kernel_rfl) ?_ _
            refine NoPanic.normal ?_
            clear hHeld
            go_wp2_with fail
            go_roundw
            case rel => exact ⟨j + 1, by omega, by go_num, bt2 hb hbx⟩
            case measure => simp [intOf]; omega
          · have g1 : ((k : Int) != (j : Int)) = true := by rw [bne_iff_ne]; omega
            have hRE' := hide (hRE.out k hlt A5 B5 c5 d5)
            have hRD' := hide (hRD.out k hlt)
            rw [if_neg (show ¬ (j : Int) = (k : Int) by omega)] at hRE'
            generalize RD E ws (k : Int) = r at hRE' hRD'
            have g2 : (r != r) = false := by simp
            clear hRE hRD hjk
            go_wp2_with fail
            refine wp_region_noPanic ?_
            refine wp_region_held_drew (S := (fun w' => w'.cell? ⟨w1.heap.size, 0, none⟩ = some (.slice A E.length c) ∧ w'.cell? ⟨w1.heap.size, 1, none⟩ = some (.slice Z ws.length d) ∧ w'.cell? ⟨w1.heap.size + 1, 0, none⟩ = some (.int .i64 (j : Int)) ∧ w'.cell? ⟨w1.heap.size + 1, 1, none⟩ = some (.int .i64 x2) ∧ w'.cell? ⟨w3.heap.size, 0, none⟩ = some (.slice A5 E.length c5) ∧ w'.cell? ⟨w3.heap.size, 1, none⟩ = some (.slice B5 F.length d5))) (by kernel_rfl) ?_ (fun hHeld => ?_)
            · exact ⟨cell_on (hbx) a0, cell_on (hbx) a1, cell_on (hbx) a2, cell_on (hbx) a3, cell_on (hbx) b0, cell_on (hbx) b1⟩
            refine wpAnyH_take (i := 0) (oi := _) (v := ?_) rfl (by kernel_rfl) (by kernel_rfl) (by kernel_rfl) (fun _ _ _ h => h) (Or.inl ⟨by rfl, ?_⟩) (by assumption) ?_
            rotate_left
            · (intro wS hSw; (try dsimp only at hSw); (try go_split_ands); (simp only [List.getElem_toArray, List.getElem_cons_succ, List.getElem_cons_zero]); go_simp <;> (with_reducible rfl))
            try simp only [List.getElem_toArray, List.getElem_cons_succ, List.getElem_cons_zero, Act.put, List.setIfInBounds_toArray, List.set_cons_zero, List.set_cons_succ]
            refine wpAnyH_take (i := 1) (oi := _) (v := ?_) rfl (by kernel_rfl) (by kernel_rfl) (by kernel_rfl) (fun _ _ _ h => h) (Or.inl ⟨by rfl, ?_⟩) (by assumption) ?_
            rotate_left
            · (intro wS hSw; (try dsimp only at hSw); (try go_split_ands); (simp only [List.getElem_toArray, List.getElem_cons_succ, List.getElem_cons_zero]); go_simp <;> (with_reducible rfl))
            try simp only [List.getElem_toArray, List.getElem_cons_succ, List.getElem_cons_zero, Act.put, List.setIfInBounds_toArray, List.set_cons_zero, List.set_cons_succ]
            refine wpAnyH_take (i := 2) (oi := _) (v := ?_) rfl (by kernel_rfl) (by kernel_rfl) (by kernel_rfl) (fun _ _ _ h => h) (Or.inl ⟨by rfl, ?_⟩) (by assumption) ?_
            rotate_left
            · (intro wS hSw; (try dsimp only at hSw); (try go_split_ands); (simp only [List.getElem_toArray, List.getElem_cons_succ, List.getElem_cons_zero]); go_simp <;> (with_reducible rfl))
            try simp only [List.getElem_toArray, List.getElem_cons_succ, List.getElem_cons_zero, Act.put, List.setIfInBounds_toArray, List.set_cons_zero, List.set_cons_succ]
            refine wpAnyH_take (i := 3) (oi := _) (v := ?_) rfl (by kernel_rfl) (by kernel_rfl) (by kernel_rfl) (fun _ _ _ h => h) (Or.inl ⟨by rfl, ?_⟩) (by assumption) ?_
            rotate_left
            · (intro wS hSw; (try dsimp only at hSw); (try go_split_ands); (simp only [List.getElem_toArray, List.getElem_cons_succ, List.getElem_cons_zero]); go_simp <;> (with_reducible rfl))
            try simp only [List.getElem_toArray, List.getElem_cons_succ, List.getElem_cons_zero, Act.put, List.setIfInBounds_toArray, List.set_cons_zero, List.set_cons_succ]
            refine wpAnyH_take (i := 4) (oi := _) (v := ?_) rfl (by kernel_rfl) (by kernel_rfl) (by kernel_rfl) (fun _ _ _ h => h) (Or.inl ⟨by rfl, ?_⟩) (by assumption) ?_
            rotate_left
            · (intro wS hSw; (try dsimp only at hSw); (try go_split_ands); (simp only [List.getElem_toArray, List.getElem_cons_succ, List.getElem_cons_zero]); go_simp <;> (with_reducible rfl))
            try simp only [List.getElem_toArray, List.getElem_cons_succ, List.getElem_cons_zero, Act.put, List.setIfInBounds_toArray, List.set_cons_zero, List.set_cons_succ]
            refine wpAnyH_take (i := 5) (oi := _) (v := ?_) rfl (by kernel_rfl) (by kernel_rfl) (by kernel_rfl) (fun _ _ _ h => h) (Or.inl ⟨by rfl, ?_⟩) (by assumption) ?_
            rotate_left
            · (intro wS hSw; (try dsimp only at hSw); (try go_split_ands); (simp only [List.getElem_toArray, List.getElem_cons_succ, List.getElem_cons_zero]); go_simp <;> (with_reducible rfl))
            try simp only [List.getElem_toArray, List.getElem_cons_succ, List.getElem_cons_zero, Act.put, List.setIfInBounds_toArray, List.set_cons_zero, List.set_cons_succ]
            refine wpAnyH_take (i := 6) (oi := _) (v := ?_) rfl (by kernel_rfl) (by kernel_rfl) (by kernel_rfl) (fun _ _ _ h => h) (Or.inl ⟨by rfl, ?_⟩) (by assumption) ?_
            rotate_left
            · (intro wS hSw; (try dsimp only at hSw); (try go_split_ands); (simp only [List.getElem_toArray, List.getElem_cons_succ, List.getElem_cons_zero]); go_simp <;> (with_reducible rfl))
            try simp only [List.getElem_toArray, List.getElem_cons_succ, List.getElem_cons_zero, Act.put, List.setIfInBounds_toArray, List.set_cons_zero, List.set_cons_succ]
            refine wpAnyH_take (i := 8) (oi := _) (v := ?_) rfl (by kernel_rfl) (by kernel_rfl) (by kernel_rfl) (fun _ _ _ h => h) (Or.inl ⟨by rfl, ?_⟩) (by assumption) ?_
            rotate_left
            · (intro wS hSw; (try dsimp only at hSw); (try go_split_ands); (simp only [List.getElem_toArray, List.getElem_cons_succ, List.getElem_cons_zero]); go_simp <;> (with_reducible rfl))
            try simp only [List.getElem_toArray, List.getElem_cons_succ, List.getElem_cons_zero, Act.put, List.setIfInBounds_toArray, List.set_cons_zero, List.set_cons_succ]
            refine wpAnyH_take (i := 9) (oi := _) (v := ?_) rfl (by kernel_rfl) (by kernel_rfl) (by kernel_rfl) (fun _ _ _ h => h) (Or.inl ⟨by rfl, ?_⟩) (by assumption) ?_
            rotate_left
            · (intro wS hSw; (try dsimp only at hSw); (try go_split_ands); (simp only [List.getElem_toArray, List.getElem_cons_succ, List.getElem_cons_zero]); go_simp <;> (with_reducible rfl))
            try simp only [List.getElem_toArray, List.getElem_cons_succ, List.getElem_cons_zero, Act.put, List.setIfInBounds_toArray, List.set_cons_zero, List.set_cons_succ]
            refine wpAnyH_ready (rs := [7]) (by kernel_rfl) (by simp) (AllReadyH.cons (o := _) rfl (fun K hK => ?_) AllReadyH.nil)
            simp only [rq0, rq1, rq2]
            go_simp
            (go_at_call 21; refine (hRE'.out _ (L5.rl.below hbx) (M5.rl.below hbx)).mono ?_; rintro e wq ⟨rfl, hq⟩; replace hbx := bt2 hbx hq)
            refine hK.out _ _ ?_ (fun hHeld => ?_)
            · exact ⟨cell_on (hbx) a0, cell_on (hbx) a1, cell_on (hbx) a2, cell_on (hbx) a3, cell_on (hbx) b0, cell_on (hbx) b1⟩
            clear hK K hq
            try simp only [rq0, rq1, rq2, Act.put, rq3, rq4, rq5]
            refine wpAnyH_ready (rs := [10]) (by kernel_rfl) (by simp) (AllReadyH.cons (o := _) rfl (fun K hK => ?_) AllReadyH.nil)
            simp only [rq0, rq1, rq2]
            go_simp
            (go_at_call 21; refine (hRD'.out _ (hD.a.rl.below hbx) (hD.b.rl.below hbx)).mono ?_; rintro e wq ⟨rfl, hq⟩; replace hbx := bt2 hbx hq)
            refine hK.out _ _ ?_ (fun hHeld => ?_)
            · exact ⟨cell_on (hbx) a0, cell_on (hbx) a1, cell_on (hbx) a2, cell_on (hbx) a3, cell_on (hbx) b0, cell_on (hbx) b1⟩
            clear hK K hq
            try simp only [rq0, rq1, rq2, Act.put, rq3, rq4, rq5]
            refine wpAnyH_take (i := 11) (oi := _) (v := ?_) rfl (by kernel_rfl) (by kernel_rfl) (by kernel_rfl) (fun _ _ _ h => h) (Or.inl ⟨by rfl, ?_⟩) (by assumption) ?_
            rotate_left
            · (intro wS hSw; (try dsimp only at hSw); (try go_split_ands); (simp only [List.getElem_toArray, List.getElem_cons_succ, List.getElem_cons_zero]); go_simp <;> (with_reducible rfl))
            try simp only [List.getElem_toArray, List.getElem_cons_succ, List.getElem_cons_zero, Act.put, List.setIfInBounds_toArray, List.set_cons_zero, List.set_cons_succ]
            refine wpAnyH_take (i := 12) (oi := _) (v := ?_) rfl (by kernel_rfl) (by kernel_rfl) (by kernel_rfl) (fun _ _ _ h => h) (Or.inl ⟨by rfl, ?_⟩) (by assumption) ?_
            rotate_left
            · (intro wS hSw; (try dsimp only at hSw); (try go_split_ands); (simp only [List.getElem_toArray, List.getElem_cons_succ, List.getElem_cons_zero]); go_simp <;> (with_reducible rfl))
            try simp only [List.getElem_toArray, List.getElem_cons_succ, List.getElem_cons_zero, Act.put, List.setIfInBounds_toArray, List.set_cons_zero, List.set_cons_succ]
            refine wpAnyH_done (by kernel_rfl) ?_ _
            refine NoPanic.normal ?_
            clear hHeld
            go_wp2_with fail
            go_roundw
            case rel => exact ⟨k + 1, by omega, by go_num, bt2 hb hbx⟩
            case measure => simp [intOf]; omega
        · obtain rfl : k = E.length := by omega
          have hRE' := hide (hRE.out j hjl A5 B5 c5 d5)
          rw [if_pos rfl] at hRE'
          have g2 : (x2 == x2) = true := by simp
          clear hRE hRD hlt
          go_wp2_with fail
          refine wp_region_noPanic ?_
          refine wp_region_held_drew (S := (fun w' => w'.cell? ⟨w1.heap.size, 0, none⟩ = some (.slice A E.length c) ∧ w'.cell? ⟨w1.heap.size, 1, none⟩ = some (.slice Z ws.length d) ∧ w'.cell? ⟨w1.heap.size + 1, 0, none⟩ = some (.int .i64 (j : Int)) ∧ w'.cell? ⟨w1.heap.size + 1, 1, none⟩ = some (.int .i64 x2) ∧ w'.cell? ⟨w3.heap.size, 0, none⟩ = some (.slice A5 E.length c5) ∧ w'.cell? ⟨w3.heap.size, 1, none⟩ = some (.slice B5 F.length d5))) (by kernel_rfl) ?_ (fun hHeld => ?_)
          · exact ⟨cell_on (hbx) a0, cell_on (hbx) a1, cell_on (hbx) a2, cell_on (hbx) a3, cell_on (hbx) b0, cell_on (hbx) b1⟩
          refine wpAnyH_take (i := 0) (oi := _) (v := ?_) rfl (by kernel_rfl) (by kernel_rfl) (by kernel_rfl) (fun _ _ _ h => h) (Or.inl ⟨by rfl, ?_⟩) (by assumption) ?_
          rotate_left
          · (intro wS hSw; (try dsimp only at hSw); (try go_split_ands); (simp only [List.getElem_toArray, List.getElem_cons_succ, List.getElem_cons_zero]); go_simp <;> (with_reducible rfl))
          try simp only [List.getElem_toArray, List.getElem_cons_succ, List.getElem_cons_zero, Act.put, List.setIfInBounds_toArray, List.set_cons_zero, List.set_cons_succ]
          refine wpAnyH_take (i := 1) (oi := _) (v := ?_) rfl (by kernel_rfl) (by kernel_rfl) (by kernel_rfl) (fun _ _ _ h => h) (Or.inl ⟨by rfl, ?_⟩) (by assumption) ?_
          rotate_left
          · (intro wS hSw; (try dsimp only at hSw); (try go_split_ands); (simp only [List.getElem_toArray, List.getElem_cons_succ, List.getElem_cons_zero]); go_simp <;> (with_reducible rfl))
          try simp only [List.getElem_toArray, List.getElem_cons_succ, List.getElem_cons_zero, Act.put, List.setIfInBounds_toArray, List.set_cons_zero, List.set_cons_succ]
          refine wpAnyH_take (i := 2) (oi := _) (v := ?_) rfl (by kernel_rfl) (by kernel_rfl) (by kernel_rfl) (fun _ _ _ h => h) (Or.inl ⟨by rfl, ?_⟩) (by assumption) ?_
          rotate_left
          · (intro wS hSw; (try dsimp only at hSw); (try go_split_ands); (simp only [List.getElem_toArray, List.getElem_cons_succ, List.getElem_cons_zero]); go_simp <;> (with_reducible rfl))
          try simp only [List.getElem_toArray, List.getElem_cons_succ, List.getElem_cons_zero, Act.put, List.setIfInBounds_toArray, List.set_cons_zero, List.set_cons_succ]
          refine wpAnyH_take (i := 4) (oi := _) (v := ?_) rfl (by kernel_rfl) (by kernel_rfl) (by kernel_rfl) (fun _ _ _ h => h) (Or.inl ⟨by rfl, ?_⟩) (by assumption) ?_
          rotate_left
          · (intro wS hSw; (try dsimp only at hSw); (try go_split_ands); (simp only [List.getElem_toArray, List.getElem_cons_succ, List.getElem_cons_zero]); go_simp <;> (with_reducible rfl))
          try simp only [List.getElem_toArray, List.getElem_cons_succ, List.getElem_cons_zero, Act.put, List.setIfInBounds_toArray, List.set_cons_zero, List.set_cons_succ]
          refine wpAnyH_take (i := 5) (oi := _) (v := ?_) rfl (by kernel_rfl) (by kernel_rfl) (by kernel_rfl) (fun _ _ _ h => h) (Or.inl ⟨by rfl, ?_⟩) (by assumption) ?_
          rotate_left
          · (intro wS hSw; (try dsimp only at hSw); (try go_split_ands); (simp only [List.getElem_toArray, List.getElem_cons_succ, List.getElem_cons_zero]); go_simp <;> (with_reducible rfl))
          try simp only [List.getElem_toArray, List.getElem_cons_succ, List.getElem_cons_zero, Act.put, List.setIfInBounds_toArray, List.set_cons_zero, List.set_cons_succ]
          refine wpAnyH_ready (rs := [3]) (by kernel_rfl) (by simp) (AllReadyH.cons (o := _) rfl (fun K hK => ?_) AllReadyH.nil)
          simp only [rq0, rq1, rq2]
          go_simp
          (go_at_call 21; refine (hRE'.out _ (L5.rl.below hbx) (M5.rl.below hbx)).mono ?_; rintro e wq ⟨rfl, hq⟩; replace hbx := bt2 hbx hq)
          refine hK.out _ _ ?_ (fun hHeld => ?_)
          · exact ⟨cell_on (hbx) a0, cell_on (hbx) a1, cell_on (hbx) a2, cell_on (hbx) a3, cell_on (hbx) b0, cell_on (hbx) b1⟩
          clear hK K hq
          try simp only [rq0, rq1, rq2, Act.put, rq3, rq4, rq5]
          refine wpAnyH_take (i := 6) (oi := _) (v := ?_) rfl (by kernel_rfl) (by kernel_rfl) (by kernel_rfl) (fun _ _ _ h => h) (Or.inl ⟨by rfl, ?_⟩) (by assumption) ?_
          rotate_left
          · (intro wS hSw; (try dsimp only at hSw); (try go_split_ands); (simp only [List.getElem_toArray, List.getElem_cons_succ, List.getElem_cons_zero]); go_simp <;> (with_reducible rfl))
          try simp only [List.getElem_toArray, List.getElem_cons_succ, List.getElem_cons_zero, Act.put, List.setIfInBounds_toArray, List.set_cons_zero, List.set_cons_succ]
          refine wpAnyH_take (i := 7) (oi := _) (v := ?_) rfl (by kernel_rfl) (by kernel_rfl) (by kernel_rfl) (fun _ _ _ h => h) (Or.inl ⟨by rfl, ?_⟩) (by assumption) ?_
          rotate_left
          · (intro wS hSw; (try dsimp only at hSw); (try go_split_ands); (simp only [List.getElem_toArray, List.getElem_cons_succ, List.getElem_cons_zero]); go_simp <;> (with_reducible rfl))
          try simp only [List.getElem_toArray, List.getElem_cons_succ, List.getElem_cons_zero, Act.put, List.setIfInBounds_toArray, List.set_cons_zero, List.set_cons_succ]
          refine wpAnyH_take (i := 8) (oi := _) (v := ?_) rfl (by kernel_rfl) (by kernel_rfl) (by kernel_rfl) (fun _ _ _ h => h) (Or.inl ⟨by rfl, ?_⟩) (by assumption) ?_
          rotate_left
          · (intro wS hSw; (try dsimp only at hSw); (try go_split_ands); (simp only [List.getElem_toArray, List.getElem_cons_succ, List.getElem_cons_zero]); go_simp <;> (with_reducible rfl))
          try simp only [List.getElem_toArray, List.getElem_cons_succ, List.getElem_cons_zero, Act.put, List.setIfInBounds_toArray, List.set_cons_zero, List.set_cons_succ]
          refine wpAnyH_take (i := 9) (oi := _) (v := ?_) rfl (by kernel_rfl) (by kernel_rfl) (by kernel_rfl) (fun _ _ _ h => h) (Or.inl ⟨by rfl, ?_⟩) (by assumption) ?_
          rotate_left
          · (intro wS hSw; (try dsimp only at hSw); (try go_split_ands); (simp only [List.getElem_toArray, List.getElem_cons_succ, List.getElem_cons_zero]); go_simp <;> (with_reducible rfl))
          try simp only [List.getElem_toArray, List.getElem_cons_succ, List.getElem_cons_zero, Act.put, List.setIfInBounds_toArray, List.set_cons_zero, List.set_cons_succ]
          refine wpAnyH_take (i := 10) (oi := _) (v := ?_) rfl (by kernel_rfl) (by kernel_rfl) (by kernel_rfl) (fun _ _ _ h => h) (Or.inl ⟨by rfl, ?_⟩) (by assumption) ?_
          rotate_left
          · (intro wS hSw; (try dsimp only at hSw); (try go_split_ands); (simp only [List.getElem_toArray, List.getElem_cons_succ, List.getElem_cons_zero]); go_simp <;> (with_reducible rfl))
          try simp only [List.getElem_toArray, List.getElem_cons_succ, List.getElem_cons_zero, Act.put, List.setIfInBounds_toArray, List.set_cons_zero, List.set_cons_succ]
          refine wpAnyH_take (i := 11) (oi := _) (v := ?_) rfl (by kernel_rfl) (by kernel_rfl) (by kernel_rfl) (fun _ _ _ h => h) (Or.inl ⟨by rfl, ?_⟩) (by assumption) ?_
          rotate_left
          · (intro wS hSw; (try dsimp only at hSw); (try go_split_ands); (simp only [List.getElem_toArray, List.getElem_cons_succ, List.getElem_cons_zero]); go_simp <;> (with_reducible rfl))
          try simp only [List.getElem_toArray, List.getElem_cons_succ, List.getElem_cons_zero, Act.put, List.setIfInBounds_toArray, List.set_cons_zero, List.set_cons_succ]
          refine wpAnyH_ready (rs := [12]) (by kernel_rfl) (by simp) (AllReadyH.cons (o := _) rfl (fun K hK => ?_) AllReadyH.nil)
          simp only [rq0, rq1, rq2]
          go_simp
          (go_at_call 32; refine (eqlI _ _ _ _ E _ (L5.rl.below hbx) (hD.a.rl.below hbx) (by omega)).mono ?_; rintro e wq ⟨rfl, hq⟩; replace hbx := bt2 hbx hq)
          refine hK.out _ _ ?_ (fun hHeld => ?_)
          · exact ⟨cell_on (hbx) a0, cell_on (hbx) a1, cell_on (hbx) a2, cell_on (hbx) a3, cell_on (hbx) b0, cell_on (hbx) b1⟩
          clear hK K hq
          try simp only [rq0, rq1, rq2, Act.put, rq3, rq4, rq5]
          refine wpAnyH_take (i := 13) (oi := _) (v := ?_) rfl (by kernel_rfl) (by kernel_rfl) (by kernel_rfl) (fun _ _ _ h => h) (Or.inl ⟨by rfl, ?_⟩) (by assumption) ?_
          rotate_left
          · (intro wS hSw; (try dsimp only at hSw); (try go_split_ands); (simp only [List.getElem_toArray, List.getElem_cons_succ, List.getElem_cons_zero]); go_simp <;> (with_reducible rfl))
          try simp only [List.getElem_toArray, List.getElem_cons_succ, List.getElem_cons_zero, Act.put, List.setIfInBounds_toArray, List.set_cons_zero, List.set_cons_succ]
          refine wpAnyH_take (i := 14) (oi := _) (v := ?_) rfl (by kernel_rfl) (by kernel_rfl) (by kernel_rfl) (fun _ _ _ h => h) (Or.inl ⟨by rfl, ?_⟩) (by assumption) ?_
          rotate_left
          · (intro wS hSw; (try dsimp only at hSw); (try go_split_ands); (simp only [List.getElem_toArray, List.getElem_cons_succ, List.getElem_cons_zero]); go_simp <;> (with_reducible rfl))
          try simp only [List.getElem_toArray, List.getElem_cons_succ, List.getElem_cons_zero, Act.put, List.setIfInBounds_toArray, List.set_cons_zero, List.set_cons_succ]
          refine wpAnyH_done (by kernel_rfl) ?_ _
          refine NoPanic.normal ?_
          clear hHeld
          go_wp2_with fail
          go_ret
          exact ⟨rfl, bt2 hbA (bt2 hb hbx)⟩

set_option maxHeartbeats 4000000 in
theorem writeL_law (A : Option Addr) (c : Nat) (zs : List Int) (w : World) (h : Bytes w A c zs) :
    Calls Try.prog 6 #[.slice A zs.length c] w fun e w' => e = .returned (.bool true) ∧ Below w.heap.size w w' := by
  have hcap := h.cap
  have hmax := h.max
  by_cases hl : 1048576 < zs.length
  · go_enter Try.func6, Try.ntmps6
    go_wp2
    go_ret
    exact ⟨rfl, Below.refl _ _⟩
  · go_enter Try.func6, Try.ntmps6
    go_wp2_with fail
    refine (drawWD A c zs _ h).mono ?_
    rintro e w1 ⟨A, c, xs, Z, d, ws, x, rfl, hx1, hx2, hD, hb1⟩
    have hla := hD.la
    have hlb := hD.lb
    have hWS : Hid (∀ W, Rl encD 1 W A xs → Rl encW 2 W Z ws → Calls Try.prog 26 #[.agg #[.slice A xs.length c, .slice Z ws.length d], .agg #[.int .i64 x.1, .int .i64 x.2]] W (WrQ xs ws x W)) := fun W h1 h2 => (wsS A Z c d xs ws x W h1 h2 (by omega) (by omega)).mono fun _ _ h => wr_q h
    have hWI : Hid (∀ W, Rl encD 1 W A xs → Rl encW 2 W Z ws → Calls Try.prog 25 #[.agg #[.slice A xs.length c, .slice Z ws.length d], .agg #[.int .i64 x.1, .int .i64 x.2]] W (WrQ xs ws x W)) := fun W h1 h2 => (wsI A Z c d xs ws x W h1 h2 (by omega) (by omega)).mono fun _ _ h => wr_q h
    have hok := hide (fun h => wok_parts (xs := xs) (ws := ws) (x := x) h)
    have hWX : Hid (wok xs ws x = true → WX xs ws x = xs ∧ WY xs ws x = ws ++ [x]) := fun h => by unfold WX WY; rw [h]; exact ⟨rfl, rfl⟩
    have hsn := hide (fun h => vd_snoc (xs := xs) (ws := ws) (x := x) h)
    have hl1 : (WX xs ws x).length ≤ 9 := by unfold WX; split <;> (first | omega | (simp; done) | (simp; omega))
    have hl2 : (WY xs ws x).length ≤ 10 := by unfold WY; split <;> (first | omega | (simp; done) | (simp; omega))
    have hbA : Below w.heap.size w ((w1.alloc (.cells #[.slice A xs.length c, .slice Z ws.length d] 30)).alloc (.cells #[.int .i64 x.1, .int .i64 x.2] 41)) := bt2 hb1 (by go_grown)
    have hbD : Below w1.heap.size w1 ((w1.alloc (.cells #[.slice A xs.length c, .slice Z ws.length d] 30)).alloc (.cells #[.int .i64 x.1, .int .i64 x.2] 41)) := by go_grown
    have kd := (Blk.new w1 30 #[.slice A xs.length c, .slice Z ws.length d]).alloc (.cells #[.int .i64 x.1, .int .i64 x.2] 41)
    have kx := Blk.new (w1.alloc (.cells #[.slice A xs.length c, .slice Z ws.length d] 30)) 41 #[.int .i64 x.1, .int .i64 x.2]
    simp only [World.size_alloc] at kx
    replace hD := hD.below hbD
    clear hb1 hbD
    go_wp2_with fail
    generalize (w1.alloc (.cells #[.slice A xs.length c, .slice Z ws.length d] 30)).alloc (.cells #[.int .i64 x.1, .int .i64 x.2] 41) = w2 at hbA kd kx hD ⊢
    have a0 : w2.cell? ⟨w1.heap.size, 0, none⟩ = some (.slice A xs.length c) := kd.cell 0
    have a1 : w2.cell? ⟨w1.heap.size, 1, none⟩ = some (.slice Z ws.length d) := kd.cell 1
    have a2 : w2.cell? ⟨w1.heap.size + 1, 0, none⟩ = some (.int .i64 x.1) := kx.cell 0
    have a3 : w2.cell? ⟨w1.heap.size + 1, 1, none⟩ = some (.int .i64 x.2) := kx.cell 1
    refine (hWI.out _ hD.a.rl hD.b.rl).mono ?_
    rintro e w3 ⟨A5, c5, B5, d5, rfl, hb3, L5, M5⟩
    obtain ⟨E, hE⟩ : ∃ E, E = WX xs ws x := ⟨_, rfl⟩
    obtain ⟨F, hF⟩ : ∃ F, F = WY xs ws x := ⟨_, rfl⟩
    have hWS' : Hid (∀ W, Rl encD 1 W A xs → Rl encW 2 W Z ws → Calls Try.prog 26 #[.agg #[.slice A xs.length c, .slice Z ws.length d], .agg #[.int .i64 x.1, .int .i64 x.2]] W (fun e w' => ∃ A c B d, e = .returned (.tuple #[.agg #[.slice A E.length c, .slice B F.length d], .bool (wok xs ws x)]) ∧ Below W.heap.size W w' ∧ Lst encD 1 W.heap.size w' A c E ∧ Lst encW 2 W.heap.size w' B d F)) := fun W h1 h2 => by rw [hE, hF]; exact hWS.out W h1 h2
    rw [← hE] at L5 hWX hl1 ⊢
    rw [← hF] at M5 hWX hl2 ⊢
    clear hE hF hWS hWI
    have hb4 : Below w3.heap.size w3 (w3.alloc (.cells #[.slice A5 E.length c5, .slice B5 F.length d5] 30)) := (Below.refl _ _).alloc (Nat.le_refl _) _
    have ke := Blk.new w3 30 #[.slice A5 E.length c5, .slice B5 F.length d5]
    have hb34 := bt2 hb3 hb4
    replace a0 := cell_on hb34 a0
    replace a1 := cell_on hb34 a1
    replace a2 := cell_on hb34 a2
    replace a3 := cell_on hb34 a3
    replace hD := hD.below hb34
    replace L5 := L5.below hb4
    replace M5 := M5.below hb4
    replace hbA := bt2 hbA hb34
    clear kd kx hb3 hb4 hb34
    go_wp2_with fail
    generalize w3.alloc (.cells #[.slice A5 E.length c5, .slice B5 F.length d5] 30) = w4 at hbA ke hD L5 M5 a0 a1 a2 a3 ⊢
    have b0 : w4.cell? ⟨w3.heap.size, 0, none⟩ = some (.slice A5 E.length c5) := ke.cell 0
    have b1 : w4.cell? ⟨w3.heap.size, 1, none⟩ = some (.slice B5 F.length d5) := ke.cell 1
    refine (hWS'.out _ hD.a.rl hD.b.rl).mono ?_
    rintro e w5 ⟨A7, c7, B7, d7, rfl, hb5, L7, M7⟩
    have hb6 : Below w5.heap.size w5 (w5.alloc (.cells #[.slice A7 E.length c7, .slice B7 F.length d7] 30)) := (Below.refl _ _).alloc (Nat.le_refl _) _
    have kf := Blk.new w5 30 #[.slice A7 E.length c7, .slice B7 F.length d7]
    have hb56 := bt2 hb5 hb6
    replace a0 := cell_on hb56 a0
    replace a1 := cell_on hb56 a1
    replace a2 := cell_on hb56 a2
    replace a3 := cell_on hb56 a3
    replace b0 := cell_on hb56 b0
    replace b1 := cell_on hb56 b1
    replace hD := hD.below hb56
    replace L5 := L5.below hb56
    replace M5 := M5.below hb56
    replace L7 := L7.below hb6
    replace M7 := M7.below hb6
    replace hbA := bt2 hbA hb56
    clear ke hb5 hb6 hb56 hWS'
    go_wp2_with fail
    generalize w5.alloc (.cells #[.slice A7 E.length c7, .slice B7 F.length d7] 30) = w6 at hbA kf hD L5 M5 L7 M7 a0 a1 a2 a3 b0 b1 ⊢
    have f0 : w6.cell? ⟨w5.heap.size, 0, none⟩ = some (.slice A7 E.length c7) := kf.cell 0
    have f1 : w6.cell? ⟨w5.heap.size, 1, none⟩ = some (.slice B7 F.length d7) := kf.cell 1
    have hEq : Hid (∀ W, Below w6.heap.size w6 W → Calls Try.prog 27 #[.agg #[.slice A5 E.length c5, .slice B5 F.length d5], .agg #[.slice A7 E.length c7, .slice B7 F.length d7]] W fun e w' => e = .returned (.bool true) ∧ Below W.heap.size W w') := fun W hb => eqlD _ _ _ _ _ _ _ _ E F _ (L5.rl.below hb) (M5.rl.below hb) (L7.rl.below hb) (M7.rl.below hb) (by omega) (by omega)
    refine (hEq.out _ (Below.refl _ _)).mono ?_
    rintro e w7 ⟨rfl, hb7⟩
    cases hk : wok xs ws x
    · replace f0 := cell_on hb7 f0
      replace f1 := cell_on hb7 f1
      replace b0 := cell_on hb7 b0
      replace b1 := cell_on hb7 b1
      have hEq7 := hide (hEq.out _ hb7)
      clear hk hok hWX hsn hD L5 M5 L7 M7 hEq a0 a1 a2 a3 kf
      go_wp2_with fail
      refine (hEq7.out).mono ?_
      rintro e w8 ⟨rfl, hb8⟩
      go_wp2_with fail
      go_ret
      exact ⟨rfl, bt2 (bt2 hbA hb7) hb8⟩
    · obtain ⟨hv, htk, h8⟩ := hok.out hk
      obtain ⟨rfl, hF⟩ := hWX.out hk
      have hv' : vd E (ws ++ [x]) = true := (hsn.out hv).trans hk
      have hn8 : E.length ≤ 8 := (vd_parts hv).2.1
      have hF9 : F.length ≤ 9 := by rw [hF]; simp; omega
      have ec1 : CD E F ((p2 ws.length : Int) - 1) = SD E ws := by rw [hF]; exact cd_lost hv hv'
      have ec2 : CD E F (2 * ((p2 ws.length : Int) - 1) + 1) = SD E F := by rw [hF]; exact cd_all
      have hP := p2_le (n := ws.length) (by omega)
      have hsh := shl_p2 (n := ws.length) (by omega)
      have hwr := wrap_p2 (n := ws.length) (by omega)
      have hC1 : Hid (∀ A B c d W, Rl encD 1 W A E → Rl encW 2 W B F → Calls Try.prog 28 #[.agg #[.slice A E.length c, .slice B F.length d], .int .i64 ((p2 ws.length : Int) - 1)] W (DiskQ (SD E ws) W)) := fun A B c d W h1 h2 => by
        have := (cdI A B c d E F ((p2 ws.length : Int) - 1) W h1 h2 (by omega) (by omega) (by omega)).mono fun _ _ h => disk_q h
        rwa [ec1] at this
      have hC2 : Hid (∀ A B c d W, Rl encD 1 W A E → Rl encW 2 W B F → Calls Try.prog 28 #[.agg #[.slice A E.length c, .slice B F.length d], .int .i64 (2 * ((p2 ws.length : Int) - 1) + 1)] W (DiskQ (SD E F) W)) := fun A B c d W h1 h2 => by
        have := (cdI A B c d E F (2 * ((p2 ws.length : Int) - 1) + 1) W h1 h2 (by omega) (by omega) (by omega)).mono fun _ _ h => disk_q h
        rwa [ec2] at this
      have hY1 : Hid (∀ W, Rl encD 1 W A E → Rl encW 2 W Z ws → Calls Try.prog 29 #[.agg #[.slice A E.length c, .slice Z ws.length d]] W (DiskQ (SD E ws) W)) := fun W h1 h2 => (sdI A Z c d E ws W h1 h2 (by omega) (by omega)).mono fun _ _ h => disk_q h
      have hY2 : Hid (∀ A B c d W, Rl encD 1 W A E → Rl encW 2 W B F → Calls Try.prog 29 #[.agg #[.slice A E.length c, .slice B F.length d]] W (DiskQ (SD E F) W)) := fun A B c d W h1 h2 => (sdI A B c d E F W h1 h2 (by omega) (by omega)).mono fun _ _ h => disk_q h
      have hl3 := SD_le (xs := E) (ws := ws)
      have hl4 := SD_le (xs := E) (ws := F)
      clear ec1 ec2
      generalize SD E ws = S1 at hC1 hY1 hl3
      generalize SD E F = S2 at hC2 hY2 hl4
      generalize p2 ws.length = P at hP hsh hwr hC1 hC2
      replace hbA := bt2 hbA hb7
      replace hD := hD.below hb7
      replace L5 := L5.below hb7
      replace M5 := M5.below hb7
      replace a0 := cell_on hb7 a0
      replace a1 := cell_on hb7 a1
      replace b0 := cell_on hb7 b0
      replace b1 := cell_on hb7 b1
      clear hk hok hWX hsn L7 M7 hEq kf hb7 hv hv' htk f0 f1 a2 a3 hF
      have hw1 : IntKind.i64.wrap ((P : Int) - 1) = (P : Int) - 1 := IntWalk.i64_in _ (by omega)
      go_wp2_with fail
      have hw2 : IntKind.i64.wrap (2 * ((P : Int) - 1)) = 2 * ((P : Int) - 1) := IntWalk.i64_in _ (by omega)
      have hw3 : IntKind.i64.wrap (2 * ((P : Int) - 1) + 1) = 2 * ((P : Int) - 1) + 1 := IntWalk.i64_in _ (by omega)
      have hbx : Below w7.heap.size w7 w7.drew := (Below.refl _ _).drew
      refine wp_region_noPanic ?_
      refine wp_region_held_drew (S := (fun w' => w'.cell? ⟨w1.heap.size, 0, none⟩ = some (.slice A E.length c) ∧ w'.cell? ⟨w1.heap.size, 1, none⟩ = some (.slice Z ws.length d) ∧ w'.cell? ⟨w3.heap.size, 0, none⟩ = some (.slice A5 E.length c5) ∧ w'.cell? ⟨w3.heap.size, 1, none⟩ = some (.slice B5 F.length d5))) (by kernel_rfl) ?_ (fun hHeld => ?_)
      · exact ⟨cell_on (hbx) a0, cell_on (hbx) a1, cell_on (hbx) b0, cell_on (hbx) b1⟩
      refine wpAnyH_take (i := 0) (oi := _) (v := ?_) rfl (by kernel_rfl) (by kernel_rfl) (by kernel_rfl) (fun _ _ _ h => h) (Or.inl ⟨by rfl, ?_⟩) (by assumption) ?_
      rotate_left
      · (intro wS hSw; (try dsimp only at hSw); (try go_split_ands); (simp only [List.getElem_toArray, List.getElem_cons_succ, List.getElem_cons_zero]); go_simp <;> (with_reducible rfl))
      try simp only [List.getElem_toArray, List.getElem_cons_succ, List.getElem_cons_zero, Act.put, List.setIfInBounds_toArray, List.set_cons_zero, List.set_cons_succ]
      refine wpAnyH_take (i := 1) (oi := _) (v := ?_) rfl (by kernel_rfl) (by kernel_rfl) (by kernel_rfl) (fun _ _ _ h => h) (Or.inl ⟨by rfl, ?_⟩) (by assumption) ?_
      rotate_left
      · (intro wS hSw; (try dsimp only at hSw); (try go_split_ands); (simp only [List.getElem_toArray, List.getElem_cons_succ, List.getElem_cons_zero]); go_simp <;> (with_reducible rfl))
      try simp only [List.getElem_toArray, List.getElem_cons_succ, List.getElem_cons_zero, Act.put, List.setIfInBounds_toArray, List.set_cons_zero, List.set_cons_succ]
      refine wpAnyH_take (i := 3) (oi := _) (v := ?_) rfl (by kernel_rfl) (by kernel_rfl) (by kernel_rfl) (fun _ _ _ h => h) (Or.inl ⟨by rfl, ?_⟩) (by assumption) ?_
      rotate_left
      · (intro wS hSw; (try dsimp only at hSw); (try go_split_ands); (simp only [List.getElem_toArray, List.getElem_cons_succ, List.getElem_cons_zero]); go_simp <;> (with_reducible rfl))
      try simp only [List.getElem_toArray, List.getElem_cons_succ, List.getElem_cons_zero, Act.put, List.setIfInBounds_toArray, List.set_cons_zero, List.set_cons_succ]
      refine wpAnyH_ready (rs := [2]) (by kernel_rfl) (by simp) (AllReadyH.cons (o := _) rfl (fun K hK => ?_) AllReadyH.nil)
      simp only [rq0, rq1, rq2]
      go_simp
      (go_at_call 28; refine (hC1.out _ _ _ _ _ (L5.rl.below hbx) (M5.rl.below hbx)).mono ?_; rintro e wq ⟨A8, c8, rfl, hq, L8⟩; replace hbx := bt2 hbx hq)
      refine hK.out _ _ ?_ (fun hHeld => ?_)
      · exact ⟨cell_on (hbx) a0, cell_on (hbx) a1, cell_on (hbx) b0, cell_on (hbx) b1⟩
      clear hK K hq
      try simp only [rq0, rq1, rq2, Act.put, rq3, rq4, rq5]
      refine wpAnyH_ready (rs := [4]) (by kernel_rfl) (by simp) (AllReadyH.cons (o := _) rfl (fun K hK => ?_) AllReadyH.nil)
      simp only [rq0, rq1, rq2]
      go_simp
      (go_at_call 29; refine (hY1.out _ (hD.a.rl.below hbx) (hD.b.rl.below hbx)).mono ?_; rintro e wq ⟨A9, c9, rfl, hq, L9⟩; replace L8 := L8.below hq; replace hbx := bt2 hbx hq)
      refine hK.out _ _ ?_ (fun hHeld => ?_)
      · exact ⟨cell_on (hbx) a0, cell_on (hbx) a1, cell_on (hbx) b0, cell_on (hbx) b1⟩
      clear hK K hq
      try simp only [rq0, rq1, rq2, Act.put, rq3, rq4, rq5]
      refine wpAnyH_ready (rs := [5]) (by kernel_rfl) (by simp) (AllReadyH.cons (o := _) rfl (fun K hK => ?_) AllReadyH.nil)
      simp only [rq0, rq1, rq2]
      go_simp
      (go_at_call 27; refine (eqlD _ _ _ _ _ _ _ _ S1 [] _ L8.rl Rl.nil L9.rl Rl.nil (by omega) (by simp)).mono ?_; rintro e wq ⟨rfl, hq⟩; replace hbx := bt2 hbx hq)
      refine hK.out _ _ ?_ (fun hHeld => ?_)
      · exact ⟨cell_on (hbx) a0, cell_on (hbx) a1, cell_on (hbx) b0, cell_on (hbx) b1⟩
      clear hK K hq
      try simp only [rq0, rq1, rq2, Act.put, rq3, rq4, rq5]
      clear L8 L9
      refine wpAnyH_take (i := 6) (oi := _) (v := ?_) rfl (by kernel_rfl) (by kernel_rfl) (by kernel_rfl) (fun _ _ _ h => h) (Or.inl ⟨by rfl, ?_⟩) (by assumption) ?_
      rotate_left
      · (intro wS hSw; (try dsimp only at hSw); (try go_split_ands); (simp only [List.getElem_toArray, List.getElem_cons_succ, List.getElem_cons_zero]); go_simp <;> (with_reducible rfl))
      try simp only [List.getElem_toArray, List.getElem_cons_succ, List.getElem_cons_zero, Act.put, List.setIfInBounds_toArray, List.set_cons_zero, List.set_cons_succ]
      refine wpAnyH_take (i := 7) (oi := _) (v := ?_) rfl (by kernel_rfl) (by kernel_rfl) (by kernel_rfl) (fun _ _ _ h => h) (Or.inl ⟨by rfl, ?_⟩) (by assumption) ?_
      rotate_left
      · (intro wS hSw; (try dsimp only at hSw); (try go_split_ands); (simp only [List.getElem_toArray, List.getElem_cons_succ, List.getElem_cons_zero]); go_simp <;> (with_reducible rfl))
      try simp only [List.getElem_toArray, List.getElem_cons_succ, List.getElem_cons_zero, Act.put, List.setIfInBounds_toArray, List.set_cons_zero, List.set_cons_succ]
      refine wpAnyH_take (i := 8) (oi := _) (v := ?_) rfl (by kernel_rfl) (by kernel_rfl) (by kernel_rfl) (fun _ _ _ h => h) (Or.inl ⟨by rfl, ?_⟩) (by assumption) ?_
      rotate_left
      · (intro wS hSw; (try dsimp only at hSw); (try go_split_ands); (simp only [List.getElem_toArray, List.getElem_cons_succ, List.getElem_cons_zero]); go_simp <;> (with_reducible rfl))
      try simp only [List.getElem_toArray, List.getElem_cons_succ, List.getElem_cons_zero, Act.put, List.setIfInBounds_toArray, List.set_cons_zero, List.set_cons_succ]
      refine wpAnyH_take (i := 9) (oi := _) (v := ?_) rfl (by kernel_rfl) (by kernel_rfl) (by kernel_rfl) (fun _ _ _ h => h) (Or.inl ⟨by rfl, ?_⟩) (by assumption) ?_
      rotate_left
      · (intro wS hSw; (try dsimp only at hSw); (try go_split_ands); (simp only [List.getElem_toArray, List.getElem_cons_succ, List.getElem_cons_zero]); go_simp <;> (with_reducible rfl))
      try simp only [List.getElem_toArray, List.getElem_cons_succ, List.getElem_cons_zero, Act.put, List.setIfInBounds_toArray, List.set_cons_zero, List.set_cons_succ]
      refine wpAnyH_take (i := 10) (oi := _) (v := ?_) rfl (by kernel_rfl) (by kernel_rfl) (by kernel_rfl) (fun _ _ _ h => h) (Or.inl ⟨by rfl, ?_⟩) (by assumption) ?_
      rotate_left
      · (intro wS hSw; (try dsimp only at hSw); (try go_split_ands); (simp only [List.getElem_toArray, List.getElem_cons_succ, List.getElem_cons_zero]); go_simp <;> (with_reducible rfl))
      try simp only [List.getElem_toArray, List.getElem_cons_succ, List.getElem_cons_zero, Act.put, List.setIfInBounds_toArray, List.set_cons_zero, List.set_cons_succ]
      refine wpAnyH_take (i := 12) (oi := _) (v := ?_) rfl (by kernel_rfl) (by kernel_rfl) (by kernel_rfl) (fun _ _ _ h => h) (Or.inl ⟨by rfl, ?_⟩) (by assumption) ?_
      rotate_left
      · (intro wS hSw; (try dsimp only at hSw); (try go_split_ands); (simp only [List.getElem_toArray, List.getElem_cons_succ, List.getElem_cons_zero]); go_simp <;> (with_reducible rfl))
      try simp only [List.getElem_toArray, List.getElem_cons_succ, List.getElem_cons_zero, Act.put, List.setIfInBounds_toArray, List.set_cons_zero, List.set_cons_succ]
      refine wpAnyH_ready (rs := [11]) (by kernel_rfl) (by simp) (AllReadyH.cons (o := _) rfl (fun K hK => ?_) AllReadyH.nil)
      simp only [rq0, rq1, rq2]
      go_simp
      (go_at_call 28; refine (hC2.out _ _ _ _ _ (L5.rl.below hbx) (M5.rl.below hbx)).mono ?_; rintro e wq ⟨A8, c8, rfl, hq, L8⟩; replace hbx := bt2 hbx hq)
      refine hK.out _ _ ?_ (fun hHeld => ?_)
      · exact ⟨cell_on (hbx) a0, cell_on (hbx) a1, cell_on (hbx) b0, cell_on (hbx) b1⟩
      clear hK K hq
      try simp only [rq0, rq1, rq2, Act.put, rq3, rq4, rq5]
      refine wpAnyH_ready (rs := [13]) (by kernel_rfl) (by simp) (AllReadyH.cons (o := _) rfl (fun K hK => ?_) AllReadyH.nil)
      simp only [rq0, rq1, rq2]
      go_simp
      (go_at_call 29; refine (hY2.out _ _ _ _ _ (L5.rl.below hbx) (M5.rl.below hbx)).mono ?_; rintro e wq ⟨A9, c9, rfl, hq, L9⟩; replace L8 := L8.below hq; replace hbx := bt2 hbx hq)
      refine hK.out _ _ ?_ (fun hHeld => ?_)
      · exact ⟨cell_on (hbx) a0, cell_on (hbx) a1, cell_on (hbx) b0, cell_on (hbx) b1⟩
      clear hK K hq
      try simp only [rq0, rq1, rq2, Act.put, rq3, rq4, rq5]
      refine wpAnyH_ready (rs := [14]) (by kernel_rfl) (by simp) (AllReadyH.cons (o := _) rfl (fun K hK => ?_) AllReadyH.nil)
      simp only [rq0, rq1, rq2]
      go_simp
      (go_at_call 27; refine (eqlD _ _ _ _ _ _ _ _ S2 [] _ L8.rl Rl.nil L9.rl Rl.nil (by omega) (by simp)).mono ?_; rintro e wq ⟨rfl, hq⟩; replace hbx := bt2 hbx hq)
      refine hK.out _ _ ?_ (fun hHeld => ?_)
      · exact ⟨cell_on (hbx) a0, cell_on (hbx) a1, cell_on (hbx) b0, cell_on (hbx) b1⟩
      clear hK K hq
      try simp only [rq0, rq1, rq2, Act.put, rq3, rq4, rq5]
      refine wpAnyH_take (i := 15) (oi := _) (v := ?_) rfl (by kernel_rfl) (by kernel_rfl) (by kernel_rfl) (fun _ _ _ h => h) (Or.inl ⟨by rfl, ?_⟩) (by assumption) ?_
      rotate_left
      · (intro wS hSw; (try dsimp only at hSw); (try go_split_ands); (simp only [List.getElem_toArray, List.getElem_cons_succ, List.getElem_cons_zero]); go_simp <;> (with_reducible rfl))
      try simp only [List.getElem_toArray, List.getElem_cons_succ, List.getElem_cons_zero, Act.put, List.setIfInBounds_toArray, List.set_cons_zero, List.set_cons_succ]
      refine wpAnyH_take (i := 16) (oi := _) (v := ?_) rfl (by kernel_rfl) (by kernel_rfl) (by kernel_rfl) (fun _ _ _ h => h) (Or.inl ⟨by rfl, ?_⟩) (by assumption) ?_
      rotate_left
      · (intro wS hSw; (try dsimp only at hSw); (try go_split_ands); (simp only [List.getElem_toArray, List.getElem_cons_succ, List.getElem_cons_zero]); go_simp <;> (with_reducible rfl))
      try simp only [List.getElem_toArray, List.getElem_cons_succ, List.getElem_cons_zero, Act.put, List.setIfInBounds_toArray, List.set_cons_zero, List.set_cons_succ]
      refine wpAnyH_done (by kernel_rfl) ?_ _
      refine NoPanic.normal ?_
      clear hHeld
      clear hw1 hw2 hw3
      go_wp2_with fail
      go_ret
      exact ⟨rfl, bt2 hbA hbx⟩

end Go.Proofs.Ytgabjepoooageaa
