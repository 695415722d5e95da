/-
  Disks: ReadSector of the program and of the reference answer alike; the exact statement about ReadSector, walked. Conditions: the sectors and the writes read as lists.
-/
import Derived.Test.YtgabjepoooageaaCrash
namespace Go.Proofs.Ytgabjepoooageaa
open Go.RowKit
set_option linter.unusedVariables false
set_option linter.unusedSimpArgs false

def RD (xs : List Int) (ws : List (Int × Int)) (s : Int) : Int := if vd xs ws && rng s 0 ((xs.length : Int) - 1) then (SD xs ws).getD s.toNat 0 else -1
theorem RD_bad {xs : List Int} {ws : List (Int × Int)} {s : Int} (h : vd xs ws = false) : RD xs ws s = -1 := by unfold RD; rw [h]; rfl
theorem RD_no {xs : List Int} {ws : List (Int × Int)} {s : Int} (h : rng s 0 ((xs.length : Int) - 1) = false) : RD xs ws s = -1 := by unfold RD; rw [h, Bool.and_false]; rfl
theorem SD_len {xs : List Int} {ws : List (Int × Int)} (h : vd xs ws = true) : (SD xs ws).length = xs.length := by
  obtain ⟨_, _, l3, _, _⟩ := vd_parts h
  have hP := p2_le l3
  rw [SD_is (m := p2 ws.length - 1) (by omega) h, ap_len]
theorem RD_yes {xs : List Int} {ws : List (Int × Int)} {k : Nat} (h : vd xs ws = true) (hk : k < xs.length) : ∃ y, (SD xs ws)[k]? = some y ∧ RD xs ws (k : Int) = y := by
  have hl := SD_len h
  refine ⟨(SD xs ws)[k], List.getElem?_eq_getElem _, ?_⟩
  unfold RD
  rw [h, rng_iff.2 (show 0 ≤ (k : Int) ∧ (k : Int) ≤ (xs.length : Int) - 1 by omega)]
  simp [List.getD_eq_getElem?_getD, List.getElem?_eq_getElem (show k < (SD xs ws).length by omega)]
theorem Ri.get {g N : Nat} {xs : List Int} {w : World} (h : Ri g N xs w) {k : Nat} {y : Int} (hk : xs[k]? = some y) : w.cell? ⟨g, k, none⟩ = some (.int .i64 y) := by
  obtain ⟨arr, h1, _, _, h4⟩ := h
  exact (h1.cell k).trans (h4 k _ hk)

set_option maxHeartbeats 2000000 in
theorem rdI (A B : Option Addr) (c d : Nat) (xs : List Int) (ws : List (Int × Int)) (s : Int) (w : World) (hr : Rl encD 1 w A xs) (hq : Rl encW 2 w B ws) (hc : xs.length ≤ 1048576) (hd : ws.length ≤ 1048576) (hs : -9223372036854775808 ≤ s ∧ s ≤ 9223372036854775807) :
    Calls Try.prog 21 #[.agg #[.slice A xs.length c, .slice B ws.length d], .int .i64 s] w fun e w' => e = .returned (.int .i64 (RD xs ws s)) ∧ Below w.heap.size w w' := by
  have hb0 : Below w.heap.size w (w.alloc (.cells #[.slice A xs.length c, .slice B ws.length d] 30)) := by go_grown
  have kA := Blk.new w 30 #[.slice A xs.length c, .slice B ws.length d]
  cases hv : vd xs ws
  · have H := hide (RD_bad (s := s) hv)
    have hv' := hide hv
    clear hv
    go_enter Try.func21, Try.ntmps21
    go_wp2_with fail
    generalize w.alloc (.cells #[.slice A xs.length c, .slice B ws.length d] 30) = w0 at hb0 kA
    refine (vdI A B c d xs ws _ (hr.below hb0) (hq.below hb0) hc hd).mono ?_
    rintro e w1 ⟨rfl, hb1⟩
    rw [hv'.out]
    have kA1 := kA.below hb1
    have hbb := bt hb0 hb1 hb0.size
    have hA0 : w1.cell? ⟨w.heap.size, 0, none⟩ = some (.slice A xs.length c) := kA1.cell 0
    have hA1 : w1.cell? ⟨w.heap.size, 1, none⟩ = some (.slice B ws.length d) := kA1.cell 1
    go_wp2_with fail
    go_ret
    exact ⟨ret_int H.out.symm, hbb⟩
  · obtain ⟨l1, l2, l3, hN, hW⟩ := vd_parts hv
    have hv' := hide hv
    clear hN hW
    by_cases g1 : s < 0
    · have H := hide (RD_no (ws := ws) (rng_no.2 (.inl g1) : rng s 0 ((xs.length : Int) - 1) = false))
      clear hv
      go_enter Try.func21, Try.ntmps21
      go_wp2_with fail
      generalize w.alloc (.cells #[.slice A xs.length c, .slice B ws.length d] 30) = w0 at hb0 kA
      refine (vdI A B c d xs ws _ (hr.below hb0) (hq.below hb0) hc hd).mono ?_
      rintro e w1 ⟨rfl, hb1⟩
      rw [hv'.out]
      have kA1 := kA.below hb1
      have hbb := bt hb0 hb1 hb0.size
      have hA0 : w1.cell? ⟨w.heap.size, 0, none⟩ = some (.slice A xs.length c) := kA1.cell 0
      have hA1 : w1.cell? ⟨w.heap.size, 1, none⟩ = some (.slice B ws.length d) := kA1.cell 1
      go_wp2_with fail
      go_ret
      exact ⟨ret_int H.out.symm, hbb⟩
    · have g1' : decide (s < 0) = false := by simpa using g1
      by_cases g2 : (xs.length : Int) ≤ s
      · have H := hide (RD_no (ws := ws) (rng_no.2 (.inr (show (xs.length : Int) - 1 < s by omega)) : rng s 0 ((xs.length : Int) - 1) = false))
        clear hv
        go_enter Try.func21, Try.ntmps21
        go_wp2_with fail
        generalize w.alloc (.cells #[.slice A xs.length c, .slice B ws.length d] 30) = w0 at hb0 kA
        refine (vdI A B c d xs ws _ (hr.below hb0) (hq.below hb0) hc hd).mono ?_
        rintro e w1 ⟨rfl, hb1⟩
        rw [hv'.out]
        have kA1 := kA.below hb1
        have hbb := bt hb0 hb1 hb0.size
        have hA0 : w1.cell? ⟨w.heap.size, 0, none⟩ = some (.slice A xs.length c) := kA1.cell 0
        have hA1 : w1.cell? ⟨w.heap.size, 1, none⟩ = some (.slice B ws.length d) := kA1.cell 1
        go_wp2_with fail
        go_ret
        exact ⟨ret_int H.out.symm, hbb⟩
      · obtain ⟨k, rfl⟩ : ∃ k : Nat, s = k := ⟨s.toNat, by omega⟩
        have hl := SD_len hv
        obtain ⟨y, hy, H⟩ := RD_yes hv (k := k) (by omega)
        have H := hide H
        have hy := hide hy
        have hkl : (k : Int) < (xs.length : Int) := by omega
        have hl' := hide hl
        clear hv hl g1
        have hsd : Hid (∀ W, Rl encD 1 W A xs → Rl encW 2 W B ws → Calls Try.prog 29 #[.agg #[.slice A xs.length c, .slice B ws.length d]] W (DiskR (SD xs ws) W)) := fun W h1 h2 => sdI A B c d xs ws W h1 h2 hc hd
        generalize SD xs ws = zs at hy hl' hsd
        go_enter Try.func21, Try.ntmps21
        go_wp2_with fail
        generalize w.alloc (.cells #[.slice A xs.length c, .slice B ws.length d] 30) = w0 at hb0 kA
        refine (vdI A B c d xs ws _ (hr.below hb0) (hq.below hb0) hc hd).mono ?_
        rintro e w1 ⟨rfl, hb1⟩
        rw [hv'.out]
        have kA1 := kA.below hb1
        have hbb := bt hb0 hb1 hb0.size
        have hA0 : w1.cell? ⟨w.heap.size, 0, none⟩ = some (.slice A xs.length c) := kA1.cell 0
        have hA1 : w1.cell? ⟨w.heap.size, 1, none⟩ = some (.slice B ws.length d) := kA1.cell 1
        go_wp2_with fail
        refine (hsd.out _ (hr.below hbb) (hq.below hbb)).mono ?_
        rintro e w2 ⟨v, rfl, hb2, hown⟩
        obtain ⟨g, N, rfl, hg, hN, hR⟩ := ri_of hown (by have := hl'.out; omega)
        have cg := hR.get hy.out
        have hbb2 := bt2 hbb hb2
        have hki : (k : Int) < (zs.length : Int) := by have := hl'.out; omega
        have hfd : ∀ W, (Instr.field 30 (.agg #[.slice (some ⟨g, 0, none⟩) zs.length N, .slice none 0 0]) 0).run Try.prog W = .ok (.slice (some ⟨g, 0, none⟩) zs.length N) W := fun _ => by kernel_rfl
        have hkz : (k : Int) < (zs.length : Int) := by have := hl'.out; omega
        go_wp2_with fail
        go_ret
        exact ⟨ret_int H.out.symm, hbb2⟩

set_option maxHeartbeats 2000000 in
theorem rdS (A B : Option Addr) (c d : Nat) (xs : List Int) (ws : List (Int × Int)) (s : Int) (w : World) (hr : Rl encD 1 w A xs) (hq : Rl encW 2 w B ws) (hc : xs.length ≤ 1048576) (hd : ws.length ≤ 1048576) (hs : -9223372036854775808 ≤ s ∧ s ≤ 9223372036854775807) :
    Calls Try.prog 23 #[.agg #[.slice A xs.length c, .slice B ws.length d], .int .i64 s] w fun e w' => e = .returned (.int .i64 (RD xs ws s)) ∧ Below w.heap.size w w' := by
  have hb0 : Below w.heap.size w (w.alloc (.cells #[.slice A xs.length c, .slice B ws.length d] 30)) := by go_grown
  have kA := Blk.new w 30 #[.slice A xs.length c, .slice B ws.length d]
  cases hv : vd xs ws
  · have H := hide (RD_bad (s := s) hv)
    have hv' := hide hv
    clear hv
    go_enter Try.func23, Try.ntmps23
    go_wp2_with fail
    generalize w.alloc (.cells #[.slice A xs.length c, .slice B ws.length d] 30) = w0 at hb0 kA
    refine (vdS A B c d xs ws _ (hr.below hb0) (hq.below hb0) hc hd).mono ?_
    rintro e w1 ⟨rfl, hb1⟩
    rw [hv'.out]
    have kA1 := kA.below hb1
    have hbb := bt hb0 hb1 hb0.size
    have hA0 : w1.cell? ⟨w.heap.size, 0, none⟩ = some (.slice A xs.length c) := kA1.cell 0
    have hA1 : w1.cell? ⟨w.heap.size, 1, none⟩ = some (.slice B ws.length d) := kA1.cell 1
    go_wp2_with fail
    go_ret
    exact ⟨ret_int H.out.symm, hbb⟩
  · obtain ⟨l1, l2, l3, hN, hW⟩ := vd_parts hv
    have hv' := hide hv
    clear hN hW
    cases hg : rng s 0 ((xs.length : Int) - 1)
    · have H := hide (RD_no (ws := ws) hg)
      have hg' := hide hg
      clear hv hg
      go_enter Try.func23, Try.ntmps23
      go_wp2_with fail
      generalize w.alloc (.cells #[.slice A xs.length c, .slice B ws.length d] 30) = w0 at hb0 kA
      refine (vdS A B c d xs ws _ (hr.below hb0) (hq.below hb0) hc hd).mono ?_
      rintro e w1 ⟨rfl, hb1⟩
      rw [hv'.out]
      have kA1 := kA.below hb1
      have hbb := bt hb0 hb1 hb0.size
      have hA0 : w1.cell? ⟨w.heap.size, 0, none⟩ = some (.slice A xs.length c) := kA1.cell 0
      have hA1 : w1.cell? ⟨w.heap.size, 1, none⟩ = some (.slice B ws.length d) := kA1.cell 1
      go_wp2_with fail
      refine (inR _ _ _ _).mono ?_
      rintro e w2 ⟨rfl, rfl⟩
      rw [hg'.out]
      go_wp2_with fail
      go_ret
      exact ⟨ret_int H.out.symm, hbb⟩
    · have hgq := rng_iff.1 hg
      obtain ⟨k, rfl⟩ : ∃ k : Nat, s = k := ⟨s.toNat, by omega⟩
      have hl := SD_len hv
      obtain ⟨y, hy, H⟩ := RD_yes hv (k := k) (by omega)
      have H := hide H
      have hy := hide hy
      have hkl : (k : Int) < (xs.length : Int) := by omega
      have hg' := hide hg
      have hP := p2_le l3
      have hsh := shl_p2 l3
      have hwr := wrap_p2 l3
      have hwr2 : IntKind.i64.wrap ((p2 ws.length : Int) - 1) = (p2 ws.length : Int) - 1 := IntWalk.i64_in _ (by omega)
      obtain ⟨m, hm⟩ : ∃ m : Nat, p2 ws.length = m + 1 := ⟨p2 ws.length - 1, by omega⟩
      have HS := hide (SD_is hm hv)
      have hap : Hid (∀ W, Rl encD 1 W A xs → Rl encW 2 W B ws → Calls Try.prog 50 #[.agg #[.slice A xs.length c, .slice B ws.length d], .int .i64 (m : Int)] W (Copied encD 1 3 (SD xs ws) W)) := fun W h1 h2 => by
        rw [HS.out]
        exact apS A B c d xs ws m W h1 h2 hv (by omega)
      rw [hm, show (((m + 1 : Nat)) : Int) - 1 = (m : Int) by omega] at hwr2
      rw [hm] at hP hsh hwr
      have hl' := hide hl
      clear hv hl hg hm HS
      generalize SD xs ws = zs at hy hl' hap
      go_enter Try.func23, Try.ntmps23
      go_wp2_with fail
      generalize w.alloc (.cells #[.slice A xs.length c, .slice B ws.length d] 30) = w0 at hb0 kA
      refine (vdS A B c d xs ws _ (hr.below hb0) (hq.below hb0) hc hd).mono ?_
      rintro e w1 ⟨rfl, hb1⟩
      rw [hv'.out]
      have kA1 := kA.below hb1
      have hbb := bt hb0 hb1 hb0.size
      have hA0 : w1.cell? ⟨w.heap.size, 0, none⟩ = some (.slice A xs.length c) := kA1.cell 0
      have hA1 : w1.cell? ⟨w.heap.size, 1, none⟩ = some (.slice B ws.length d) := kA1.cell 1
      go_wp2_with fail
      refine (inR _ _ _ _).mono ?_
      rintro e w2 ⟨rfl, rfl⟩
      rw [hg'.out]
      have hr1 := hr.below hbb
      have hq1 := hq.below hbb
      have bu : ∀ {a b : World}, Below a.heap.size a.drew b → Below a.heap.size a b := fun h => of_drew h
      have hkz : (k : Int) < (zs.length : Int) := by have := hl'.out; omega
      go_wp2_with fail
      go_region_with ((go_at_call 50; refine (hap.out _ (by first | exact hr1 | exact hr1.drew) (by first | exact hq1 | exact hq1.drew)).mono ?_; rintro e w2 ⟨v, rfl, hb2, hown⟩; obtain ⟨g, N, rfl, hg, hN, hR⟩ := ri_of hown (by have := hl'.out; omega); have cg := hR.get hy.out; replace hb2 : Below w1.heap.size w1 w2 := (by first | exact hb2 | exact bu hb2)))
      all_goals
        go_wp2_with fail
        go_ret
        exact ⟨ret_int H.out.symm, bt2 hbb hb2⟩

set_option maxHeartbeats 1000000 in
theorem exactRd_walk (A : Option Addr) (c : Nat) (xs : List Int) (B : Option Addr) (d : Nat) (ws : List (Int × Int)) (s : Int) (w : World) (hr : Rl encD 1 w A xs) (hq : Rl encW 2 w B ws) (hc : xs.length ≤ 9223372036854775807) (hd : ws.length ≤ 9223372036854775807) (hs : -9223372036854775808 ≤ s ∧ s ≤ 9223372036854775807) :
    Calls Try.prog 11 #[.agg #[.slice A xs.length c, .slice B ws.length d], .int .i64 s] w fun e w' => e = .returned (.bool true) ∧ Below w.heap.size w w' := by
  have n1 : (RD xs ws s != RD xs ws s) = false := by simp
  have hr0 := hr.alloc (.cells #[.slice A xs.length c, .slice B ws.length d] 25)
  have hq0 := hq.alloc (.cells #[.slice A xs.length c, .slice B ws.length d] 25)
  have hb0 : Below w.heap.size w (w.alloc (.cells #[.slice A xs.length c, .slice B ws.length d] 25)) := (Below.refl _ _).alloc (Nat.le_refl _) _
  have kB := Blk.new w 25 #[.slice A xs.length c, .slice B ws.length d]
  go_enter Try.func11, Try.ntmps11
  go_wp2_with fail
  generalize w.alloc (.cells #[.slice A xs.length c, .slice B ws.length d] 25) = w0 at hr0 hq0 hb0 kB
  refine (szDk A B c d xs.length ws.length _ hc hd).mono ?_
  rintro e w1 ⟨s1, rfl, hb1, hok⟩
  have hok' := hide hok
  clear hok
  have hB1 : w1.cell? ⟨w.heap.size, 0, none⟩ = some (.slice A xs.length c) := (kB.below hb1).cell 0
  have hC1 : w1.cell? ⟨w.heap.size, 1, none⟩ = some (.slice B ws.length d) := (kB.below hb1).cell 1
  by_cases h1 : s1 < 0
  · go_wp2_with fail
    go_ret
    exact ⟨rfl, bt hb0 hb1 hb0.size⟩
  · obtain ⟨lx, lw⟩ := hok'.out (by omega)
    go_wp2_with fail
    refine (toDk A B c d xs ws _ (hr0.below hb1) (hq0.below hb1) lx lw).mono ?_
    rintro e w2 ⟨g2, k2, rfl, r2, q2, hb2⟩
    have hB2 := cell_on hb2 hB1
    have hC2 := cell_on hb2 hC1
    have hb2' := bt2 hb1 hb2
    go_wp2_with fail
    refine (rdS _ _ _ _ xs ws s _ r2 q2 lx lw hs).mono ?_
    rintro e w3 ⟨rfl, hb3⟩
    have hB3 := cell_on hb3 hB2
    have hC3 := cell_on hb3 hC2
    have hb3' := bt2 hb2' hb3
    clear hb1 hb2 hb2' hb3 r2 q2 hB1 hC1 hB2 hC2
    go_wp2_with fail
    refine (toDk A B c d xs ws _ (hr0.below hb3') (hq0.below hb3') lx lw).mono ?_
    rintro e w4 ⟨g4, k4, rfl, r4, q4, hb4⟩
    have hB4 := cell_on hb4 hB3
    have hC4 := cell_on hb4 hC3
    have hb4' := bt2 hb3' hb4
    have r4x := r4.alloc (.cells #[.slice (some ⟨g4, 0, none⟩) xs.length xs.length, .slice (some ⟨k4, 0, none⟩) ws.length ws.length] 30)
    have q4x := q4.alloc (.cells #[.slice (some ⟨g4, 0, none⟩) xs.length xs.length, .slice (some ⟨k4, 0, none⟩) ws.length ws.length] 30)
    have hX4 := Blk.new w4 30 #[.slice (some ⟨g4, 0, none⟩) xs.length xs.length, .slice (some ⟨k4, 0, none⟩) ws.length ws.length]
    have hb4x : Below w4.heap.size w4 (w4.alloc (.cells #[.slice (some ⟨g4, 0, none⟩) xs.length xs.length, .slice (some ⟨k4, 0, none⟩) ws.length ws.length] 30)) := (Below.refl _ _).alloc (Nat.le_refl _) _
    have hB4x := cell_on hb4x hB4
    have hC4x := cell_on hb4x hC4
    go_wp2_with fail
    generalize w4.alloc (.cells #[.slice (some ⟨g4, 0, none⟩) xs.length xs.length, .slice (some ⟨k4, 0, none⟩) ws.length ws.length] 30) = w4x at r4x q4x hX4 hb4x hB4x hC4x
    refine (rdI _ _ _ _ xs ws s _ r4x q4x lx lw hs).mono ?_
    rintro e w5 ⟨rfl, hb5⟩
    have hB5 := cell_on hb5 hB4x
    have hC5 := cell_on hb5 hC4x
    have hX5 : w5.cell? ⟨w4.heap.size, 0, none⟩ = some (.slice (some ⟨g4, 0, none⟩) xs.length xs.length) := (hX4.below hb5).cell 0
    have hY5 : w5.cell? ⟨w4.heap.size, 1, none⟩ = some (.slice (some ⟨k4, 0, none⟩) ws.length ws.length) := (hX4.below hb5).cell 1
    have hb5' := bt2 (bt2 hb4' hb4x) hb5
    generalize RD xs ws s = z at n1
    clear hX4 hB3 hC3 hB4 hC4 hB4x hC4x
    go_wp2_with fail
    have hr5 := hr0.below hb5'
    have hq5 := hq0.below hb5'
    have r5 := r4x.below hb5
    have q5 := q4x.below hb5
    have bu : ∀ {a b : World}, Below a.heap.size a.drew b → Below a.heap.size a b := fun h => of_drew h
    go_region_held3 (fun w' => w'.cell? ⟨w.heap.size, 0, none⟩ = some (.slice A xs.length c) ∧ w'.cell? ⟨w.heap.size, 1, none⟩ = some (.slice B ws.length d) ∧ w'.cell? ⟨w4.heap.size, 0, none⟩ = some (.slice (some ⟨g4, 0, none⟩) xs.length xs.length) ∧ w'.cell? ⟨w4.heap.size, 1, none⟩ = some (.slice (some ⟨k4, 0, none⟩) ws.length ws.length) ∧ Below w5.heap.size w5 w')
      (first | exact ⟨hB5, hC5, hX5, hY5, (Below.refl _ _).drew⟩ | exact ⟨cell_on (bt2 hb6 hb7) hB5, cell_on (bt2 hb6 hb7) hC5, cell_on (bt2 hb6 hb7) hX5, cell_on (bt2 hb6 hb7) hY5, bt2 hb6 hb7⟩ | exact ⟨cell_on hb6 hB5, cell_on hb6 hC5, cell_on hb6 hX5, cell_on hb6 hY5, hb6⟩)
      (first
        | (go_at_call 17; refine (toDk A B c d xs ws _ (by first | exact hr5 | exact hr5.drew) (by first | exact hq5 | exact hq5.drew) lx lw).mono ?_; rintro e w6 ⟨g6, k6, rfl, r6, q6, hb6⟩; replace hb6 : Below w5.heap.size w5 w6 := (by first | exact hb6 | exact bu hb6))
        | (go_at_call 19; refine (eqDk _ _ _ _ _ _ _ _ xs ws _ (by first | exact r5.below hb6 | exact (r5.below hb6).drew) (by first | exact q5.below hb6 | exact (q5.below hb6).drew) (by first | exact r6 | exact r6.drew) (by first | exact q6 | exact q6.drew) lx lw).mono ?_; rintro e w7 ⟨rfl, hb7⟩; replace hb7 : Below w6.heap.size w6 w7 := (by first | exact hb7 | exact bu hb7)))
    go_wp2_with fail
    go_ret
    exact ⟨rfl, bt hb0 (bt2 (bt2 hb5' hb6) hb7) hb0.size⟩

end Go.Proofs.Ytgabjepoooageaa
