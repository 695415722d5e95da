/-
  The exact statements about a page, walked. Conditions: the slots read as a list.
-/
import Derived.Test.YtnhkpigakbiddaaPagX
namespace Go.Proofs.Ytnhkpigakbiddaa
open Go.RowKit
set_option linter.unusedVariables false
set_option linter.unusedSimpArgs false

set_option maxHeartbeats 1000000 in
theorem VPS (A : Option Addr) (c : Nat) (xs : List Sl) (w : World) (hr : Rl encP 2 w A xs) (hc : xs.length ≤ 1048576) (hs : szs xs xs.length ≤ 1073741824) :
    Calls Try.prog 15 #[.agg #[.slice A xs.length c]] w fun e w' => e = .returned (.bool (vp xs)) ∧ Below w.heap.size w w' := by
  have hr0 := hr.alloc (.cells #[.slice A xs.length c] 29)
  have hb0 : Below w.heap.size w (w.alloc (.cells #[.slice A xs.length c] 29)) := (Below.refl _ _).alloc (Nat.le_refl _) _
  have hB : (w.alloc (.cells #[.slice A xs.length c] 29)).cell? ⟨w.heap.size, 0, none⟩ = some (.slice A xs.length c) := (Blk.new w 29 #[.slice A xs.length c]).cell 0
  go_enter Try.func15, Try.ntmps15
  go_wp2_with fail
  generalize w.alloc (.cells #[.slice A xs.length c] 29) = w0 at hr0 hb0 hB
  refine (vpS A c xs _ hr0 hc hs).mono ?_
  rintro e w1 ⟨rfl, hb1⟩
  have hB1 := cell_on hb1 hB
  go_wp2_with fail
  go_ret
  exact ⟨rfl, bt hb0 hb1 hb0.size⟩

/-- What PageFree answers. -/
def pf (xs : List Sl) : Int := if vp xs then 100 - (usd xs : Int) else -1
set_option maxHeartbeats 1000000 in
theorem pfS (A : Option Addr) (c : Nat) (xs : List Sl) (w : World) (hr : Rl encP 2 w A xs) (hc : xs.length ≤ 1048576) (hs : szs xs xs.length ≤ 1073741824) :
    Calls Try.prog 19 #[.agg #[.slice A xs.length c]] w fun e w' => e = .returned (.int .i64 (pf xs)) ∧ Below w.heap.size w w' := by
  have hz := hide (show usd xs ≤ 1082130432 by unfold usd; omega)
  cases hv : vp xs
  · have H := hide (show pf xs = -1 by unfold pf; rw [hv]; rfl)
    have hr0 := hr.alloc (.cells #[.slice A xs.length c] 29)
    have hb0 : Below w.heap.size w (w.alloc (.cells #[.slice A xs.length c] 29)) := (Below.refl _ _).alloc (Nat.le_refl _) _
    have hB : (w.alloc (.cells #[.slice A xs.length c] 29)).cell? ⟨w.heap.size, 0, none⟩ = some (.slice A xs.length c) := (Blk.new w 29 #[.slice A xs.length c]).cell 0
    go_enter Try.func19, Try.ntmps19
    go_wp2_with fail
    generalize w.alloc (.cells #[.slice A xs.length c] 29) = w0 at hr0 hb0 hB
    refine (vpS A c xs _ hr0 hc hs).mono ?_
    rintro e w1 ⟨rfl, hb1⟩
    have hB1 := cell_on hb1 hB
    rw [hv]
    go_wp2_with fail
    go_ret
    exact ⟨ret_int H.out.symm, bt hb0 hb1 hb0.size⟩
  · have H := hide (show pf xs = 100 - (usd xs : Int) by unfold pf; rw [hv]; rfl)
    have hr0 := hr.alloc (.cells #[.slice A xs.length c] 29)
    have hb0 : Below w.heap.size w (w.alloc (.cells #[.slice A xs.length c] 29)) := (Below.refl _ _).alloc (Nat.le_refl _) _
    have hB : (w.alloc (.cells #[.slice A xs.length c] 29)).cell? ⟨w.heap.size, 0, none⟩ = some (.slice A xs.length c) := (Blk.new w 29 #[.slice A xs.length c]).cell 0
    go_enter Try.func19, Try.ntmps19
    go_wp2_with fail
    generalize w.alloc (.cells #[.slice A xs.length c] 29) = w0 at hr0 hb0 hB
    refine (vpS A c xs _ hr0 hc hs).mono ?_
    rintro e w1 ⟨rfl, hb1⟩
    have hB1 := cell_on hb1 hB
    rw [hv]
    go_wp2_with fail
    refine (usS A c xs _ (hr0.below hb1) hc hs).mono ?_
    rintro e w2 ⟨rfl, hb2⟩
    have hz' := hz.out
    go_wp2_with fail
    go_ret
    exact ⟨ret_int H.out.symm, bt hb0 (bt2 hb1 hb2) hb0.size⟩

set_option maxHeartbeats 1000000 in
theorem pfI (A : Option Addr) (c : Nat) (xs : List Sl) (w : World) (hr : Rl encP 2 w A xs) (hc : xs.length ≤ 1048576) (hs : szs xs xs.length ≤ 1073741824) :
    Calls Try.prog 20 #[.agg #[.slice A xs.length c]] w fun e w' => e = .returned (.int .i64 (pf xs)) ∧ Below w.heap.size w w' := by
  have hz := hide (show usd xs ≤ 1082130432 by unfold usd; omega)
  cases hv : vp xs
  · have H := hide (show pf xs = -1 by unfold pf; rw [hv]; rfl)
    have hr0 := hr.alloc (.cells #[.slice A xs.length c] 29)
    have hb0 : Below w.heap.size w (w.alloc (.cells #[.slice A xs.length c] 29)) := (Below.refl _ _).alloc (Nat.le_refl _) _
    have hB : (w.alloc (.cells #[.slice A xs.length c] 29)).cell? ⟨w.heap.size, 0, none⟩ = some (.slice A xs.length c) := (Blk.new w 29 #[.slice A xs.length c]).cell 0
    go_enter Try.func20, Try.ntmps20
    go_wp2_with fail
    generalize w.alloc (.cells #[.slice A xs.length c] 29) = w0 at hr0 hb0 hB
    refine (vpI A c xs _ hr0 hc hs).mono ?_
    rintro e w1 ⟨rfl, hb1⟩
    have hB1 := cell_on hb1 hB
    rw [hv]
    go_wp2_with fail
    go_ret
    exact ⟨ret_int H.out.symm, bt hb0 hb1 hb0.size⟩
  · have H := hide (show pf xs = 100 - (usd xs : Int) by unfold pf; rw [hv]; rfl)
    have hr0 := hr.alloc (.cells #[.slice A xs.length c] 29)
    have hb0 : Below w.heap.size w (w.alloc (.cells #[.slice A xs.length c] 29)) := (Below.refl _ _).alloc (Nat.le_refl _) _
    have hB : (w.alloc (.cells #[.slice A xs.length c] 29)).cell? ⟨w.heap.size, 0, none⟩ = some (.slice A xs.length c) := (Blk.new w 29 #[.slice A xs.length c]).cell 0
    go_enter Try.func20, Try.ntmps20
    go_wp2_with fail
    generalize w.alloc (.cells #[.slice A xs.length c] 29) = w0 at hr0 hb0 hB
    refine (vpI A c xs _ hr0 hc hs).mono ?_
    rintro e w1 ⟨rfl, hb1⟩
    have hB1 := cell_on hb1 hB
    rw [hv]
    go_wp2_with fail
    refine (usI A c xs _ (hr0.below hb1) hc hs).mono ?_
    rintro e w2 ⟨rfl, hb2⟩
    have hz' := hz.out
    go_wp2_with fail
    go_ret
    exact ⟨ret_int H.out.symm, bt hb0 (bt2 hb1 hb2) hb0.size⟩

set_option maxHeartbeats 1000000 in
theorem exactVp_walk (A : Option Addr) (c : Nat) (xs : List Sl) (w : World) (hr : Rl encP 2 w A xs) (hf : FitP xs) (hc : xs.length ≤ c) (hm : c ≤ 9223372036854775807) :
    Calls Try.prog 3 #[.agg #[.slice A xs.length c]] w fun e w' => e = .returned (.bool true) ∧ Below w.heap.size w w' := by
  have S1 := szP_lo 1048576 xs
  have hok := hide (fun h => szP_ok (left := 1048576) (xs := xs) h)
  generalize hs1 : szP 1048576 xs = s1 at S1 hok
  have hs1' := hide hs1
  clear hs1
  have n1 : (vp xs != vp xs) = false := by cases vp xs <;> rfl
  have hr0 := hr.alloc (.cells #[.slice A xs.length c] 24)
  have hb0 : Below w.heap.size w (w.alloc (.cells #[.slice A xs.length c] 24)) := (Below.refl _ _).alloc (Nat.le_refl _) _
  have hB : (w.alloc (.cells #[.slice A xs.length c] 24)).cell? ⟨w.heap.size, 0, none⟩ = some (.slice A xs.length c) := (Blk.new w 24 #[.slice A xs.length c]).cell 0
  go_enter Try.func3, Try.ntmps3
  go_wp2_with fail
  generalize w.alloc (.cells #[.slice A xs.length c] 24) = w0 at hr0 hb0 hB
  refine (szPg A c xs 1048576 _ hr0 hf (by omega) (by omega) (by omega)).mono ?_
  rintro e w1 ⟨rfl, hb1⟩
  have hB1 := cell_on hb1 hB
  rw [hs1'.out]
  by_cases h1 : s1 < 0
  · go_wp2_with fail
    go_ret
    exact ⟨rfl, bt hb0 hb1 hb0.size⟩
  · have q1 := hok.out (by omega)
    have lx : xs.length ≤ 1048576 := by omega
    have sx : szs xs xs.length ≤ 1073741824 := by omega
    go_wp2_with fail
    refine (toPg A c xs _ (hr0.below hb1) lx).mono ?_
    rintro e w2 ⟨g2, rfl, r2, hb2, z2⟩
    have hB2 := cell_on hb2 hB1
    have hb2' := bt2 hb1 hb2
    go_wp2_with fail
    refine (VPS _ _ xs _ r2 lx sx).mono ?_
    rintro e w3 ⟨rfl, hb3⟩
    have hB3 := cell_on hb3 hB2
    have hb3' := bt2 hb2' hb3
    clear hb1 hb2 hb2' hb3 r2
    go_wp2_with fail
    refine (toPg A c xs _ (hr0.below hb3') lx).mono ?_
    rintro e w4 ⟨g4, rfl, r4, hb4, z4⟩
    have hB4 := cell_on hb4 hB3
    have hb4' := bt2 hb3' hb4
    have r4x := r4.alloc (.cells #[.slice (some ⟨g4, 0, none⟩) xs.length xs.length] 29)
    have hX4 := (Blk.new w4 29 #[.slice (some ⟨g4, 0, none⟩) xs.length xs.length]).cell 0
    have hb4x : Below w4.heap.size w4 (w4.alloc (.cells #[.slice (some ⟨g4, 0, none⟩) xs.length xs.length] 29)) := (Below.refl _ _).alloc (Nat.le_refl _) _
    have hB4x := cell_on hb4x hB4
    go_wp2_with fail
    generalize w4.alloc (.cells #[.slice (some ⟨g4, 0, none⟩) xs.length xs.length] 29) = w4x at r4x hX4 hb4x hB4x
    replace hX4 : w4x.cell? ⟨w4.heap.size, 0, none⟩ = some (.slice (some ⟨g4, 0, none⟩) xs.length xs.length) := hX4
    refine (vpI _ _ xs _ r4x lx sx).mono ?_
    rintro e w5 ⟨rfl, hb5⟩
    have hB5 := cell_on hb5 hB4x
    have hX5 := cell_on hb5 hX4
    have hb5' := bt2 (bt2 hb4' hb4x) hb5
    go_wp2_with fail
    have hr5 := hr0.below hb5'
    have r5 := r4x.below hb5
    have bu : ∀ {a b : World}, Below a.heap.size a.drew b → Below a.heap.size a b := fun h => of_drew h
    go_region_held3 (fun w' => w'.cell? ⟨w.heap.size, 0, none⟩ = some (.slice A xs.length c) ∧ w'.cell? ⟨w4.heap.size, 0, none⟩ = some (.slice (some ⟨g4, 0, none⟩) xs.length xs.length) ∧ Below w5.heap.size w5 w')
      (first | exact ⟨hB5, hX5, (Below.refl _ _).drew⟩ | exact ⟨cell_on (bt2 hb6 hb7) hB5, cell_on (bt2 hb6 hb7) hX5, bt2 hb6 hb7⟩ | exact ⟨cell_on hb6 hB5, cell_on hb6 hX5, hb6⟩)
      (first
        | (go_at_call 16; refine (toPg A c xs _ (by first | exact hr5 | exact hr5.drew) lx).mono ?_; rintro e w6 ⟨g6, rfl, r6, hb6, z6⟩; replace hb6 : Below w5.heap.size w5 w6 := (by first | exact hb6 | exact bu hb6))
        | (go_at_call 18; refine (eqPg _ _ _ _ xs _ (by first | exact r5.below hb6 | exact (r5.below hb6).drew) (by first | exact r6 | exact r6.drew) lx).mono ?_; rintro e w7 ⟨rfl, hb7⟩; replace hb7 : Below w6.heap.size w6 w7 := (by first | exact hb7 | exact bu hb7)))
    go_wp2_with fail
    go_ret
    exact ⟨rfl, bt hb0 (bt2 (bt2 hb5' hb6) hb7) hb0.size⟩

set_option maxHeartbeats 1000000 in
theorem exactPf_walk (A : Option Addr) (c : Nat) (xs : List Sl) (w : World) (hr : Rl encP 2 w A xs) (hf : FitP xs) (hc : xs.length ≤ c) (hm : c ≤ 9223372036854775807) :
    Calls Try.prog 4 #[.agg #[.slice A xs.length c]] w fun e w' => e = .returned (.bool true) ∧ Below w.heap.size w w' := by
  have S1 := szP_lo 1048576 xs
  have hok := hide (fun h => szP_ok (left := 1048576) (xs := xs) h)
  generalize hs1 : szP 1048576 xs = s1 at S1 hok
  have hs1' := hide hs1
  clear hs1
  have hr0 := hr.alloc (.cells #[.slice A xs.length c] 24)
  have hb0 : Below w.heap.size w (w.alloc (.cells #[.slice A xs.length c] 24)) := (Below.refl _ _).alloc (Nat.le_refl _) _
  have hB : (w.alloc (.cells #[.slice A xs.length c] 24)).cell? ⟨w.heap.size, 0, none⟩ = some (.slice A xs.length c) := (Blk.new w 24 #[.slice A xs.length c]).cell 0
  go_enter Try.func4, Try.ntmps4
  go_wp2_with fail
  generalize w.alloc (.cells #[.slice A xs.length c] 24) = w0 at hr0 hb0 hB
  refine (szPg A c xs 1048576 _ hr0 hf (by omega) (by omega) (by omega)).mono ?_
  rintro e w1 ⟨rfl, hb1⟩
  have hB1 := cell_on hb1 hB
  rw [hs1'.out]
  by_cases h1 : s1 < 0
  · go_wp2_with fail
    go_ret
    exact ⟨rfl, bt hb0 hb1 hb0.size⟩
  · have q1 := hok.out (by omega)
    have lx : xs.length ≤ 1048576 := by omega
    have sx : szs xs xs.length ≤ 1073741824 := by omega
    go_wp2_with fail
    refine (toPg A c xs _ (hr0.below hb1) lx).mono ?_
    rintro e w2 ⟨g2, rfl, r2, hb2, z2⟩
    have hB2 := cell_on hb2 hB1
    have hb2' := bt2 hb1 hb2
    go_wp2_with fail
    refine (pfS _ _ xs _ r2 lx sx).mono ?_
    rintro e w3 ⟨rfl, hb3⟩
    have hB3 := cell_on hb3 hB2
    have hb3' := bt2 hb2' hb3
    clear hb1 hb2 hb2' hb3 r2
    go_wp2_with fail
    refine (toPg A c xs _ (hr0.below hb3') lx).mono ?_
    rintro e w4 ⟨g4, rfl, r4, hb4, z4⟩
    have hB4 := cell_on hb4 hB3
    have hb4' := bt2 hb3' hb4
    have r4x := r4.alloc (.cells #[.slice (some ⟨g4, 0, none⟩) xs.length xs.length] 29)
    have hX4 := (Blk.new w4 29 #[.slice (some ⟨g4, 0, none⟩) xs.length xs.length]).cell 0
    have hb4x : Below w4.heap.size w4 (w4.alloc (.cells #[.slice (some ⟨g4, 0, none⟩) xs.length xs.length] 29)) := (Below.refl _ _).alloc (Nat.le_refl _) _
    have hB4x := cell_on hb4x hB4
    go_wp2_with fail
    generalize w4.alloc (.cells #[.slice (some ⟨g4, 0, none⟩) xs.length xs.length] 29) = w4x at r4x hX4 hb4x hB4x
    replace hX4 : w4x.cell? ⟨w4.heap.size, 0, none⟩ = some (.slice (some ⟨g4, 0, none⟩) xs.length xs.length) := hX4
    refine (pfI _ _ xs _ r4x lx sx).mono ?_
    rintro e w5 ⟨rfl, hb5⟩
    have hB5 := cell_on hb5 hB4x
    have hX5 := cell_on hb5 hX4
    have hb5' := bt2 (bt2 hb4' hb4x) hb5
    generalize pf xs = v
    go_wp2_with fail
    have hr5 := hr0.below hb5'
    have r5 := r4x.below hb5
    have bu : ∀ {a b : World}, Below a.heap.size a.drew b → Below a.heap.size a b := fun h => of_drew h
    go_region_held3 (fun w' => w'.cell? ⟨w.heap.size, 0, none⟩ = some (.slice A xs.length c) ∧ w'.cell? ⟨w4.heap.size, 0, none⟩ = some (.slice (some ⟨g4, 0, none⟩) xs.length xs.length) ∧ Below w5.heap.size w5 w')
      (first | exact ⟨hB5, hX5, (Below.refl _ _).drew⟩ | exact ⟨cell_on (bt2 hb6 hb7) hB5, cell_on (bt2 hb6 hb7) hX5, bt2 hb6 hb7⟩ | exact ⟨cell_on hb6 hB5, cell_on hb6 hX5, hb6⟩)
      (first
        | (go_at_call 16; refine (toPg A c xs _ (by first | exact hr5 | exact hr5.drew) lx).mono ?_; rintro e w6 ⟨g6, rfl, r6, hb6, z6⟩; replace hb6 : Below w5.heap.size w5 w6 := (by first | exact hb6 | exact bu hb6))
        | (go_at_call 18; refine (eqPg _ _ _ _ xs _ (by first | exact r5.below hb6 | exact (r5.below hb6).drew) (by first | exact r6 | exact r6.drew) lx).mono ?_; rintro e w7 ⟨rfl, hb7⟩; replace hb7 : Below w6.heap.size w6 w7 := (by first | exact hb7 | exact bu hb7)))
    go_wp2_with fail
    go_ret
    exact ⟨rfl, bt hb0 (bt2 (bt2 hb5' hb6) hb7) hb0.size⟩

end Go.Proofs.Ytnhkpigakbiddaa
