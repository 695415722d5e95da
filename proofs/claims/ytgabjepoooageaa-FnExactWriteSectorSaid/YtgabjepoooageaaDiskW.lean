/-
  A disk made anew; the exact statement about ValidDisk, walked. Conditions: the sectors and the writes read as lists.
-/
import Derived.Test.YtgabjepoooageaaDiskX
namespace Go.Proofs.Ytgabjepoooageaa
open Go.RowKit
set_option linter.unusedVariables false
set_option linter.unusedSimpArgs false

def MadeD (xs : List Int) (ws : List (Int × Int)) (w : World) (e : Ending) (w' : World) : Prop :=
  ∃ g h, e = .returned (.agg #[.slice (some ⟨g, 0, none⟩) xs.length xs.length, .slice (some ⟨h, 0, none⟩) ws.length ws.length]) ∧ Rl encD 1 w' (some ⟨g, 0, none⟩) xs ∧ Rl encW 2 w' (some ⟨h, 0, none⟩) ws ∧ Below w.heap.size w w'
/-- .. and all that is known of its memory. -/
def MadeE (xs : List Int) (ws : List (Int × Int)) (w : World) (e : Ending) (w' : World) : Prop :=
  ∃ g h, e = .returned (.agg #[.slice (some ⟨g, 0, none⟩) xs.length xs.length, .slice (some ⟨h, 0, none⟩) ws.length ws.length]) ∧ Rl encD 1 w' (some ⟨g, 0, none⟩) xs ∧ Rl encW 2 w' (some ⟨h, 0, none⟩) ws ∧ Below w.heap.size w w' ∧
    w.heap.size ≤ g ∧ w.heap.size ≤ h ∧ g < h ∧ Fil g 3 (xs.length * 1) (xs.length * 1) (xs.flatMap encD) w' ∧ Fil h 41 (ws.length * 2) (ws.length * 2) (ws.flatMap encW) w'
theorem fil_far {g N o : Nat} {T : TypeId} {cs : List Value} {w : World} {p : Addr} (h : Fil g T N o cs w) (hp : g ≠ p.block) (u : Value) : Fil g T N o cs (w.setCell p u) := by
  obtain ⟨arr, h1, h2⟩ := h
  exact ⟨arr, h1.far hp u, h2⟩

set_option maxHeartbeats 2000000 in
theorem toDe (A B : Option Addr) (c d : Nat) (xs : List Int) (ws : List (Int × Int)) (w : World) (hr : Rl encD 1 w A xs) (hq : Rl encW 2 w B ws) (hc : xs.length ≤ 1048576) (hd : ws.length ≤ 1048576) :
    Calls Try.prog 17 #[.agg #[.slice A xs.length c, .slice B ws.length d]] w (MadeE xs ws w) := by
  have k0 := ((Blk.new w 25 #[.slice A xs.length c, .slice B ws.length d]).alloc (.cells #[.slice none 0 0, .slice none 0 0] 30)).alloc (.cells #[.slice none 0 0, .slice none 0 0] 30)
  have k1 := (Blk.new (w.alloc (.cells #[.slice A xs.length c, .slice B ws.length d] 25)) 30 #[.slice none 0 0, .slice none 0 0]).alloc (.cells #[.slice none 0 0, .slice none 0 0] 30)
  have k2 := Blk.new ((w.alloc (.cells #[.slice A xs.length c, .slice B ws.length d] 25)).alloc (.cells #[.slice none 0 0, .slice none 0 0] 30)) 30 #[.slice none 0 0, .slice none 0 0]
  have hb0 : Below w.heap.size w (((w.alloc (.cells #[.slice A xs.length c, .slice B ws.length d] 25)).alloc (.cells #[.slice none 0 0, .slice none 0 0] 30)).alloc (.cells #[.slice none 0 0, .slice none 0 0] 30)) := by go_grown
  have hs0 : (((w.alloc (.cells #[.slice A xs.length c, .slice B ws.length d] 25)).alloc (.cells #[.slice none 0 0, .slice none 0 0] 30)).alloc (.cells #[.slice none 0 0, .slice none 0 0] 30)).heap.size = w.heap.size + 1 + 1 + 1 := by simp
  simp only [World.size_alloc] at k1 k2
  go_enter Try.func17, Try.ntmps17
  go_wp2_with fail
  generalize (((w.alloc (.cells #[.slice A xs.length c, .slice B ws.length d] 25)).alloc (.cells #[.slice none 0 0, .slice none 0 0] 30)).alloc (.cells #[.slice none 0 0, .slice none 0 0] 30)) = w0 at k0 k1 k2 hb0 hs0
  have hs0' := hide hs0
  clear hs0
  refine (toIs A c xs _ (hr.below hb0) hc).mono ?_
  rintro e w1 ⟨g, rfl, r1, hb1, hg, F1⟩
  rw [hs0'.out] at hg
  have m0 := k0.below hb1
  have m1 := k1.below hb1
  have m2 := k2.below hb1
  have hbb := bt hb0 hb1 hb0.size
  have hz1 := hbb.size
  have hz0 := hb1.size
  rw [hs0'.out] at hz0
  have c2 : w1.cell? ⟨w.heap.size + 1 + 1, 0, none⟩ = some (.slice none 0 0) := m2.cell 0
  have f2 := m2.free 0
  have c0 : w1.cell? ⟨w.heap.size, 1, none⟩ = some (.slice B ws.length d) := m0.cell 1
  clear k0 k1 k2 hb1
  -- the world behind the first store
  have hbs : Below w.heap.size w (w1.setCell ⟨w.heap.size + 1 + 1, 0, none⟩ (.slice (some ⟨g, 0, none⟩) xs.length xs.length)) := hbb.setCell (by simp <;> omega) _
  have n0 := m0.far (p := ⟨w.heap.size + 1 + 1, 0, none⟩) (by simp <;> omega) (.slice (some ⟨g, 0, none⟩) xs.length xs.length)
  have n1 := m1.far (p := ⟨w.heap.size + 1 + 1, 0, none⟩) (by simp <;> omega) (.slice (some ⟨g, 0, none⟩) xs.length xs.length)
  have n2 := m2.set 0 (.slice (some ⟨g, 0, none⟩) xs.length xs.length)
  have s1 : Rl encD 1 (w1.setCell ⟨w.heap.size + 1 + 1, 0, none⟩ (.slice (some ⟨g, 0, none⟩) xs.length xs.length)) (some ⟨g, 0, none⟩) xs := r1.keep fun b o u hb hc => by
    simp at hb
    subst hb
    rw [World.cell?_setCell_other _ _ _ _ (by intro e; simp at e <;> omega)]
    exact hc
  have F1s := fil_far F1 (p := ⟨w.heap.size + 1 + 1, 0, none⟩) (by simp; omega) (.slice (some ⟨g, 0, none⟩) xs.length xs.length)
  have hgl := F1.lt
  clear F1
  have hzs : (w1.setCell ⟨w.heap.size + 1 + 1, 0, none⟩ (.slice (some ⟨g, 0, none⟩) xs.length xs.length)).heap.size = w1.heap.size := by simp
  go_wp2_with fail
  generalize w1.setCell ⟨w.heap.size + 1 + 1, 0, none⟩ (.slice (some ⟨g, 0, none⟩) xs.length xs.length) = ws1 at hbs n0 n1 n2 s1 hzs F1s
  refine (toWs B d ws _ (hq.below hbs) hd).mono ?_
  rintro e w2 ⟨h, rfl, r2, hb2, hh, F2⟩
  rw [hzs] at hh
  have p1 := n1.below hb2
  have p2 := n2.below hb2
  have s2 := s1.below hb2
  have F12 := F1s.below hb2
  clear F1s
  have hbf := bt hbs hb2 hbs.size
  have d20 : w2.cell? ⟨w.heap.size + 1 + 1, 0, none⟩ = some (.slice (some ⟨g, 0, none⟩) xs.length xs.length) := by have := p2.cell 0; simpa using this
  have d21 : w2.cell? ⟨w.heap.size + 1 + 1, 1, none⟩ = some (.slice none 0 0) := by have := p2.cell 1; simpa using this
  have g21 := p2.free 1
  have d10 : w2.cell? ⟨w.heap.size + 1, 0, none⟩ = some (.slice none 0 0) := p1.cell 0
  have d11 : w2.cell? ⟨w.heap.size + 1, 1, none⟩ = some (.slice none 0 0) := p1.cell 1
  have g10 := p1.free 0
  have g11 := p1.free 1
  clear m0 m1 m2 n0 n1 n2 hbs hbb r1 s1 hb2 hr hq c0 c2 f2
  go_wp2_with fail
  generalize hF : World.setCell _ _ _ = wF
  have hbF : Below w.heap.size w wF := by
    rw [← hF]
    exact ((hbf.setCell (by simp <;> omega) _).setCell (by simp <;> omega) _).setCell (by simp <;> omega) _
  have keep : ∀ b o u, w.heap.size + 1 + 1 + 1 ≤ b → w2.cell? ⟨b, o, none⟩ = some u → wF.cell? ⟨b, o, none⟩ = some u := by
    intro b o u hb hc
    rw [← hF]
    rw [World.cell?_setCell_other _ _ _ _ (by intro e; simp at e <;> omega), World.cell?_setCell_other _ _ _ _ (by intro e; simp at e <;> omega), World.cell?_setCell_other _ _ _ _ (by intro e; simp at e <;> omega)]
    exact hc
  have e1 : Blk wF (w.heap.size + 1) 30 #[.slice (some ⟨g, 0, none⟩) xs.length xs.length, .slice (some ⟨h, 0, none⟩) ws.length ws.length] := by
    rw [← hF]
    have := ((p1.far (p := ⟨w.heap.size + 1 + 1, 1, none⟩) (by simp) (.slice (some ⟨h, 0, none⟩) ws.length ws.length)).set 0 (.slice (some ⟨g, 0, none⟩) xs.length xs.length)).set 1 (.slice (some ⟨h, 0, none⟩) ws.length ws.length)
    simpa using this
  have rF : Rl encD 1 wF (some ⟨g, 0, none⟩) xs := s2.keep fun b o u hb hc => by
    simp at hb
    subst hb
    exact keep _ _ _ hg hc
  have qF : Rl encW 2 wF (some ⟨h, 0, none⟩) ws := r2.keep fun b o u hb hc => by
    simp at hb
    subst hb
    exact keep _ _ _ (by omega) hc
  have G1 : Fil g 3 (xs.length * 1) (xs.length * 1) (xs.flatMap encD) wF := by
    rw [← hF]
    exact fil_far (fil_far (fil_far F12 (by simp; omega) _) (by simp; omega) _) (by simp; omega) _
  have G2 : Fil h 41 (ws.length * 2) (ws.length * 2) (ws.flatMap encW) wF := by
    rw [← hF]
    exact fil_far (fil_far (fil_far F2 (by simp; omega) _) (by simp; omega) _) (by simp; omega) _
  clear hF
  have y0 : wF.cell? ⟨w.heap.size + 1, 0, none⟩ = some (.slice (some ⟨g, 0, none⟩) xs.length xs.length) := e1.cell 0
  have y1 : wF.cell? ⟨w.heap.size + 1, 1, none⟩ = some (.slice (some ⟨h, 0, none⟩) ws.length ws.length) := e1.cell 1
  refine bodyPost_ret (v := .agg #[.slice (some ⟨g, 0, none⟩) xs.length xs.length, .slice (some ⟨h, 0, none⟩) ws.length ws.length]) (by simp [results, Try.f17, go_sem, y0, y1] <;> rfl) rfl ?_
  exact ⟨g, h, rfl, rF, qF, hbF, by omega, by omega, by omega, G1, G2⟩
theorem toDk (A B : Option Addr) (c d : Nat) (xs : List Int) (ws : List (Int × Int)) (w : World) (hr : Rl encD 1 w A xs) (hq : Rl encW 2 w B ws) (hc : xs.length ≤ 1048576) (hd : ws.length ≤ 1048576) :
    Calls Try.prog 17 #[.agg #[.slice A xs.length c, .slice B ws.length d]] w (MadeD xs ws w) :=
  (toDe A B c d xs ws w hr hq hc hd).mono fun _ _ ⟨g, h, h1, h2, h3, h4, _⟩ => ⟨g, h, h1, h2, h3, h4⟩

set_option maxHeartbeats 1000000 in
theorem exactVd_walk (A : Option Addr) (c : Nat) (xs : List Int) (B : Option Addr) (d : Nat) (ws : List (Int × Int)) (w : World) (hr : Rl encD 1 w A xs) (hq : Rl encW 2 w B ws) (hc : xs.length ≤ 9223372036854775807) (hd : ws.length ≤ 9223372036854775807) :
    Calls Try.prog 3 #[.agg #[.slice A xs.length c, .slice B ws.length d]] w fun e w' => e = .returned (.bool true) ∧ Below w.heap.size w w' := by
  have n1 : (vd xs ws != vd xs ws) = false := by cases vd xs ws <;> rfl
  have hr0 := hr.alloc (.cells #[.slice A xs.length c, .slice B ws.length d] 25)
  have hq0 := hq.alloc (.cells #[.slice A xs.length c, .slice B ws.length d] 25)
  have hb0 : Below w.heap.size w (w.alloc (.cells #[.slice A xs.length c, .slice B ws.length d] 25)) := (Below.refl _ _).alloc (Nat.le_refl _) _
  have kB := Blk.new w 25 #[.slice A xs.length c, .slice B ws.length d]
  go_enter Try.func3, Try.ntmps3
  go_wp2_with fail
  generalize w.alloc (.cells #[.slice A xs.length c, .slice B ws.length d] 25) = w0 at hr0 hq0 hb0 kB
  refine (szDk A B c d xs.length ws.length _ hc hd).mono ?_
  rintro e w1 ⟨s1, rfl, hb1, hok⟩
  have hok' := hide hok
  clear hok
  have hB1 : w1.cell? ⟨w.heap.size, 0, none⟩ = some (.slice A xs.length c) := (kB.below hb1).cell 0
  have hC1 : w1.cell? ⟨w.heap.size, 1, none⟩ = some (.slice B ws.length d) := (kB.below hb1).cell 1
  by_cases h1 : s1 < 0
  · go_wp2_with fail
    go_ret
    exact ⟨rfl, bt hb0 hb1 hb0.size⟩
  · obtain ⟨lx, lw⟩ := hok'.out (by omega)
    go_wp2_with fail
    refine (toDk A B c d xs ws _ (hr0.below hb1) (hq0.below hb1) lx lw).mono ?_
    rintro e w2 ⟨g2, k2, rfl, r2, q2, hb2⟩
    have hB2 := cell_on hb2 hB1
    have hC2 := cell_on hb2 hC1
    have hb2' := bt2 hb1 hb2
    go_wp2_with fail
    refine (VDS _ _ _ _ xs ws _ r2 q2 lx lw).mono ?_
    rintro e w3 ⟨rfl, hb3⟩
    have hB3 := cell_on hb3 hB2
    have hC3 := cell_on hb3 hC2
    have hb3' := bt2 hb2' hb3
    clear hb1 hb2 hb2' hb3 r2 q2 hB1 hC1 hB2 hC2
    go_wp2_with fail
    refine (toDk A B c d xs ws _ (hr0.below hb3') (hq0.below hb3') lx lw).mono ?_
    rintro e w4 ⟨g4, k4, rfl, r4, q4, hb4⟩
    have hB4 := cell_on hb4 hB3
    have hC4 := cell_on hb4 hC3
    have hb4' := bt2 hb3' hb4
    have r4x := r4.alloc (.cells #[.slice (some ⟨g4, 0, none⟩) xs.length xs.length, .slice (some ⟨k4, 0, none⟩) ws.length ws.length] 30)
    have q4x := q4.alloc (.cells #[.slice (some ⟨g4, 0, none⟩) xs.length xs.length, .slice (some ⟨k4, 0, none⟩) ws.length ws.length] 30)
    have hX4 := Blk.new w4 30 #[.slice (some ⟨g4, 0, none⟩) xs.length xs.length, .slice (some ⟨k4, 0, none⟩) ws.length ws.length]
    have hb4x : Below w4.heap.size w4 (w4.alloc (.cells #[.slice (some ⟨g4, 0, none⟩) xs.length xs.length, .slice (some ⟨k4, 0, none⟩) ws.length ws.length] 30)) := (Below.refl _ _).alloc (Nat.le_refl _) _
    have hB4x := cell_on hb4x hB4
    have hC4x := cell_on hb4x hC4
    go_wp2_with fail
    generalize w4.alloc (.cells #[.slice (some ⟨g4, 0, none⟩) xs.length xs.length, .slice (some ⟨k4, 0, none⟩) ws.length ws.length] 30) = w4x at r4x q4x hX4 hb4x hB4x hC4x
    refine (vdI _ _ _ _ xs ws _ r4x q4x lx lw).mono ?_
    rintro e w5 ⟨rfl, hb5⟩
    have hB5 := cell_on hb5 hB4x
    have hC5 := cell_on hb5 hC4x
    have hX5 : w5.cell? ⟨w4.heap.size, 0, none⟩ = some (.slice (some ⟨g4, 0, none⟩) xs.length xs.length) := (hX4.below hb5).cell 0
    have hY5 : w5.cell? ⟨w4.heap.size, 1, none⟩ = some (.slice (some ⟨k4, 0, none⟩) ws.length ws.length) := (hX4.below hb5).cell 1
    have hb5' := bt2 (bt2 hb4' hb4x) hb5
    generalize vd xs ws = z at n1
    clear hX4 hB3 hC3 hB4 hC4 hB4x hC4x
    go_wp2_with fail
    have hr5 := hr0.below hb5'
    have hq5 := hq0.below hb5'
    have r5 := r4x.below hb5
    have q5 := q4x.below hb5
    have bu : ∀ {a b : World}, Below a.heap.size a.drew b → Below a.heap.size a b := fun h => of_drew h
    go_region_held3 (fun w' => w'.cell? ⟨w.heap.size, 0, none⟩ = some (.slice A xs.length c) ∧ w'.cell? ⟨w.heap.size, 1, none⟩ = some (.slice B ws.length d) ∧ w'.cell? ⟨w4.heap.size, 0, none⟩ = some (.slice (some ⟨g4, 0, none⟩) xs.length xs.length) ∧ w'.cell? ⟨w4.heap.size, 1, none⟩ = some (.slice (some ⟨k4, 0, none⟩) ws.length ws.length) ∧ Below w5.heap.size w5 w')
      (first | exact ⟨hB5, hC5, hX5, hY5, (Below.refl _ _).drew⟩ | exact ⟨cell_on (bt2 hb6 hb7) hB5, cell_on (bt2 hb6 hb7) hC5, cell_on (bt2 hb6 hb7) hX5, cell_on (bt2 hb6 hb7) hY5, bt2 hb6 hb7⟩ | exact ⟨cell_on hb6 hB5, cell_on hb6 hC5, cell_on hb6 hX5, cell_on hb6 hY5, hb6⟩)
      (first
        | (go_at_call 17; refine (toDk A B c d xs ws _ (by first | exact hr5 | exact hr5.drew) (by first | exact hq5 | exact hq5.drew) lx lw).mono ?_; rintro e w6 ⟨g6, k6, rfl, r6, q6, hb6⟩; replace hb6 : Below w5.heap.size w5 w6 := (by first | exact hb6 | exact bu hb6))
        | (go_at_call 19; refine (eqDk _ _ _ _ _ _ _ _ xs ws _ (by first | exact r5.below hb6 | exact (r5.below hb6).drew) (by first | exact q5.below hb6 | exact (q5.below hb6).drew) (by first | exact r6 | exact r6.drew) (by first | exact q6 | exact q6.drew) lx lw).mono ?_; rintro e w7 ⟨rfl, hb7⟩; replace hb7 : Below w6.heap.size w6 w7 := (by first | exact hb7 | exact bu hb7)))
    go_wp2_with fail
    go_ret
    exact ⟨rfl, bt hb0 (bt2 (bt2 hb5' hb6) hb7) hb0.size⟩

end Go.Proofs.Ytgabjepoooageaa
