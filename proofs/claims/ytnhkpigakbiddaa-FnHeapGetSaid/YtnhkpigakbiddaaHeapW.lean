/-
  The exact statement about ValidHeap, walked. Conditions: the pages read as a list, and the slots of each.
-/
import Derived.Test.YtnhkpigakbiddaaHeapX
namespace Go.Proofs.Ytnhkpigakbiddaa
open Go.RowKit
set_option linter.unusedVariables false
set_option linter.unusedSimpArgs false

def MadeK (ps : List Pg) (w : World) (e : Ending) (w' : World) : Prop :=
  ∃ g gs, e = .returned (.agg #[.slice (some ⟨g, 0, none⟩) gs.length gs.length]) ∧ xss gs = xss ps ∧ Small gs ∧ Hp w' (some ⟨g, 0, none⟩) gs ∧ Below w.heap.size w w'
theorem toHk (A : Option Addr) (c : Nat) (ps : List Pg) (w : World) (hr : Hp w A ps) (hs : Small ps) :
    Calls Try.prog 29 #[.agg #[.slice A ps.length c]] w (MadeK ps w) := by
  refine (toHp A c ps w hr hs).mono ?_
  rintro e w1 ⟨g, gs, rfl, hx, hh, hb⟩
  have hl : ps.length = gs.length := by have := congrArg List.length hx; rw [xss_len, xss_len] at this; exact this.symm
  rw [hl]
  exact ⟨g, gs, rfl, hx, small_as hx hs, hh, hb⟩

set_option maxHeartbeats 1000000 in
theorem exactVh_walk (A : Option Addr) (c : Nat) (ps : List Pg) (w : World) (hr : Hp w A ps) (hf : FitG ps) (hc : ps.length ≤ c) (hm : c ≤ 9223372036854775807) :
    Calls Try.prog 9 #[.agg #[.slice A ps.length c]] w fun e w' => e = .returned (.bool true) ∧ Below w.heap.size w w' := by
  have S1 := szG_lo 1048576 ps
  have hok := hide (fun h => small_of (szG_ok (left := 1048576) (ps := ps) h))
  generalize hs1 : szG 1048576 ps = s1 at S1 hok
  have hs1' := hide hs1
  clear hs1
  have n1 : (vh (xss ps) != vh (xss ps)) = false := by cases vh (xss ps) <;> rfl
  have hr0 := hr.alloc (.cells #[.slice A ps.length c] 51)
  have hb0 : Below w.heap.size w (w.alloc (.cells #[.slice A ps.length c] 51)) := (Below.refl _ _).alloc (Nat.le_refl _) _
  have hB : (w.alloc (.cells #[.slice A ps.length c] 51)).cell? ⟨w.heap.size, 0, none⟩ = some (.slice A ps.length c) := (Blk.new w 51 #[.slice A ps.length c]).cell 0
  go_enter Try.func9, Try.ntmps9
  go_wp2_with fail
  generalize w.alloc (.cells #[.slice A ps.length c] 51) = w0 at hr0 hb0 hB
  refine (szHp A c ps 1048576 _ hr0 hf (by omega) (by omega) (by omega)).mono ?_
  rintro e w1 ⟨rfl, hb1⟩
  have hB1 := cell_on hb1 hB
  rw [hs1'.out]
  by_cases h1 : s1 < 0
  · go_wp2_with fail
    go_ret
    exact ⟨rfl, bt hb0 hb1 hb0.size⟩
  · have sm := hok.out (by omega)
    go_wp2_with fail
    refine (toHk A c ps _ (hr0.below hb1) sm).mono ?_
    rintro e w2 ⟨g2, gs2, rfl, hx2, sm2, r2, hb2⟩
    have hx2' := hide hx2
    have hB2 := cell_on hb2 hB1
    have hb2' := bt2 hb1 hb2
    clear hx2
    go_wp2_with fail
    refine (VHS _ _ gs2 _ r2 sm2).mono ?_
    rintro e w3 ⟨rfl, hb3⟩
    rw [hx2'.out]
    have hB3 := cell_on hb3 hB2
    have hb3' := bt2 hb2' hb3
    clear hb1 hb2 hb2' hb3 r2
    go_wp2_with fail
    refine (toHk A c ps _ (hr0.below hb3') sm).mono ?_
    rintro e w4 ⟨g4, gs4, rfl, hx4, sm4, r4, hb4⟩
    have hx4' := hide hx4
    have hB4 := cell_on hb4 hB3
    have hb4' := bt2 hb3' hb4
    clear hx4
    have r4x := r4.alloc (.cells #[.slice (some ⟨g4, 0, none⟩) gs4.length gs4.length] 46)
    have hX4 := (Blk.new w4 46 #[.slice (some ⟨g4, 0, none⟩) gs4.length gs4.length]).cell 0
    have hb4x : Below w4.heap.size w4 (w4.alloc (.cells #[.slice (some ⟨g4, 0, none⟩) gs4.length gs4.length] 46)) := (Below.refl _ _).alloc (Nat.le_refl _) _
    have hB4x := cell_on hb4x hB4
    go_wp2_with fail
    generalize w4.alloc (.cells #[.slice (some ⟨g4, 0, none⟩) gs4.length gs4.length] 46) = w4x at r4x hX4 hb4x hB4x
    replace hX4 : w4x.cell? ⟨w4.heap.size, 0, none⟩ = some (.slice (some ⟨g4, 0, none⟩) gs4.length gs4.length) := hX4
    refine (vhI _ _ gs4 _ r4x sm4).mono ?_
    rintro e w5 ⟨rfl, hb5⟩
    rw [hx4'.out]
    have hB5 := cell_on hb5 hB4x
    have hX5 := cell_on hb5 hX4
    have hb5' := bt2 (bt2 hb4' hb4x) hb5
    generalize vh (xss ps) = z at n1
    go_wp2_with fail
    have hr5 := hr0.below hb5'
    have r5 := r4x.below hb5
    have bu : ∀ {a b : World}, Below a.heap.size a.drew b → Below a.heap.size a b := fun h => of_drew h
    go_region_held3 (fun w' => w'.cell? ⟨w.heap.size, 0, none⟩ = some (.slice A ps.length c) ∧ w'.cell? ⟨w4.heap.size, 0, none⟩ = some (.slice (some ⟨g4, 0, none⟩) gs4.length gs4.length) ∧ Below w5.heap.size w5 w')
      (first | exact ⟨hB5, hX5, (Below.refl _ _).drew⟩ | exact ⟨cell_on (bt2 hb6 hb7) hB5, cell_on (bt2 hb6 hb7) hX5, bt2 hb6 hb7⟩ | exact ⟨cell_on hb6 hB5, cell_on hb6 hX5, hb6⟩)
      (first
        | (go_at_call 29; refine (toHk A c ps _ (by first | exact hr5 | exact hr5.drew) sm).mono ?_; rintro e w6 ⟨g6, gs6, rfl, hx6, sm6, r6, hb6⟩; replace hx6 := hide (hx4'.out.trans hx6.symm); replace hb6 : Below w5.heap.size w5 w6 := (by first | exact hb6 | exact bu hb6))
        | (go_at_call 30; refine (eqHp _ _ _ _ gs4 gs6 _ (by first | exact r5.below hb6 | exact (r5.below hb6).drew) (by first | exact r6 | exact r6.drew) hx6.out sm4).mono ?_; rintro e w7 ⟨rfl, hb7⟩; replace hb7 : Below w6.heap.size w6 w7 := (by first | exact hb7 | exact bu hb7)))
    go_wp2_with fail
    go_ret
    exact ⟨rfl, bt hb0 (bt2 (bt2 hb5' hb6) hb7) hb0.size⟩

end Go.Proofs.Ytnhkpigakbiddaa
