/-
  The statement that values are themselves. Conditions: the argument reads as a list of bytes.
-/
import Derived.Test.YtngmiaglbmkbcaaVAny
import Derived.Test.YtngmiaglbmkbcaaVlaw
import Derived.Test.YtngmiaglbmkbcaaOrd
import Derived.Test.YtngmiaglbmkbcaaRow
import Derived.Deep.RegionHeld3
import Derived.Deep.DrawnRows
namespace Go.Proofs.Ytngmiaglbmkbcaa
open Go.RowKit
set_option linter.unusedVariables false
set_option linter.unusedSimpArgs false

def Val1 (w : World) (e : Ending) (w' : World) : Prop :=
  ∃ v : Vl, e = .returned (.agg #[.int .i64 v.k, .int .i64 v.n, .string v.s]) ∧ -1000000 ≤ v.k ∧ v.k ≤ 1000000 ∧ -1000000 ≤ v.n ∧ v.n ≤ 1000000 ∧ v.s.size ≤ 13 ∧ Below w.heap.size w w'
set_option maxHeartbeats 1000000 in
theorem drawValid (A : Option Addr) (c : Nat) (zs : List Int) (w : World) (h : Bytes w A c zs) :
    Calls Try.prog 20 #[.slice A zs.length c] w (Val1 w) := by
  go_enter Try.func20, Try.ntmps20
  go_wp2_with fail
  refine (new_any A c zs _ (h.rl.alloc _) h.rng h.cap h.max (fun b hz ha => by have := h.blk b hz ha; simp; omega)).mono ?_
  rintro e w1 ⟨rfl, hr, hb⟩
  have hB0 := (Blk.new w 28 #[.int .i64 0, .int .i64 0, .string ByteArray.empty]).below hb
  have hb' : Below w.heap.size w w1 := bt ((Below.refl w.heap.size w).alloc (Nat.le_refl _) _) hb (by simp)
  have hlt := hB0.lt
  simp only [World.size_alloc] at hr
  go_wp2_with fail
  refine (anyV_any _ _ _ w1 hr (by omega)).mono ?_
  rintro e w2 ⟨v, rfl, k0, k1, n0, n1, hs, hr2, hg2⟩
  have b2 := hB0.kept hg2 (by simp)
  have hb2 : Below w.heap.size w w2 := below_of_grown hb' hg2 (by simp) hb'.size
  have c0 : w2.cell? ⟨w.heap.size, 0, none⟩ = some (.int .i64 0) := b2.cell 0
  have c1 : w2.cell? ⟨w.heap.size, 1, none⟩ = some (.int .i64 0) := b2.cell 1
  have c2 : w2.cell? ⟨w.heap.size, 2, none⟩ = some (.string ByteArray.empty) := b2.cell 2
  have f0 := b2.free 0
  have f1 := b2.free 1
  have f2 := b2.free 2
  have s0 := fun u => World.cell?_setCell_same' w2 ⟨w.heap.size, 0, none⟩ u (by rw [c0]; rfl)
  have s1 := fun u u' => World.cell?_setCell_same' (w2.setCell ⟨w.heap.size, 0, none⟩ u') ⟨w.heap.size, 1, none⟩ u (by rw [World.cell?_setCell_other _ _ _ _ (by simp), c1]; rfl)
  have s2 := fun u u' u'' => World.cell?_setCell_same' ((w2.setCell ⟨w.heap.size, 0, none⟩ u').setCell ⟨w.heap.size, 1, none⟩ u'') ⟨w.heap.size, 2, none⟩ u (by rw [World.cell?_setCell_other _ _ _ _ (by simp), World.cell?_setCell_other _ _ _ _ (by simp), c2]; rfl)
  have hfin : Hid (Below w.heap.size w (((w2.setCell ⟨w.heap.size, 0, none⟩ (.int .i64 v.k)).setCell ⟨w.heap.size, 1, none⟩ (.int .i64 v.n)).setCell ⟨w.heap.size, 2, none⟩ (.string v.s))) := ((hb2.setCell (Nat.le_refl _) _).setCell (Nat.le_refl _) _).setCell (Nat.le_refl _) _
  clear hb hb' hb2 hr hr2 hg2
  go_wp2_with fail
  refine bodyPost_ret (v := .agg #[.int .i64 v.k, .int .i64 v.n, .string v.s]) (by simp [results, Try.f20, go_sem, c0, c1, c2, s0, s1, s2] <;> rfl) rfl ?_
  exact ⟨v, rfl, k0, k1, n0, n1, hs, hfin.out⟩

theorem cv_same2 (v : Vl) : cv v v = (bif vv v then 0 else 2) := by rw [cv_same]; cases vv v <;> rfl
set_option maxHeartbeats 1000000 in
theorem validLaw_walk (A : Option Addr) (c : Nat) (zs : List Int) (w : World) (h : Bytes w A c zs) :
    Calls Try.prog 6 #[.slice A zs.length c] w fun e w' => e = .returned (.bool true) ∧ Below w.heap.size w w' := by
  have hcap := h.cap
  have hmax := h.max
  by_cases hl : 1048576 < zs.length
  · go_enter Try.func6, Try.ntmps6
    go_wp2
    go_ret
    exact ⟨rfl, Below.refl _ _⟩
  · go_enter Try.func6, Try.ntmps6
    go_wp2_with fail
    refine (drawValid A c zs _ h).mono ?_
    rintro e w1 ⟨v, rfl, k0, k1, n0, n1, hs, hb1⟩
    have hs' : v.s.size ≤ 9223372036854775807 := by omega
    have hvI : Hid (∀ W, Calls Try.prog 17 #[.agg #[.int .i64 v.k, .int .i64 v.n, .string v.s]] W fun e w' => e = .returned (.bool (vv v)) ∧ Below W.heap.size W w') := fun W => vvIx v W hs'
    have hvS : Hid (∀ W, Calls Try.prog 15 #[.agg #[.int .i64 v.k, .int .i64 v.n, .string v.s]] W fun e w' => e = .returned (.bool (vv v)) ∧ Below W.heap.size W w') := fun W => vvSx v W hs'
    have hcI : Hid (∀ W, Calls Try.prog 19 #[.agg #[.int .i64 v.k, .int .i64 v.n, .string v.s], .agg #[.int .i64 v.k, .int .i64 v.n, .string v.s]] W fun e w' => e = .returned (.int .i64 (bif vv v then 0 else 2)) ∧ Below W.heap.size W w') := fun W => by
      have := cvI v v W hs' hs'
      rw [cv_same2] at this
      exact this
    have hB := Blk.new w1 28 #[.int .i64 v.k, .int .i64 v.n, .string v.s]
    have hbA : Below w.heap.size w (w1.alloc (.cells #[.int .i64 v.k, .int .i64 v.n, .string v.s] 28)) := hb1.alloc hb1.size _
    clear hb1
    generalize vv v = b at hvI hvS hcI
    cases b
    all_goals
      go_wp2_with fail
      refine (hvI.out _).mono ?_
      rintro e w2 ⟨rfl, hb2⟩
      have hB2 := hB.below hb2
      have hbB := bt2 hbA hb2
      clear hb2 hB hbA
      have c0 : w2.cell? ⟨w1.heap.size, 0, none⟩ = some (.int .i64 v.k) := hB2.cell 0
      have c1 : w2.cell? ⟨w1.heap.size, 1, none⟩ = some (.int .i64 v.n) := hB2.cell 1
      have c2 : w2.cell? ⟨w1.heap.size, 2, none⟩ = some (.string v.s) := hB2.cell 2
      simp only [cond_true, cond_false] at hcI
      go_wp2_with fail
      refine (hvS.out _).mono ?_
      rintro e w3 ⟨rfl, hb3⟩
      have hB3 := hB2.below hb3
      have hbC := bt2 hbB hb3
      clear hb3 hB2 hbB c0 c1 c2
      have c0 : w3.cell? ⟨w1.heap.size, 0, none⟩ = some (.int .i64 v.k) := hB3.cell 0
      have c1 : w3.cell? ⟨w1.heap.size, 1, none⟩ = some (.int .i64 v.n) := hB3.cell 1
      have c2 : w3.cell? ⟨w1.heap.size, 2, none⟩ = some (.string v.s) := hB3.cell 2
      go_wp2_with fail
      refine (hcI.out _).mono ?_
      rintro e w4 ⟨rfl, hb4⟩
      have hB4 := hB3.below hb4
      have hbD := bt2 hbC hb4
      clear hb4 hB3 hbC c0 c1 c2
      have c0 : w4.cell? ⟨w1.heap.size, 0, none⟩ = some (.int .i64 v.k) := hB4.cell 0
      have c1 : w4.cell? ⟨w1.heap.size, 1, none⟩ = some (.int .i64 v.n) := hB4.cell 1
      have c2 : w4.cell? ⟨w1.heap.size, 2, none⟩ = some (.string v.s) := hB4.cell 2
      go_wp2_with fail
      first
        | (go_ret; exact ⟨rfl, hbD⟩)
        | (refine (hcI.out _).mono ?_
           rintro e w5 ⟨rfl, hb5⟩
           go_wp2_with fail
           go_ret
           exact ⟨rfl, bt2 hbD hb5⟩)

end Go.Proofs.Ytngmiaglbmkbcaa
