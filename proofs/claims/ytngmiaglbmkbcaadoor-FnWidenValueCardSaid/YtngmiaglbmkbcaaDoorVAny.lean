/-
  Drawing a value that may be invalid: anyValue. Conditions: the reader is one that newReader made.
-/
import Derived.Test.YtngmiaglbmkbcaaDoorVDraw
namespace Go.Proofs.YtngmiaglbmkbcaaDoor
open Go.RowKit
set_option linter.unusedVariables false
set_option linter.unusedSimpArgs false

def DrawnX (B R N : Nat) (w : World) (e : Ending) (w' : World) : Prop :=
  ∃ v : Vl, e = .returned (.agg #[.int .i64 v.k, .int .i64 v.n, .string v.s]) ∧ -1000000 ≤ v.k ∧ v.k ≤ 1000000 ∧ -1000000 ≤ v.n ∧ v.n ≤ 1000000 ∧ v.s.size ≤ 13 ∧ Rdr w' B R (N + 8) ∧ w.grownBy w' (some R)

set_option maxHeartbeats 1000000 in
theorem anyV_any (B R N : Nat) (w : World) (h : Rdr w B R N) (hN : N ≤ 100000) :
    Calls Tryd.prog 15 #[.pointer (some ⟨R, 0, none⟩)] w (DrawnX B R N w) := by
  have hR := h.lt
  have zv : Blk (w.alloc (.cells #[.int .i64 0, .int .i64 0, .string ByteArray.empty] 25)) w.heap.size 25 #[.int .i64 0, .int .i64 0, .string ByteArray.empty] := Blk.new _ _ _
  have h0 := h.alloc (.cells #[.int .i64 0, .int .i64 0, .string ByteArray.empty] 25)
  have g0 := w.grownBy_alloc (.cells #[.int .i64 0, .int .i64 0, .string ByteArray.empty] 25) (some R)
  go_enter Tryd.func15, Tryd.ntmps15
  go_wp2_with fail
  refine (random_any B R N _ h0 (by omega)).mono ?_
  rintro e w1 ⟨v, rfl, k0, k1, n0, n1, hs, hr1, hg1⟩
  have b1 := zv.kept hg1 (by simp; omega)
  have g1 := grown_trans g0 hg1
  clear hg1 h0 g0 zv
  go_wp2_with fail
  have bx := Blk.new w1 25 #[.int .i64 v.k, .int .i64 v.n, .string v.s]
  have b1' := b1.alloc (.cells #[.int .i64 v.k, .int .i64 v.n, .string v.s] 25)
  have hr1' := hr1.alloc (.cells #[.int .i64 v.k, .int .i64 v.n, .string v.s] 25)
  have g1' := grown_alloc g1 (.cells #[.int .i64 v.k, .int .i64 v.n, .string v.s] 25)
  have hlt1 : w.heap.size < w1.heap.size := b1.lt
  have hR1 : R < w1.heap.size := hr1.lt
  refine (pick_any B R _ _ _ hr1' (by omega) (by omega) (by omega)).mono ?_
  rintro e w2 ⟨p, rfl, p0, p1, hr2, hg2⟩
  have p24 : p < 24 := by omega
  have bx2 := bx.kept hg2 (by simp; omega)
  have b2 := b1'.kept hg2 (by simp; omega)
  have g2 := grown_trans g1' hg2
  clear p1 hg2 bx b1 b1' hr1 hr1' g1 g1'
  have pp : p = 0 ∨ p = 1 ∨ p = 2 ∨ 3 ≤ p := by omega
  have hBR := h.ge
  have fin : ∀ (w3 : World) (M : Nat) (v : Vl), M ≤ N + 8 → -1000000 ≤ v.k → v.k ≤ 1000000 → -1000000 ≤ v.n → v.n ≤ 1000000 → v.s.size ≤ 13 → Rdr w3 B R M → w.grownBy w3 (some R) →
      DrawnX B R N w (.returned (.agg #[.int .i64 v.k, .int .i64 v.n, .string v.s])) (((w3.setCell ⟨w.heap.size, 0, none⟩ (.int .i64 v.k)).setCell ⟨w.heap.size, 1, none⟩ (.int .i64 v.n)).setCell ⟨w.heap.size, 2, none⟩ (.string v.s)) := fun w3 M v hM a b c d e f g =>
    ⟨v, rfl, a, b, c, d, e, (((f.mono hM).set (by omega) (by omega)).set (by omega) (by omega)).set (by omega) (by omega), grown_set (grown_set (grown_set g (.inr (Nat.le_refl _)) _) (.inr (Nat.le_refl _)) _) (.inr (Nat.le_refl _)) _⟩
  have fin' := hide fin
  clear fin
  rcases pp with rfl | rfl | rfl | hp3
  · go_wp2_with fail
    refine (oneM_any B R _ 3 3 _ w2 hr2 (by omega) (by kernel_rfl) (by rfl) (by omega) (by omega)).mono ?_
    rintro e w3 ⟨z, rfl, z0, z1, hr3, hg3⟩
    have bx3 := bx2.kept hg3 (by simp; omega)
    have b3 := b2.kept hg3 (by simp; omega)
    have g3 := grown_trans g2 hg3
    have y0 : w3.cell? ⟨w1.heap.size, 1, none⟩ = some _ := bx3.cell 1
    have yf := bx3.free 1
    have bx4 := bx3.set 1 (.int .i64 z)
    have b4 := b3.far (p := ⟨w1.heap.size, 1, none⟩) (by simp; omega) (.int .i64 z)
    have hr4 := hr3.set (G := w1.heap.size) (i := 1) (u := .int .i64 z) (by omega) (by omega)
    have g4 := grown_set g3 (p := ⟨w1.heap.size, 1, none⟩) (.inr (by simp; omega)) (.int .i64 z)
    clear hg3 g2 hr2 b2 bx2 b3 g3 hr3
    have c0 : (w3.setCell ⟨w1.heap.size, 1, none⟩ (.int .i64 z)).cell? ⟨w.heap.size, 0, none⟩ = some (.int .i64 0) := b4.cell 0
    have c1 : (w3.setCell ⟨w1.heap.size, 1, none⟩ (.int .i64 z)).cell? ⟨w.heap.size, 1, none⟩ = some (.int .i64 0) := b4.cell 1
    have c2 : (w3.setCell ⟨w1.heap.size, 1, none⟩ (.int .i64 z)).cell? ⟨w.heap.size, 2, none⟩ = some (.string ByteArray.empty) := b4.cell 2
    have f0 := b4.free 0
    have f1 := b4.free 1
    have f2 := b4.free 2
    have x0 : (w3.setCell ⟨w1.heap.size, 1, none⟩ (.int .i64 z)).cell? ⟨w1.heap.size, 0, none⟩ = some (.int .i64 v.k) := bx4.cell 0
    have x1 : (w3.setCell ⟨w1.heap.size, 1, none⟩ (.int .i64 z)).cell? ⟨w1.heap.size, 1, none⟩ = some (.int .i64 z) := bx4.cell 1
    have x2 : (w3.setCell ⟨w1.heap.size, 1, none⟩ (.int .i64 z)).cell? ⟨w1.heap.size, 2, none⟩ = some (.string v.s) := bx4.cell 2
    have s0 := fun u => World.cell?_setCell_same' (w3.setCell ⟨w1.heap.size, 1, none⟩ (.int .i64 z)) ⟨w.heap.size, 0, none⟩ u (by rw [c0]; rfl)
    have s1 := fun u u' => World.cell?_setCell_same' ((w3.setCell ⟨w1.heap.size, 1, none⟩ (.int .i64 z)).setCell ⟨w.heap.size, 0, none⟩ u') ⟨w.heap.size, 1, none⟩ u (by rw [World.cell?_setCell_other _ _ _ _ (by simp), c1]; rfl)
    have s2 := fun u u' u'' => World.cell?_setCell_same' (((w3.setCell ⟨w1.heap.size, 1, none⟩ (.int .i64 z)).setCell ⟨w.heap.size, 0, none⟩ u').setCell ⟨w.heap.size, 1, none⟩ u'') ⟨w.heap.size, 2, none⟩ u (by rw [World.cell?_setCell_other _ _ _ _ (by simp), World.cell?_setCell_other _ _ _ _ (by simp), c2]; rfl)
    go_wp2_with fail
    refine bodyPost_ret (v := .agg #[.int .i64 v.k, .int .i64 z, .string v.s]) (by simp [results, Tryd.f15, go_sem, c0, c1, c2, s0, s1, s2] <;> rfl) rfl ?_
    exact fin'.out (w3.setCell ⟨w1.heap.size, 1, none⟩ (.int .i64 z)) _ ⟨v.k, z, v.s⟩ (by omega) (by simp <;> omega) (by simp <;> omega) (by simp <;> omega) (by simp <;> omega) (by first | decide | (simp <;> omega)) hr4 g4
  · go_wp2_with fail
    refine (of_any 13 B R _ 3 3 _ w2 hr2 (by omega) (by kernel_rfl) (by rfl) (by omega) (by omega)).mono ?_
    rintro e w3 ⟨z, rfl, hz, hr3, hg3⟩
    have bx3 := bx2.kept hg3 (by simp; omega)
    have b3 := b2.kept hg3 (by simp; omega)
    have g3 := grown_trans g2 hg3
    have y0 : w3.cell? ⟨w1.heap.size, 2, none⟩ = some _ := bx3.cell 2
    have yf := bx3.free 2
    have bx4 := bx3.set 2 (.string z)
    have b4 := b3.far (p := ⟨w1.heap.size, 2, none⟩) (by simp; omega) (.string z)
    have hr4 := hr3.set (G := w1.heap.size) (i := 2) (u := .string z) (by omega) (by omega)
    have g4 := grown_set g3 (p := ⟨w1.heap.size, 2, none⟩) (.inr (by simp; omega)) (.string z)
    clear hg3 g2 hr2 b2 bx2 b3 g3 hr3
    have c0 : (w3.setCell ⟨w1.heap.size, 2, none⟩ (.string z)).cell? ⟨w.heap.size, 0, none⟩ = some (.int .i64 0) := b4.cell 0
    have c1 : (w3.setCell ⟨w1.heap.size, 2, none⟩ (.string z)).cell? ⟨w.heap.size, 1, none⟩ = some (.int .i64 0) := b4.cell 1
    have c2 : (w3.setCell ⟨w1.heap.size, 2, none⟩ (.string z)).cell? ⟨w.heap.size, 2, none⟩ = some (.string ByteArray.empty) := b4.cell 2
    have f0 := b4.free 0
    have f1 := b4.free 1
    have f2 := b4.free 2
    have x0 : (w3.setCell ⟨w1.heap.size, 2, none⟩ (.string z)).cell? ⟨w1.heap.size, 0, none⟩ = some (.int .i64 v.k) := bx4.cell 0
    have x1 : (w3.setCell ⟨w1.heap.size, 2, none⟩ (.string z)).cell? ⟨w1.heap.size, 1, none⟩ = some (.int .i64 v.n) := bx4.cell 1
    have x2 : (w3.setCell ⟨w1.heap.size, 2, none⟩ (.string z)).cell? ⟨w1.heap.size, 2, none⟩ = some (.string z) := bx4.cell 2
    have s0 := fun u => World.cell?_setCell_same' (w3.setCell ⟨w1.heap.size, 2, none⟩ (.string z)) ⟨w.heap.size, 0, none⟩ u (by rw [c0]; rfl)
    have s1 := fun u u' => World.cell?_setCell_same' ((w3.setCell ⟨w1.heap.size, 2, none⟩ (.string z)).setCell ⟨w.heap.size, 0, none⟩ u') ⟨w.heap.size, 1, none⟩ u (by rw [World.cell?_setCell_other _ _ _ _ (by simp), c1]; rfl)
    have s2 := fun u u' u'' => World.cell?_setCell_same' (((w3.setCell ⟨w1.heap.size, 2, none⟩ (.string z)).setCell ⟨w.heap.size, 0, none⟩ u').setCell ⟨w.heap.size, 1, none⟩ u'') ⟨w.heap.size, 2, none⟩ u (by rw [World.cell?_setCell_other _ _ _ _ (by simp), World.cell?_setCell_other _ _ _ _ (by simp), c2]; rfl)
    go_wp2_with fail
    refine bodyPost_ret (v := .agg #[.int .i64 v.k, .int .i64 v.n, .string z]) (by simp [results, Tryd.f15, go_sem, c0, c1, c2, s0, s1, s2] <;> rfl) rfl ?_
    exact fin'.out (w3.setCell ⟨w1.heap.size, 2, none⟩ (.string z)) _ ⟨v.k, v.n, z⟩ (by omega) (by simp <;> omega) (by simp <;> omega) (by simp <;> omega) (by simp <;> omega) (by first | decide | (simp <;> omega)) hr4 g4
  · go_wp2_with fail
    refine (oneM_any B R _ 3 3 _ w2 hr2 (by omega) (by kernel_rfl) (by rfl) (by omega) (by omega)).mono ?_
    rintro e w3 ⟨z, rfl, z0, z1, hr3, hg3⟩
    have bx3 := bx2.kept hg3 (by simp; omega)
    have b3 := b2.kept hg3 (by simp; omega)
    have g3 := grown_trans g2 hg3
    have y0 : w3.cell? ⟨w1.heap.size, 0, none⟩ = some _ := bx3.cell 0
    have yf := bx3.free 0
    have bx4 := bx3.set 0 (.int .i64 z)
    have b4 := b3.far (p := ⟨w1.heap.size, 0, none⟩) (by simp; omega) (.int .i64 z)
    have hr4 := hr3.set (G := w1.heap.size) (i := 0) (u := .int .i64 z) (by omega) (by omega)
    have g4 := grown_set g3 (p := ⟨w1.heap.size, 0, none⟩) (.inr (by simp; omega)) (.int .i64 z)
    clear hg3 g2 hr2 b2 bx2 b3 g3 hr3
    have c0 : (w3.setCell ⟨w1.heap.size, 0, none⟩ (.int .i64 z)).cell? ⟨w.heap.size, 0, none⟩ = some (.int .i64 0) := b4.cell 0
    have c1 : (w3.setCell ⟨w1.heap.size, 0, none⟩ (.int .i64 z)).cell? ⟨w.heap.size, 1, none⟩ = some (.int .i64 0) := b4.cell 1
    have c2 : (w3.setCell ⟨w1.heap.size, 0, none⟩ (.int .i64 z)).cell? ⟨w.heap.size, 2, none⟩ = some (.string ByteArray.empty) := b4.cell 2
    have f0 := b4.free 0
    have f1 := b4.free 1
    have f2 := b4.free 2
    have x0 : (w3.setCell ⟨w1.heap.size, 0, none⟩ (.int .i64 z)).cell? ⟨w1.heap.size, 0, none⟩ = some (.int .i64 z) := bx4.cell 0
    have x1 : (w3.setCell ⟨w1.heap.size, 0, none⟩ (.int .i64 z)).cell? ⟨w1.heap.size, 1, none⟩ = some (.int .i64 v.n) := bx4.cell 1
    have x2 : (w3.setCell ⟨w1.heap.size, 0, none⟩ (.int .i64 z)).cell? ⟨w1.heap.size, 2, none⟩ = some (.string v.s) := bx4.cell 2
    have s0 := fun u => World.cell?_setCell_same' (w3.setCell ⟨w1.heap.size, 0, none⟩ (.int .i64 z)) ⟨w.heap.size, 0, none⟩ u (by rw [c0]; rfl)
    have s1 := fun u u' => World.cell?_setCell_same' ((w3.setCell ⟨w1.heap.size, 0, none⟩ (.int .i64 z)).setCell ⟨w.heap.size, 0, none⟩ u') ⟨w.heap.size, 1, none⟩ u (by rw [World.cell?_setCell_other _ _ _ _ (by simp), c1]; rfl)
    have s2 := fun u u' u'' => World.cell?_setCell_same' (((w3.setCell ⟨w1.heap.size, 0, none⟩ (.int .i64 z)).setCell ⟨w.heap.size, 0, none⟩ u').setCell ⟨w.heap.size, 1, none⟩ u'') ⟨w.heap.size, 2, none⟩ u (by rw [World.cell?_setCell_other _ _ _ _ (by simp), World.cell?_setCell_other _ _ _ _ (by simp), c2]; rfl)
    go_wp2_with fail
    refine bodyPost_ret (v := .agg #[.int .i64 z, .int .i64 v.n, .string v.s]) (by simp [results, Tryd.f15, go_sem, c0, c1, c2, s0, s1, s2] <;> rfl) rfl ?_
    exact fin'.out (w3.setCell ⟨w1.heap.size, 0, none⟩ (.int .i64 z)) _ ⟨z, v.n, v.s⟩ (by omega) (by simp <;> omega) (by simp <;> omega) (by simp <;> omega) (by simp <;> omega) (by first | decide | (simp <;> omega)) hr4 g4
  · have e0 : (p == 0) = false := by rw [beq_eq_false_iff_ne]; omega
    have e1 : (p == 1) = false := by rw [beq_eq_false_iff_ne]; omega
    have e2 : (p == 2) = false := by rw [beq_eq_false_iff_ne]; omega
    have c0 : (w2).cell? ⟨w.heap.size, 0, none⟩ = some (.int .i64 0) := b2.cell 0
    have c1 : (w2).cell? ⟨w.heap.size, 1, none⟩ = some (.int .i64 0) := b2.cell 1
    have c2 : (w2).cell? ⟨w.heap.size, 2, none⟩ = some (.string ByteArray.empty) := b2.cell 2
    have f0 := b2.free 0
    have f1 := b2.free 1
    have f2 := b2.free 2
    have x0 : (w2).cell? ⟨w1.heap.size, 0, none⟩ = some (.int .i64 v.k) := bx2.cell 0
    have x1 : (w2).cell? ⟨w1.heap.size, 1, none⟩ = some (.int .i64 v.n) := bx2.cell 1
    have x2 : (w2).cell? ⟨w1.heap.size, 2, none⟩ = some (.string v.s) := bx2.cell 2
    have s0 := fun u => World.cell?_setCell_same' (w2) ⟨w.heap.size, 0, none⟩ u (by rw [c0]; rfl)
    have s1 := fun u u' => World.cell?_setCell_same' ((w2).setCell ⟨w.heap.size, 0, none⟩ u') ⟨w.heap.size, 1, none⟩ u (by rw [World.cell?_setCell_other _ _ _ _ (by simp), c1]; rfl)
    have s2 := fun u u' u'' => World.cell?_setCell_same' (((w2).setCell ⟨w.heap.size, 0, none⟩ u').setCell ⟨w.heap.size, 1, none⟩ u'') ⟨w.heap.size, 2, none⟩ u (by rw [World.cell?_setCell_other _ _ _ _ (by simp), World.cell?_setCell_other _ _ _ _ (by simp), c2]; rfl)
    go_wp2_with fail
    refine bodyPost_ret (v := .agg #[.int .i64 v.k, .int .i64 v.n, .string v.s]) (by simp [results, Tryd.f15, go_sem, c0, c1, c2, s0, s1, s2] <;> rfl) rfl ?_
    exact fin'.out (w2) _ ⟨v.k, v.n, v.s⟩ (by omega) (by simp <;> omega) (by simp <;> omega) (by simp <;> omega) (by simp <;> omega) (by first | decide | (simp <;> omega)) hr2 g2

end Go.Proofs.YtngmiaglbmkbcaaDoor
