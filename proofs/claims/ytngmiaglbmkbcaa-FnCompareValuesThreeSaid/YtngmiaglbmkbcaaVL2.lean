/-
  Two drawn values: DrawCompareValues, and the statement that values are ordered. Conditions: the argument reads as a list of bytes.
-/
import Derived.Test.YtngmiaglbmkbcaaVL1
import Derived.Test.YtngmiaglbmkbcaaOwn
import Derived.RegionTactic
namespace Go.Proofs.Ytngmiaglbmkbcaa
open Go.RowKit
set_option linter.unusedVariables false
set_option linter.unusedSimpArgs false

def Val2 (w : World) (e : Ending) (w' : World) : Prop :=
  ∃ a b : Vl, e = .returned (.tuple #[.agg #[.int .i64 a.k, .int .i64 a.n, .string a.s], .agg #[.int .i64 b.k, .int .i64 b.n, .string b.s]]) ∧ a.s.size ≤ 13 ∧ b.s.size ≤ 13 ∧ Below w.heap.size w w'

set_option maxHeartbeats 1000000 in
theorem drawTwo (A : Option Addr) (c : Nat) (zs : List Int) (w : World) (h : Bytes w A c zs) :
    Calls Try.prog 21 #[.slice A zs.length c] w (Val2 w) := by
  go_enter Try.func21, Try.ntmps21
  go_wp2_with fail
  refine (new_any A c zs _ ((h.rl.alloc _).alloc _) h.rng h.cap h.max (fun b hz ha => by have := h.blk b hz ha; simp; omega)).mono ?_
  rintro e w1 ⟨rfl, hr, hb⟩
  have hB0 := ((Blk.new w 28 #[.int .i64 0, .int .i64 0, .string ByteArray.empty]).alloc (.cells #[.int .i64 0, .int .i64 0, .string ByteArray.empty] 28)).below hb
  have hB1 := (Blk.new (w.alloc (.cells #[.int .i64 0, .int .i64 0, .string ByteArray.empty] 28)) 28 #[.int .i64 0, .int .i64 0, .string ByteArray.empty]).below hb
  have hb' : Below w.heap.size w w1 := bt (by go_grown) hb (by simp <;> omega)
  simp only [World.size_alloc] at hr hB1
  have hlt := hB1.lt
  go_wp2_with fail
  refine (anyV_any _ _ _ w1 hr (by omega)).mono ?_
  rintro e w2 ⟨a, rfl, k0, k1, n0, n1, hs, hr2, hg2⟩
  have b0 := hB0.kept hg2 (by simp <;> omega)
  have b1 := hB1.kept hg2 (by simp <;> omega)
  have hb2 : Below w.heap.size w w2 := below_of_grown hb' hg2 (by omega) hb'.size
  clear hb hb' hr hg2 hB0 hB1 hlt
  have bA := Blk.new w2 28 #[.int .i64 a.k, .int .i64 a.n, .string a.s]
  have b0' := b0.alloc (.cells #[.int .i64 a.k, .int .i64 a.n, .string a.s] 28)
  have b1' := b1.alloc (.cells #[.int .i64 a.k, .int .i64 a.n, .string a.s] 28)
  have hr2' := hr2.alloc (.cells #[.int .i64 a.k, .int .i64 a.n, .string a.s] 28)
  have hb2' := hb2.alloc hb2.size (.cells #[.int .i64 a.k, .int .i64 a.n, .string a.s] 28)
  have hl0 := b0.lt
  have hl1 := b1.lt
  have hlR := hr2.lt
  go_wp2_with fail
  refine (pick_any _ _ _ _ _ hr2' (by omega) (by omega) (by omega)).mono ?_
  rintro e w3 ⟨q, rfl, q0, q1, hr3, hg3⟩
  have d0 := b0'.kept hg3 (by simp <;> omega)
  have d1 := b1'.kept hg3 (by simp <;> omega)
  have dA := bA.kept hg3 (by simp <;> omega)
  have hb3 : Below w.heap.size w w3 := below_of_grown hb2' hg3 (by omega) hb2'.size
  clear b0 b1 b0' b1' bA hr2 hr2' hb2 hb2' hg3 q1
  have c0 : w3.cell? ⟨w2.heap.size, 0, none⟩ = some (.int .i64 a.k) := dA.cell 0
  have c1 : w3.cell? ⟨w2.heap.size, 1, none⟩ = some (.int .i64 a.n) := dA.cell 1
  have c2 : w3.cell? ⟨w2.heap.size, 2, none⟩ = some (.string a.s) := dA.cell 2
  by_cases hq : q = 0
  · subst hq
    have r0 : w3.cell? ⟨w.heap.size, 0, none⟩ = some (.int .i64 0) := d0.cell 0
    have r1 : w3.cell? ⟨w.heap.size, 1, none⟩ = some (.int .i64 0) := d0.cell 1
    have r2 : w3.cell? ⟨w.heap.size, 2, none⟩ = some (.string ByteArray.empty) := d0.cell 2
    have s0 : w3.cell? ⟨w.heap.size + 1, 0, none⟩ = some (.int .i64 0) := d1.cell 0
    have s1 : w3.cell? ⟨w.heap.size + 1, 1, none⟩ = some (.int .i64 0) := d1.cell 1
    have s2 : w3.cell? ⟨w.heap.size + 1, 2, none⟩ = some (.string ByteArray.empty) := d1.cell 2
    have fr0 := d0.free 0
    have fr1 := d0.free 1
    have fr2 := d0.free 2
    have fs0 := d1.free 0
    have fs1 := d1.free 1
    have fs2 := d1.free 2
    have ne1 : w2.heap.size ≠ w.heap.size := by omega
    have ne2 : w2.heap.size ≠ w.heap.size + 1 := by omega
    have ne3 : w.heap.size ≠ w2.heap.size := by omega
    have ne4 : w.heap.size + 1 ≠ w2.heap.size := by omega
    go_wp2_with fail
    go_region
    generalize hF : World.drew _ = wF
    have e0 : Blk wF w.heap.size 28 #[.int .i64 a.k, .int .i64 a.n, .string a.s] := by
      rw [← hF]
      exact (blk_far3 (blk_set3 d0 _ _ _) (by omega) _ _ _).drew
    have e1 : Blk wF (w.heap.size + 1) 28 #[.int .i64 a.k, .int .i64 a.n, .string a.s] := by
      rw [← hF]
      exact (blk_set3 (blk_far3 d1 (by omega) _ _ _) _ _ _).drew
    have hbF : Below w.heap.size w wF := by
      rw [← hF]
      exact ((((((hb3.setCell (Nat.le_refl _) _).setCell (Nat.le_refl _) _).setCell (Nat.le_refl _) _).setCell (Nat.le_succ _) _).setCell (Nat.le_succ _) _).setCell (Nat.le_succ _) _).drew
    clear hF r0 r1 r2 s0 s1 s2 fr0 fr1 fr2 fs0 fs1 fs2 c0 c1 c2 ne1 ne2 ne3 ne4
    have x0 : wF.cell? ⟨w.heap.size, 0, none⟩ = some (.int .i64 a.k) := e0.cell 0
    have x1 : wF.cell? ⟨w.heap.size, 1, none⟩ = some (.int .i64 a.n) := e0.cell 1
    have x2 : wF.cell? ⟨w.heap.size, 2, none⟩ = some (.string a.s) := e0.cell 2
    have y0 : wF.cell? ⟨w.heap.size + 1, 0, none⟩ = some (.int .i64 a.k) := e1.cell 0
    have y1 : wF.cell? ⟨w.heap.size + 1, 1, none⟩ = some (.int .i64 a.n) := e1.cell 1
    have y2 : wF.cell? ⟨w.heap.size + 1, 2, none⟩ = some (.string a.s) := e1.cell 2
    go_wp2_with fail
    refine bodyPost_ret (v := .tuple #[.agg #[.int .i64 a.k, .int .i64 a.n, .string a.s], .agg #[.int .i64 a.k, .int .i64 a.n, .string a.s]]) (by simp [results, Try.f21, go_sem, x0, x1, x2, y0, y1, y2] <;> rfl) rfl ?_
    exact ⟨a, a, rfl, hs, hs, hbF⟩
  · have hq' : (q == 0) = false := by rw [beq_eq_false_iff_ne]; exact hq
    clear hq
    go_wp2_with fail
    have r0 : w3.cell? ⟨w.heap.size, 0, none⟩ = some (.int .i64 0) := d0.cell 0
    have r1 : w3.cell? ⟨w.heap.size, 1, none⟩ = some (.int .i64 0) := d0.cell 1
    have r2 : w3.cell? ⟨w.heap.size, 2, none⟩ = some (.string ByteArray.empty) := d0.cell 2
    have fr0 := d0.free 0
    have fr1 := d0.free 1
    have fr2 := d0.free 2
    go_region_with (first | (go_at_call 36; refine (anyV_any _ _ _ _ hr3.drew (by omega)).mono ?_; rintro e w4 ⟨b, rfl, bk0, bk1, bn0, bn1, bs, hr4, hg4⟩; have DA := dA.drew.kept hg4 (by simp; omega); have z0 : w4.cell? ⟨w2.heap.size, 0, none⟩ = some (.int .i64 a.k) := DA.cell 0; have z1 : w4.cell? ⟨w2.heap.size, 1, none⟩ = some (.int .i64 a.n) := DA.cell 1; have z2 : w4.cell? ⟨w2.heap.size, 2, none⟩ = some (.string a.s) := DA.cell 2; have D0 := d0.drew.kept hg4 (by simp <;> omega); have D1 := d1.drew.kept hg4 (by simp <;> omega); have rr0 : w4.cell? ⟨w.heap.size, 0, none⟩ = some (.int .i64 0) := D0.cell 0; have rr1 : w4.cell? ⟨w.heap.size, 1, none⟩ = some (.int .i64 0) := D0.cell 1; have rr2 : w4.cell? ⟨w.heap.size, 2, none⟩ = some (.string ByteArray.empty) := D0.cell 2; have ff0 := D0.free 0; have ff1 := D0.free 1; have ff2 := D0.free 2; have ss0 : w4.cell? ⟨w.heap.size + 1, 0, none⟩ = some (.int .i64 0) := D1.cell 0; have ss1 : w4.cell? ⟨w.heap.size + 1, 1, none⟩ = some (.int .i64 0) := D1.cell 1; have ss2 : w4.cell? ⟨w.heap.size + 1, 2, none⟩ = some (.string ByteArray.empty) := D1.cell 2; have gg0 := D1.free 0; have gg1 := D1.free 1; have gg2 := D1.free 2))
    all_goals
      have hb4 : Below w.heap.size w w4 := below_of_grown hb3.drew hg4 (by omega) hb3.size
      generalize hF : World.setCell _ _ _ = wF
      have e0 : Blk wF w.heap.size 28 #[.int .i64 a.k, .int .i64 a.n, .string a.s] := by
        rw [← hF]
        exact blk_far3 (blk_set3 D0 _ _ _) (by omega) _ _ _
      have e1 : Blk wF (w.heap.size + 1) 28 #[.int .i64 b.k, .int .i64 b.n, .string b.s] := by
        rw [← hF]
        exact blk_set3 (blk_far3 D1 (by omega) _ _ _) _ _ _
      have hbF : Below w.heap.size w wF := by
        rw [← hF]
        exact (((((hb4.setCell (Nat.le_refl _) _).setCell (Nat.le_refl _) _).setCell (Nat.le_refl _) _).setCell (Nat.le_succ _) _).setCell (Nat.le_succ _) _).setCell (Nat.le_succ _) _
      clear hF r0 r1 r2 fr0 fr1 fr2 c0 c1 c2 z0 z1 z2 rr0 rr1 rr2 ff0 ff1 ff2 ss0 ss1 ss2 gg0 gg1 gg2
      have x0 : wF.cell? ⟨w.heap.size, 0, none⟩ = some (.int .i64 a.k) := e0.cell 0
      have x1 : wF.cell? ⟨w.heap.size, 1, none⟩ = some (.int .i64 a.n) := e0.cell 1
      have x2 : wF.cell? ⟨w.heap.size, 2, none⟩ = some (.string a.s) := e0.cell 2
      have y0 : wF.cell? ⟨w.heap.size + 1, 0, none⟩ = some (.int .i64 b.k) := e1.cell 0
      have y1 : wF.cell? ⟨w.heap.size + 1, 1, none⟩ = some (.int .i64 b.n) := e1.cell 1
      have y2 : wF.cell? ⟨w.heap.size + 1, 2, none⟩ = some (.string b.s) := e1.cell 2
      go_wp2_with fail
      refine bodyPost_ret (v := .tuple #[.agg #[.int .i64 a.k, .int .i64 a.n, .string a.s], .agg #[.int .i64 b.k, .int .i64 b.n, .string b.s]]) (by simp [results, Try.f21, go_sem, x0, x1, x2, y0, y1, y2] <;> rfl) rfl ?_
      exact ⟨a, b, rfl, hs, bs, hbF⟩

end Go.Proofs.Ytngmiaglbmkbcaa
