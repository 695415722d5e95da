/-
  Drawing a value: randomValue, anyValue: they hand back some value of bounded parts. Conditions: the reader is one that newReader made.
-/
import Derived.Test.YtngmiaglbmkbcaaDoorDrawS
import Derived.Test.YtngmiaglbmkbcaaDoorCmp
namespace Go.Proofs.YtngmiaglbmkbcaaDoor
open Go.RowKit
set_option linter.unusedVariables false
set_option linter.unusedSimpArgs false

/-- A number of -1000000..1000000. -/
def intM : Value → Bool | .int .i64 z => decide (-1000000 ≤ z) && decide (z ≤ 1000000) | _ => false
theorem intM_at {arr : Array Value} (h : arr.all intM = true) {k : Nat} (hk : k < arr.size) : ∃ z, arr[k]? = some (.int .i64 z) ∧ -1000000 ≤ z ∧ z ≤ 1000000 := by
  have := Array.all_eq_true.1 h k hk
  rw [Array.getElem?_eq_getElem hk]
  cases hv : arr[k] with
  | int q z =>
    rw [hv] at this
    cases q <;> simp [intM] at this
    exact ⟨z, rfl, this⟩
  | _ => rw [hv] at this; simp [intM] at this
def DrawnM (B R N : Nat) (w : World) (e : Ending) (w' : World) : Prop :=
  ∃ z : Int, e = .returned (.int .i64 z) ∧ -1000000 ≤ z ∧ z ≤ 1000000 ∧ Rdr w' B R (N + 1) ∧ w.grownBy w' (some R)
theorem oneM_any (B R N n c : Nat) (arr : Array Value) (w : World) (h : Rdr w B R N) (hN : N ≤ 1000000) (ha : arr.all intM = true) (hn : arr.size = n) (h0 : 0 < n) (hm : n ≤ 1000000) :
    Calls Tryd.prog 24 #[.pointer (some ⟨R, 0, none⟩), .slice (some ⟨w.heap.size, 0, none⟩) n c] (w.alloc (.cells arr 3)) (DrawnM B R N w) := by
  have hR := h.lt
  have hb := Blk.new w 3 arr
  have hr' := h.alloc (.cells arr 3)
  have hg0 := w.grownBy_alloc (.cells arr 3) (some R)
  subst hn
  generalize w.alloc (.cells arr 3) = w0 at hb hr' hg0
  go_enter Tryd.func24, Tryd.ntmps24
  go_wp2_with fail
  refine (pick_any B R N _ w0 hr' (by omega) (by omega) (by omega)).mono ?_
  rintro e w' ⟨v, rfl, v0, v1, hr, hgr⟩
  obtain ⟨k, rfl⟩ := Int.eq_ofNat_of_zero_le v0
  have hk : k < arr.size := by omega
  obtain ⟨s, hs, hM⟩ := intM_at ha hk
  have hb' := hb.kept hgr (by simp; omega)
  have ck : w'.cell? ⟨w.heap.size, k, none⟩ = some (.int .i64 s) := (hb'.cell k).trans hs
  clear hs hb hb' ha v1
  go_wp2
  go_ret
  exact ⟨s, rfl, hM.1, hM.2, hr, grown_trans hg0 hgr⟩

theorem Rdr.set {w : World} {B R N G i : Nat} {u : Value} (h : Rdr w B R N) (hG : G ≠ R) (hB : B ≤ G) : Rdr (w.setCell ⟨G, i, none⟩ u) B R N :=
  h.kept (grown_set (g := G) (World.grownBy.refl _ _) (.inl rfl) u) (fun g e => by cases e; exact ⟨hB, hG⟩)
def DrawnV (B R N : Nat) (w : World) (e : Ending) (w' : World) : Prop :=
  ∃ v : Vl, e = .returned (.agg #[.int .i64 v.k, .int .i64 v.n, .string v.s]) ∧ -1 ≤ v.k ∧ v.k ≤ 3 ∧ -1000000 ≤ v.n ∧ v.n ≤ 1000000 ∧ v.s.size ≤ 13 ∧ Rdr w' B R (N + 4) ∧ w.grownBy w' (some R)

set_option maxHeartbeats 1000000 in
theorem random_any (B R N : Nat) (w : World) (h : Rdr w B R N) (hN : N ≤ 100000) :
    Calls Tryd.prog 22 #[.pointer (some ⟨R, 0, none⟩), .int .i64 (-1)] w (DrawnV B R N w) := by
  have hR := h.lt
  have zv : Blk (w.alloc (.cells #[.int .i64 0, .int .i64 0, .string ByteArray.empty] 25)) w.heap.size 25 #[.int .i64 0, .int .i64 0, .string ByteArray.empty] := Blk.new _ _ _
  have h0 := h.alloc (.cells #[.int .i64 0, .int .i64 0, .string ByteArray.empty] 25)
  have g0 := w.grownBy_alloc (.cells #[.int .i64 0, .int .i64 0, .string ByteArray.empty] 25) (some R)
  go_enter Tryd.func22, Tryd.ntmps22
  go_wp2_with fail
  refine (pick_any B R N _ _ h0 (by omega) (by omega) (by omega)).mono ?_
  rintro e w1 ⟨q, rfl, q0, q1, hr1, hg1⟩
  have q3 : q < 3 := by omega
  have b1 := zv.kept hg1 (by simp; omega)
  have g1 := grown_trans g0 hg1
  clear q1 hg1 h0 g0 zv
  go_wp2_with fail
  refine (pick_any B R (N + 1) _ _ hr1 (by omega) (by omega) (by omega)).mono ?_
  rintro e w2 ⟨p, rfl, p0, p1, hr2, hg2⟩
  have b2 := b1.kept hg2 (by simp; omega)
  have g2 := grown_trans g1 hg2
  clear p1 hg2 b1 g1 hr1
  have hBR := h.ge
  have fin : ∀ (w3 : World) (M : Nat) (v : Vl), M ≤ N + 4 → -1 ≤ v.k → v.k ≤ 3 → -1000000 ≤ v.n → v.n ≤ 1000000 → v.s.size ≤ 13 → Rdr w3 B R M → w.grownBy w3 (some R) →
      DrawnV B R N w (.returned (.agg #[.int .i64 v.k, .int .i64 v.n, .string v.s])) (((w3.setCell ⟨w.heap.size, 0, none⟩ (.int .i64 v.k)).setCell ⟨w.heap.size, 1, none⟩ (.int .i64 v.n)).setCell ⟨w.heap.size, 2, none⟩ (.string v.s)) := fun w3 M v hM a b c d e f g =>
    ⟨v, rfl, a, b, c, d, e, (((f.mono hM).set (by omega) (by omega)).set (by omega) (by omega)).set (by omega) (by omega), grown_set (grown_set (grown_set g (.inr (Nat.le_refl _)) _) (.inr (Nat.le_refl _)) _) (.inr (Nat.le_refl _)) _⟩
  have fin' := hide fin
  clear fin
  by_cases hp : p = 0
  · subst hp
    have c0 : w2.cell? ⟨w.heap.size, 0, none⟩ = some (.int .i64 0) := b2.cell 0
    have c1 : w2.cell? ⟨w.heap.size, 1, none⟩ = some (.int .i64 0) := b2.cell 1
    have c2 : w2.cell? ⟨w.heap.size, 2, none⟩ = some (.string ByteArray.empty) := b2.cell 2
    have f0 := b2.free 0
    have f1 := b2.free 1
    have f2 := b2.free 2
    have s0 := fun u => World.cell?_setCell_same' w2 ⟨w.heap.size, 0, none⟩ u (by rw [c0]; rfl)
    have s1 := fun u u' => World.cell?_setCell_same' (w2.setCell ⟨w.heap.size, 0, none⟩ u') ⟨w.heap.size, 1, none⟩ u (by rw [World.cell?_setCell_other _ _ _ _ (by simp), c1]; rfl)
    have s2 := fun u u' u'' => World.cell?_setCell_same' ((w2.setCell ⟨w.heap.size, 0, none⟩ u').setCell ⟨w.heap.size, 1, none⟩ u'') ⟨w.heap.size, 2, none⟩ u (by rw [World.cell?_setCell_other _ _ _ _ (by simp), World.cell?_setCell_other _ _ _ _ (by simp), c2]; rfl)
    go_wp2_with fail
    refine bodyPost_ret (v := .agg #[.int .i64 0, .int .i64 0, .string ByteArray.empty]) (by simp [results, Tryd.f22, go_sem, c0, c1, c2, s0, s1, s2] <;> rfl) rfl ?_
    exact fin'.out w2 _ ⟨0, 0, ByteArray.empty⟩ (by omega) (by simp <;> omega) (by simp <;> omega) (by simp <;> omega) (by simp <;> omega) (by first | decide | (simp <;> omega)) hr2 g2
  · have np : (p == 0) = false := by rw [beq_eq_false_iff_ne]; exact hp
    clear hp
    have qq : q = 0 ∨ q = 1 ∨ q = 2 := by omega
    rcases qq with rfl | rfl | rfl
    · have c0 : w2.cell? ⟨w.heap.size, 0, none⟩ = some (.int .i64 0) := b2.cell 0
      have c1 : w2.cell? ⟨w.heap.size, 1, none⟩ = some (.int .i64 0) := b2.cell 1
      have c2 : w2.cell? ⟨w.heap.size, 2, none⟩ = some (.string ByteArray.empty) := b2.cell 2
      have f0 := b2.free 0
      have f1 := b2.free 1
      have f2 := b2.free 2
      have s0 := fun u => World.cell?_setCell_same' w2 ⟨w.heap.size, 0, none⟩ u (by rw [c0]; rfl)
      have s1 := fun u u' => World.cell?_setCell_same' (w2.setCell ⟨w.heap.size, 0, none⟩ u') ⟨w.heap.size, 1, none⟩ u (by rw [World.cell?_setCell_other _ _ _ _ (by simp), c1]; rfl)
      have s2 := fun u u' u'' => World.cell?_setCell_same' ((w2.setCell ⟨w.heap.size, 0, none⟩ u').setCell ⟨w.heap.size, 1, none⟩ u'') ⟨w.heap.size, 2, none⟩ u (by rw [World.cell?_setCell_other _ _ _ _ (by simp), World.cell?_setCell_other _ _ _ _ (by simp), c2]; rfl)
      go_wp2_with fail
      refine bodyPost_ret (v := .agg #[.int .i64 0, .int .i64 0, .string ByteArray.empty]) (by simp [results, Tryd.f22, go_sem, c0, c1, c2, s0, s1, s2] <;> rfl) rfl ?_
      exact fin'.out w2 _ ⟨0, 0, ByteArray.empty⟩ (by omega) (by simp <;> omega) (by simp <;> omega) (by simp <;> omega) (by simp <;> omega) (by first | decide | (simp <;> omega)) hr2 g2
    · go_wp2_with fail
      refine (pick_any B R _ _ w2 hr2 (by omega) (by omega) (by omega)).mono ?_
      rintro e w3 ⟨x, rfl, x0, x1, hr3, hg3⟩
      have x2 : x < 250 := by omega
      have b3 := b2.kept hg3 (by simp; omega)
      have g3 := grown_trans g2 hg3
      clear x1 hg3 b2 g2 hr2
      go_wp2_with fail
      refine (oneM_any B R _ 11 11 _ w3 hr3 (by omega) (by simp [intM]; omega) (by rfl) (by omega) (by omega)).mono ?_
      rintro e w4 ⟨z, rfl, z0, z1, hr4, hg4⟩
      have b4 := b3.kept hg4 (by simp; omega)
      have g4 := grown_trans g3 hg4
      clear hg4 b3 g3 hr3
      have c0 : w4.cell? ⟨w.heap.size, 0, none⟩ = some (.int .i64 0) := b4.cell 0
      have c1 : w4.cell? ⟨w.heap.size, 1, none⟩ = some (.int .i64 0) := b4.cell 1
      have c2 : w4.cell? ⟨w.heap.size, 2, none⟩ = some (.string ByteArray.empty) := b4.cell 2
      have f0 := b4.free 0
      have f1 := b4.free 1
      have f2 := b4.free 2
      have s0 := fun u => World.cell?_setCell_same' w4 ⟨w.heap.size, 0, none⟩ u (by rw [c0]; rfl)
      have s1 := fun u u' => World.cell?_setCell_same' (w4.setCell ⟨w.heap.size, 0, none⟩ u') ⟨w.heap.size, 1, none⟩ u (by rw [World.cell?_setCell_other _ _ _ _ (by simp), c1]; rfl)
      have s2 := fun u u' u'' => World.cell?_setCell_same' ((w4.setCell ⟨w.heap.size, 0, none⟩ u').setCell ⟨w.heap.size, 1, none⟩ u'') ⟨w.heap.size, 2, none⟩ u (by rw [World.cell?_setCell_other _ _ _ _ (by simp), World.cell?_setCell_other _ _ _ _ (by simp), c2]; rfl)
      go_wp2_with fail
      refine bodyPost_ret (v := .agg #[.int .i64 1, .int .i64 z, .string ByteArray.empty]) (by simp [results, Tryd.f22, go_sem, c0, c1, c2, s0, s1, s2] <;> rfl) rfl ?_
      exact fin'.out w4 _ ⟨1, z, ByteArray.empty⟩ (by omega) (by simp <;> omega) (by simp <;> omega) (by simp <;> omega) (by simp <;> omega) (by first | decide | (simp <;> omega)) hr4 g4
    · go_wp2_with fail
      refine (of_any 12 B R _ 10 10 _ w2 hr2 (by omega) (by kernel_rfl) (by rfl) (by omega) (by omega)).mono ?_
      rintro e w3 ⟨y, rfl, hy, hr3, hg3⟩
      have b3 := b2.kept hg3 (by simp; omega)
      have g3 := grown_trans g2 hg3
      clear hg3 b2 g2 hr2
      have c0 : w3.cell? ⟨w.heap.size, 0, none⟩ = some (.int .i64 0) := b3.cell 0
      have c1 : w3.cell? ⟨w.heap.size, 1, none⟩ = some (.int .i64 0) := b3.cell 1
      have c2 : w3.cell? ⟨w.heap.size, 2, none⟩ = some (.string ByteArray.empty) := b3.cell 2
      have f0 := b3.free 0
      have f1 := b3.free 1
      have f2 := b3.free 2
      have s0 := fun u => World.cell?_setCell_same' w3 ⟨w.heap.size, 0, none⟩ u (by rw [c0]; rfl)
      have s1 := fun u u' => World.cell?_setCell_same' (w3.setCell ⟨w.heap.size, 0, none⟩ u') ⟨w.heap.size, 1, none⟩ u (by rw [World.cell?_setCell_other _ _ _ _ (by simp), c1]; rfl)
      have s2 := fun u u' u'' => World.cell?_setCell_same' ((w3.setCell ⟨w.heap.size, 0, none⟩ u').setCell ⟨w.heap.size, 1, none⟩ u'') ⟨w.heap.size, 2, none⟩ u (by rw [World.cell?_setCell_other _ _ _ _ (by simp), World.cell?_setCell_other _ _ _ _ (by simp), c2]; rfl)
      go_wp2_with fail
      refine bodyPost_ret (v := .agg #[.int .i64 2, .int .i64 0, .string y]) (by simp [results, Tryd.f22, go_sem, c0, c1, c2, s0, s1, s2] <;> rfl) rfl ?_
      exact fin'.out w3 _ ⟨2, 0, y⟩ (by omega) (by simp <;> omega) (by simp <;> omega) (by simp <;> omega) (by simp <;> omega) (by first | decide | (simp <;> omega)) hr3 g3

end Go.Proofs.YtngmiaglbmkbcaaDoor
