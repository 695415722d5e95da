/-
  Drawing a heap: at most seven pages, each of a row of its own. Conditions: the reader is one that newReader made.
-/
import Derived.Test.YtnhkpigakbiddaaPgS
import Derived.Test.YtnhkpigakbiddaaHeapG
namespace Go.Proofs.Ytnhkpigakbiddaa
open Go.RowKit
set_option linter.unusedVariables false
set_option linter.unusedSimpArgs false

theorem encG_one (x : Pg) : ∀ u ∈ encG x, u.oneCell' = true := by
  intro u hu
  simp [encG] at hu
  rcases hu with rfl
  rfl
/-- The pages' own rows. -/
def PgsQ (D : Nat) (w : World) (ps : List Pg) : Prop :=
  ∀ p ∈ ps, w.ownsRow D 43 2 (.slice p.A p.xs.length p.c) p.xs.length (p.xs.flatMap encP) ∧ SmQ 17 p.xs
theorem PgsQ.kept {D : Nat} {w w' : World} {ps : List Pg} {row : Option Nat} (h : PgsQ D w ps) (hg : w.grownBy w' row) (hr : ∀ g, row = some g → g < D) : PgsQ D w' ps :=
  fun p hp => ⟨ow_kept (h p hp).1 hg hr, (h p hp).2⟩
theorem PgsQ.below {D : Nat} {w w' : World} {ps : List Pg} (h : PgsQ D w ps) (hb : Below w.heap.size w w') : PgsQ D w' ps :=
  fun p hp => ⟨ow_below (h p hp).1 hb, (h p hp).2⟩
theorem PgsQ.app {D E n : Nat} {w w' : World} {ps : List Pg} {v : Value} {L : List Value} (h : PgsQ D w ps) (ho : w.ownsRow E 29 1 v n L) (hg : w.grownBy w' v.ownBlock) : PgsQ D w' ps := by
  intro p hp
  refine ⟨?_, (h p hp).2⟩
  rcases ho.2 with ⟨rfl, _⟩ | ⟨g, cap, cur, rfl, _, hh, _⟩
  · exact ow_kept (h p hp).1 hg (fun g e => by cases e)
  · exact World.ownsRow.kept (h p hp).1 hg (.inr (fun e => absurd (e.trans (by rfl)) (own_blk_ne (h p hp).1 (g := g) hh (by decide))))
theorem PgsQ.snoc {D : Nat} {w : World} {ps : List Pg} {p : Pg} (h : PgsQ D w ps) (ho : w.ownsRow D 43 2 (.slice p.A p.xs.length p.c) p.xs.length (p.xs.flatMap encP)) (hs : SmQ 17 p.xs) : PgsQ D w (ps ++ [p]) := by
  intro q hq
  rcases List.mem_append.1 hq with hq | hq
  · exact h q hq
  · obtain rfl := List.mem_singleton.1 hq
    exact ⟨ho, hs⟩
theorem PgsQ.rl {D : Nat} {w : World} {ps : List Pg} (h : PgsQ D w ps) : ∀ p ∈ ps, Rl encP 2 w p.A p.xs := fun p hp => by
  obtain ⟨a, c, hv, hL, -⟩ := ow_open (by omega) encP_len (h p hp).1
  obtain ⟨rfl, -⟩ : p.A = a ∧ p.c = c := by simpa using hv
  exact hL.rl
theorem PgsQ.small {D : Nat} {w : World} {ps : List Pg} (h : PgsQ D w ps) (hl : ps.length ≤ 7) : Small ps :=
  ⟨by omega, fun p hp => by
    have hs := (h p hp).2
    have := szs_bd hs.2 p.xs.length (Nat.le_refl _)
    have := hs.1
    exact ⟨by omega, by omega⟩⟩

def HeapQ (M B R N : Nat) (w : World) (e : Ending) (w' : World) : Prop :=
  ∃ v : Value, ∃ ps : List Pg, e = .returned (.agg #[v]) ∧ w'.ownsRow w.heap.size 29 1 v ps.length (ps.flatMap encG) ∧ PgsQ w.heap.size w' ps ∧ ps.length ≤ 7 ∧ Rdr w' B R (N + M) ∧ w.grownBy w' (some R)

theorem PgsQ.mono {D D' : Nat} {w : World} {ps : List Pg} (h : PgsQ D w ps) (hD : D' ≤ D) : PgsQ D' w ps := fun p hp => ⟨ow_mono (h p hp).1 hD, (h p hp).2⟩
theorem finH {w W : World} {B R N : Nat} {v r0 : Value} {ps : List Pg} (hown : W.ownsRow (w.heap.size + 1) 29 1 v ps.length (ps.flatMap encG)) (hp : PgsQ (w.heap.size + 1) W ps) (hl : ps.length ≤ 7) (kr : Blk W w.heap.size 46 #[r0]) (hr : Rdr W B R (N + 200)) (hg : w.grownBy W (some R)) (hR : R < w.heap.size) (hBR : B ≤ R) :
    HeapQ 200 B R N w (.returned (.agg #[v])) (W.setCell ⟨w.heap.size, 0, none⟩ v) ∧ Blk (W.setCell ⟨w.heap.size, 0, none⟩ v) w.heap.size 46 #[v] := by
  obtain ⟨kF, gF⟩ := res1 kr v
  exact ⟨⟨_, ps, rfl, ow_mono (ow_kept hown gF (fun q e => by cases e; omega)) (by omega), (hp.kept gF (fun q e => by cases e; omega)).mono (by omega), hl, hr.kept gF (fun q e => by cases e; omega), grown_own hg gF (fun q e => by cases e; omega)⟩, kF⟩

set_option maxRecDepth 4000 in
set_option maxHeartbeats 4000000 in
theorem anyH (B R N : Nat) (w : World) (h : Rdr w B R N) (hN : N ≤ 100) :
    Calls Try.prog 54 #[.pointer (some ⟨R, 0, none⟩)] w (HeapQ 200 B R N w) := by
  obtain ⟨i0, hi, hz0, hz1, hz2⟩ := info_parts infoPg
  have hi' := hide hi; have hz0' := hide hz0; have hz1' := hide hz1; have hz2' := hide hz2
  clear hi hz0 hz1 hz2
  have hR := h.lt
  have hBR := h.ge
  have kr := (Blk.new w 46 #[.slice none 0 0]).alloc (.cells #[] 29)
  have o0 := ow_empty (w.alloc (.cells #[.slice none 0 0] 46)) ((w.alloc (.cells #[.slice none 0 0] 46)).alloc (.cells #[] 29)) 29 1 (heap_alloc_new _ _)
  have h0 := (h.alloc (.cells #[.slice none 0 0] 46)).alloc (.cells #[] 29)
  have g0 : w.grownBy ((w.alloc (.cells #[.slice none 0 0] 46)).alloc (.cells #[] 29)) (some R) := grown_alloc (w.grownBy_alloc _ _) _
  have s0 : Hid (((w.alloc (.cells #[.slice none 0 0] 46)).alloc (.cells #[] 29)).heap.size = w.heap.size + 1 + 1) := by simp [Hid]
  simp only [World.size_alloc] at o0
  go_enter Try.func54, Try.ntmps54
  go_wp2_with fail
  generalize (w.alloc (.cells #[.slice none 0 0] 46)).alloc (.cells #[] 29) = w0 at kr o0 h0 g0 s0 ⊢
  refine (oneR_at 0 6 B R N 6 6 _ _ w0 s0.out h0 (by omega) (by kernel_rfl) (by rfl) (by omega) (by omega)).mono ?_
  rintro e w1 ⟨z, rfl, z0, z1, hr1, hg1⟩
  obtain ⟨n, rfl⟩ := Int.eq_ofNat_of_zero_le (show 0 ≤ z by omega)
  have o1 := ow_kept o0 hg1 (fun g e => by cases e; omega)
  have kr1 := kr.kept hg1 (by simp; omega)
  have g1 := grown_trans g0 hg1
  clear o0 h0 g0 hg1 s0 kr h
  go_wp2_with fail
  go_loopw [3, 4] (fun o u wr => ∃ (k : Nat) (z : Value) (ps : List Pg), u = .int .i64 k ∧ o = z ∧ ps.length + k ≤ 6 ∧ Hid (PgsQ (w.heap.size + 1) wr ps) ∧ wr.ownsRow (w.heap.size + 1) 29 1 z ps.length (ps.flatMap encG) ∧ Rdr wr B R (N + 1 + 20 * (6 - k)) ∧ w.grownBy wr (some R) ∧ Blk wr w.heap.size 46 #[.slice none 0 0]) (fun _ u _ => (intOf u).toNat)
  case atStart => exact ⟨n, _, [], rfl, rfl, by simp; omega, (fun v hv => by cases hv), o1, hr1.mono (by omega), g1, kr1⟩
  case round =>
    obtain ⟨k, z, ps, rfl, rfl, hl, hps, hown, hr, hg, hk⟩ := hrel
    clear o1 hr1 g1 kr1
    by_cases hp : 0 < k
    · have hp' : (0 : Int) < (k : Int) := by omega
      go_wp2_with fail
      refine (rndP B R _ wr hr (by omega)).mono ?_
      rintro e w2 ⟨v, xs, rfl, hown2, hsm, hr2, hg2⟩
      obtain ⟨a, m, c, rfl⟩ := own_form hown2
      have hpo := ow_kept hown hg2 (fun g e => by cases e; omega)
      have hps2 := hide (hps.out.kept hg2 (fun g e => by cases e; omega))
      have hk2 := hk.kept hg2 (by simp; omega)
      have hg2' := grown_trans hg hg2
      have hsz := hg2'.size
      obtain ⟨a', c', hv, hLx, -⟩ := ow_open (by omega) encP_len hown2
      obtain ⟨rfl, rfl, rfl⟩ : a = a' ∧ m = xs.length ∧ c = c' := by simpa using hv
      have hw2 := ow_mono (B' := w.heap.size + 1) hown2 (by have := hg.size; have := hk.lt; omega)
      have hge : ∀ k, u3.ownBlock = some k → w.heap.size + 1 ≤ k := fun k hk => ow_ge hpo hk
      have hs17 : SmQ 17 xs := ⟨by have := hsm.1; omega, hsm.2⟩
      have hps3 := hide (hps2.out.snoc (p := ⟨a, c, xs⟩) hw2 hs17)
      have hklt := hk2.lt
      clear hv hLx hg2 hg hr hps hown hown2 hk hps2
      go_wp2_with (first
        | (at_builtin; refine wpList_elem Try.underlying44 hi'.out hz0'.out hz1'.out hz2'.out rfl (by decide) (by decide) encG_len encG_one rfl _ _ rfl (w.heap.size + 1) _ ps rfl hpo ⟨a, c, xs⟩ _ rfl _ rfl rfl (by omega) (by omega) ?_; intro v' w3 hown' hg3; (have hps4 := hide (hps3.out.app hpo hg3))))
      go_roundw
      case rel => exact ⟨k - 1, _, ps ++ [⟨a, c, xs⟩], by rw [Value.int.injEq]; exact ⟨rfl, by omega⟩, rfl, by simp; omega, hps4, hown', (hr2.kept hg3 (fun g e => by have := hge g e; omega)).mono (by omega), grown_own hg2' hg3 (fun g e => by have := hge g e; omega), hk2.kept hg3 (fun e => by have := hge _ e.symm; omega)⟩
      case measure => simp [intOf]; omega
    · obtain rfl : k = 0 := by omega
      go_wp2_with fail
      refine (pick_any B R _ 24 wr hr (by omega) (by omega) (by omega)).mono ?_
      rintro e w2 ⟨q, rfl, q0, q1, hr2, hg2⟩
      have o2 := ow_kept hown hg2 (fun g e => by cases e; omega)
      have hps2 := hide (hps.out.kept hg2 (fun g e => by cases e; omega))
      have kr2 := hk.kept hg2 (by simp; omega)
      have g2 := grown_trans hg hg2
      have hl6 : ps.length ≤ 6 := by omega
      have hr2' := hr2.mono (M := N + 130) (by omega)
      clear hown hps hk hg hg2 hr hr2 q0 q1
      by_cases e0 : q = 0
      · subst e0
        go_wp2_with fail
        refine (anyP B R _ w2 hr2' (by omega)).mono ?_
        rintro e w3 ⟨v, xs, rfl, hown2, hsm, hr3, hg3⟩
        obtain ⟨a, m, c, rfl⟩ := own_form hown2
        have hpo := ow_kept o2 hg3 (fun g e => by cases e; omega)
        have hps3 := hide (hps2.out.kept hg3 (fun g e => by cases e; omega))
        have kr3 := kr2.kept hg3 (by simp; omega)
        have g3 := grown_trans g2 hg3
        obtain ⟨a', c', hv, hLx, -⟩ := ow_open (by omega) encP_len hown2
        obtain ⟨rfl, rfl, rfl⟩ : a = a' ∧ m = xs.length ∧ c = c' := by simpa using hv
        have hw2 := ow_mono (B' := w.heap.size + 1) hown2 (by have := kr2.lt; omega)
        have hge : ∀ k, u3.ownBlock = some k → w.heap.size + 1 ≤ k := fun k hk => ow_ge hpo hk
        have hps4 := hide (hps3.out.snoc (p := ⟨a, c, xs⟩) hw2 hsm)
        have hklt := kr3.lt
        clear hv hLx hg3 hps3 hown2 hps2 o2 kr2 g2 hr2'
        go_wp2_with (first
          | (at_builtin; refine wpList_elem Try.underlying44 hi'.out hz0'.out hz1'.out hz2'.out rfl (by decide) (by decide) encG_len encG_one rfl _ _ rfl (w.heap.size + 1) _ ps rfl hpo ⟨a, c, xs⟩ _ rfl _ rfl rfl (by omega) (by omega) ?_; intro v' w4 hown' hg4; (obtain ⟨va, vm, vc, rfl⟩ := own_form hown'); (have hps5 := hps4.out.app hpo hg4); (have kr4 := kr3.kept hg4 (fun e => by have := hge _ e.symm; omega)); (obtain ⟨fin, kF⟩ := finH (N := N) hown' hps5 (by simp; omega) kr4 ((hr3.kept hg4 (fun g e => by have := hge g e; omega)).mono (by omega)) (grown_own g3 hg4 (fun g e => by have := hge g e; omega)) hR hBR); (have fin' := hide fin); (have r0 : w4.cell? ⟨w.heap.size, 0, none⟩ = some (.slice none 0 0) := kr4.cell 0); (have f0 := kr4.free 0); clear fin hown' hps5))
        generalize hF : World.setCell _ _ _ = wF at kF fin' ⊢
        have y0 : wF.cell? ⟨w.heap.size, 0, none⟩ = some (.slice va vm vc) := kF.cell 0
        exact bodyPost_ret (v := .agg #[.slice va vm vc]) (by simp [results, Try.f54, go_sem, y0] <;> rfl) rfl fin'.out
      · by_cases e1 : q = 1
        · subst e1
          clear e0
          go_wp2_with fail
          go_loopw [3] (fun o wr => ∃ (z : Value) (ps : List Pg), o = z ∧ ps.length ≤ 7 ∧ Hid (PgsQ (w.heap.size + 1) wr ps) ∧ wr.ownsRow (w.heap.size + 1) 29 1 z ps.length (ps.flatMap encG) ∧ Rdr wr B R (N + 130) ∧ w.grownBy wr (some R) ∧ Blk wr w.heap.size 46 #[.slice none 0 0]) (fun o _ => 7 - lenV o)
          case atStart => exact ⟨_, ps, rfl, by omega, hps2, o2, hr2', g2, kr2⟩
          case round =>
            obtain ⟨z, ps, rfl, hl7, hps, hown, hr, hg, hk⟩ := hrel
            clear hps2 o2 hr2' g2 kr2 hl6 hl
            obtain ⟨a, c, rfl, hLp, -⟩ := ow_open (by omega) encG_len hown
            clear hLp
            have hklt := hk.lt
            have r0 : wr.cell? ⟨w.heap.size, 0, none⟩ = some (.slice none 0 0) := hk.cell 0
            have f0 := hk.free 0
            by_cases h7 : ps.length < 7
            · have h7' : (ps.length : Int) < 7 := by omega
              have hge : ∀ k, (Value.slice a ps.length c).ownBlock = some k → w.heap.size + 1 ≤ k := fun k hk => ow_ge hown hk
              go_wp2_with (first
                | (at_builtin; refine wpList_elem Try.underlying44 hi'.out hz0'.out hz1'.out hz2'.out rfl (by decide) (by decide) encG_len encG_one rfl _ _ rfl (w.heap.size + 1) _ ps rfl hown ⟨none, 0, []⟩ _ rfl _ rfl rfl (by omega) (by omega) ?_; intro v' w4 hown' hg4; (have hps4 := hps.out.app hown hg4); (have kr4 := hk.kept hg4 (fun e => by have := hge _ e.symm; omega)); (have hps5 : Hid (PgsQ (w.heap.size + 1) w4 (ps ++ [⟨none, 0, []⟩])) := hps4.snoc (ow_nil _ _ _ _) ⟨by simp, fun x hx => by cases hx⟩); (have hr4 := hr.kept hg4 (fun g e => by have := hge g e; omega)); (have g4 := grown_own hg hg4 (fun g e => by have := hge g e; omega)); clear hps4))
              obtain ⟨va, vm, vc, rfl⟩ := own_form hown'
              go_roundw
              case rel => exact ⟨_, ps ++ [⟨none, 0, []⟩], rfl, by simp; omega, hps5, hown', hr4, g4, kr4⟩
              case measure =>
                obtain ⟨a', c', hv, -, -⟩ := ow_open (by omega) encG_len hown'
                obtain ⟨-, rfl, -⟩ : va = a' ∧ vm = (ps ++ [(⟨none, 0, []⟩ : Pg)]).length ∧ vc = c' := by simpa using hv
                simp [lenV]; omega
            · have h7' : ¬ ((ps.length : Int) < 7) := by omega
              obtain ⟨fin, kF⟩ := finH (N := N) hown hps.out hl7 hk (hr.mono (by omega)) hg hR hBR
              have fin' := hide fin
              clear fin hown hps hk hr hg
              go_wp2_with fail
              generalize hF : World.setCell _ _ _ = wF at kF fin' ⊢
              have y0 : wF.cell? ⟨w.heap.size, 0, none⟩ = some (.slice a ps.length c) := kF.cell 0
              exact bodyPost_ret (v := .agg #[(.slice a ps.length c)]) (by simp [results, Try.f54, go_sem, y0] <;> rfl) rfl fin'.out
        · obtain ⟨va, vm, vc, rfl⟩ := own_form o2
          obtain ⟨fin, kF⟩ := finH (N := N) o2 hps2.out (by omega) kr2 (hr2'.mono (by omega)) g2 hR hBR
          have fin' := hide fin
          have r0 : w2.cell? ⟨w.heap.size, 0, none⟩ = some (.slice none 0 0) := kr2.cell 0
          have f0 := kr2.free 0
          clear fin o2 hps2 kr2 hr2' g2
          go_wp2_with fail
          generalize hF : World.setCell _ _ _ = wF at kF fin' ⊢
          have y0 : wF.cell? ⟨w.heap.size, 0, none⟩ = some (.slice va vm vc) := kF.cell 0
          exact bodyPost_ret (v := .agg #[.slice va vm vc]) (by simp [results, Try.f54, go_sem, y0] <;> rfl) rfl fin'.out

end Go.Proofs.Ytnhkpigakbiddaa
