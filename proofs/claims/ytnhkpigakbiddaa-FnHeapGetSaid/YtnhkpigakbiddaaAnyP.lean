/-
  Drawing a page of any kind: at most seventeen slots with bounded texts. Conditions: the reader is one that newReader made.
-/
import Derived.Test.YtnhkpigakbiddaaRndP
namespace Go.Proofs.Ytnhkpigakbiddaa
open Go.RowKit
set_option linter.unusedVariables false
set_option linter.unusedSimpArgs false

def SmQ (n : Nat) (xs : List Sl) : Prop := xs.length ≤ n ∧ ∀ x ∈ xs, x.d.size ≤ 60
theorem SmQ.snoc {n : Nat} {xs : List Sl} {y : Sl} (h : SmQ n xs) (hy : y.d.size ≤ 60) : SmQ (n + 1) (xs ++ [y]) := by
  refine ⟨by have := h.1; simp; omega, fun x hx => ?_⟩
  rcases List.mem_append.1 hx with hx | hx
  · exact h.2 x hx
  · obtain rfl := List.mem_singleton.1 hx
    exact hy
def PageQ (M B R N : Nat) (w : World) (e : Ending) (w' : World) : Prop :=
  ∃ v : Value, ∃ xs : List Sl, e = .returned (.agg #[v]) ∧ w'.ownsRow w.heap.size 43 2 v xs.length (xs.flatMap encP) ∧ SmQ 17 xs ∧ Rdr w' B R (N + M) ∧ w.grownBy w' (some R)

theorem stepQ {w W W' : World} {B R M T r D : Nat} {v : Value} {n : Nat} {L : List Value} {cs rs : Array Value} (hown : W.ownsRow D 43 2 v n L) (kp : Blk W T 29 cs) (kr : Blk W r 29 rs) (hr : Rdr W B R M) (hg : w.grownBy W (some R)) (hg3 : W.grownBy W' v.ownBlock) (hR : R < D) (hw : w.heap.size ≤ D) (hBR : B ≤ R) :
    Blk W' T 29 cs ∧ Blk W' r 29 rs ∧ Rdr W' B R M ∧ w.grownBy W' (some R) :=
  ⟨kp.kept hg3 (fun e => own_blk_ne hown kp (by decide) e.symm), kr.kept hg3 (fun e => own_blk_ne hown kr (by decide) e.symm), hr.kept hg3 (fun q e => by have := ow_ge hown e; omega), grown_own hg hg3 (fun q e => by have := ow_ge hown e; omega)⟩
theorem finQ {w W : World} {B R N : Nat} {v r0 : Value} {ys : List Sl} (hown : W.ownsRow (w.heap.size + 1) 43 2 v ys.length (ys.flatMap encP)) (hs : SmQ 17 ys) (kr : Blk W w.heap.size 29 #[r0]) (hr : Rdr W B R (N + 21)) (hg : w.grownBy W (some R)) (hR : R < w.heap.size) (hBR : B ≤ R) :
    PageQ 21 B R N w (.returned (.agg #[v])) (W.setCell ⟨w.heap.size, 0, none⟩ v) ∧ Blk (W.setCell ⟨w.heap.size, 0, none⟩ v) w.heap.size 29 #[v] := by
  obtain ⟨kF, gF⟩ := res1 kr v
  exact ⟨⟨_, ys, rfl, ow_mono (ow_kept hown gF (fun q e => by cases e; omega)) (by omega), hs, hr.kept gF (fun q e => by cases e; omega), grown_own hg gF (fun q e => by cases e; omega)⟩, kF⟩
theorem setQ {w W : World} {B R M T r D : Nat} {v p0 : Value} {n : Nat} {L : List Value} {rs : Array Value} (hown : W.ownsRow D 43 2 v n L) (kp : Blk W T 29 #[p0]) (kr : Blk W r 29 rs) (hr : Rdr W B R M) (hg : w.grownBy W (some R)) (hRT : R ≠ T) (hrT : r ≠ T) (hw : w.heap.size ≤ T) (hBR : B ≤ R) (hRw : R < w.heap.size) :
    (W.setCell ⟨T, 0, none⟩ v).ownsRow D 43 2 v n L ∧ Blk (W.setCell ⟨T, 0, none⟩ v) T 29 #[v] ∧ Blk (W.setCell ⟨T, 0, none⟩ v) r 29 rs ∧ Rdr (W.setCell ⟨T, 0, none⟩ v) B R M ∧ w.grownBy (W.setCell ⟨T, 0, none⟩ v) (some R) := by
  obtain ⟨kF, gF⟩ := res1 kp v
  exact ⟨World.ownsRow.kept hown gF (.inr (fun e => absurd e (own_blk_ne hown kp (by decide)))), kF, kr.kept gF (by simp; omega), hr.kept gF (fun q e => by cases e; omega), grown_own hg gF (fun q e => by cases e; omega)⟩

theorem wpList_rowQ {P : Program} {ops : Array Oper} {rest : List Oper} {o : Oper} {a : Act} {Q : Exit → Act → World → Prop} {w0 : World} {α : Type} {enc : α → List Value} {size bytes : Nat} {t e : TypeId} {i : TypeInfo} {z : Value}
    (ht : P.underlying t = some (.slice e)) (hi : P.info? e = some i) (hz : i.zero = some z) (hsize : i.size = size) (hby : i.bytes = bytes) (hzs : z.cells.size = size) (hsz : 0 < size) (hb : bytes ≤ 64)
    (henc : ∀ x, (enc x).length = size) (hone : ∀ x, ∀ u ∈ enc x, u.oneCell' = true) (hgd : o.guard = none) (s x : Operand) (ho : o.op = .call { callee := .builtin .append, args := #[s, x], argTypes := #[t, t] })
    (base : Nat) (v : Value) (n : Nat) (L : List Value) (hs : a.eval s = v) (hown : w0.ownsRow base e size v n L) (hn : n ≤ 10000) (hbase : base ≤ w0.heap.size) (A : Option Addr) (c : Nat) (xs : List α) (hx : a.eval x = .slice A xs.length c) (hA : A = none → c = 0) (hr : Rl enc size w0 A xs) (hl : xs.length ≤ 10000)
    (h : ∀ v' w', w'.ownsRow base e size v' (n + xs.length) (L ++ xs.flatMap enc) → w0.grownBy w' v.ownBlock → wpList P ops Q rest (a.put o.dst v') w') : wpList P ops Q (o :: rest) a w0 := by
  cases A with
  | none =>
    obtain rfl := rl_none hr
    obtain rfl := hA rfl
    exact wpList_append_own_none hgd s x t ho base e i size ht hi _ n L hs hown hx (h _ _ (by simpa using hown) (World.grownBy.refl _ _))
  | some ad =>
    have hbytes : (n + xs.length) * bytes ≤ 20000 * 64 := Nat.mul_le_mul (by omega) hb
    refine wpList_append_own _ hgd s x t ho base e i z size bytes ht hi hz hsize hby hzs hsz _ n L hs hown ad xs.length c (xs.flatMap enc) hx (by rw [length_flatMap_size henc]) (hr.flat henc hsz) (one_flat hone xs) (by unfold maxLen; omega) (by omega) (by omega) (fun v' w' ho' hg _ => h v' w' ho' hg)
theorem litQ {w : World} {t : TypeId} (y : Sl) {G : Nat} (hG : w.heap.size = G) : (w.alloc (.cells #[.bool y.l, .string y.d] t)).ownsRow G t 2 (.slice (some ⟨G, 0, none⟩) 1 1) 1 (encP y) :=
  ⟨by simp [encP], .inr ⟨G, 1, #[.bool y.l, .string y.d], rfl, Nat.le_refl _, blk_at hG, by omega, by unfold maxLen; omega, by simp, by simp [encP]⟩⟩
theorem consQ {w : World} {D t : Nat} {v : Value} {y : Sl} {xs : List Sl} (h : w.ownsRow D t 2 v (1 + xs.length) (encP y ++ xs.flatMap encP)) : w.ownsRow D t 2 v (y :: xs).length ((y :: xs).flatMap encP) := by
  rw [List.length_cons, List.flatMap_cons, Nat.add_comm]
  exact h
theorem SmQ.cons {n : Nat} {xs : List Sl} {y : Sl} (h : SmQ n xs) (hy : y.d.size ≤ 60) : SmQ (n + 1) (y :: xs) := by
  refine ⟨by have := h.1; simp; omega, fun x hx => ?_⟩
  rcases List.mem_cons.1 hx with rfl | hx
  · exact hy
  · exact h.2 x hx
theorem SmQ.mono {n m : Nat} {xs : List Sl} (h : SmQ n xs) (hm : n ≤ m) : SmQ m xs := ⟨by have := h.1; omega, h.2⟩

set_option maxRecDepth 4000 in
set_option maxHeartbeats 4000000 in
theorem anyP (B R N : Nat) (w : World) (h : Rdr w B R N) (hN : N ≤ 400) :
    Calls Try.prog 51 #[.pointer (some ⟨R, 0, none⟩)] w (PageQ 21 B R N w) := by
  obtain ⟨i0, hi, hz0, hz1, hz2⟩ := info_parts infoSl
  have hi' := hide hi; have hz0' := hide hz0; have hz1' := hide hz1; have hz2' := hide hz2
  clear hi hz0 hz1 hz2
  have hR := h.lt
  have hBR := h.ge
  have kr := Blk.new w 29 #[.slice none 0 0]
  have h0 := h.alloc (.cells #[.slice none 0 0] 29)
  have g0 : w.grownBy (w.alloc (.cells #[.slice none 0 0] 29)) (some R) := w.grownBy_alloc _ _
  have s0 : Hid ((w.alloc (.cells #[.slice none 0 0] 29)).heap.size = w.heap.size + 1) := by simp [Hid]
  go_enter Try.func51, Try.ntmps51
  go_wp2_with fail
  generalize w.alloc (.cells #[.slice none 0 0] 29) = w0 at kr h0 g0 s0 ⊢
  refine (rndP B R N w0 h0 (by omega)).mono ?_
  rintro e w1 ⟨v, xs, rfl, hown, hsm, hr1, hg1⟩
  have kr1 := kr.kept hg1 (by simp; omega)
  have g1 := grown_trans g0 hg1
  have hz1 : w.heap.size + 1 ≤ w1.heap.size := by have := s0.out; have := hg1.size; omega
  have hownA := ow_mono (B' := w.heap.size + 1) hown (by have := s0.out; omega)
  obtain ⟨va, vm, vc, rfl⟩ := own_form hownA
  clear h0 g0 hg1 s0 kr h hown
  go_wp2_with fail
  have kp1 := Blk.new w1 29 #[.slice va vm vc]
  have kr2 := kr1.alloc (.cells #[.slice va vm vc] 29)
  have hr2 := hr1.alloc (.cells #[.slice va vm vc] 29)
  have g2 := grown_alloc g1 (.cells #[.slice va vm vc] 29)
  have hown2 := ow_below hownA ((Below.refl _ _).alloc (Nat.le_refl _) (.cells #[.slice va vm vc] 29))
  generalize w1.alloc (.cells #[.slice va vm vc] 29) = w2 at kp1 kr2 hr2 g2 hown2 ⊢
  generalize w1.heap.size = T at kp1 hz1 ⊢
  clear hr1 kr1 g1 hownA w1 w0
  refine (pick_any B R _ 20 w2 hr2 (by omega) (by omega) (by omega)).mono ?_
  rintro e w3 ⟨q, rfl, q0, q1, hr3, hg3⟩
  have hRT : R ≠ T := by omega
  have hrT : w.heap.size ≠ T := by omega
  have kr3 := kr2.kept hg3 (by simp; omega)
  have kp3 := kp1.kept hg3 (by simp; omega)
  have hown3 := ow_kept hown2 hg3 (fun g e => by cases e; omega)
  have g3 := grown_trans g2 hg3
  have hz3 : w.heap.size + 1 ≤ w3.heap.size := by have := kp3.lt; omega
  have cp3 : w3.cell? ⟨T, 0, none⟩ = some (.slice va vm vc) := kp3.cell 0
  have fp3 := kp3.free 0
  have cr3 : w3.cell? ⟨w.heap.size, 0, none⟩ = some (.slice none 0 0) := kr3.cell 0
  have fr3 := kr3.free 0
  have hl8 : xs.length ≤ 8 := hsm.1
  have hq8 : SmQ 8 xs := hsm
  clear hr2 kr2 kp1 g2 hown2 hg3
  by_cases e0 : q = 0
  · subst e0
    go_wp2_with (first
      | (at_builtin; refine wpList_elem Try.underlying27 hi'.out hz0'.out hz1'.out hz2'.out rfl (by decide) (by decide) encP_len encP_one rfl _ _ rfl (w.heap.size + 1) _ xs rfl hown3 ⟨false, ByteArray.empty⟩ _ rfl _ rfl rfl (by omega) hz3 ?_; intro v4 w4 hown4 hg4; (obtain ⟨kp4, kr4, hr4, g4⟩ := stepQ hown3 kp3 kr3 hr3 g3 hg4 (by omega) (by omega) hBR); (obtain ⟨va4, vm4, vc4, rfl⟩ := own_form hown4); (obtain ⟨hown5, kp5, kr5, hr5, g5⟩ := setQ hown4 kp4 kr4 hr4 g4 hRT hrT (by omega) hBR hR); (obtain ⟨fin, kF⟩ := finQ (N := N) hown5 ((hq8.snoc (y := ⟨false, ByteArray.empty⟩) (by decide)).mono (by omega)) kr5 (hr5.mono (by omega)) g5 hR hBR); (have fin' := hide fin); (have c4 : w4.cell? ⟨T, 0, none⟩ = some (.slice va vm vc) := kp4.cell 0); (have f4 := kp4.free 0); (have c5 : World.cell? _ ⟨w.heap.size, 0, none⟩ = some (.slice none 0 0) := kr5.cell 0); (have c6 : World.cell? _ ⟨T, 0, none⟩ = some (.slice va4 vm4 vc4) := kp5.cell 0); (have f5 := kr5.free 0); clear fin hown5 kp5 kr5 hr5 g5 hown4 kp4 kr4 hr4 g4 hg4))
    generalize hF : World.setCell (World.setCell _ _ _) _ _ = wF at kF fin' ⊢
    have y0 : wF.cell? ⟨w.heap.size, 0, none⟩ = some (.slice va4 vm4 vc4) := kF.cell 0
    exact bodyPost_ret (v := .agg #[.slice va4 vm4 vc4]) (by simp [results, Try.f51, go_sem, y0] <;> rfl) rfl fin'.out
  by_cases e1 : q = 1
  · subst e1
    clear e0
    obtain ⟨a', c', hv, hLst, -⟩ := ow_open (by omega) encP_len hown3
    obtain ⟨rfl, rfl, rfl⟩ : va = a' ∧ vm = xs.length ∧ vc = c' := by simpa using hv
    clear hv
    have hAn : Hid (va = none → vc = 0) := fun e => by subst e; exact own_none hown3
    have hrl := hLst.rl.alloc (.cells #[.bool false, .string ⟨#[120]⟩] 43)
    have hlit := litQ (w := w3) (t := 43) ⟨false, ⟨#[120]⟩⟩ rfl
    have kpA := kp3.alloc (.cells #[.bool false, .string ⟨#[120]⟩] 43)
    have krA := kr3.alloc (.cells #[.bool false, .string ⟨#[120]⟩] 43)
    have hrA := hr3.alloc (.cells #[.bool false, .string ⟨#[120]⟩] 43)
    have gA := grown_alloc g3 (.cells #[.bool false, .string ⟨#[120]⟩] 43)
    have cA : (w3.alloc (.cells #[.bool false, .string ⟨#[120]⟩] 43)).cell? ⟨T, 0, none⟩ = some (.slice va xs.length vc) := kpA.cell 0
    clear hLst
    go_wp2_with (first
      | (at_builtin; refine wpList_rowQ Try.underlying27 hi'.out hz0'.out hz1'.out hz2'.out rfl (by decide) (by decide) encP_len encP_one rfl _ _ rfl w3.heap.size _ 1 _ rfl hlit (by omega) (by simp) va vc xs rfl hAn.out hrl (by omega) ?_; intro v4 w4 hown4 hg4; (obtain ⟨kp4, kr4, hr4, g4⟩ := stepQ hlit kpA krA hrA gA hg4 (by omega) (by omega) hBR); (obtain ⟨va4, vm4, vc4, rfl⟩ := own_form hown4); (obtain ⟨hown5, kp5, kr5, hr5, g5⟩ := setQ (ow_mono (B' := w.heap.size + 1) (consQ hown4) (by omega)) kp4 kr4 hr4 g4 hRT hrT (by omega) hBR hR); (obtain ⟨fin, kF⟩ := finQ (N := N) hown5 ((hq8.cons (y := ⟨false, ⟨#[120]⟩⟩) (by decide)).mono (by omega)) kr5 (hr5.mono (by omega)) g5 hR hBR); (have fin' := hide fin); (have c4 : w4.cell? ⟨T, 0, none⟩ = some (.slice va xs.length vc) := kp4.cell 0); (have f4 := kp4.free 0); (have c5 : World.cell? _ ⟨w.heap.size, 0, none⟩ = some (.slice none 0 0) := kr5.cell 0); (have c6 : World.cell? _ ⟨T, 0, none⟩ = some (.slice va4 vm4 vc4) := kp5.cell 0); (have f5 := kr5.free 0); clear fin hown5 kp5 kr5 hr5 g5 hown4 kp4 kr4 hr4 g4 hg4))
    generalize hF : World.setCell (World.setCell _ _ _) _ _ = wF at kF fin' ⊢
    have y0 : wF.cell? ⟨w.heap.size, 0, none⟩ = some (.slice va4 vm4 vc4) := kF.cell 0
    exact bodyPost_ret (v := .agg #[.slice va4 vm4 vc4]) (by simp [results, Try.f51, go_sem, y0] <;> rfl) rfl fin'.out
  by_cases e2 : q = 2
  · subst e2
    clear e0 e1
    go_wp2_with fail
    go_loopw [4] (fun u wr => ∃ (i : Nat) (a : Option Addr) (m c : Nat) (ys : List Sl), u = .int .i64 i ∧ i ≤ 9 ∧ Hid (SmQ (8 + i) ys) ∧ wr.ownsRow (w.heap.size + 1) 43 2 (.slice a m c) ys.length (ys.flatMap encP) ∧ Blk wr T 29 #[.slice a m c] ∧ Blk wr w.heap.size 29 #[.slice none 0 0] ∧ Rdr wr B R (N + 21) ∧ w.grownBy wr (some R)) (fun u _ => 9 - (intOf u).toNat)
    case atStart => exact ⟨0, va, vm, vc, xs, rfl, by omega, hq8, hown3, kp3, kr3, hr3.mono (by omega), g3⟩
    case round =>
      obtain ⟨i, va, vm, vc, ys, rfl, hi9, hsq, hown, kp, kr, hr, hg⟩ := hrel
      clear hown3 kp3 kr3 hr3 g3 hq8 hsm cp3 fp3 cr3 fr3 hl8 hz3
      have cp : wr.cell? ⟨T, 0, none⟩ = some (.slice va vm vc) := kp.cell 0
      have fp := kp.free 0
      have cr : wr.cell? ⟨w.heap.size, 0, none⟩ = some (.slice none 0 0) := kr.cell 0
      have fr := kr.free 0
      have hzr : w.heap.size + 1 ≤ wr.heap.size := by have := kp.lt; omega
      have hly : ys.length ≤ 8 + i := hsq.out.1
      by_cases h9 : i < 9
      · have h9' : (i : Int) < 9 := by omega
        go_wp2_with (first
          | (at_builtin; refine wpList_elem Try.underlying27 hi'.out hz0'.out hz1'.out hz2'.out rfl (by decide) (by decide) encP_len encP_one rfl _ _ rfl (w.heap.size + 1) _ ys rfl hown ⟨true, ByteArray.empty⟩ _ rfl _ rfl rfl (by omega) hzr ?_; intro v4 w4 hown4 hg4; (obtain ⟨kp4, kr4, hr4, g4⟩ := stepQ hown kp kr hr hg hg4 (by omega) (by omega) hBR); (obtain ⟨va4, vm4, vc4, rfl⟩ := own_form hown4); (obtain ⟨hown5, kp5, kr5, hr5, g5⟩ := setQ hown4 kp4 kr4 hr4 g4 hRT hrT (by omega) hBR hR); (have hsq' : Hid (SmQ (8 + (i + 1)) (ys ++ [⟨true, ByteArray.empty⟩])) := hsq.out.snoc (by decide)); (have c4 : w4.cell? ⟨T, 0, none⟩ = some (.slice va vm vc) := kp4.cell 0); (have f4 := kp4.free 0); clear hown4 kp4 kr4 hr4 g4 hg4 hown kp kr hr hg))
        go_roundw
        case rel => exact ⟨i + 1, va4, vm4, vc4, _, by rw [Value.int.injEq]; exact ⟨rfl, by omega⟩, by omega, hsq', hown5, kp5, kr5, hr5, g5⟩
        case measure => simp [intOf]; omega
      · have h9' : ¬ ((i : Int) < 9) := by omega
        obtain ⟨fin, kF⟩ := finQ (N := N) hown (hsq.out.mono (by omega)) kr hr hg hR hBR
        have fin' := hide fin
        clear fin hown kr kp hr hg
        go_wp2_with fail
        generalize hF : World.setCell _ _ _ = wF at kF fin' ⊢
        have y0 : wF.cell? ⟨w.heap.size, 0, none⟩ = some (.slice va vm vc) := kF.cell 0
        exact bodyPost_ret (v := .agg #[.slice va vm vc]) (by simp [results, Try.f51, go_sem, y0] <;> rfl) rfl fin'.out
  obtain ⟨fin, kF⟩ := finQ (N := N) hown3 (hq8.mono (by omega)) kr3 (hr3.mono (by omega)) g3 hR hBR
  have fin' := hide fin
  clear fin hown3 kr3 kp3 hr3 g3
  go_wp2_with fail
  generalize hF : World.setCell _ _ _ = wF at kF fin' ⊢
  have y0 : wF.cell? ⟨w.heap.size, 0, none⟩ = some (.slice va vm vc) := kF.cell 0
  exact bodyPost_ret (v := .agg #[.slice va vm vc]) (by simp [results, Try.f51, go_sem, y0] <;> rfl) rfl fin'.out

end Go.Proofs.Ytnhkpigakbiddaa
