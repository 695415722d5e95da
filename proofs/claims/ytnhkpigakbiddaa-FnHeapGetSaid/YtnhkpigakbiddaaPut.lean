/-
  Pages: a record put into a page, and one taken away, as the reference does it. Conditions: the slots read as a list of at most eight, with bounded texts.
-/
import Derived.Test.YtnhkpigakbiddaaWith
namespace Go.Proofs.Ytnhkpigakbiddaa
open Go.RowKit
set_option linter.unusedVariables false
set_option linter.unusedSimpArgs false

/-- A page small enough to be drawn. -/
def SmP (xs : List Sl) : Prop := xs.length ≤ 8 ∧ ∀ x ∈ xs, x.d.size ≤ 60
theorem szs_bd {xs : List Sl} (h : ∀ x ∈ xs, x.d.size ≤ 60) : ∀ k, k ≤ xs.length → szs xs k ≤ 60 * k := by
  intro k
  induction k with
  | zero => intro _; simp [szs]
  | succ k ih =>
    intro hk
    have h1 := szs_step (xs := xs) (k := k) (by omega)
    have h2 := h _ (List.getElem_mem (show k < xs.length by omega))
    have h3 := ih (by omega)
    omega
theorem vp_len {xs : List Sl} (h : vp xs = true) : xs.length ≤ 8 := by
  unfold vp at h
  simp only [Bool.and_eq_true, decide_eq_true_eq] at h
  exact h.1.1.1
theorem own_none {w : World} {B e size n c m : Nat} {xs : List Value} (h : w.ownsRow B e size (.slice none n c) m xs) : c = 0 := by
  rcases h.2 with ⟨h1, _⟩ | ⟨g, cap, cur, h1, _⟩
  · simpa using congrArg (fun v => match v with | .slice _ _ c => c | _ => 0) h1
  · simp at h1
theorem res1 {w : World} {r T : Nat} {x0 : Value} (h : Blk w r T #[x0]) (u0 : Value) : Blk (w.setCell ⟨r, 0, none⟩ u0) r T #[u0] ∧ w.grownBy (w.setCell ⟨r, 0, none⟩ u0) (some r) :=
  ⟨by simpa using h.set 0 u0, grown_set (g := r) (World.grownBy.refl w _) (p := ⟨r, 0, none⟩) (.inl rfl) u0⟩
/-- A page handed back, a number and a word. -/
def PutR (w : World) (e : Ending) (w' : World) : Prop :=
  ∃ v : Value, ∃ ys : List Sl, ∃ n : Int, ∃ ok : Bool, e = .returned (.tuple #[.agg #[v], .int .i64 n, .bool ok]) ∧ Below w.heap.size w w' ∧ w'.ownsRow w.heap.size 43 2 v ys.length (ys.flatMap encP) ∧ SmP ys
def ClrR (w : World) (e : Ending) (w' : World) : Prop :=
  ∃ v : Value, ∃ ys : List Sl, ∃ ok : Bool, e = .returned (.tuple #[.agg #[v], .bool ok]) ∧ Below w.heap.size w w' ∧ w'.ownsRow w.heap.size 43 2 v ys.length (ys.flatMap encP) ∧ SmP ys

set_option maxHeartbeats 2000000 in
theorem putS (A : Option Addr) (c : Nat) (xs : List Sl) (d : ByteArray) (w : World) (hr : Rl encP 2 w A xs) (hA : A = none → c = 0) (hcap : xs.length ≤ c) (hs : SmP xs) (hd : d.size ≤ 60) :
    Calls Try.prog 71 #[.agg #[.slice A xs.length c], .string d] w (PutR w) := by
  have hb0 : Below w.heap.size w ((w.alloc (.cells #[.slice A xs.length c] 29)).alloc (.cells #[.slice none 0 0] 29)) := by go_grown
  have kP := (Blk.new w 29 #[.slice A xs.length c]).alloc (.cells #[.slice none 0 0] 29)
  have kR := Blk.new (w.alloc (.cells #[.slice A xs.length c] 29)) 29 #[.slice none 0 0]
  simp only [World.size_alloc] at kR
  have hr0 := hr.below hb0
  have hl8 := hs.1
  have hsz := szs_bd hs.2 xs.length (Nat.le_refl _)
  cases hv : vp xs
  · have hv' := hide hv
    clear hv
    go_enter Try.func71, Try.ntmps71
    go_wp2_with fail
    generalize ((w.alloc (.cells #[.slice A xs.length c] 29)).alloc (.cells #[.slice none 0 0] 29)) = w0 at hb0 kP kR hr0
    refine (vpS A c xs _ hr0 (by omega) (by omega)).mono ?_
    rintro e w1 ⟨rfl, hb1⟩
    rw [hv'.out]
    have kP1 := kP.below hb1
    have kR1 := kR.below hb1
    have hb1' := bt hb0 hb1 hb0.size
    have cP : w1.cell? ⟨w.heap.size, 0, none⟩ = some (.slice A xs.length c) := kP1.cell 0
    have r0 : w1.cell? ⟨w.heap.size + 1, 0, none⟩ = some (.slice none 0 0) := kR1.cell 0
    have s0 := kR1.free 0
    go_wp2_with fail
    obtain ⟨kF, gF⟩ := res1 kR1 (.slice none 0 0)
    have hbF := below_of_grown hb1' gF (by omega) hb1'.size
    generalize hF : World.setCell _ _ _ = wF at kF gF hbF ⊢
    have y0 : wF.cell? ⟨w.heap.size + 1, 0, none⟩ = some (.slice none 0 0) := kF.cell 0
    refine bodyPost_ret (v := .tuple #[.agg #[.slice none 0 0], .int .i64 (-1), .bool false]) (by simp [results, Try.f71, go_sem, y0] <;> rfl) rfl ?_
    exact ⟨_, [], _, _, rfl, hbF, ow_nil _ _ _ _, by simp, fun x hx => by cases hx⟩
  · have hv' := hide hv
    clear hv
    have hA' := hide hA
    clear hA
    go_enter Try.func71, Try.ntmps71
    go_wp2_with fail
    generalize ((w.alloc (.cells #[.slice A xs.length c] 29)).alloc (.cells #[.slice none 0 0] 29)) = w0 at hb0 kP kR hr0
    refine (vpS A c xs _ hr0 (by omega) (by omega)).mono ?_
    rintro e w1 ⟨rfl, hb1⟩
    rw [hv'.out]
    have kP1 := kP.below hb1
    have kR1 := kR.below hb1
    have hb1' := bt hb0 hb1 hb0.size
    have cP : w1.cell? ⟨w.heap.size, 0, none⟩ = some (.slice A xs.length c) := kP1.cell 0
    have r0 : w1.cell? ⟨w.heap.size + 1, 0, none⟩ = some (.slice none 0 0) := kR1.cell 0
    have s0 := kR1.free 0
    have hr1 := hr0.below hb1
    have hrl := kR1.lt
    clear kP kR hb0 hb1 hr0
    go_wp2_with fail
    go_loop [7] (fun u => ∃ k : Nat, k ≤ xs.length ∧ u = .int .i64 k) (fun u => xs.length - (intOf u).toNat)
    case atStart => exact ⟨0, by omega, rfl⟩
    case round =>
      obtain ⟨k, hk, rfl⟩ := hrel
      have fin : ∀ W, Rl encP 2 W A xs → Calls Try.prog 75 #[.agg #[.slice A xs.length c], .int .i64 (k : Int), .agg #[.bool true, .string d]] W (WithR xs k ⟨true, d⟩ W) := fun W h => withS A c xs k ⟨true, d⟩ W h hA'.out (by omega) hcap hk
      have fin' := hide fin
      clear fin
      by_cases hlt : k < xs.length
      · obtain ⟨b, off, rfl, c0, c1⟩ := hr1.slot hlt
        have hki : (k : Int) < (xs.length : Int) := by omega
        generalize xs[k] = z at c0 c1
        obtain ⟨zl, zd⟩ := z
        simp only at c0 c1
        clear c1
        cases zl
        · go_wp2_with fail
          refine (fin'.out _ hr1).mono ?_
          rintro e w2 ⟨v, ys, rfl, hb2, hown, hyl, -, hym⟩
          obtain ⟨A2, c2, rfl, hL2, -⟩ := ow_open (by omega) encP_len hown
          have hys : ∀ y ∈ ys, y.d.size ≤ 60 := fun y hy => by
            rcases hym y hy with h | h
            · exact hs.2 y h
            · rw [h]; exact hd
          have hys' := hide hys
          have hszy := szs_bd hys ys.length (Nat.le_refl _)
          have hbx : Below w2.heap.size w2 (w2.alloc (.cells #[.slice A2 ys.length c2] 29)) := (Below.refl _ _).alloc (Nat.le_refl _) _
          have k8 := Blk.new w2 29 #[.slice A2 ys.length c2]
          have c8 : (w2.alloc (.cells #[.slice A2 ys.length c2] 29)).cell? ⟨w2.heap.size, 0, none⟩ = some (.slice A2 ys.length c2) := k8.cell 0
          have hL8 := hL2.below hbx
          have hown8 := ow_below hown hbx
          have kR8 := kR1.below (bt2 hb2 hbx)
          have hb8 := bt2 hb1' (bt2 hb2 hbx)
          have hz1 := hb1'.size
          clear hys hym hown hL2 hb2 hbx kP1 kR1 cP r0 s0
          go_wp2_with fail
          generalize w2.alloc (.cells #[.slice A2 ys.length c2] 29) = w8 at k8 c8 hL8 hown8 kR8 hb8
          refine (vpS A2 c2 ys _ hL8.rl (by omega) (by omega)).mono ?_
          rintro e w9 ⟨rfl, hb9⟩
          have kR9 := kR8.below hb9
          have c9 := cell_on hb9 c8
          have hown9 := ow_below hown8 hb9
          have hb9' := bt2 hb8 hb9
          have r0 : w9.cell? ⟨w.heap.size + 1, 0, none⟩ = some (.slice none 0 0) := kR9.cell 0
          have s0 := kR9.free 0
          clear hown8 hb8 hb9 kR8 c8
          cases hv : vp ys
          · go_wp2_with fail
            obtain ⟨kF, gF⟩ := res1 kR9 (.slice none 0 0)
            have hbF := below_of_grown hb9' gF (by omega) hb9'.size
            generalize hF : World.setCell _ _ _ = wF at kF gF hbF ⊢
            have y0 : wF.cell? ⟨w.heap.size + 1, 0, none⟩ = some (.slice none 0 0) := kF.cell 0
            refine bodyPost_ret (v := .tuple #[.agg #[.slice none 0 0], .int .i64 (-1), .bool false]) (by simp [results, Try.f71, go_sem, y0] <;> rfl) rfl ?_
            exact ⟨_, [], _, _, rfl, hbF, ow_nil _ _ _ _, by simp, fun x hx => by cases hx⟩
          · have h8 := vp_len hv
            clear hv
            go_wp2_with fail
            obtain ⟨kF, gF⟩ := res1 kR9 (.slice A2 ys.length c2)
            have hbF := below_of_grown hb9' gF (by omega) hb9'.size
            have hownF := ow_kept hown9 gF (fun q e => by cases e; omega)
            generalize hF : World.setCell _ _ _ = wF at kF gF hbF hownF ⊢
            have y0 : wF.cell? ⟨w.heap.size + 1, 0, none⟩ = some (.slice A2 ys.length c2) := kF.cell 0
            refine bodyPost_ret (v := .tuple #[.agg #[.slice A2 ys.length c2], .int .i64 (k : Int), .bool true]) (by simp [results, Try.f71, go_sem, y0] <;> rfl) rfl ?_
            exact ⟨_, ys, _, _, rfl, hbF, ow_mono hownF (by omega), h8, hys'.out⟩
        · go_wp2_with fail
          go_round
          case rel => exact ⟨k + 1, by omega, by go_num⟩
          case measure => simp [intOf]; omega
      · have hki : ¬ ((k : Int) < (xs.length : Int)) := by omega
        go_wp2_with fail
        refine (fin'.out _ hr1).mono ?_
        rintro e w2 ⟨v, ys, rfl, hb2, hown, hyl, -, hym⟩
        obtain ⟨A2, c2, rfl, hL2, -⟩ := ow_open (by omega) encP_len hown
        have hys : ∀ y ∈ ys, y.d.size ≤ 60 := fun y hy => by
          rcases hym y hy with h | h
          · exact hs.2 y h
          · rw [h]; exact hd
        have hys' := hide hys
        have hszy := szs_bd hys ys.length (Nat.le_refl _)
        have hbx : Below w2.heap.size w2 (w2.alloc (.cells #[.slice A2 ys.length c2] 29)) := (Below.refl _ _).alloc (Nat.le_refl _) _
        have k8 := Blk.new w2 29 #[.slice A2 ys.length c2]
        have c8 : (w2.alloc (.cells #[.slice A2 ys.length c2] 29)).cell? ⟨w2.heap.size, 0, none⟩ = some (.slice A2 ys.length c2) := k8.cell 0
        have hL8 := hL2.below hbx
        have hown8 := ow_below hown hbx
        have kR8 := kR1.below (bt2 hb2 hbx)
        have hb8 := bt2 hb1' (bt2 hb2 hbx)
        have hz1 := hb1'.size
        clear hys hym hown hL2 hb2 hbx kP1 kR1 cP r0 s0
        go_wp2_with fail
        generalize w2.alloc (.cells #[.slice A2 ys.length c2] 29) = w8 at k8 c8 hL8 hown8 kR8 hb8
        refine (vpS A2 c2 ys _ hL8.rl (by omega) (by omega)).mono ?_
        rintro e w9 ⟨rfl, hb9⟩
        have kR9 := kR8.below hb9
        have c9 := cell_on hb9 c8
        have hown9 := ow_below hown8 hb9
        have hb9' := bt2 hb8 hb9
        have r0 : w9.cell? ⟨w.heap.size + 1, 0, none⟩ = some (.slice none 0 0) := kR9.cell 0
        have s0 := kR9.free 0
        clear hown8 hb8 hb9 kR8 c8
        cases hv : vp ys
        · go_wp2_with fail
          obtain ⟨kF, gF⟩ := res1 kR9 (.slice none 0 0)
          have hbF := below_of_grown hb9' gF (by omega) hb9'.size
          generalize hF : World.setCell _ _ _ = wF at kF gF hbF ⊢
          have y0 : wF.cell? ⟨w.heap.size + 1, 0, none⟩ = some (.slice none 0 0) := kF.cell 0
          refine bodyPost_ret (v := .tuple #[.agg #[.slice none 0 0], .int .i64 (-1), .bool false]) (by simp [results, Try.f71, go_sem, y0] <;> rfl) rfl ?_
          exact ⟨_, [], _, _, rfl, hbF, ow_nil _ _ _ _, by simp, fun x hx => by cases hx⟩
        · have h8 := vp_len hv
          clear hv
          go_wp2_with fail
          obtain ⟨kF, gF⟩ := res1 kR9 (.slice A2 ys.length c2)
          have hbF := below_of_grown hb9' gF (by omega) hb9'.size
          have hownF := ow_kept hown9 gF (fun q e => by cases e; omega)
          generalize hF : World.setCell _ _ _ = wF at kF gF hbF hownF ⊢
          have y0 : wF.cell? ⟨w.heap.size + 1, 0, none⟩ = some (.slice A2 ys.length c2) := kF.cell 0
          refine bodyPost_ret (v := .tuple #[.agg #[.slice A2 ys.length c2], .int .i64 (k : Int), .bool true]) (by simp [results, Try.f71, go_sem, y0] <;> rfl) rfl ?_
          exact ⟨_, ys, _, _, rfl, hbF, ow_mono hownF (by omega), h8, hys'.out⟩

set_option maxHeartbeats 2000000 in
theorem clrS (A : Option Addr) (c : Nat) (xs : List Sl) (a : Int) (w : World) (hr : Rl encP 2 w A xs) (hA : A = none → c = 0) (hcap : xs.length ≤ c) (hs : SmP xs) (ha : 0 ≤ a ∧ a < max (xs.length : Int) 1) :
    Calls Try.prog 73 #[.agg #[.slice A xs.length c], .int .i64 a] w (ClrR w) := by
  have hb0 : Below w.heap.size w ((w.alloc (.cells #[.slice A xs.length c] 29)).alloc (.cells #[.slice none 0 0] 29)) := by go_grown
  have kP := (Blk.new w 29 #[.slice A xs.length c]).alloc (.cells #[.slice none 0 0] 29)
  have kR := Blk.new (w.alloc (.cells #[.slice A xs.length c] 29)) 29 #[.slice none 0 0]
  simp only [World.size_alloc] at kR
  have hr0 := hr.below hb0
  have hl8 := hs.1
  have hsz := szs_bd hs.2 xs.length (Nat.le_refl _)
  cases hv : LV xs a
  · have hv' := hide hv
    clear hv
    go_enter Try.func73, Try.ntmps73
    go_wp2_with fail
    generalize ((w.alloc (.cells #[.slice A xs.length c] 29)).alloc (.cells #[.slice none 0 0] 29)) = w0 at hb0 kP kR hr0
    refine (lvS A c xs a _ hr0 (by omega) (by omega) (by omega)).mono ?_
    rintro e w1 ⟨rfl, hb1⟩
    rw [hv'.out]
    have kP1 := kP.below hb1
    have kR1 := kR.below hb1
    have hb1' := bt hb0 hb1 hb0.size
    have cP : w1.cell? ⟨w.heap.size, 0, none⟩ = some (.slice A xs.length c) := kP1.cell 0
    have r0 : w1.cell? ⟨w.heap.size + 1, 0, none⟩ = some (.slice none 0 0) := kR1.cell 0
    have s0 := kR1.free 0
    go_wp2_with fail
    obtain ⟨kF, gF⟩ := res1 kR1 (.slice none 0 0)
    have hbF := below_of_grown hb1' gF (by omega) hb1'.size
    generalize hF : World.setCell _ _ _ = wF at kF gF hbF ⊢
    have y0 : wF.cell? ⟨w.heap.size + 1, 0, none⟩ = some (.slice none 0 0) := kF.cell 0
    refine bodyPost_ret (v := .tuple #[.agg #[.slice none 0 0], .bool false]) (by simp [results, Try.f73, go_sem, y0] <;> rfl) rfl ?_
    exact ⟨_, [], _, rfl, hbF, ow_nil _ _ _ _, by simp, fun x hx => by cases hx⟩
  · have hv' := hide hv
    obtain ⟨k, hk, rfl⟩ := lv_in (by unfold LV at hv; rw [Bool.and_eq_true] at hv; exact hv.2)
    clear hv
    go_enter Try.func73, Try.ntmps73
    go_wp2_with fail
    generalize ((w.alloc (.cells #[.slice A xs.length c] 29)).alloc (.cells #[.slice none 0 0] 29)) = w0 at hb0 kP kR hr0
    refine (lvS A c xs _ _ hr0 (by omega) (by omega) (by omega)).mono ?_
    rintro e w1 ⟨rfl, hb1⟩
    rw [hv'.out]
    have kP1 := kP.below hb1
    have kR1 := kR.below hb1
    have hb1' := bt hb0 hb1 hb0.size
    have cP : w1.cell? ⟨w.heap.size, 0, none⟩ = some (.slice A xs.length c) := kP1.cell 0
    have r0 : w1.cell? ⟨w.heap.size + 1, 0, none⟩ = some (.slice none 0 0) := kR1.cell 0
    have s0 := kR1.free 0
    have hr1 := hr0.below hb1
    have hrl := kR1.lt
    clear kP kR hb0 hb1 hr0
    go_wp2_with fail
    refine (withS A c xs k ⟨false, ByteArray.empty⟩ _ hr1 hA (by omega) hcap (by omega)).mono ?_
    rintro e w2 ⟨v, ys, rfl, hb2, hown, -, hyl, hym⟩
    have hys : ∀ y ∈ ys, y.d.size ≤ 60 := fun y hy => by
      rcases hym y hy with h | h
      · exact hs.2 y h
      · rw [h]; exact Nat.zero_le _
    have hyl' := hyl hk
    have kR2 := kR1.below hb2
    have hb2' := bt2 hb1' hb2
    have hz1 := hb1'.size
    have r20 : w2.cell? ⟨w.heap.size + 1, 0, none⟩ = some (.slice none 0 0) := kR2.cell 0
    have s20 := kR2.free 0
    obtain ⟨va, vm, vc, rfl⟩ := own_form hown
    have hys' := hide hys
    clear hys hym hb2 kR1 kP1 cP r0 s0 hyl hA
    go_wp2_with fail
    obtain ⟨kF, gF⟩ := res1 kR2 (.slice va vm vc)
    have hbF := below_of_grown hb2' gF (by omega) hb2'.size
    have hownF := ow_kept hown gF (fun q e => by cases e; omega)
    generalize hF : World.setCell _ _ _ = wF at kF gF hbF hownF ⊢
    have y0 : wF.cell? ⟨w.heap.size + 1, 0, none⟩ = some (.slice va vm vc) := kF.cell 0
    refine bodyPost_ret (v := .tuple #[.agg #[.slice va vm vc], .bool true]) (by simp [results, Try.f73, go_sem, y0] <;> rfl) rfl ?_
    exact ⟨_, ys, _, rfl, hbF, ow_mono hownF (by omega), by omega, hys'.out⟩

end Go.Proofs.Ytnhkpigakbiddaa
