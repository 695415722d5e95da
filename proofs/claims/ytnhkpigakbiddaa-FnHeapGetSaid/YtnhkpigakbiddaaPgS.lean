/-
  The statement over drawn slots. Conditions: the argument reads as a list of bytes.
-/
import Derived.Test.YtnhkpigakbiddaaPgL
import Derived.Test.YtnhkpigakbiddaaPagG
namespace Go.Proofs.Ytnhkpigakbiddaa
open Go.RowKit
set_option linter.unusedVariables false
set_option linter.unusedSimpArgs false

theorem someS (B R N : Nat) (w : World) (h : Rdr w B R N) (hN : N ≤ 1000) :
    Calls Try.prog 53 #[.pointer (some ⟨R, 0, none⟩)] w (DrawnR (-1) 8 B R N w) := by
  go_enter Try.func53, Try.ntmps53
  go_wp2_with fail
  refine (oneR_any (-1) 8 B R N 9 9 _ w h (by omega) (by kernel_rfl) (by rfl) (by omega) (by omega)).mono ?_
  rintro e w1 ⟨s, rfl, s0, s1, hr, hg⟩
  go_wp2_with fail
  go_ret
  exact ⟨s, rfl, s0, s1, hr, hg⟩

def DrawnPS (w : World) (e : Ending) (w' : World) : Prop :=
  ∃ A c xs, ∃ s : Int, e = .returned (.tuple #[.agg #[.slice A xs.length c], .int .i64 s]) ∧ -1 ≤ s ∧ s ≤ 8 ∧ Lst encP 2 w.heap.size w' A c xs ∧ SmQ 17 xs ∧ Below w.heap.size w w'

set_option maxHeartbeats 1000000 in
theorem drawGS (A : Option Addr) (c : Nat) (zs : List Int) (w : World) (h : Bytes w A c zs) :
    Calls Try.prog 24 #[.slice A zs.length c] w (DrawnPS w) := by
  have kr := Blk.new w 29 #[.slice none 0 0]
  have hb0 : Below w.heap.size w (w.alloc (.cells #[.slice none 0 0] 29)) := (Below.refl _ _).alloc (Nat.le_refl _) _
  go_enter Try.func24, Try.ntmps24
  go_wp2_with fail
  refine (new_any A c zs _ (h.rl.alloc _) h.rng h.cap h.max (fun b hz ha => by have := h.blk b hz ha; simp; omega)).mono ?_
  rintro e w1 ⟨rfl, hr, hb⟩
  have hb1 := bt hb0 hb hb0.size
  have kr1 := kr.below hb
  have hk1 := kr.lt
  generalize (w.alloc (.cells #[.slice none 0 0] 29)).heap.size = S at hr hk1 ⊢
  clear kr hb0 hb
  go_wp2_with fail
  refine (anyP _ _ _ w1 hr (by omega)).mono ?_
  rintro e w2 ⟨v, xs, rfl, hown, hsm, hr2, hg2⟩
  obtain ⟨A, c, rfl, hL, -⟩ := ow_open (by omega) encP_len hown
  have kr2 := kr1.kept hg2 (by simp; omega)
  have hb2 := below_of_grown hb1 hg2 (by omega) hb1.size
  have hz1 := kr1.lt
  have hz2 := hb2.size
  have hS := hr.lt
  have hS2 := hr2.lt
  clear hr hg2 hown kr1
  have hb3 : Below w2.heap.size w2 (w2.alloc (.cells #[.slice A xs.length c] 29)) := (Below.refl _ _).alloc (Nat.le_refl _) _
  have k5 := Blk.new w2 29 #[.slice A xs.length c]
  have c50 : (w2.alloc (.cells #[.slice A xs.length c] 29)).cell? ⟨w2.heap.size, 0, none⟩ = some (.slice A xs.length c) := k5.cell 0
  have hr3 := hr2.below hb3
  have kr3 := kr2.below hb3
  have hL3 := hL.below hb3
  have hb3' := bt hb2 hb3 hz2
  have h5l := k5.lt
  clear hr2 kr2 hL hb3
  go_wp2_with fail
  generalize w2.alloc (.cells #[.slice A xs.length c] 29) = w3 at k5 c50 hr3 kr3 hL3 hb3' h5l ⊢
  have nr : w2.heap.size ≠ S := by omega
  have hzz := hb3'.size
  go_region_held3 (fun w' => w'.cell? ⟨w2.heap.size, 0, none⟩ = some (.slice A xs.length c))
    (first | exact c50 | exact hg6.cell c50 (by simp; omega) | (rw [World.cell?_setCell_other _ _ _ _ (by intro e; simp at e <;> omega)]; exact hg6.cell c50 (by simp; omega)))
    (first | (go_at_call 53; refine (someS _ _ _ _ hr3.drew (by omega)).mono ?_; rintro e w6 ⟨y, rfl, y0, y1, hr6, hg6⟩; have kr4 := kr3.drew.kept hg6 (by simp; omega); have hL4 := (hL3.below (Below.refl _ w3).drew).kept hg6 (fun q e => by cases e; omega); have hb4 := below_of_grown (hb3'.drew) hg6 (by omega) hzz; have r0 : w6.cell? ⟨w.heap.size, 0, none⟩ = some (.slice none 0 0) := kr4.cell 0; have s0 := kr4.free 0))
  all_goals
    obtain ⟨kF, gF⟩ := res1 kr4 (.slice A xs.length c)
    have hz4 := hb4.size
    go_wp2_with fail
    generalize hF : World.setCell _ _ _ = wF at kF gF ⊢
    have y0' : wF.cell? ⟨w.heap.size, 0, none⟩ = some (.slice A xs.length c) := kF.cell 0
    refine bodyPost_ret (v := .tuple #[.agg #[.slice A xs.length c], .int .i64 y]) (by simp [results, Try.f24, go_sem, y0'] <;> rfl) rfl ?_
    exact ⟨A, c, xs, y, rfl, y0, y1, (hL4.kept gF (fun q e => by cases e; omega)).mono (by omega), hsm, below_of_grown hb4 gF (Nat.le_refl _) hz4⟩

theorem okS_at {xs : List Sl} (h : vp xs = true) {k : Nat} (hk : k < xs.length) : okS xs[k] = true := by
  cases ho : okS xs[k]
  · rw [vp_no hk ho] at h; cases h
  · rfl
theorem loop_len (d : ByteArray) (n : Nat) : ∀ i r, d.size - i = n → r.length ≤ (ByteArray.toList.loop d i r).length ∧ (i < d.size → r.length < (ByteArray.toList.loop d i r).length) := by
  induction n with
  | zero =>
    intro i r hn
    have : ¬ i < d.size := by omega
    unfold ByteArray.toList.loop
    rw [if_neg this]
    exact ⟨by simp, fun h => absurd h this⟩
  | succ n ih =>
    intro i r hn
    have hi : i < d.size := by omega
    unfold ByteArray.toList.loop
    rw [if_pos hi]
    have := (ih (i + 1) (d.get! i :: r) (by omega)).1
    simp only [List.length_cons] at this
    exact ⟨by omega, fun _ => by omega⟩
theorem emp_eq {d : ByteArray} (h : emp d = true) : d = ByteArray.empty := by
  unfold emp at h
  rw [List.isEmpty_iff] at h
  have h0 : ¬ 0 < d.size := fun hp => by
    have := (loop_len d _ 0 [] rfl).2 hp
    unfold ByteArray.toList at h
    rw [h] at this
    simp at this
  have hz : d.size = 0 := by omega
  exact ByteArray.ext (Array.eq_empty_of_size_eq_zero hz)
theorem slot_law {xs : List Sl} (h : vp xs = true) {k : Nat} (hk : k < xs.length) : LV xs (k : Int) = xs[k].l ∧ gd xs (k : Int) = xs[k].d := by
  have hl : LV xs (k : Int) = xs[k].l := by unfold LV; rw [h, lvn_in hk]; rfl
  refine ⟨hl, ?_⟩
  cases hv : LV xs (k : Int)
  · rw [gd_no hv]
    have ho := okS_at h hk
    unfold okS at ho
    rw [← hl, hv] at ho
    exact (emp_eq (by simpa using ho)).symm
  · exact gd_in hk hv

set_option maxHeartbeats 4000000 in
theorem getS_law (A : Option Addr) (c : Nat) (zs : List Int) (w : World) (h : Bytes w A c zs) :
    Calls Try.prog 7 #[.slice A zs.length c] w fun e w' => e = .returned (.bool true) ∧ Below w.heap.size w w' := by
  have hcap := h.cap
  have hmax := h.max
  by_cases hl : 1048576 < zs.length
  · go_enter Try.func7, Try.ntmps7
    go_wp2
    go_ret
    exact ⟨rfl, Below.refl _ _⟩
  · go_enter Try.func7, Try.ntmps7
    go_wp2_with fail
    refine (drawGS A c zs _ h).mono ?_
    rintro e w1 ⟨A, c, xs, s, rfl, s0, s1, hL, hsm, hb1⟩
    have hl17 := hsm.1
    have hlc := hL.cap
    have hlm := hL.max
    have hsz : szs xs xs.length ≤ 1073741824 := by have := szs_bd hsm.2 xs.length (Nat.le_refl _); omega
    have hV : Hid (∀ W, Rl encP 2 W A xs → Calls Try.prog 17 #[.agg #[.slice A xs.length c]] W fun e w' => e = .returned (.bool (vp xs)) ∧ Below W.heap.size W w') := fun W hr => vpI A c xs W hr (by omega) hsz
    have hI : Hid (∀ W, Rl encP 2 W A xs → Calls Try.prog 22 #[.agg #[.slice A xs.length c], .int .i64 s] W fun e w' => e = .returned (.tuple #[.string (gd xs s), .bool (LV xs s)]) ∧ Below W.heap.size W w') := fun W hr => gsI A c xs s W hr (by omega) hsz ⟨by omega, by omega⟩
    have hS : Hid (∀ W, Rl encP 2 W A xs → Calls Try.prog 21 #[.agg #[.slice A xs.length c], .int .i64 s] W fun e w' => e = .returned (.tuple #[.string (gd xs s), .bool (LV xs s)]) ∧ Below W.heap.size W w') := fun W hr => gsS A c xs s W hr (by omega) hsz ⟨by omega, by omega⟩
    have hlaw : Hid (vp xs = true → ∀ k (hk : k < xs.length), s = (k : Int) → LV xs s = xs[k].l ∧ gd xs s = xs[k].d) := fun hv k hk e => by rw [e]; exact slot_law hv hk
    generalize gd xs s = G at hI hS hlaw
    generalize LV xs s = L at hI hS hlaw
    generalize vp xs = V at hV hlaw
    have hb2 : Below w1.heap.size w1 (w1.alloc (.cells #[.slice A xs.length c] 29)) := (Below.refl _ _).alloc (Nat.le_refl _) _
    have c0 : (w1.alloc (.cells #[.slice A xs.length c] 29)).cell? ⟨w1.heap.size, 0, none⟩ = some (.slice A xs.length c) := (Blk.new w1 29 #[.slice A xs.length c]).cell 0
    have hL2 := hL.below hb2
    have hbb := bt2 hb1 hb2
    clear hL hb1 hb2
    go_wp2_with fail
    generalize w1.alloc (.cells #[.slice A xs.length c] 29) = w2 at c0 hL2 hbb ⊢
    refine (hI.out _ hL2.rl).mono ?_
    rintro e w3 ⟨rfl, hb3⟩
    have c3 := cell_on hb3 c0
    have hL3 := hL2.below hb3
    have hbb3 := bt2 hbb hb3
    clear hb3 c0 hL2 hbb
    go_wp2_with fail
    refine (hS.out _ hL3.rl).mono ?_
    rintro e w4 ⟨rfl, hb4⟩
    have c4 := cell_on hb4 c3
    have hL4 := hL3.below hb4
    have hbb4 := bt2 hbb3 hb4
    clear hb4 c3 hL3 hbb3
    go_wp2_with fail
    refine (hV.out _ hL4.rl).mono ?_
    rintro e w5 ⟨rfl, hb5⟩
    have c5 := cell_on hb5 c4
    have hL5 := hL4.below hb5
    have hbb5 := bt2 hbb4 hb5
    clear hb5 c4 hL4 hbb4
    cases V
    · go_wp2_with fail
      go_ret
      exact ⟨rfl, hbb5⟩
    · by_cases hs0 : s < 0
      · go_wp2_with fail
        go_ret
        exact ⟨rfl, hbb5⟩
      · by_cases hs1 : (xs.length : Int) ≤ s
        · go_wp2_with fail
          go_ret
          exact ⟨rfl, hbb5⟩
        · obtain ⟨k, rfl⟩ := Int.eq_ofNat_of_zero_le (show 0 ≤ s by omega)
          have hk : k < xs.length := by omega
          obtain ⟨e1, e2⟩ := hlaw.out rfl k hk rfl
          obtain ⟨b, off, hA, d0, d1⟩ := hL5.rl.slot hk
          rw [← e1] at d0
          rw [← e2] at d1
          subst hA
          clear e1 e2
          go_wp2_with fail
          go_ret
          exact ⟨rfl, hbb5⟩

end Go.Proofs.Ytnhkpigakbiddaa
