/-
  The statements over drawn pages. Conditions: the argument reads as a list of bytes.
-/
import Derived.Test.YtnhkpigakbiddaaAnyP
import Derived.Test.YtnhkpigakbiddaaPagW
import Derived.Test.YtnhkpigakbiddaaRow
namespace Go.Proofs.Ytnhkpigakbiddaa
open Go.RowKit
set_option linter.unusedVariables false
set_option linter.unusedSimpArgs false

def DrawnP (w : World) (e : Ending) (w' : World) : Prop :=
  ∃ A c xs, e = .returned (.agg #[.slice A xs.length c]) ∧ Lst encP 2 w.heap.size w' A c xs ∧ SmQ 17 xs ∧ Below w.heap.size w w'

set_option maxHeartbeats 1000000 in
theorem drawVP (A : Option Addr) (c : Nat) (zs : List Int) (w : World) (h : Bytes w A c zs) :
    Calls Try.prog 23 #[.slice A zs.length c] w (DrawnP w) := by
  have kr := Blk.new w 29 #[.slice none 0 0]
  have hb0 : Below w.heap.size w (w.alloc (.cells #[.slice none 0 0] 29)) := (Below.refl _ _).alloc (Nat.le_refl _) _
  go_enter Try.func23, Try.ntmps23
  go_wp2_with fail
  refine (new_any A c zs _ (h.rl.alloc _) h.rng h.cap h.max (fun b hz ha => by have := h.blk b hz ha; simp; omega)).mono ?_
  rintro e w1 ⟨rfl, hr, hb⟩
  have hb1 := bt hb0 hb hb0.size
  have kr1 := kr.below hb
  have hk1 := kr.lt
  generalize (w.alloc (.cells #[.slice none 0 0] 29)).heap.size = S at hr hk1
  clear kr hb0 hb
  go_wp2_with fail
  refine (anyP _ _ _ w1 hr (by omega)).mono ?_
  rintro e w2 ⟨v, xs, rfl, hown, hsm, hr2, hg2⟩
  obtain ⟨A, c, rfl, hL, -⟩ := ow_open (by omega) encP_len hown
  have kr2 := kr1.kept hg2 (by simp; omega)
  have hb2 := below_of_grown hb1 hg2 (by omega) hb1.size
  have hz1 := kr1.lt
  have hz2 := hb2.size
  have r0 : w2.cell? ⟨w.heap.size, 0, none⟩ = some (.slice none 0 0) := kr2.cell 0
  have s0 := kr2.free 0
  clear hr hr2 hg2 hown kr1
  obtain ⟨kF, gF⟩ := res1 kr2 (.slice A xs.length c)
  go_wp2_with fail
  generalize hF : World.setCell _ _ _ = wF at kF gF ⊢
  have y0 : wF.cell? ⟨w.heap.size, 0, none⟩ = some (.slice A xs.length c) := kF.cell 0
  refine bodyPost_ret (v := .agg #[.slice A xs.length c]) (by simp [results, Try.f23, go_sem, y0] <;> rfl) rfl ?_
  exact ⟨A, c, xs, rfl, (hL.kept gF (fun q e => by cases e; omega)).mono (by omega), hsm, below_of_grown hb2 gF (Nat.le_refl _) hz2⟩

theorem pf_ok (xs : List Sl) : (0 ≤ pf xs) ↔ vp xs = true := by
  unfold pf
  cases hv : vp xs
  · simp
  · have : usd xs ≤ 100 := by
      unfold vp at hv
      simp only [Bool.and_eq_true, decide_eq_true_eq] at hv
      exact hv.2
    simp
    omega
theorem pf_nil : pf [] = 100 := by
  simp [pf, vp, usd, szs, lst]

set_option maxHeartbeats 2000000 in
theorem validP_law (A : Option Addr) (c : Nat) (zs : List Int) (w : World) (h : Bytes w A c zs) :
    Calls Try.prog 6 #[.slice A zs.length c] w fun e w' => e = .returned (.bool true) ∧ Below w.heap.size w w' := by
  have hcap := h.cap
  have hmax := h.max
  by_cases hl : 1048576 < zs.length
  · go_enter Try.func6, Try.ntmps6
    go_wp2
    go_ret
    exact ⟨rfl, Below.refl _ _⟩
  · go_enter Try.func6, Try.ntmps6
    go_wp2_with fail
    refine (drawVP A c zs _ h).mono ?_
    rintro e w1 ⟨A, c, xs, rfl, hL, hsm, hb1⟩
    have hl17 := hsm.1
    have hsz : szs xs xs.length ≤ 1073741824 := by have := szs_bd hsm.2 xs.length (Nat.le_refl _); omega
    have hV : Hid (∀ W, Rl encP 2 W A xs → Calls Try.prog 15 #[.agg #[.slice A xs.length c]] W fun e w' => e = .returned (.bool (vp xs)) ∧ Below W.heap.size W w') := fun W hr => VPS A c xs W hr (by omega) hsz
    have hI : Hid (∀ W, Rl encP 2 W A xs → Calls Try.prog 17 #[.agg #[.slice A xs.length c]] W fun e w' => e = .returned (.bool (vp xs)) ∧ Below W.heap.size W w') := fun W hr => vpI A c xs W hr (by omega) hsz
    have hF : Hid (∀ W, Rl encP 2 W A xs → Calls Try.prog 20 #[.agg #[.slice A xs.length c]] W fun e w' => e = .returned (.int .i64 (pf xs)) ∧ Below W.heap.size W w') := fun W hr => pfI A c xs W hr (by omega) hsz
    have hZ : Hid (∀ W, Calls Try.prog 20 #[.agg #[.slice none 0 0]] W fun e w' => e = .returned (.int .i64 100) ∧ Below W.heap.size W w') := fun W => by
      have := pfI none 0 [] W Rl.nil (by simp) (by simp [szs])
      rw [pf_nil] at this
      exact this
    have hpf := pf_ok xs
    generalize pf xs = F at hF hpf
    generalize vp xs = V at hV hI hpf
    have hb2 : Below w1.heap.size w1 (w1.alloc (.cells #[.slice A xs.length c] 29)) := (Below.refl _ _).alloc (Nat.le_refl _) _
    have c0 : (w1.alloc (.cells #[.slice A xs.length c] 29)).cell? ⟨w1.heap.size, 0, none⟩ = some (.slice A xs.length c) := (Blk.new w1 29 #[.slice A xs.length c]).cell 0
    have hL2 := hL.below hb2
    have hbb := bt2 hb1 hb2
    clear hL hb1 hb2
    go_wp2_with fail
    generalize w1.alloc (.cells #[.slice A xs.length c] 29) = w2 at c0 hL2 hbb ⊢
    refine (hI.out _ hL2.rl).mono ?_
    rintro e w3 ⟨rfl, hb3⟩
    have c3 := cell_on hb3 c0
    have hL3 := hL2.below hb3
    have hbb3 := bt2 hbb hb3
    clear hb3 c0 hL2 hbb
    cases V
    · have hF0 : ¬ (0 ≤ F) := by rw [hpf]; simp
      clear hpf
      go_wp2_with fail
      refine (hV.out _ hL3.rl).mono ?_
      rintro e w4 ⟨rfl, hq4⟩
      have c4 := cell_on hq4 c3
      have hL4 := hL3.below hq4
      go_wp2_with fail
      refine (hF.out _ hL4.rl).mono ?_
      rintro e w5 ⟨rfl, hq5⟩
      go_wp2_with fail
      refine (hZ.out _).mono ?_
      rintro e w6 ⟨rfl, hq6⟩
      go_wp2_with fail
      go_ret
      have hd : (!decide (0 ≤ F)) = true := by rw [decide_eq_false (by omega)]; rfl
      exact ⟨congrArg (fun b => Ending.returned (.bool b)) hd, bt2 hbb3 (bt2 hq4 (bt2 hq5 hq6))⟩
    · have hF0 : 0 ≤ F := by rw [hpf]
      clear hpf
      go_wp2_with fail
      refine (hV.out _ hL3.rl).mono ?_
      rintro e w4 ⟨rfl, hq4⟩
      have c4 := cell_on hq4 c3
      have hL4 := hL3.below hq4
      go_wp2_with fail
      refine (hF.out _ hL4.rl).mono ?_
      rintro e w5 ⟨rfl, hq5⟩
      go_wp2_with fail
      refine (hZ.out _).mono ?_
      rintro e w6 ⟨rfl, hq6⟩
      go_wp2_with fail
      go_ret
      exact ⟨rfl, bt2 hbb3 (bt2 hq4 (bt2 hq5 hq6))⟩

end Go.Proofs.Ytnhkpigakbiddaa
