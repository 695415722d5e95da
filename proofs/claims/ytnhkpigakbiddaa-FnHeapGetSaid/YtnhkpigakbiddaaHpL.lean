/-
  The statements over drawn heaps. Conditions: the argument reads as a list of bytes.
-/
import Derived.Test.YtnhkpigakbiddaaAnyH
namespace Go.Proofs.Ytnhkpigakbiddaa
open Go.RowKit
set_option linter.unusedVariables false
set_option linter.unusedSimpArgs false

def DrawnH (w : World) (e : Ending) (w' : World) : Prop :=
  ∃ A c ps, e = .returned (.agg #[.slice A ps.length c]) ∧ Hp w' A ps ∧ Small ps ∧ ps.length ≤ 7 ∧ ps.length ≤ c ∧ c ≤ 9223372036854775807 ∧ Below w.heap.size w w'

set_option maxHeartbeats 1000000 in
theorem drawVH (A : Option Addr) (c : Nat) (zs : List Int) (w : World) (h : Bytes w A c zs) :
    Calls Try.prog 25 #[.slice A zs.length c] w (DrawnH w) := by
  have kr := Blk.new w 46 #[.slice none 0 0]
  have hb0 : Below w.heap.size w (w.alloc (.cells #[.slice none 0 0] 46)) := (Below.refl _ _).alloc (Nat.le_refl _) _
  go_enter Try.func25, Try.ntmps25
  go_wp2_with fail
  refine (new_any A c zs _ (h.rl.alloc _) h.rng h.cap h.max (fun b hz ha => by have := h.blk b hz ha; simp; omega)).mono ?_
  rintro e w1 ⟨rfl, hr, hb⟩
  have hb1 := bt hb0 hb hb0.size
  have kr1 := kr.below hb
  have hk1 := kr.lt
  generalize (w.alloc (.cells #[.slice none 0 0] 46)).heap.size = S at hr hk1
  clear kr hb0 hb
  go_wp2_with fail
  refine (anyH _ _ _ w1 hr (by omega)).mono ?_
  rintro e w2 ⟨v, xs, rfl, hown, hps, hl7, hr2, hg2⟩
  obtain ⟨A, c, rfl, hL, -⟩ := ow_open (by omega) encG_len hown
  have kr2 := kr1.kept hg2 (by simp; omega)
  have hb2 := below_of_grown hb1 hg2 (by omega) hb1.size
  have hz1 := kr1.lt
  have hz2 := hb2.size
  have r0 : w2.cell? ⟨w.heap.size, 0, none⟩ = some (.slice none 0 0) := kr2.cell 0
  have s0 := kr2.free 0
  clear hr hr2 hg2 hown kr1
  obtain ⟨kF, gF⟩ := res1 kr2 (.slice A xs.length c)
  go_wp2_with fail
  generalize hF : World.setCell _ _ _ = wF at kF gF ⊢
  have y0 : wF.cell? ⟨w.heap.size, 0, none⟩ = some (.slice A xs.length c) := kF.cell 0
  refine bodyPost_ret (v := .agg #[.slice A xs.length c]) (by simp [results, Try.f25, go_sem, y0] <;> rfl) rfl ?_
  have hLF := hL.kept gF (fun q e => by cases e; omega)
  have hpF := hps.kept gF (fun q e => by cases e; omega)
  exact ⟨A, c, xs, rfl, ⟨hLF.rl, hpF.rl⟩, hpF.small hl7, hl7, hLF.cap, hLF.max, below_of_grown hb2 gF (Nat.le_refl _) hz2⟩
set_option maxHeartbeats 1000000 in
theorem drawHS (A : Option Addr) (c : Nat) (zs : List Int) (w : World) (h : Bytes w A c zs) :
    Calls Try.prog 31 #[.slice A zs.length c] w (DrawnH w) := by
  have kr := Blk.new w 46 #[.slice none 0 0]
  have hb0 : Below w.heap.size w (w.alloc (.cells #[.slice none 0 0] 46)) := (Below.refl _ _).alloc (Nat.le_refl _) _
  go_enter Try.func31, Try.ntmps31
  go_wp2_with fail
  refine (new_any A c zs _ (h.rl.alloc _) h.rng h.cap h.max (fun b hz ha => by have := h.blk b hz ha; simp; omega)).mono ?_
  rintro e w1 ⟨rfl, hr, hb⟩
  have hb1 := bt hb0 hb hb0.size
  have kr1 := kr.below hb
  have hk1 := kr.lt
  generalize (w.alloc (.cells #[.slice none 0 0] 46)).heap.size = S at hr hk1
  clear kr hb0 hb
  go_wp2_with fail
  refine (anyH _ _ _ w1 hr (by omega)).mono ?_
  rintro e w2 ⟨v, xs, rfl, hown, hps, hl7, hr2, hg2⟩
  obtain ⟨A, c, rfl, hL, -⟩ := ow_open (by omega) encG_len hown
  have kr2 := kr1.kept hg2 (by simp; omega)
  have hb2 := below_of_grown hb1 hg2 (by omega) hb1.size
  have hz1 := kr1.lt
  have hz2 := hb2.size
  have r0 : w2.cell? ⟨w.heap.size, 0, none⟩ = some (.slice none 0 0) := kr2.cell 0
  have s0 := kr2.free 0
  clear hr hr2 hg2 hown kr1
  obtain ⟨kF, gF⟩ := res1 kr2 (.slice A xs.length c)
  go_wp2_with fail
  generalize hF : World.setCell _ _ _ = wF at kF gF ⊢
  have y0 : wF.cell? ⟨w.heap.size, 0, none⟩ = some (.slice A xs.length c) := kF.cell 0
  refine bodyPost_ret (v := .agg #[.slice A xs.length c]) (by simp [results, Try.f31, go_sem, y0] <;> rfl) rfl ?_
  have hLF := hL.kept gF (fun q e => by cases e; omega)
  have hpF := hps.kept gF (fun q e => by cases e; omega)
  exact ⟨A, c, xs, rfl, ⟨hLF.rl, hpF.rl⟩, hpF.small hl7, hl7, hLF.cap, hLF.max, below_of_grown hb2 gF (Nat.le_refl _) hz2⟩

theorem vh_take {ps : List Pg} (k : Nat) (h : vh (xss ps) = true) : vh (xss (ps.take k)) = true := by
  unfold vh xss at *
  simp only [Bool.and_eq_true, decide_eq_true_eq, List.all_eq_true, List.length_map, List.mem_map, List.length_take] at *
  refine ⟨by omega, ?_⟩
  rintro x ⟨p, hp, rfl⟩
  exact h.2 _ ⟨p, List.mem_of_mem_take hp, rfl⟩

set_option maxHeartbeats 4000000 in
theorem validH_law (A : Option Addr) (c : Nat) (zs : List Int) (w : World) (h : Bytes w A c zs) :
    Calls Try.prog 8 #[.slice A zs.length c] w fun e w' => e = .returned (.bool true) ∧ Below w.heap.size w w' := by
  have hcap := h.cap
  have hmax := h.max
  by_cases hl : 1048576 < zs.length
  · go_enter Try.func8, Try.ntmps8
    go_wp2
    go_ret
    exact ⟨rfl, Below.refl _ _⟩
  · go_enter Try.func8, Try.ntmps8
    go_wp2_with fail
    refine (drawVH A c zs _ h).mono ?_
    rintro e w1 ⟨A, c, ps, rfl, hL, hsm, hl7, hlc, hlm, hb1⟩
    have hV : Hid (∀ W, Hp W A ps → Calls Try.prog 27 #[.agg #[.slice A ps.length c]] W fun e w' => e = .returned (.bool (vh (xss ps))) ∧ Below W.heap.size W w') := fun W hr => VHS A c ps W hr hsm
    have hI : Hid (∀ W, Hp W A ps → Calls Try.prog 26 #[.agg #[.slice A ps.length c]] W fun e w' => e = .returned (.bool (vh (xss ps))) ∧ Below W.heap.size W w') := fun W hr => vhI A c ps W hr hsm
    have hP : Hid (vh (xss ps) = true → ∀ (k : Nat), k ≤ ps.length → ∀ W, Hp W A ps → Calls Try.prog 26 #[.agg #[.slice A k c]] W fun e w' => e = .returned (.bool true) ∧ Below W.heap.size W w') := fun hv k hk W hr => by
      have := vhI A c (ps.take k) W ⟨hr.1.take k, fun p hp => hr.2 p (List.mem_of_mem_take hp)⟩ ⟨by simp; omega, fun p hp => hsm.2 p (List.mem_of_mem_take hp)⟩
      rw [vh_take k hv, List.length_take, Nat.min_eq_left hk] at this
      exact this
    generalize vh (xss ps) = V at hV hI hP
    have hb2 : Below w1.heap.size w1 (w1.alloc (.cells #[.slice A ps.length c] 46)) := (Below.refl _ _).alloc (Nat.le_refl _) _
    have c0 : (w1.alloc (.cells #[.slice A ps.length c] 46)).cell? ⟨w1.heap.size, 0, none⟩ = some (.slice A ps.length c) := (Blk.new w1 46 #[.slice A ps.length c]).cell 0
    have hL2 := hL.below hb2
    have hbb := bt2 hb1 hb2
    clear hL hb1 hb2
    go_wp2_with fail
    generalize w1.alloc (.cells #[.slice A ps.length c] 46) = w2 at c0 hL2 hbb ⊢
    refine (hI.out _ hL2).mono ?_
    rintro e w3 ⟨rfl, hb3⟩
    have c3 := cell_on hb3 c0
    have hL3 := hL2.below hb3
    have hbb3 := bt2 hbb hb3
    clear hb3 c0 hL2 hbb
    go_wp2_with fail
    refine (hV.out _ hL3).mono ?_
    rintro e w4 ⟨rfl, hb4⟩
    have c4 := cell_on hb4 c3
    have hL4 := hL3.below hb4
    have hbb4 := bt2 hbb3 hb4
    clear hb4 c3 hL3 hbb3
    cases V
    · go_wp2_with fail
      refine (hV.out _ hL4).mono ?_
      rintro e w5 ⟨rfl, hb5⟩
      go_wp2_with fail
      go_ret
      exact ⟨rfl, bt2 hbb4 hb5⟩
    · by_cases hz : 0 < ps.length
      · obtain ⟨k, hk⟩ : ∃ k, ps.length = k + 1 := ⟨ps.length - 1, by omega⟩
        have hQ := hide (hP.out rfl k (by omega))
        obtain ⟨b, off, hA⟩ : ∃ b off, A = some ⟨b, off, none⟩ := by
          rcases hL4.1 with e | ⟨b, off, e, _⟩
          · rw [e] at hz; simp at hz
          · exact ⟨b, off, e⟩
        subst hA
        have e1 : ((ps.length : Int) - 1).toNat = k := by omega
        have z1 : ((ps.length : Int) == 0) = false := by rw [beq_eq_false_iff_ne]; omega
        have hz' : (1 : Int) ≤ (ps.length : Int) := by omega
        have hkc : (ps.length : Int) - 1 ≤ (c : Int) := by omega
        clear hk
        go_wp2_with fail
        refine (hQ.out _ hL4).mono ?_
        rintro e w5 ⟨rfl, hb5⟩
        go_wp2_with fail
        go_ret
        exact ⟨rfl, bt2 hbb4 hb5⟩
      · have z1 : ((ps.length : Int) == 0) = true := by rw [beq_iff_eq]; omega
        go_wp2_with fail
        refine (hV.out _ hL4).mono ?_
        rintro e w5 ⟨rfl, hb5⟩
        go_wp2_with fail
        go_ret
        exact ⟨rfl, bt2 hbb4 hb5⟩

end Go.Proofs.Ytnhkpigakbiddaa
