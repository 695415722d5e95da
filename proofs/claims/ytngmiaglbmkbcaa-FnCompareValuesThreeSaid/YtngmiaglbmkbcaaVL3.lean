/-
  The statement that values are ordered. Conditions: the argument reads as a list of bytes.
-/
import Derived.Test.YtngmiaglbmkbcaaVL2
namespace Go.Proofs.Ytngmiaglbmkbcaa
open Go.RowKit
set_option linter.unusedVariables false
set_option linter.unusedSimpArgs false

set_option maxHeartbeats 1000000 in
theorem compareLaw_walk (A : Option Addr) (c : Nat) (zs : List Int) (w : World) (h : Bytes w A c zs) :
    Calls Try.prog 7 #[.slice A zs.length c] w fun e w' => e = .returned (.bool true) ∧ Below w.heap.size w w' := by
  have hcap := h.cap
  have hmax := h.max
  by_cases hl : 1048576 < zs.length
  · go_enter Try.func7, Try.ntmps7
    go_wp2
    go_ret
    exact ⟨rfl, Below.refl _ _⟩
  · go_enter Try.func7, Try.ntmps7
    go_wp2_with fail
    refine (drawTwo A c zs _ h).mono ?_
    rintro e w1 ⟨a, b, rfl, sa, sb, hb1⟩
    have hI : Hid (∀ W, Calls Try.prog 19 #[.agg #[.int .i64 a.k, .int .i64 a.n, .string a.s], .agg #[.int .i64 b.k, .int .i64 b.n, .string b.s]] W fun e w' => e = .returned (.int .i64 (cv a b)) ∧ Below W.heap.size W w') := fun W => cvI a b W (by omega) (by omega)
    have hS : Hid (∀ W, Calls Try.prog 18 #[.agg #[.int .i64 a.k, .int .i64 a.n, .string a.s], .agg #[.int .i64 b.k, .int .i64 b.n, .string b.s]] W fun e w' => e = .returned (.int .i64 (cv a b)) ∧ Below W.heap.size W w') := fun W => cvS a b W (by omega) (by omega)
    have hJ : Hid (∀ W, Calls Try.prog 19 #[.agg #[.int .i64 b.k, .int .i64 b.n, .string b.s], .agg #[.int .i64 a.k, .int .i64 a.n, .string a.s]] W fun e w' => e = .returned (.int .i64 (cv b a)) ∧ Below W.heap.size W w') := fun W => cvI b a W (by omega) (by omega)
    have bA := (Blk.new w1 28 #[.int .i64 a.k, .int .i64 a.n, .string a.s]).alloc (.cells #[.int .i64 b.k, .int .i64 b.n, .string b.s] 28)
    have bB := Blk.new (w1.alloc (.cells #[.int .i64 a.k, .int .i64 a.n, .string a.s] 28)) 28 #[.int .i64 b.k, .int .i64 b.n, .string b.s]
    simp only [World.size_alloc] at bB
    have hbA := (hb1.alloc hb1.size (.cells #[.int .i64 a.k, .int .i64 a.n, .string a.s] 28)).alloc (by have := hb1.size; simp; omega) (.cells #[.int .i64 b.k, .int .i64 b.n, .string b.s] 28)
    have hcase : (cv a b = 2) ∨ (cv a b ≠ 2 ∧ (cv a b = -1 ∨ cv a b = 0 ∨ cv a b = 1) ∧ cv b a = - cv a b ∧ (cv a b = 0 ↔ a = b)) := by
      by_cases h2 : cv a b = 2
      · exact .inl h2
      · have hv : (vv a && vv b) = true := by
          cases hh : (vv a && vv b)
          · exact absurd (cv_two.2 hh) h2
          · rfl
        rw [Bool.and_eq_true] at hv
        have h3 := ci_rng a b
        rw [cv_ci hv.1 hv.2, cv_ci hv.2 hv.1]
        refine .inr ⟨by omega, by omega, ci_opp a b, ci_zero hv.1 hv.2⟩
    clear hb1
    rcases hcase with h2 | ⟨hn2, h3, h4, h5⟩
    · rw [h2] at hI hS
      clear h2
      go_wp2_with fail
      refine (hI.out _).mono ?_
      rintro e w2 ⟨rfl, hb2⟩
      replace bA := bA.below hb2
      replace bB := bB.below hb2
      replace hbA := bt2 hbA hb2
      clear hb2
      obtain ⟨ca02, ca12, ca22⟩ := blk_cells3 bA
      obtain ⟨cb02, cb12, cb22⟩ := blk_cells3 bB
      go_wp2_with fail
      refine (hS.out _).mono ?_
      rintro e w3 ⟨rfl, hb3⟩
      replace bA := bA.below hb3
      replace bB := bB.below hb3
      replace hbA := bt2 hbA hb3
      clear hb3
      obtain ⟨ca03, ca13, ca23⟩ := blk_cells3 bA
      obtain ⟨cb03, cb13, cb23⟩ := blk_cells3 bB
      go_wp2_with fail
      refine (hS.out _).mono ?_
      rintro e w4 ⟨rfl, hb4⟩
      replace bA := bA.below hb4
      replace bB := bB.below hb4
      replace hbA := bt2 hbA hb4
      clear hb4
      obtain ⟨ca04, ca14, ca24⟩ := blk_cells3 bA
      obtain ⟨cb04, cb14, cb24⟩ := blk_cells3 bB
      go_wp2_with fail
      go_ret
      exact ⟨rfl, hbA⟩
    · rw [h4] at hJ
      have h5' : (cv a b == 0) = eqv a b := by
        rw [Bool.eq_iff_iff, beq_iff_eq, eqv_iff, h5]
      have h5h := hide h5'
      clear h4 h5 h5' hn2
      rcases h3 with h3 | h3 | h3
      all_goals
        rw [h3] at hI hS hJ h5h
        clear h3
        go_wp2_with fail
        refine (hI.out _).mono ?_
        rintro e w2 ⟨rfl, hb2⟩
        replace bA := bA.below hb2
        replace bB := bB.below hb2
        replace hbA := bt2 hbA hb2
        clear hb2
        obtain ⟨ca02, ca12, ca22⟩ := blk_cells3 bA
        obtain ⟨cb02, cb12, cb22⟩ := blk_cells3 bB
        go_wp2_with fail
        refine (hS.out _).mono ?_
        rintro e w3 ⟨rfl, hb3⟩
        replace bA := bA.below hb3
        replace bB := bB.below hb3
        replace hbA := bt2 hbA hb3
        clear hb3
        obtain ⟨ca03, ca13, ca23⟩ := blk_cells3 bA
        obtain ⟨cb03, cb13, cb23⟩ := blk_cells3 bB
        go_wp2_with fail
        refine (hJ.out _).mono ?_
        rintro e w4 ⟨rfl, hb4⟩
        replace bA := bA.below hb4
        replace bB := bB.below hb4
        replace hbA := bt2 hbA hb4
        clear hb4
        obtain ⟨ca04, ca14, ca24⟩ := blk_cells3 bA
        obtain ⟨cb04, cb14, cb24⟩ := blk_cells3 bB
        go_wp2_with fail
      all_goals (first
        | (go_ret; exact ⟨rfl, hbA⟩)
        | (exfalso
           have hq := h5h.out
           clear hI hS hJ bA bB hbA
           unfold eqv at hq
           simp_all))

end Go.Proofs.Ytngmiaglbmkbcaa
