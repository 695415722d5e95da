/-
  The exact statements on one and two values and on keys, walked; and the small functions that they go through. Conditions: texts are no longer than Go lets one be.
-/
import Derived.Test.YtngmiaglbmkbcaaCmp
import Derived.Deep.RegionHeld3
import Derived.Deep.DrawnRows
namespace Go.Proofs.Ytngmiaglbmkbcaa
open Go.RowKit
set_option linter.unusedVariables false
set_option linter.unusedSimpArgs false

theorem toV (v : Vl) (w : World) :
    Calls Try.prog 16 #[.agg #[.int .i64 v.k, .int .i64 v.n, .string v.s]] w fun e w' => e = .returned (.agg #[.int .i64 v.k, .int .i64 v.n, .string v.s]) ∧ Below w.heap.size w w' := by
  go_enter Try.func16, Try.ntmps16
  go_wp2
  go_returns
  exact ⟨rfl, by go_grown⟩

theorem szV (v : Vl) (left : Int) (w : World) (hs : v.s.size ≤ 9223372036854775807) (h0 : 0 ≤ left) (h1 : left ≤ 1048576) :
    Calls Try.prog 14 #[.agg #[.int .i64 v.k, .int .i64 v.n, .string v.s], .int .i64 left] w fun e w' => e = .returned (.int .i64 (if (v.s.size : Int) ≤ left then left - v.s.size else -1)) ∧ Below w.heap.size w w' := by
  by_cases h : (v.s.size : Int) ≤ left
  · rw [if_pos h]
    go_enter Try.func14, Try.ntmps14
    go_wp2
    go_ret
    exact ⟨rfl, by go_grown⟩
  · rw [if_neg h]
    go_enter Try.func14, Try.ntmps14
    go_wp2
    go_ret
    exact ⟨rfl, by go_grown⟩

theorem exactKeys_walk (s t : ByteArray) (w : World) (hs : s.size ≤ 9223372036854775807) (ht : t.size ≤ 9223372036854775807) :
    Calls Try.prog 3 #[.string s, .string t] w fun e w' => e = .returned (.bool true) ∧ Below w.heap.size w w' := by
  by_cases h1 : 1048576 < s.size
  · go_enter Try.func3, Try.ntmps3
    go_wp2
    go_ret
    exact ⟨rfl, Below.refl _ _⟩
  · by_cases h2 : 1048576 < t.size
    · go_enter Try.func3, Try.ntmps3
      go_wp2
      go_ret
      exact ⟨rfl, Below.refl _ _⟩
    · go_enter Try.func3, Try.ntmps3
      go_wp2_with (first
        | (go_at_call 12; refine (sKeys_any _ _ _).mono ?_; rintro e w' ⟨rfl, rfl⟩)
        | (go_at_call 13; refine (iKeys_any _ _ _).mono ?_; rintro e w' ⟨rfl, rfl⟩))
      go_ret
      exact ⟨rfl, Below.refl _ _⟩

theorem vvSx (v : Vl) (w : World) (hs : v.s.size ≤ 9223372036854775807) :
    Calls Try.prog 15 #[.agg #[.int .i64 v.k, .int .i64 v.n, .string v.s]] w fun e w' => e = .returned (.bool (vv v)) ∧ Below w.heap.size w w' := by
  go_enter Try.func15, Try.ntmps15
  go_wp2_with fail
  refine (vvS v.k v.n v.s _ hs).mono ?_
  rintro e w1 ⟨rfl, hb1⟩
  obtain ⟨hc1, hf1, hz1⟩ := bcell hb1
  try simp only [World.size_alloc] at hz1
  have hz1_0 : w.heap.size < w1.heap.size := by omega
  go_wp2_with fail
  go_ret
  exact ⟨rfl, bt (by go_grown) hb1 (by simp <;> omega)⟩
theorem vvIx (v : Vl) (w : World) (hs : v.s.size ≤ 9223372036854775807) :
    Calls Try.prog 17 #[.agg #[.int .i64 v.k, .int .i64 v.n, .string v.s]] w fun e w' => e = .returned (.bool (vv v)) ∧ Below w.heap.size w w' := vvI _ _ _ w hs

theorem exactValid_walk (v : Vl) (w : World) (hs : v.s.size ≤ 9223372036854775807) :
    Calls Try.prog 4 #[.agg #[.int .i64 v.k, .int .i64 v.n, .string v.s]] w fun e w' => e = .returned (.bool true) ∧ Below w.heap.size w w' := by
  go_enter Try.func4, Try.ntmps4
  go_wp2_with fail
  refine (szV v _ _ hs (by omega) (by omega)).mono ?_
  rintro e w1 ⟨rfl, hb1⟩
  obtain ⟨hc1, hf1, hz1⟩ := bcell hb1
  try simp only [World.size_alloc] at hz1
  have hz1_0 : w.heap.size < w1.heap.size := by omega
  by_cases hl : (v.s.size : Int) ≤ 1048576
  · rw [if_pos hl]
    go_wp2_with fail
    refine (toV v _).mono ?_
    rintro e w2 ⟨rfl, hb2⟩
    obtain ⟨hc2, hf2, hz2⟩ := bcell hb2
    try simp only [World.size_alloc] at hz2
    have hz2_0 : w.heap.size < w2.heap.size := by omega
    go_wp2_with fail
    refine (vvSx v _ hs).mono ?_
    rintro e w3 ⟨rfl, hb3⟩
    obtain ⟨hc3, hf3, hz3⟩ := bcell hb3
    try simp only [World.size_alloc] at hz3
    have hz3_0 : w.heap.size < w3.heap.size := by omega
    go_wp2_with fail
    refine (toV v _).mono ?_
    rintro e w4 ⟨rfl, hb4⟩
    obtain ⟨hc4, hf4, hz4⟩ := bcell hb4
    try simp only [World.size_alloc] at hz4
    have hz4_0 : w.heap.size < w4.heap.size := by omega
    go_wp2_with fail
    refine (vvIx v _ hs).mono ?_
    rintro e w5 ⟨rfl, hb5⟩
    obtain ⟨hc5, hf5, hz5⟩ := bcell hb5
    try simp only [World.size_alloc] at hz5
    have hz5_0 : w.heap.size < w5.heap.size := by omega
    go_wp2_with fail
    go_ret
    exact ⟨rfl, bt (bt (bt (bt (bt (by go_grown) hb1 (by simp <;> omega)) hb2 (by omega)) hb3 (by omega)) hb4 (by omega)) hb5 (by omega)⟩
  · rw [if_neg hl]
    go_wp2_with fail
    go_ret
    exact ⟨rfl, bt (by go_grown) hb1 (by simp <;> omega)⟩

theorem exactCompare_walk (a b : Vl) (w : World) (sa : a.s.size ≤ 9223372036854775807) (sb : b.s.size ≤ 9223372036854775807) :
    Calls Try.prog 5 #[.agg #[.int .i64 a.k, .int .i64 a.n, .string a.s], .agg #[.int .i64 b.k, .int .i64 b.n, .string b.s]] w fun e w' => e = .returned (.bool true) ∧ Below w.heap.size w w' := by
  go_enter Try.func5, Try.ntmps5
  go_wp2_with fail
  refine (szV a _ _ sa (by omega) (by omega)).mono ?_
  rintro e w1 ⟨rfl, hb1⟩
  obtain ⟨hc1, hf1, hz1⟩ := bcell hb1
  try simp only [World.size_alloc] at hz1
  have hz1_0 : w.heap.size < w1.heap.size := by omega
  have hz1_1 : w.heap.size + 1 < w1.heap.size := by omega
  by_cases hl : (a.s.size : Int) ≤ 1048576
  · rw [if_pos hl]
    have hl' : ¬ (1048576 - (a.s.size : Int) < 0) := by omega
    go_wp2_with fail
    refine (szV b _ _ sb (by omega) (by omega)).mono ?_
    rintro e w2 ⟨rfl, hb2⟩
    obtain ⟨hc2, hf2, hz2⟩ := bcell hb2
    try simp only [World.size_alloc] at hz2
    have hz2_0 : w.heap.size < w2.heap.size := by omega
    have hz2_1 : w.heap.size + 1 < w2.heap.size := by omega
    by_cases hm : (b.s.size : Int) ≤ 1048576 - (a.s.size : Int)
    · rw [if_pos hm]
      have hm' : ¬ (1048576 - (a.s.size : Int) - (b.s.size : Int) < 0) := by omega
      go_wp2_with fail
      have HS := hide (show ∀ w', Below w2.heap.size w2 w' → (w'.cell? ⟨w.heap.size, 0, none⟩ = some (.int .i64 a.k) ∧ w'.cell? ⟨w.heap.size, 1, none⟩ = some (.int .i64 a.n) ∧ w'.cell? ⟨w.heap.size, 2, none⟩ = some (.string a.s) ∧
          w'.cell? ⟨w.heap.size + 1, 0, none⟩ = some (.int .i64 b.k) ∧ w'.cell? ⟨w.heap.size + 1, 1, none⟩ = some (.int .i64 b.n) ∧ w'.cell? ⟨w.heap.size + 1, 2, none⟩ = some (.string b.s) ∧ Below w2.heap.size w2 w') from fun w' h => by
        refine ⟨?_, ?_, ?_, ?_, ?_, ?_, h⟩
        all_goals (rw [h.cell (by first | exact hz2_0 | exact hz2_1), hc2 _ _ (by first | exact hz1_0 | exact hz1_1), hc1 _ _ (by simp <;> omega)]; simp [go_sem]))
      clear hc1 hf1 hc2 hf2
      go_region_held3 (fun w' => w'.cell? ⟨w.heap.size, 0, none⟩ = some (.int .i64 a.k) ∧ w'.cell? ⟨w.heap.size, 1, none⟩ = some (.int .i64 a.n) ∧ w'.cell? ⟨w.heap.size, 2, none⟩ = some (.string a.s) ∧
          w'.cell? ⟨w.heap.size + 1, 0, none⟩ = some (.int .i64 b.k) ∧ w'.cell? ⟨w.heap.size + 1, 1, none⟩ = some (.int .i64 b.n) ∧ w'.cell? ⟨w.heap.size + 1, 2, none⟩ = some (.string b.s) ∧ Below w2.heap.size w2 w')
        (first | exact HS.out _ (Below.refl _ _).drew | exact HS.out _ (of_drew hb) | exact HS.out _ (bt2 (by assumption) hb) | (go_split_ands; exact HS.out _ (bt2 (by assumption) hb)))
        (first
          | (go_at_call_of 16 (Value.int .i64 a.k); refine (toV a _).mono ?_; rintro e w' ⟨rfl, hb⟩)
          | (go_at_call_of 16 (Value.int .i64 b.k); refine (toV b _).mono ?_; rintro e w' ⟨rfl, hb⟩)
          | (go_at_call 18; refine (cvS a b _ sa sb).mono ?_; rintro e w' ⟨rfl, hb⟩))
      obtain ⟨_, _, _, _, _, _, hB3⟩ := ‹_ ∧ _ ∧ _ ∧ _ ∧ _ ∧ _ ∧ Below w2.heap.size w2 _›
      rename_i w3 _
      go_wp2_with fail
      go_region_held3 (fun w' => w'.cell? ⟨w.heap.size, 0, none⟩ = some (.int .i64 a.k) ∧ w'.cell? ⟨w.heap.size, 1, none⟩ = some (.int .i64 a.n) ∧ w'.cell? ⟨w.heap.size, 2, none⟩ = some (.string a.s) ∧
          w'.cell? ⟨w.heap.size + 1, 0, none⟩ = some (.int .i64 b.k) ∧ w'.cell? ⟨w.heap.size + 1, 1, none⟩ = some (.int .i64 b.n) ∧ w'.cell? ⟨w.heap.size + 1, 2, none⟩ = some (.string b.s) ∧ Below w2.heap.size w2 w')
        (first | exact HS.out _ hB3.drew | exact HS.out _ (bt2 hB3 (of_drew hb)) | exact HS.out _ (bt2 (by assumption) hb) | (go_split_ands; exact HS.out _ (bt2 (by assumption) hb)))
        (first
          | (go_at_call_of 16 (Value.int .i64 a.k); refine (toV a _).mono ?_; rintro e w' ⟨rfl, hb⟩)
          | (go_at_call_of 16 (Value.int .i64 b.k); refine (toV b _).mono ?_; rintro e w' ⟨rfl, hb⟩)
          | (go_at_call 19; refine (cvI a b _ sa sb).mono ?_; rintro e w' ⟨rfl, hb⟩))
      obtain ⟨_, _, _, _, _, _, hB4⟩ := ‹_ ∧ _ ∧ _ ∧ _ ∧ _ ∧ _ ∧ Below w2.heap.size w2 _›
      go_wp2_with fail
      go_ret
      exact ⟨rfl, bt (bt (bt (by go_grown) hb1 (by simp <;> omega)) hb2 (by omega)) hB4 (by omega)⟩
    · rw [if_neg hm]
      go_wp2_with fail
      go_ret
      exact ⟨rfl, bt (bt (by go_grown) hb1 (by simp <;> omega)) hb2 (by omega)⟩
  · rw [if_neg hl]
    go_wp2_with fail
    go_ret
    exact ⟨rfl, bt (by go_grown) hb1 (by simp <;> omega)⟩

end Go.Proofs.Ytngmiaglbmkbcaa
