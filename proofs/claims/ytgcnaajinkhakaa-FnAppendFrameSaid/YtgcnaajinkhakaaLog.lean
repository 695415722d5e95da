/-
  Drawing a log: mutate, anyLog: they hand back some text of bounded length. Conditions: the reader is one that newReader made.
-/
import Derived.Test.YtgcnaajinkhakaaFrame
import Derived.Test.YtgcnaajinkhakaaDrawS
import Derived.Deep.RegionHeld3
import Derived.Deep.DrawnRows
namespace Go.Proofs.Ytgcnaajinkhakaa
open Go.RowKit
set_option linter.unusedVariables false
set_option linter.unusedSimpArgs false

/-- A number of 0..5. -/
def intB : Value → Bool | .int .i64 z => decide (0 ≤ z) && decide (z ≤ 5) | _ => false
theorem intB_at {arr : Array Value} (h : arr.all intB = true) {k : Nat} (hk : k < arr.size) : ∃ z, arr[k]? = some (.int .i64 z) ∧ 0 ≤ z ∧ z ≤ 5 := by
  have := Array.all_eq_true.1 h k hk
  rw [Array.getElem?_eq_getElem hk]
  cases hv : arr[k] with
  | int q z =>
    rw [hv] at this
    cases q <;> simp [intB] at this
    exact ⟨z, rfl, this⟩
  | _ => rw [hv] at this; simp [intB] at this
def DrawnI (B R N : Nat) (w : World) (e : Ending) (w' : World) : Prop :=
  ∃ z : Int, e = .returned (.int .i64 z) ∧ 0 ≤ z ∧ z ≤ 5 ∧ Rdr w' B R (N + 1) ∧ w.grownBy w' (some R)
theorem oneL_any (B R N n c : Nat) (arr : Array Value) (w : World) (h : Rdr w B R N) (hN : N ≤ 1000000) (ha : arr.all intB = true) (hn : arr.size = n) (h0 : 0 < n) (hm : n ≤ 1000000) :
    Calls Try.prog 45 #[.pointer (some ⟨R, 0, none⟩), .slice (some ⟨w.heap.size, 0, none⟩) n c] (w.alloc (.cells arr 3)) (DrawnI B R N w) := by
  have hR := h.lt
  have hb := Blk.new w 3 arr
  have hr' := h.alloc (.cells arr 3)
  have hg0 := w.grownBy_alloc (.cells arr 3) (some R)
  subst hn
  generalize w.alloc (.cells arr 3) = w0 at hb hr' hg0
  go_enter Try.func45, Try.ntmps45
  go_wp2_with fail
  refine (pick_any B R N _ w0 hr' (by omega) (by omega) (by omega)).mono ?_
  rintro e w' ⟨v, rfl, v0, v1, hr, hgr⟩
  obtain ⟨k, rfl⟩ := Int.eq_ofNat_of_zero_le v0
  have hk : k < arr.size := by omega
  obtain ⟨s, hs, hM⟩ := intB_at ha hk
  have hb' := hb.kept hgr (by simp; omega)
  have ck : w'.cell? ⟨w.heap.size, k, none⟩ = some (.int .i64 s) := (hb'.cell k).trans hs
  clear hs hb hb' ha v1
  go_wp2
  go_ret
  exact ⟨s, rfl, hM.1, hM.2, hr, grown_trans hg0 hgr⟩
set_option maxHeartbeats 2000000 in
theorem mutate_any (B R N M : Nat) (s : ByteArray) (w : World) (h : Rdr w B R N) (hN : N ≤ 100000) (hs : s.size ≤ M) (hM : M ≤ 1000000) :
    Calls Try.prog 46 #[.pointer (some ⟨R, 0, none⟩), .string s] w fun e w' => ∃ t : ByteArray, e = .returned (.string t) ∧ t.size ≤ M + 5 ∧ Rdr w' B R (N + 3) ∧ w.grownBy w' (some R) := by
  have hR := h.lt
  go_enter Try.func46, Try.ntmps46
  go_wp2_with fail
  refine (pick_any B R N _ w h (by omega) (by omega) (by omega)).mono ?_
  rintro e w1 ⟨v, rfl, v0, v1, hr1, hg1⟩
  obtain ⟨k, rfl⟩ := Int.eq_ofNat_of_zero_le v0
  have hk : k ≤ s.size := by omega
  clear v1
  go_wp2_with fail
  refine (pick_any B R (N + 1) _ w1 hr1 (by omega) (by omega) (by omega)).mono ?_
  rintro e w2 ⟨q, rfl, q0, q1, hr2, hg2⟩
  have hg2' := grown_trans hg1 hg2
  have q5 : q < 5 := by omega
  clear q1 hg1 hg2 hr1
  have qq : q = 0 ∨ q = 1 ∨ q = 2 ∨ (q = 3 ∨ q = 4) := by omega
  rcases qq with rfl | rfl | rfl | qq
  · by_cases hks : k < s.size
    · have z1 : (s.extract 0 k).size ≤ k := by rw [ByteArray.size_extract]; omega
      have z2 : (s.extract (k + 1) s.size).size ≤ s.size - (k + 1) := by rw [ByteArray.size_extract]; omega
      have p1 : (k : Int) ≤ (s.size : Int) := by omega
      have p2 : (k : Int) + 1 ≤ (s.size : Int) := by omega
      have p3 : (0 : Int) ≤ (k : Int) + 1 := by omega
      have p4 : (k : Int) < (s.size : Int) := by omega
      have hrd := hr2.drew
      have hgd := grown_drew hg2'
      go_wp2_with fail
      have v1 : IntKind.i64.wrap ((k : Int) + 1) = k + 1 := IntWalk.i64_in _ (by omega)
      have v2 : ((k : Int) + 1).toNat = k + 1 := by omega
      go_region_with (first | (go_at_call 33; refine (of_any 1 B R _ 8 8 _ _ hrd (by omega) (by kernel_rfl) (by rfl) (by omega) (by omega)).mono ?_; rintro e w3 ⟨a, rfl, ha, hr3, hg3⟩))
      all_goals clear v1 v2
      all_goals (try (exfalso; omega))
      all_goals
        go_wp2_with fail
        go_ret
        exact ⟨_, rfl, by rw [ByteArray.size_append, ByteArray.size_append]; omega, hr3, grown_trans hgd hg3⟩
    · have hks' : ¬ ((k : Int) < (s.size : Int)) := by omega
      go_wp2_with fail
      go_ret
      exact ⟨s, rfl, by omega, hr2.mono (by omega), hg2'⟩
  · have hks : (k : Int) ≤ (s.size : Int) := by omega
    go_wp2_with fail
    go_ret
    exact ⟨_, rfl, by rw [ByteArray.size_extract]; omega, hr2.mono (by omega), hg2'⟩
  · go_wp2_with fail
    refine (of_any 5 _ _ _ 6 6 _ w2 hr2 (by omega) (by kernel_rfl) (by rfl) (by omega) (by omega)).mono ?_
    rintro e w3 ⟨a, rfl, ha, hr3, hg3⟩
    go_wp2_with fail
    go_ret
    exact ⟨s ++ a, rfl, by rw [ByteArray.size_append]; omega, hr3, grown_trans hg2' hg3⟩
  · have n0 : (q == 0) = false := by rw [beq_eq_false_iff_ne]; omega
    have n1 : (q == 1) = false := by rw [beq_eq_false_iff_ne]; omega
    have n2 : (q == 2) = false := by rw [beq_eq_false_iff_ne]; omega
    go_wp2_with fail
    go_ret
    exact ⟨s, rfl, by omega, hr2.mono (by omega), hg2'⟩

set_option maxHeartbeats 2000000 in
theorem anyLog_any (B R N : Nat) (w : World) (h : Rdr w B R N) (hN : N ≤ 1000) :
    Calls Try.prog 37 #[.pointer (some ⟨R, 0, none⟩)] w fun e w' => ∃ t : ByteArray, e = .returned (.string t) ∧ t.size ≤ 200 ∧ Rdr w' B R (N + 10) ∧ w.grownBy w' (some R) := by
  have hR := h.lt
  go_enter Try.func37, Try.ntmps37
  go_wp2_with fail
  refine (oneL_any B R N 5 5 _ w h (by omega) (by kernel_rfl) (by rfl) (by omega) (by omega)).mono ?_
  rintro e w1 ⟨v, rfl, v0, v1, hr1, hg1⟩
  obtain ⟨n, rfl⟩ := Int.eq_ofNat_of_zero_le v0
  go_wp2_with fail
  go_loopw [3, 4] (fun o u wr => ∃ (k : Nat) (t : ByteArray), u = .int .i64 k ∧ o = .string t ∧ k ≤ 5 ∧ t.size + 19 * k ≤ 95 ∧ Rdr wr B R (N + 1 + (5 - k)) ∧ w.grownBy wr (some R)) (fun _ u _ => (intOf u).toNat)
  case atStart => exact ⟨n, ByteArray.empty, rfl, rfl, by omega, by simp; omega, hr1.mono (by omega), hg1⟩
  case round =>
    obtain ⟨k, t, rfl, rfl, hk, ht, hr, hg⟩ := hrel
    clear hr1 hg1
    by_cases hp : 0 < k
    · have hp' : (0 : Int) < (k : Int) := by omega
      go_wp2_with fail
      refine (of_any 13 B R _ 5 5 _ wr hr (by omega) (by kernel_rfl) (by rfl) (by omega) (by omega)).mono ?_
      rintro e w2 ⟨a, rfl, ha, hr2, hg2⟩
      have hz := frm_size a
      go_wp2_with fail
      refine (frame_any a _ (by omega)).mono ?_
      rintro e w3 ⟨rfl, hb3⟩
      have hr3 := hr2.below hb3
      have hg3 := grown_trans (grown_trans hg hg2) (grown_below hb3 (some R))
      have hz' : (frm a).size ≤ 19 := by omega
      clear hz
      generalize frm a = f at hz'
      go_wp2_with fail
      go_roundw
      case rel => exact ⟨k - 1, t ++ f, by rw [Value.int.injEq]; exact ⟨rfl, by omega⟩, rfl, by omega, by rw [ByteArray.size_append]; omega, hr3.mono (by omega), hg3⟩
      case measure => simp [intOf]; omega
    · obtain rfl : k = 0 := by omega
      go_wp2_with fail
      refine (pick_any B R _ _ wr hr (by omega) (by omega) (by omega)).mono ?_
      rintro e w2 ⟨q, rfl, q0, q1, hr2, hg2⟩
      have hg2' := grown_trans hg hg2
      have q4 : q < 4 := by omega
      clear q1 hg hg2 hr
      have qq : q = 0 ∨ q = 1 ∨ (q = 2 ∨ q = 3) := by omega
      rcases qq with rfl | rfl | qq
      · go_wp2_with fail
        refine (mutate_any B R _ 95 t w2 hr2 (by omega) (by omega) (by omega)).mono ?_
        rintro e w3 ⟨a, rfl, ha, hr3, hg3⟩
        go_wp2_with fail
        go_ret
        exact ⟨a, rfl, by omega, hr3.mono (by omega), grown_trans hg2' hg3⟩
      · go_wp2_with fail
        refine (of_any 6 B R _ 5 5 _ w2 hr2 (by omega) (by kernel_rfl) (by rfl) (by omega) (by omega)).mono ?_
        rintro e w3 ⟨a, rfl, ha, hr3, hg3⟩
        go_wp2_with fail
        go_ret
        exact ⟨t ++ a, rfl, by rw [ByteArray.size_append]; omega, hr3.mono (by omega), grown_trans hg2' hg3⟩
      · have n0 : (q == 0) = false := by rw [beq_eq_false_iff_ne]; omega
        have n1 : (q == 1) = false := by rw [beq_eq_false_iff_ne]; omega
        go_wp2_with fail
        go_ret
        exact ⟨t, rfl, by omega, hr2.mono (by omega), hg2'⟩

end Go.Proofs.Ytgcnaajinkhakaa
