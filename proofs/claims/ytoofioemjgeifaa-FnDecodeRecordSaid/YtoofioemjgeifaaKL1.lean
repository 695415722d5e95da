/-
  Drawn rows and texts of keys and records: what DrawEncodeKey, DrawDecodeKey, DrawEncodeRecord, DrawDecodeRecord hand back. Conditions: the argument reads as a list of bytes.
-/
import Derived.Test.YtoofioemjgeifaaVRow
import Derived.Test.YtoofioemjgeifaaKeyY
import Derived.Test.YtoofioemjgeifaaKeyR
import Derived.Test.YtoofioemjgeifaaVTwo
import Derived.Test.YtoofioemjgeifaaRow
import Derived.Deep.RegionHeld3
import Derived.Deep.DrawnRows
namespace Go.Proofs.Ytoofioemjgeifaa
open Go.RowKit
set_option linter.unusedVariables false
set_option linter.unusedSimpArgs false

set_option maxHeartbeats 2000000 in
theorem mutate_any (B R N M : Nat) (s : ByteArray) (w : World) (h : Rdr w B R N) (hN : N ≤ 100000) (hs : s.size ≤ M) (hM : M ≤ 1000000) :
    Calls Try.prog 37 #[.pointer (some ⟨R, 0, none⟩), .string s] w fun e w' => ∃ t : ByteArray, e = .returned (.string t) ∧ t.size ≤ M + 5 ∧ Rdr w' B R (N + 3) ∧ w.grownBy w' (some R) := by
  have hR := h.lt
  go_enter Try.func37, Try.ntmps37
  go_wp2_with fail
  refine (pick_any B R N _ w h (by omega) (by omega) (by omega)).mono ?_
  rintro e w1 ⟨v, rfl, v0, v1, hr1, hg1⟩
  obtain ⟨k, rfl⟩ := Int.eq_ofNat_of_zero_le v0
  have hk : k ≤ s.size := by omega
  clear v1
  go_wp2_with fail
  refine (pick_any B R (N + 1) _ w1 hr1 (by omega) (by omega) (by omega)).mono ?_
  rintro e w2 ⟨q, rfl, q0, q1, hr2, hg2⟩
  have hg2' := grown_trans hg1 hg2
  have q5 : q < 5 := by omega
  clear q1 hg1 hg2 hr1
  have qq : q = 0 ∨ q = 1 ∨ q = 2 ∨ (q = 3 ∨ q = 4) := by omega
  rcases qq with rfl | rfl | rfl | qq
  · by_cases hks : k < s.size
    · have z1 : (s.extract 0 k).size ≤ k := by rw [ByteArray.size_extract]; omega
      have z2 : (s.extract (k + 1) s.size).size ≤ s.size - (k + 1) := by rw [ByteArray.size_extract]; omega
      have p1 : (k : Int) ≤ (s.size : Int) := by omega
      have p2 : (k : Int) + 1 ≤ (s.size : Int) := by omega
      have p3 : (0 : Int) ≤ (k : Int) + 1 := by omega
      have p4 : (k : Int) < (s.size : Int) := by omega
      have hrd := hr2.drew
      have hgd := grown_drew hg2'
      go_wp2_with fail
      have v1 : IntKind.i64.wrap ((k : Int) + 1) = k + 1 := IntWalk.i64_in _ (by omega)
      have v2 : ((k : Int) + 1).toNat = k + 1 := by omega
      go_region_with (first | (go_at_call 56; refine (of_any 1 B R _ 8 8 _ _ hrd (by omega) (by kernel_rfl) (by rfl) (by omega) (by omega)).mono ?_; rintro e w3 ⟨a, rfl, ha, hr3, hg3⟩))
      all_goals clear v1 v2
      all_goals (try (exfalso; omega))
      all_goals
        go_wp2_with fail
        go_ret
        exact ⟨_, rfl, by rw [ByteArray.size_append, ByteArray.size_append]; omega, hr3, grown_trans hgd hg3⟩
    · have hks' : ¬ ((k : Int) < (s.size : Int)) := by omega
      go_wp2_with fail
      go_ret
      exact ⟨s, rfl, by omega, hr2.mono (by omega), hg2'⟩
  · have hks : (k : Int) ≤ (s.size : Int) := by omega
    go_wp2_with fail
    go_ret
    exact ⟨_, rfl, by rw [ByteArray.size_extract]; omega, hr2.mono (by omega), hg2'⟩
  · go_wp2_with fail
    refine (of_any 5 _ _ _ 6 6 _ w2 hr2 (by omega) (by kernel_rfl) (by rfl) (by omega) (by omega)).mono ?_
    rintro e w3 ⟨a, rfl, ha, hr3, hg3⟩
    go_wp2_with fail
    go_ret
    exact ⟨s ++ a, rfl, by rw [ByteArray.size_append]; omega, hr3, grown_trans hg2' hg3⟩
  · have n0 : (q == 0) = false := by rw [beq_eq_false_iff_ne]; omega
    have n1 : (q == 1) = false := by rw [beq_eq_false_iff_ne]; omega
    have n2 : (q == 2) = false := by rw [beq_eq_false_iff_ne]; omega
    go_wp2_with fail
    go_ret
    exact ⟨s, rfl, by omega, hr2.mono (by omega), hg2'⟩


theorem sm_fit {vs : List Vl} (h : ∀ v ∈ vs, Sm v) : Fit vs := fun v hv => by have := (h v hv).2.2.2.2; omega
theorem EK_size (vs : List Vl) : (EK vs).size ≤ 100 := by
  unfold EK
  cases hv : vrB vs
  · simp
  · have := (ek_size (vr_mem hv)).2
    have := vr_len hv
    simp only [if_true]
    omega
theorem ER_size (tag : Int) (vs : List Vl) : (ER tag vs).size ≤ 100 := by
  unfold ER
  cases hv : vrB vs
  · simp
  · have := (ek_size (vr_mem hv)).2
    have := vr_len hv
    split
    · unfold er
      rw [ByteArray.size_append, strOfNums_size]
      simp
      omega
    · simp
def Row1 (w : World) (e : Ending) (w' : World) : Prop :=
  ∃ A c vs, e = .returned (.slice A vs.length c) ∧ Lst encV 3 w.heap.size w' A c vs ∧ vs.length ≤ 6 ∧ (∀ v ∈ vs, Sm v) ∧ Below w.heap.size w w'
theorem drawEK (A : Option Addr) (c : Nat) (zs : List Int) (w : World) (h : Bytes w A c zs) :
    Calls Try.prog 27 #[.slice A zs.length c] w (Row1 w) := by
  go_enter Try.func27, Try.ntmps27
  go_wp2_with fail
  refine (new_any A c zs w h.rl h.rng h.cap h.max h.blk).mono ?_
  rintro e w1 ⟨rfl, hr, hb⟩
  go_wp2_with fail
  refine (anyRow_any _ _ _ w1 hr (by omega)).mono ?_
  rintro e w2 ⟨A2, c2, vs, rfl, hL, hl, hsm, hr2, hg2⟩
  have hb2 : Below w.heap.size w w2 := below_of_grown hb hg2 (Nat.le_refl _) hb.size
  have hL2 := hL.mono hb.size
  go_wp2_with fail
  go_ret
  exact ⟨A2, c2, vs, rfl, hL2, hl, hsm, hb2⟩

def Txt1 (w : World) (e : Ending) (w' : World) : Prop := ∃ s : ByteArray, e = .returned (.string s) ∧ s.size ≤ 200 ∧ Below w.heap.size w w'
theorem drawDK (A : Option Addr) (c : Nat) (zs : List Int) (w : World) (h : Bytes w A c zs) :
    Calls Try.prog 33 #[.slice A zs.length c] w (Txt1 w) := by
  go_enter Try.func33, Try.ntmps33
  go_wp2_with fail
  refine (new_any A c zs w h.rl h.rng h.cap h.max h.blk).mono ?_
  rintro e w1 ⟨rfl, hr, hb⟩
  go_wp2_with fail
  refine (anyRow_any _ _ _ w1 hr (by omega)).mono ?_
  rintro e w2 ⟨A2, c2, vs, rfl, hL, hl, hsm, hr2, hg2⟩
  have hb2 : Below w.heap.size w w2 := below_of_grown hb hg2 (Nat.le_refl _) hb.size
  have zx := EK_size vs
  have ex := hide (fun W hr => EKS A2 c2 vs W hr (sm_fit hsm) (by omega))
  generalize EK vs = s at ex zx
  go_wp2_with fail
  refine (ex.out _ hL.rl).mono ?_
  rintro e w3 ⟨rfl, hb3⟩
  have hr3 := hr2.below hb3
  have hb3' := bt2 hb2 hb3
  clear hb hg2 hb2 hr2 hL hb3 ex
  go_wp2_with fail
  refine (pick_any _ _ _ _ w3 hr3 (by omega) (by omega) (by omega)).mono ?_
  rintro e w4 ⟨q, rfl, q0, q1, hr4, hg4⟩
  have hb4 : Below w.heap.size w w4 := below_of_grown hb3' hg4 (Nat.le_refl _) hb3'.size
  by_cases hq : q = 0
  · subst hq
    go_wp2_with fail
    refine (mutate_any _ _ _ 100 s w4 hr4 (by omega) zx (by omega)).mono ?_
    rintro e w5 ⟨t, rfl, ht, hr5, hg5⟩
    go_wp2_with fail
    go_ret
    exact ⟨t, rfl, by omega, below_of_grown hb4 hg5 (Nat.le_refl _) hb4.size⟩
  · have hq' : (q == 0) = false := by rw [beq_eq_false_iff_ne]; exact hq
    clear hq
    go_wp2_with fail
    go_ret
    exact ⟨s, rfl, by omega, hb4⟩

def TagRow (w : World) (e : Ending) (w' : World) : Prop :=
  ∃ tag A c vs, e = .returned (.tuple #[.int .i64 tag, .slice A vs.length c]) ∧ -1 ≤ tag ∧ tag ≤ 9 ∧ Lst encV 3 w.heap.size w' A c vs ∧ vs.length ≤ 6 ∧ (∀ v ∈ vs, Sm v) ∧ Below w.heap.size w w'
theorem drawER (A : Option Addr) (c : Nat) (zs : List Int) (w : World) (h : Bytes w A c zs) :
    Calls Try.prog 32 #[.slice A zs.length c] w (TagRow w) := by
  go_enter Try.func32, Try.ntmps32
  go_wp2_with fail
  refine (new_any A c zs w h.rl h.rng h.cap h.max h.blk).mono ?_
  rintro e w1 ⟨rfl, hr, hb⟩
  go_wp2_with fail
  refine (oneR_any (-1) 9 _ _ _ 7 7 _ w1 hr (by omega) (by kernel_rfl) (by rfl) (by omega) (by omega)).mono ?_
  rintro e w2 ⟨tag, rfl, t0, t1, hr2, hg2⟩
  have hb2 : Below w.heap.size w w2 := below_of_grown hb hg2 (Nat.le_refl _) hb.size
  go_wp2_with fail
  refine (anyRow_any _ _ _ w2 hr2 (by omega)).mono ?_
  rintro e w3 ⟨A2, c2, vs, rfl, hL, hl, hsm, hr3, hg3⟩
  have hb3 : Below w.heap.size w w3 := below_of_grown hb2 hg3 (Nat.le_refl _) hb2.size
  have hL2 := hL.mono hb2.size
  clear hr2 hr3 hg2 hg3 hb2 hL
  go_wp2_with fail
  go_ret2
  exact ⟨tag, A2, c2, vs, rfl, t0, t1, hL2, hl, hsm, hb3⟩

theorem drawDR (A : Option Addr) (c : Nat) (zs : List Int) (w : World) (h : Bytes w A c zs) :
    Calls Try.prog 12 #[.slice A zs.length c] w (Txt1 w) := by
  go_enter Try.func12, Try.ntmps12
  go_wp2_with fail
  refine (new_any A c zs w h.rl h.rng h.cap h.max h.blk).mono ?_
  rintro e w1 ⟨rfl, hr, hb⟩
  go_wp2_with fail
  refine (pick_any _ _ _ _ w1 hr (by omega) (by omega) (by omega)).mono ?_
  rintro e w2 ⟨tag, rfl, t0, t1, hr2, hg2⟩
  have hb2 : Below w.heap.size w w2 := below_of_grown hb hg2 (Nat.le_refl _) hb.size
  go_wp2_with fail
  refine (anyRow_any _ _ _ w2 hr2 (by omega)).mono ?_
  rintro e w3 ⟨A2, c2, vs, rfl, hL, hl, hsm, hr3, hg3⟩
  have hb3 : Below w.heap.size w w3 := below_of_grown hb2 hg3 (Nat.le_refl _) hb2.size
  have zx := ER_size tag vs
  have ex := hide (fun W hr => ERS tag A2 c2 vs W hr (sm_fit hsm) (by omega))
  generalize ER tag vs = s at ex zx
  go_wp2_with fail
  refine (ex.out _ hL.rl).mono ?_
  rintro e w4 ⟨rfl, hb4⟩
  have hr4 := hr3.below hb4
  have hb4' := bt2 hb3 hb4
  clear hb hg2 hb2 hr2 hL hb4 ex hb3 hg3 hr3
  go_wp2_with fail
  refine (pick_any _ _ _ _ w4 hr4 (by omega) (by omega) (by omega)).mono ?_
  rintro e w5 ⟨q, rfl, q0, q1, hr5, hg5⟩
  have hb5 : Below w.heap.size w w5 := below_of_grown hb4' hg5 (Nat.le_refl _) hb4'.size
  by_cases hq : q = 0
  · subst hq
    go_wp2_with fail
    refine (mutate_any _ _ _ 100 s w5 hr5 (by omega) zx (by omega)).mono ?_
    rintro e w6 ⟨t, rfl, ht, hr6, hg6⟩
    go_wp2_with fail
    go_ret
    exact ⟨t, rfl, by omega, below_of_grown hb5 hg6 (Nat.le_refl _) hb5.size⟩
  · have hq' : (q == 0) = false := by rw [beq_eq_false_iff_ne]; exact hq
    clear hq
    go_wp2_with fail
    go_ret
    exact ⟨s, rfl, by omega, hb5⟩

end Go.Proofs.Ytoofioemjgeifaa
