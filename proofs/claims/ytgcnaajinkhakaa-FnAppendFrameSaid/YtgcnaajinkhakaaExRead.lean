/-
  The exact statement about ReadFrames. Conditions: none but that a text is no longer than Go lets one be.
-/
import Derived.Test.YtgcnaajinkhakaaMark
namespace Go.Proofs.Ytgcnaajinkhakaa
open Go.RowKit
set_option linter.unusedVariables false
set_option linter.unusedSimpArgs false

def TX (s : ByteArray) : List ByteArray := if s.size ≤ 600 then RF s else []
def TN (s : ByteArray) : Int := if s.size ≤ 600 then lnF (RF s) else -1
theorem TX_len (s : ByteArray) : (TX s).length ≤ 100 := by
  unfold TX
  split
  · have := len_lnF (RF s); have := lnF_le s; omega
  · simp
theorem TN_rng (s : ByteArray) : -1 ≤ TN s ∧ TN s ≤ 600 := by
  unfold TN
  split
  · have := lnF_le s; omega
  · omega
/-- What ReadFrames hands back, opened. -/
def Opened (xs : List ByteArray) (z : Int) (w : World) (e : Ending) (w' : World) : Prop :=
  ∃ A c, e = .returned (.tuple #[.slice A xs.length c, .int .i64 z]) ∧ Below w.heap.size w w' ∧ Rl encS 1 w' A xs ∧ xs.length ≤ c ∧ c ≤ maxLen ∧ (xs = [] ∨ ∃ g arr, A = some ⟨g, 0, none⟩ ∧ w.heap.size ≤ g ∧ Blk w' g 9 arr ∧ arr.size = c)
theorem own_open2 {w : World} {B e : Nat} {v : Value} {xs : List ByteArray} (h : w.ownsRow B e 1 v xs.length (xs.map .string)) :
    ∃ A c, v = .slice A xs.length c ∧ Rl encS 1 w A xs ∧ xs.length ≤ c ∧ c ≤ maxLen ∧ (xs = [] ∨ ∃ g arr, A = some ⟨g, 0, none⟩ ∧ B ≤ g ∧ Blk w g e arr ∧ arr.size = c) := by
  obtain ⟨A, c, rfl, h1, h2, h3⟩ := own_open h
  refine ⟨A, c, rfl, h1, h2, ?_, h3⟩
  obtain ⟨_, ⟨h4, _⟩ | ⟨g, cap, cur, h4, _, _, _, hm, _⟩⟩ := h
  · have hc : c = 0 := by injection h4
    rw [hc]
    unfold maxLen
    omega
  · have hc : c = cap := by injection h4
    rw [hc]
    exact hm
theorem texts_open {s : ByteArray} {w w' : World} {e : Ending} (h : Texts s w e w') : Opened (TX s) (TN s) w e w' := by
  obtain ⟨hb, ⟨h1, rfl⟩ | ⟨h1, v, rfl, h2⟩⟩ := h
  · have a : TX s = [] := by unfold TX; rw [if_neg (by omega)]
    have b : TN s = -1 := by unfold TN; rw [if_neg (by omega)]
    rw [a, b]
    exact ⟨none, 0, rfl, hb, Rl.nil, Nat.le_refl _, by unfold maxLen; omega, .inl rfl⟩
  · have a : TX s = RF s := by unfold TX; rw [if_pos h1]
    have b : TN s = lnF (RF s) := by unfold TN; rw [if_pos h1]
    rw [a, b]
    obtain ⟨A, c, rfl, h3, h4, h5, h6⟩ := own_open2 h2
    exact ⟨A, c, rfl, hb, h3, h4, h5, h6⟩

theorem markS0 (A : Option Addr) (c : Nat) (q : Int) (w : World) :
    Calls Try.prog 24 #[.slice A 0 c, .int .i64 q] w fun e w' => e = .returned (.int .i64 q) ∧ w = w' := by
  go_enter Try.func24, Try.ntmps24
  go_wp2_with fail
  go_loop [1, 5] (fun u v => u = .int .i64 q ∧ v = .int .i64 0) (fun u v => 0)
  case atStart => exact ⟨rfl, rfl⟩
  case round =>
    obtain ⟨rfl, rfl⟩ := hrel
    go_wp2_with fail
    go_ret
    exact ⟨rfl, rfl⟩
theorem heldS0 (A : Option Addr) (c : Nat) (q : Int) (w : World) :
    Calls Try.prog 25 #[.slice A 0 c, .int .i64 q] w fun e w' => e = .returned (.int .i64 q) ∧ w = w' := by
  go_enter Try.func25, Try.ntmps25
  go_wp2_with fail
  go_loop [1, 5] (fun u v => u = .int .i64 q ∧ v = .int .i64 0) (fun u v => 0)
  case atStart => exact ⟨rfl, rfl⟩
  case round =>
    obtain ⟨rfl, rfl⟩ := hrel
    go_wp2_with fail
    go_ret
    exact ⟨rfl, rfl⟩

set_option maxHeartbeats 2000000 in
theorem exactRead_walk (s : ByteArray) (w : World) (hs : s.size ≤ 9223372036854775807) :
    Calls Try.prog 8 #[.string s] w fun e w' => e = .returned (.bool true) ∧ Below w.heap.size w w' := by
  by_cases h1 : 1048576 < s.size
  · go_enter Try.func8, Try.ntmps8
    go_wp2
    go_ret
    exact ⟨rfl, Below.refl _ _⟩
  · have hS : Hid (∀ W, Calls Try.prog 22 #[.string s] W (Opened (TX s) (TN s) W)) := fun W => (readS s W hs).mono fun e w' h => texts_open h
    have hI : Hid (∀ W, Calls Try.prog 16 #[.string s] W (Opened (TX s) (TN s) W)) := fun W => (readI s W hs).mono fun e w' h => texts_open h
    have hl := TX_len s
    have hz := TN_rng s
    generalize TX s = xs at hS hI hl
    generalize TN s = z at hS hI hz
    by_cases he : xs = []
    · subst he
      go_enter Try.func8, Try.ntmps8
      go_wp2_with fail
      refine (hS.out _).mono ?_
      rintro e w1 ⟨A1, c1, rfl, hb1, r1, l1, m1, -⟩
      go_wp2_with fail
      refine (hI.out _).mono ?_
      rintro e w2 ⟨A2, c2, rfl, hb2, r2, l2, m2, -⟩
      go_wp2_with fail
      refine (eqS_any A2 A1 c2 c1 [] _ r2 (r1.below hb2) (by simp)).mono ?_
      rintro e w3 ⟨rfl, hb3⟩
      go_wp2_with fail
      refine (markS0 A2 c2 _ _).mono ?_
      rintro e w4 ⟨rfl, rfl⟩
      go_wp2_with fail
      refine (heldS0 A2 c2 _ _).mono ?_
      rintro e w4 ⟨rfl, rfl⟩
      go_wp2_with fail
      refine (hI.out _).mono ?_
      rintro e w4 ⟨A3, c3, rfl, hb4, r3, l3, m3, -⟩
      go_wp2_with fail
      refine (eqS_any A3 A1 c3 c1 [] _ r3 Rl.nil (by simp)).mono ?_
      rintro e w5 ⟨rfl, hb5⟩
      go_wp2_with fail
      refine (heldS0 A2 c2 _ _).mono ?_
      rintro e w6 ⟨rfl, rfl⟩
      go_wp2_with fail
      go_ret
      exact ⟨rfl, bt2 (bt2 (bt2 (bt2 hb1 hb2) hb3) hb4) hb5⟩
    · go_enter Try.func8, Try.ntmps8
      go_wp2_with fail
      refine (hS.out _).mono ?_
      rintro e w1 ⟨A1, c1, rfl, hb1, r1, l1, m1, ho1⟩
      obtain ⟨g1, arr1, rfl, z1, k1, y1⟩ := ho1.resolve_left he
      have lt1 := k1.lt
      go_wp2_with fail
      refine (hI.out _).mono ?_
      rintro e w2 ⟨A2, c2, rfl, hb2, r2, l2, m2, ho2⟩
      obtain ⟨g2, arr2, rfl, z2, k2, y2⟩ := ho2.resolve_left he
      have hb2' := bt2 hb1 hb2
      have r1' := r1.below hb2
      clear ho1 ho2
      go_wp2_with fail
      refine (eqS_any _ _ c2 c1 xs _ r2 r1' (by omega)).mono ?_
      rintro e w3 ⟨rfl, hb3⟩
      have hb3' := bt2 hb2' hb3
      have r1'' := r1'.below hb3
      have k2' := k2.below hb3
      have hsz3 := hb3'.size
      have hsz1 := hb1.size
      have hsz2 := hb2.size
      have hsz3b := hb3.size
      clear r1 r1' r2 hb2 hb2' hb3
      unfold maxLen at m1 m2
      go_wp2_with fail
      refine (markS_any g2 xs.length c2 1 arr2 _ k2' y2 l2 (by omega) (by omega)).mono ?_
      rintro e w4 ⟨rfl, hg4, hf4⟩
      have r1m := r1''.kept hg4 (fun g e => by cases e; simp; omega)
      have hb4' := below_of_grown hb3' hg4 (by omega) hsz3
      clear r1'' k2' hg4 hb3'
      go_wp2_with fail
      refine (heldS_any g2 xs.length c2 1 _ hf4 l2 (by omega) (by omega)).mono ?_
      rintro e w5 ⟨rfl, hb5⟩
      have hb5' := bt2 hb4' hb5
      have r1n := r1m.below hb5
      have hf5 := hf4.below hb5
      clear hf4 hb5 hb4' r1m
      go_wp2_with fail
      refine (hI.out _).mono ?_
      rintro e w6 ⟨A3, c3, rfl, hb6, r3, l3, m3, -⟩
      have hb6' := bt2 hb5' hb6
      have r1o := r1n.below hb6
      have hf6 := hf5.below hb6
      clear hf5 hb6 hb5' r1n
      go_wp2_with fail
      refine (eqS_any _ _ c3 c1 xs _ r3 r1o (by omega)).mono ?_
      rintro e w7 ⟨rfl, hb7⟩
      have hb7' := bt2 hb6' hb7
      have hf7 := hf6.below hb7
      clear hf6 hb7 hb6' r1o r3
      go_wp2_with fail
      refine (heldS_any g2 xs.length c2 1 _ hf7 l2 (by omega) (by omega)).mono ?_
      rintro e w8 ⟨rfl, hb8⟩
      go_wp2_with fail
      go_ret
      exact ⟨rfl, bt2 hb7' hb8⟩

end Go.Proofs.Ytgcnaajinkhakaa
