/-
  DecodeRecord of the reference and of the program, and the exact statement about it. Conditions: the text is no longer than Go lets one be.
-/
import Derived.Test.YtoofioemjgeifaaKeyU
namespace Go.Proofs.Ytoofioemjgeifaa
open Go.RowKit
set_option linter.unusedVariables false
set_option linter.unusedSimpArgs false

/-- The record's text behind its first byte. -/
def tl (s : ByteArray) : ByteArray := s.extract 1 s.size
/-- Whether a text is a record, and then its row and its number. -/
noncomputable def RO (s : ByteArray) : Bool := decide (0 < s.size) && decide (65 ≤ (nums s).headD 0) && decide ((nums s).headD 0 ≤ 73) && DO (tl s)
noncomputable def RR (s : ByteArray) : List Vl := if RO s then DR (tl s) else []
noncomputable def RT (s : ByteArray) : Int := if RO s then (nums s).headD 0 - 65 else 0
theorem head_at {s : ByteArray} (h : 0 < s.size) : (nums s).headD 0 = (s[0].toNat : Int) := by
  have := nums_at h
  rw [List.headD_eq_head?_getD, List.head?_eq_getElem?, this]
  rfl
def RecO (tag : Int) (xs : List Vl) (ok : Bool) (w : World) (e : Ending) (w' : World) : Prop :=
  ∃ A c, e = .returned (.tuple #[.int .i64 tag, .slice A xs.length c, .bool ok]) ∧ Below w.heap.size w w' ∧ Rl encV 3 w' A xs ∧ xs.length ≤ c ∧ c ≤ 9223372036854775807 ∧ (xs = [] ∨ ∃ g arr, A = some ⟨g, 0, none⟩ ∧ w.heap.size ≤ g ∧ Blk w' g 54 arr ∧ arr.size = c * 3)
theorem recO_no {s : ByteArray} {w w' : World} {e : Ending} (h : RO s = false) (he : e = .returned (.tuple #[.int .i64 0, .slice none 0 0, .bool false])) (hb : Below w.heap.size w w') : RecO (RT s) (RR s) (RO s) w e w' := by
  have a : RT s = 0 := by unfold RT; rw [h]; rfl
  have b : RR s = [] := by unfold RR; rw [h]; rfl
  rw [a, b, h]
  exact ⟨none, 0, he, hb, Rl.nil, Nat.le_refl _, by omega, .inl rfl⟩
theorem recO_yes {s : ByteArray} {w w' : World} {e : Ending} {A : Option Addr} {c : Nat} (h : RO s = true) (h0 : 0 < s.size) (he : e = .returned (.tuple #[.int .i64 ((s[0].toNat : Int) - 65), .slice A (DR (tl s)).length c, .bool true]))
    (hb : Below w.heap.size w w') (hr : Rl encV 3 w' A (DR (tl s))) (h1 : (DR (tl s)).length ≤ c) (h2 : c ≤ 9223372036854775807) (h3 : DR (tl s) = [] ∨ ∃ g arr, A = some ⟨g, 0, none⟩ ∧ w.heap.size ≤ g ∧ Blk w' g 54 arr ∧ arr.size = c * 3) : RecO (RT s) (RR s) (RO s) w e w' := by
  have a : RT s = (s[0].toNat : Int) - 65 := by unfold RT; rw [h, head_at h0]; rfl
  have b : RR s = DR (tl s) := by unfold RR; rw [h]; rfl
  rw [a, b, h]
  exact ⟨A, c, he, hb, hr, h1, h2, h3⟩

set_option maxHeartbeats 1000000 in
theorem drS (s : ByteArray) (w : World) (hm : s.size ≤ 1048576) :
    Calls Try.prog 14 #[.string s] w (RecO (RT s) (RR s) (RO s) w) := by
  obtain ⟨P, hP⟩ : ∃ P, RecO (RT s) (RR s) (RO s) w = P := ⟨_, rfl⟩
  have hno : Hid (∀ w', RO s = false → Below w.heap.size w w' → P (.returned (.tuple #[.int .i64 0, .slice none 0 0, .bool false])) w') := fun w' h hb => by rw [← hP]; exact recO_no h rfl hb
  have hyes : Hid (∀ (h0 : 0 < s.size) (w' : World) (A : Option Addr) (c : Nat), RO s = true → Below w.heap.size w w' → Rl encV 3 w' A (DR (tl s)) → (DR (tl s)).length ≤ c → c ≤ 9223372036854775807 → (DR (tl s) = [] ∨ ∃ g arr, A = some ⟨g, 0, none⟩ ∧ w.heap.size ≤ g ∧ Blk w' g 54 arr ∧ arr.size = c * 3) → P (.returned (.tuple #[.int .i64 ((s[0].toNat : Int) - 65), .slice A (DR (tl s)).length c, .bool true])) w') := fun h0 w' A c h1 h2 h3 h4 h5 h6 => by rw [← hP]; exact recO_yes h1 h0 rfl h2 h3 h4 h5 h6
  rw [hP]
  clear hP
  by_cases h0 : 0 < s.size
  · obtain ⟨c, hc⟩ : ∃ c : Int, (s[0].toNat : Int) = c := ⟨_, rfl⟩
    have hyes' := hide (hyes.out h0)
    rw [hc] at hyes'
    clear hyes
    have hcr : 0 ≤ c ∧ c ≤ 255 := by have := s[0].toNat_lt; omega
    have hne : s.toList.isEmpty = false := by
      cases hh : s.toList.isEmpty
      · rfl
      · rw [emp_iff (s := s) hh] at h0; exact absurd h0 (by decide)
    have hz : (0 : Int) < (s.size : Int) := by omega
    have h1 : (1 : Int) ≤ (s.size : Int) := by omega
    have hRO : Hid (RO s = (decide (65 ≤ c) && decide (c ≤ 73) && DO (tl s))) := by unfold Hid RO; rw [head_at h0, hc, decide_eq_true h0]; simp
    have htl : tl s = s.extract 1 s.size := rfl
    have hlen := DR_len (tl s)
    have hS := hide (fun W => (dkS (tl s) W (by rw [htl, ByteArray.size_extract]; omega)).mono fun e w' h => key_open h)
    rw [htl] at hS hyes' hlen hRO
    clear htl
    generalize DR (s.extract 1 s.size) = xs at hS hyes' hlen
    generalize DO (s.extract 1 s.size) = z at hS hRO
    go_enter Try.func14, Try.ntmps14
    go_wp2_with fail
    refine (hS.out _).mono ?_
    rintro e w1 ⟨A, d, rfl, hb1, r1, l1, m1, o1⟩
    cases z
    · have hn := hide (hno.out w1 (by rw [hRO.out, Bool.and_false]) hb1)
      go_wp2_with fail
      first | exact hn.out | (go_ret3; exact hn.out)
    · cases hg : rng (c - 65) 0 8
      · have hn := hide (hno.out w1 (by
          rw [rng_no] at hg
          rw [hRO.out]
          rcases hg with hg | hg
          · rw [decide_eq_false (show ¬ 65 ≤ c by omega)]; rfl
          · rw [decide_eq_false (show ¬ c ≤ 73 by omega), Bool.and_false]; rfl) hb1)
        go_wp2_with fail
        refine (inR _ _ _ _).mono ?_
        rintro e w' ⟨rfl, rfl⟩
        rw [hg]
        go_wp2_with fail
        first | exact hn.out | (go_ret3; exact hn.out)
      · have hy := hide (hyes'.out w1 A d (by
          rw [rng_iff] at hg
          rw [hRO.out, decide_eq_true (show 65 ≤ c by omega), decide_eq_true (show c ≤ 73 by omega)]; rfl) hb1 r1 l1 m1 o1)
        clear hyes' hno r1 o1
        go_wp2_with fail
        refine (inR _ _ _ _).mono ?_
        rintro e w' ⟨rfl, rfl⟩
        rw [hg]
        go_wp2_with fail
        first | exact hy.out | (go_ret3; exact hy.out)
  · obtain rfl : s = ByteArray.empty := ByteArray.ext (Array.eq_empty_of_size_eq_zero (show s.size = 0 by omega))
    have hn := hide (hno.out w (by unfold RO; rfl) (Below.refl _ _))
    have he : ByteArray.empty.toList.isEmpty = true := by decide +kernel
    clear hno hyes
    go_enter Try.func14, Try.ntmps14
    go_wp2_with fail
    first | exact hn.out | (go_ret3; exact hn.out)

theorem drI (s : ByteArray) (w : World) (hm : s.size ≤ 1048576) :
    Calls Try.prog 13 #[.string s] w (RecO (RT s) (RR s) (RO s) w) := by
  obtain ⟨P, hP⟩ : ∃ P, RecO (RT s) (RR s) (RO s) w = P := ⟨_, rfl⟩
  have hno : Hid (∀ w', RO s = false → Below w.heap.size w w' → P (.returned (.tuple #[.int .i64 0, .slice none 0 0, .bool false])) w') := fun w' h hb => by rw [← hP]; exact recO_no h rfl hb
  have hyes : Hid (∀ (h0 : 0 < s.size) (w' : World) (A : Option Addr) (c : Nat), RO s = true → Below w.heap.size w w' → Rl encV 3 w' A (DR (tl s)) → (DR (tl s)).length ≤ c → c ≤ 9223372036854775807 → (DR (tl s) = [] ∨ ∃ g arr, A = some ⟨g, 0, none⟩ ∧ w.heap.size ≤ g ∧ Blk w' g 54 arr ∧ arr.size = c * 3) → P (.returned (.tuple #[.int .i64 ((s[0].toNat : Int) - 65), .slice A (DR (tl s)).length c, .bool true])) w') := fun h0 w' A c h1 h2 h3 h4 h5 h6 => by rw [← hP]; exact recO_yes h1 h0 rfl h2 h3 h4 h5 h6
  rw [hP]
  clear hP
  by_cases h0 : 0 < s.size
  · obtain ⟨c, hc⟩ : ∃ c : Int, (s[0].toNat : Int) = c := ⟨_, rfl⟩
    have hyes' := hide (hyes.out h0)
    rw [hc] at hyes'
    clear hyes
    have hcr : 0 ≤ c ∧ c ≤ 255 := by have := s[0].toNat_lt; omega
    have hne : s.toList.isEmpty = false := by
      cases hh : s.toList.isEmpty
      · rfl
      · rw [emp_iff (s := s) hh] at h0; exact absurd h0 (by decide)
    have hz : (0 : Int) < (s.size : Int) := by omega
    have h1 : (1 : Int) ≤ (s.size : Int) := by omega
    have hRO : Hid (RO s = (decide (65 ≤ c) && decide (c ≤ 73) && DO (tl s))) := by unfold Hid RO; rw [head_at h0, hc, decide_eq_true h0]; simp
    have htl : tl s = s.extract 1 s.size := rfl
    have hlen := DR_len (tl s)
    have hS := hide (fun W => (dkI (tl s) W (by rw [htl, ByteArray.size_extract]; omega)).mono fun e w' h => key_open h)
    rw [htl] at hS hyes' hlen hRO
    clear htl
    generalize DR (s.extract 1 s.size) = xs at hS hyes' hlen
    generalize DO (s.extract 1 s.size) = z at hS hRO
    by_cases c1 : c < 65
    · have hn := hide (hno.out w (by rw [hRO.out, decide_eq_false (by omega)]; rfl) (Below.refl _ _))
      go_enter Try.func13, Try.ntmps13
      go_wp2_with fail
      first | exact hn.out | (go_ret3; exact hn.out)
    · by_cases c2 : 73 < c
      · have hn := hide (hno.out w (by rw [hRO.out, decide_eq_false (show ¬ c ≤ 73 by omega), Bool.and_false]; rfl) (Below.refl _ _))
        go_enter Try.func13, Try.ntmps13
        go_wp2_with fail
        first | exact hn.out | (go_ret3; exact hn.out)
      · go_enter Try.func13, Try.ntmps13
        go_wp2_with fail
        refine (hS.out _).mono ?_
        rintro e w1 ⟨A, d, rfl, hb1, r1, l1, m1, o1⟩
        cases z
        · have hn := hide (hno.out w1 (by rw [hRO.out, Bool.and_false]) hb1)
          go_wp2_with fail
          first | exact hn.out | (go_ret3; exact hn.out)
        · have hy := hide (hyes'.out w1 A d (by rw [hRO.out, decide_eq_true (show 65 ≤ c by omega), decide_eq_true (show c ≤ 73 by omega)]; rfl) hb1 r1 l1 m1 o1)
          clear hyes' hno r1 o1
          go_wp2_with fail
          first | exact hy.out | (go_ret3; exact hy.out)
  · obtain rfl : s = ByteArray.empty := ByteArray.ext (Array.eq_empty_of_size_eq_zero (show s.size = 0 by omega))
    have hn := hide (hno.out w (by unfold RO; rfl) (Below.refl _ _))
    have he : ByteArray.empty.toList.isEmpty = true := by decide +kernel
    clear hno hyes
    go_enter Try.func13, Try.ntmps13
    go_wp2_with fail
    first | exact hn.out | (go_ret3; exact hn.out)

end Go.Proofs.Ytoofioemjgeifaa
