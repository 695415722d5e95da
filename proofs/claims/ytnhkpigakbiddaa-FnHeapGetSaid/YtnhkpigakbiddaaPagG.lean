/-
  Pages: what live and GetSlot of the program and of the reference answer. Conditions: the slots read as a list; their texts together are short enough to be counted.
-/
import Derived.Test.YtnhkpigakbiddaaPagW
namespace Go.Proofs.Ytnhkpigakbiddaa
open Go.RowKit
set_option linter.unusedVariables false
set_option linter.unusedSimpArgs false

/-- Whether a page has a live slot with a number. -/
def lvn (xs : List Sl) (at' : Int) : Bool := rng at' 0 ((xs.length : Int) - 1) && (xs.getD at'.toNat default).l
def LV (xs : List Sl) (at' : Int) : Bool := vp xs && lvn xs at'
def gd (xs : List Sl) (at' : Int) : ByteArray := if LV xs at' then (xs.getD at'.toNat default).d else ByteArray.empty
theorem lvn_out {xs : List Sl} {a : Int} (h : rng a 0 ((xs.length : Int) - 1) = false) : lvn xs a = false := by unfold lvn; rw [h]; rfl
theorem lvn_in {xs : List Sl} {k : Nat} (hk : k < xs.length) : lvn xs (k : Int) = xs[k].l := by
  unfold lvn
  rw [rng_iff.2 ⟨by omega, by omega⟩]
  simp [List.getD_eq_getElem?_getD, List.getElem?_eq_getElem hk]
theorem gd_in {xs : List Sl} {k : Nat} (hk : k < xs.length) (h : LV xs (k : Int) = true) : gd xs (k : Int) = xs[k].d := by
  unfold gd
  rw [h]
  simp [List.getD_eq_getElem?_getD, List.getElem?_eq_getElem hk]
theorem gd_no {xs : List Sl} {a : Int} (h : LV xs a = false) : gd xs a = ByteArray.empty := by
  unfold gd
  rw [h]
  rfl
theorem lv_in {xs : List Sl} {a : Int} (h : lvn xs a = true) : ∃ k : Nat, k < xs.length ∧ a = k := by
  unfold lvn at h
  rw [Bool.and_eq_true, rng_iff] at h
  exact ⟨a.toNat, by omega, by omega⟩
theorem at_in {xs : List Sl} {a : Int} (h : rng a 0 ((xs.length : Int) - 1) = true) : ∃ k : Nat, k < xs.length ∧ a = k := by
  rw [rng_iff] at h
  exact ⟨a.toNat, by omega, by omega⟩
theorem ret_sb {a b : ByteArray} {p q : Bool} (h : a = b) (k : p = q) : Ending.returned (.tuple #[.string a, .bool p]) = .returned (.tuple #[.string b, .bool q]) := by rw [h, k]

set_option maxHeartbeats 1000000 in
theorem lvI (A : Option Addr) (c : Nat) (xs : List Sl) (a : Int) (w : World) (hr : Rl encP 2 w A xs) (hc : xs.length ≤ 1048576) (ha : -9223372036854775808 ≤ a ∧ a ≤ 9223372036854775807) :
    Calls Try.prog 50 #[.agg #[.slice A xs.length c], .int .i64 a] w fun e w' => e = .returned (.bool (lvn xs a)) ∧ Below w.heap.size w w' := by
  have hr0 := hr.alloc (.cells #[.slice A xs.length c] 29)
  have hb0 : Below w.heap.size w (w.alloc (.cells #[.slice A xs.length c] 29)) := (Below.refl _ _).alloc (Nat.le_refl _) _
  have hB : (w.alloc (.cells #[.slice A xs.length c] 29)).cell? ⟨w.heap.size, 0, none⟩ = some (.slice A xs.length c) := (Blk.new w 29 #[.slice A xs.length c]).cell 0
  by_cases h1 : 0 ≤ a
  · by_cases h2 : a < (xs.length : Int)
    · obtain ⟨k, hk, rfl⟩ : ∃ k : Nat, k < xs.length ∧ a = k := ⟨a.toNat, by omega, by omega⟩
      obtain ⟨b, off, rfl, c0, c1⟩ := hr0.slot hk
      have H := hide (lvn_in hk)
      generalize xs[k] = x at c0 c1 H
      go_enter Try.func50, Try.ntmps50
      go_wp2_with fail
      go_ret
      exact ⟨ret_bool H.out.symm, hb0⟩
    · have H := hide (lvn_out (xs := xs) (rng_no.2 (.inr (show (xs.length : Int) - 1 < a by omega))))
      go_enter Try.func50, Try.ntmps50
      go_wp2_with fail
      go_ret
      exact ⟨ret_bool H.out.symm, hb0⟩
  · have H := hide (lvn_out (xs := xs) (rng_no.2 (.inl (show a < 0 by omega))))
    go_enter Try.func50, Try.ntmps50
    go_wp2_with fail
    go_ret
    exact ⟨ret_bool H.out.symm, hb0⟩

set_option maxHeartbeats 1000000 in
theorem lvS (A : Option Addr) (c : Nat) (xs : List Sl) (a : Int) (w : World) (hr : Rl encP 2 w A xs) (hc : xs.length ≤ 1048576) (hs : szs xs xs.length ≤ 1073741824) (ha : -9223372036854775808 ≤ a ∧ a ≤ 9223372036854775807) :
    Calls Try.prog 49 #[.agg #[.slice A xs.length c], .int .i64 a] w fun e w' => e = .returned (.bool (LV xs a)) ∧ Below w.heap.size w w' := by
  have hr0 := hr.alloc (.cells #[.slice A xs.length c] 29)
  have hb0 : Below w.heap.size w (w.alloc (.cells #[.slice A xs.length c] 29)) := (Below.refl _ _).alloc (Nat.le_refl _) _
  have hB : (w.alloc (.cells #[.slice A xs.length c] 29)).cell? ⟨w.heap.size, 0, none⟩ = some (.slice A xs.length c) := (Blk.new w 29 #[.slice A xs.length c]).cell 0
  have HL : LV xs a = (vp xs && lvn xs a) := rfl
  cases hv : vp xs
  · have H := hide (show LV xs a = false by rw [HL, hv]; rfl)
    clear HL
    go_enter Try.func49, Try.ntmps49
    go_wp2_with fail
    generalize w.alloc (.cells #[.slice A xs.length c] 29) = w0 at hr0 hb0 hB
    refine (vpS A c xs _ hr0 hc hs).mono ?_
    rintro e w1 ⟨rfl, hb1⟩
    have hB1 := cell_on hb1 hB
    rw [hv]
    go_wp2_with fail
    go_ret
    exact ⟨ret_bool H.out.symm, bt hb0 hb1 hb0.size⟩
  · rw [hv, Bool.true_and] at HL
    cases hg : rng a 0 ((xs.length : Int) - 1)
    · have H := hide (HL.trans (lvn_out hg))
      have hg' := hide hg
      clear HL hg
      go_enter Try.func49, Try.ntmps49
      go_wp2_with fail
      generalize w.alloc (.cells #[.slice A xs.length c] 29) = w0 at hr0 hb0 hB
      refine (vpS A c xs _ hr0 hc hs).mono ?_
      rintro e w1 ⟨rfl, hb1⟩
      have hB1 := cell_on hb1 hB
      rw [hv]
      go_wp2_with fail
      refine (inR _ _ _ _).mono ?_
      rintro e w2 ⟨rfl, rfl⟩
      rw [hg'.out]
      go_wp2_with fail
      go_ret
      exact ⟨ret_bool H.out.symm, bt hb0 hb1 hb0.size⟩
    · obtain ⟨k, hk, rfl⟩ := at_in hg
      have H := hide (HL.trans (lvn_in hk))
      have hi : (k : Int) < (xs.length : Int) := by omega
      have hg' := hide hg
      clear HL hg
      go_enter Try.func49, Try.ntmps49
      go_wp2_with fail
      generalize w.alloc (.cells #[.slice A xs.length c] 29) = w0 at hr0 hb0 hB
      refine (vpS A c xs _ hr0 hc hs).mono ?_
      rintro e w1 ⟨rfl, hb1⟩
      have hB1 := cell_on hb1 hB
      rw [hv]
      obtain ⟨b, off, rfl, c0, c1⟩ := (hr0.below hb1).slot hk
      generalize xs[k] = x at c0 c1 H
      go_wp2_with fail
      refine (inR _ _ _ _).mono ?_
      rintro e w2 ⟨rfl, rfl⟩
      rw [hg'.out]
      go_wp2_with fail
      go_ret
      exact ⟨ret_bool H.out.symm, bt hb0 hb1 hb0.size⟩

set_option maxHeartbeats 1000000 in
theorem gsS (A : Option Addr) (c : Nat) (xs : List Sl) (a : Int) (w : World) (hr : Rl encP 2 w A xs) (hc : xs.length ≤ 1048576) (hs : szs xs xs.length ≤ 1073741824) (ha : -9223372036854775808 ≤ a ∧ a ≤ 9223372036854775807) :
    Calls Try.prog 21 #[.agg #[.slice A xs.length c], .int .i64 a] w fun e w' => e = .returned (.tuple #[.string (gd xs a), .bool (LV xs a)]) ∧ Below w.heap.size w w' := by
  have hr0 := hr.alloc (.cells #[.slice A xs.length c] 29)
  have hb0 : Below w.heap.size w (w.alloc (.cells #[.slice A xs.length c] 29)) := (Below.refl _ _).alloc (Nat.le_refl _) _
  have hB : (w.alloc (.cells #[.slice A xs.length c] 29)).cell? ⟨w.heap.size, 0, none⟩ = some (.slice A xs.length c) := (Blk.new w 29 #[.slice A xs.length c]).cell 0
  cases hl : LV xs a
  · have H := hide (gd_no hl)
    go_enter Try.func21, Try.ntmps21
    go_wp2_with fail
    generalize w.alloc (.cells #[.slice A xs.length c] 29) = w0 at hr0 hb0 hB
    refine (lvS A c xs a _ hr0 hc hs ha).mono ?_
    rintro e w1 ⟨rfl, hb1⟩
    have hB1 := cell_on hb1 hB
    rw [hl]
    go_wp2_with fail
    go_ret2
    exact ⟨ret_sb H.out.symm rfl, bt hb0 hb1 hb0.size⟩
  · obtain ⟨k, hk, rfl⟩ := lv_in (show lvn xs a = true by unfold LV at hl; rw [Bool.and_eq_true] at hl; exact hl.2)
    have H := hide (gd_in hk hl)
    have hi : (k : Int) < (xs.length : Int) := by omega
    go_enter Try.func21, Try.ntmps21
    go_wp2_with fail
    generalize w.alloc (.cells #[.slice A xs.length c] 29) = w0 at hr0 hb0 hB
    refine (lvS A c xs _ _ hr0 hc hs ha).mono ?_
    rintro e w1 ⟨rfl, hb1⟩
    have hB1 := cell_on hb1 hB
    rw [hl]
    obtain ⟨b, off, rfl, c0, c1⟩ := (hr0.below hb1).slot hk
    generalize xs[k] = x at c0 c1 H
    go_wp2_with fail
    go_ret2
    exact ⟨ret_sb H.out.symm rfl, bt hb0 hb1 hb0.size⟩

set_option maxHeartbeats 1000000 in
theorem gsI (A : Option Addr) (c : Nat) (xs : List Sl) (a : Int) (w : World) (hr : Rl encP 2 w A xs) (hc : xs.length ≤ 1048576) (hs : szs xs xs.length ≤ 1073741824) (ha : -9223372036854775808 ≤ a ∧ a ≤ 9223372036854775807) :
    Calls Try.prog 22 #[.agg #[.slice A xs.length c], .int .i64 a] w fun e w' => e = .returned (.tuple #[.string (gd xs a), .bool (LV xs a)]) ∧ Below w.heap.size w w' := by
  have hr0 := hr.alloc (.cells #[.slice A xs.length c] 29)
  have hb0 : Below w.heap.size w (w.alloc (.cells #[.slice A xs.length c] 29)) := (Below.refl _ _).alloc (Nat.le_refl _) _
  have hB : (w.alloc (.cells #[.slice A xs.length c] 29)).cell? ⟨w.heap.size, 0, none⟩ = some (.slice A xs.length c) := (Blk.new w 29 #[.slice A xs.length c]).cell 0
  have HL : LV xs a = (vp xs && lvn xs a) := rfl
  cases hv : vp xs
  · have hl : LV xs a = false := by rw [HL, hv]; rfl
    have H := hide (gd_no hl)
    have H2 := hide hl
    clear hl HL
    go_enter Try.func22, Try.ntmps22
    go_wp2_with fail
    generalize w.alloc (.cells #[.slice A xs.length c] 29) = w0 at hr0 hb0 hB
    refine (vpI A c xs _ hr0 hc hs).mono ?_
    rintro e w1 ⟨rfl, hb1⟩
    have hB1 := cell_on hb1 hB
    rw [hv]
    go_wp2_with fail
    go_ret2
    exact ⟨ret_sb H.out.symm H2.out.symm, bt hb0 hb1 hb0.size⟩
  · rw [hv, Bool.true_and] at HL
    cases hg : lvn xs a
    · rw [hg] at HL
      have H := hide (gd_no HL)
      have H2 := hide HL
      clear HL
      go_enter Try.func22, Try.ntmps22
      go_wp2_with fail
      generalize w.alloc (.cells #[.slice A xs.length c] 29) = w0 at hr0 hb0 hB
      refine (vpI A c xs _ hr0 hc hs).mono ?_
      rintro e w1 ⟨rfl, hb1⟩
      have hB1 := cell_on hb1 hB
      rw [hv]
      go_wp2_with fail
      refine (lvI A c xs a _ (hr0.below hb1) hc ha).mono ?_
      rintro e w2 ⟨rfl, hb2⟩
      have hB2 := cell_on hb2 hB1
      rw [hg]
      go_wp2_with fail
      go_ret2
      exact ⟨ret_sb H.out.symm H2.out.symm, bt hb0 (bt2 hb1 hb2) hb0.size⟩
    · rw [hg] at HL
      obtain ⟨k, hk, rfl⟩ := lv_in hg
      have H := hide (gd_in hk HL)
      have H2 := hide HL
      have hi : (k : Int) < (xs.length : Int) := by omega
      clear HL
      go_enter Try.func22, Try.ntmps22
      go_wp2_with fail
      generalize w.alloc (.cells #[.slice A xs.length c] 29) = w0 at hr0 hb0 hB
      refine (vpI A c xs _ hr0 hc hs).mono ?_
      rintro e w1 ⟨rfl, hb1⟩
      have hB1 := cell_on hb1 hB
      rw [hv]
      go_wp2_with fail
      refine (lvI A c xs _ _ (hr0.below hb1) hc ha).mono ?_
      rintro e w2 ⟨rfl, hb2⟩
      have hB2 := cell_on hb2 hB1
      rw [hg]
      obtain ⟨b, off, rfl, c0, c1⟩ := (hr0.below (bt2 hb1 hb2)).slot hk
      generalize xs[k] = x at c0 c1 H
      go_wp2_with fail
      go_ret2
      exact ⟨ret_sb H.out.symm H2.out.symm, bt hb0 (bt2 hb1 hb2) hb0.size⟩

set_option maxHeartbeats 1000000 in
theorem exactGs_walk (A : Option Addr) (c : Nat) (xs : List Sl) (a : Int) (w : World) (hr : Rl encP 2 w A xs) (hf : FitP xs) (hc : xs.length ≤ c) (hm : c ≤ 9223372036854775807) (ha : -9223372036854775808 ≤ a ∧ a ≤ 9223372036854775807) :
    Calls Try.prog 5 #[.agg #[.slice A xs.length c], .int .i64 a] w fun e w' => e = .returned (.bool true) ∧ Below w.heap.size w w' := by
  have S1 := szP_lo 1048576 xs
  have hok := hide (fun h => szP_ok (left := 1048576) (xs := xs) h)
  generalize hs1 : szP 1048576 xs = s1 at S1 hok
  have hs1' := hide hs1
  clear hs1
  have n1 : (LV xs a != LV xs a) = false := by cases LV xs a <;> rfl
  have n2 : ((gd xs a).toList != (gd xs a).toList) = false := by rw [bne, beq_self_eq_true]; rfl
  have hr0 := hr.alloc (.cells #[.slice A xs.length c] 24)
  have hb0 : Below w.heap.size w (w.alloc (.cells #[.slice A xs.length c] 24)) := (Below.refl _ _).alloc (Nat.le_refl _) _
  have hB : (w.alloc (.cells #[.slice A xs.length c] 24)).cell? ⟨w.heap.size, 0, none⟩ = some (.slice A xs.length c) := (Blk.new w 24 #[.slice A xs.length c]).cell 0
  go_enter Try.func5, Try.ntmps5
  go_wp2_with fail
  generalize w.alloc (.cells #[.slice A xs.length c] 24) = w0 at hr0 hb0 hB
  refine (szPg A c xs 1048576 _ hr0 hf (by omega) (by omega) (by omega)).mono ?_
  rintro e w1 ⟨rfl, hb1⟩
  have hB1 := cell_on hb1 hB
  rw [hs1'.out]
  by_cases h1 : s1 < 0
  · go_wp2_with fail
    go_ret
    exact ⟨rfl, bt hb0 hb1 hb0.size⟩
  · have q1 := hok.out (by omega)
    have lx : xs.length ≤ 1048576 := by omega
    have sx : szs xs xs.length ≤ 1073741824 := by omega
    go_wp2_with fail
    refine (toPg A c xs _ (hr0.below hb1) lx).mono ?_
    rintro e w2 ⟨g2, rfl, r2, hb2, z2⟩
    have hB2 := cell_on hb2 hB1
    have hb2' := bt2 hb1 hb2
    go_wp2_with fail
    refine (gsS _ _ xs a _ r2 lx sx ha).mono ?_
    rintro e w3 ⟨rfl, hb3⟩
    have hB3 := cell_on hb3 hB2
    have hb3' := bt2 hb2' hb3
    clear hb1 hb2 hb2' hb3 r2
    go_wp2_with fail
    refine (toPg A c xs _ (hr0.below hb3') lx).mono ?_
    rintro e w4 ⟨g4, rfl, r4, hb4, z4⟩
    have hB4 := cell_on hb4 hB3
    have hb4' := bt2 hb3' hb4
    have r4x := r4.alloc (.cells #[.slice (some ⟨g4, 0, none⟩) xs.length xs.length] 29)
    have hX4 := (Blk.new w4 29 #[.slice (some ⟨g4, 0, none⟩) xs.length xs.length]).cell 0
    have hb4x : Below w4.heap.size w4 (w4.alloc (.cells #[.slice (some ⟨g4, 0, none⟩) xs.length xs.length] 29)) := (Below.refl _ _).alloc (Nat.le_refl _) _
    have hB4x := cell_on hb4x hB4
    go_wp2_with fail
    generalize w4.alloc (.cells #[.slice (some ⟨g4, 0, none⟩) xs.length xs.length] 29) = w4x at r4x hX4 hb4x hB4x
    replace hX4 : w4x.cell? ⟨w4.heap.size, 0, none⟩ = some (.slice (some ⟨g4, 0, none⟩) xs.length xs.length) := hX4
    refine (gsI _ _ xs a _ r4x lx sx ha).mono ?_
    rintro e w5 ⟨rfl, hb5⟩
    have hB5 := cell_on hb5 hB4x
    have hX5 := cell_on hb5 hX4
    have hb5' := bt2 (bt2 hb4' hb4x) hb5
    generalize gd xs a = v at n2
    generalize LV xs a = z at n1
    go_wp2_with fail
    have hr5 := hr0.below hb5'
    have r5 := r4x.below hb5
    have bu : ∀ {a b : World}, Below a.heap.size a.drew b → Below a.heap.size a b := fun h => of_drew h
    go_region_held3 (fun w' => w'.cell? ⟨w.heap.size, 0, none⟩ = some (.slice A xs.length c) ∧ w'.cell? ⟨w4.heap.size, 0, none⟩ = some (.slice (some ⟨g4, 0, none⟩) xs.length xs.length) ∧ Below w5.heap.size w5 w')
      (first | exact ⟨hB5, hX5, (Below.refl _ _).drew⟩ | exact ⟨cell_on (bt2 hb6 hb7) hB5, cell_on (bt2 hb6 hb7) hX5, bt2 hb6 hb7⟩ | exact ⟨cell_on hb6 hB5, cell_on hb6 hX5, hb6⟩)
      (first
        | (go_at_call 16; refine (toPg A c xs _ (by first | exact hr5 | exact hr5.drew) lx).mono ?_; rintro e w6 ⟨g6, rfl, r6, hb6, z6⟩; replace hb6 : Below w5.heap.size w5 w6 := (by first | exact hb6 | exact bu hb6))
        | (go_at_call 18; refine (eqPg _ _ _ _ xs _ (by first | exact r5.below hb6 | exact (r5.below hb6).drew) (by first | exact r6 | exact r6.drew) lx).mono ?_; rintro e w7 ⟨rfl, hb7⟩; replace hb7 : Below w6.heap.size w6 w7 := (by first | exact hb7 | exact bu hb7)))
    go_wp2_with fail
    go_ret
    exact ⟨rfl, bt hb0 (bt2 (bt2 hb5' hb6) hb7) hb0.size⟩

end Go.Proofs.Ytnhkpigakbiddaa
