/-
  Heaps: what HeapGet of the program and of the reference answer. Conditions: the pages read as a list, and the slots of each; small enough.
-/
import Derived.Test.YtnhkpigakbiddaaHeapW
namespace Go.Proofs.Ytnhkpigakbiddaa
open Go.RowKit
set_option linter.unusedVariables false
set_option linter.unusedSimpArgs false

/-- The page of a number. -/
def pgat (css : List (List Sl)) (a : Int) : List Sl := css.getD a.toNat []
/-- Whether a valid heap has a page with a number. -/
def HGv (css : List (List Sl)) (a : Int) : Bool := vh css && rng a 0 ((css.length : Int) - 1)
def HGo (css : List (List Sl)) (a b : Int) : Bool := HGv css a && LV (pgat css a) b
def HGd (css : List (List Sl)) (a b : Int) : ByteArray := if HGv css a then gd (pgat css a) b else ByteArray.empty
theorem HGd_no {css : List (List Sl)} {a b : Int} (h : HGv css a = false) : HGd css a b = ByteArray.empty := by unfold HGd; rw [h]; rfl
theorem HGo_no {css : List (List Sl)} {a b : Int} (h : HGv css a = false) : HGo css a b = false := by unfold HGo; rw [h]; rfl
theorem pgat_in {ps : List Pg} {k : Nat} (hk : k < ps.length) : pgat (xss ps) (k : Int) = ps[k].xs := by
  unfold pgat xss
  simp [List.getD_eq_getElem?_getD, List.getElem?_eq_getElem hk]
theorem HGd_in {ps : List Pg} {k : Nat} {b : Int} (hk : k < ps.length) (h : HGv (xss ps) (k : Int) = true) : HGd (xss ps) (k : Int) b = gd ps[k].xs b := by
  unfold HGd; rw [h, pgat_in hk]; rfl
theorem HGo_in {ps : List Pg} {k : Nat} {b : Int} (hk : k < ps.length) (h : HGv (xss ps) (k : Int) = true) : HGo (xss ps) (k : Int) b = LV ps[k].xs b := by
  unfold HGo; rw [h, pgat_in hk]; rfl
theorem HGv_eq {ps : List Pg} {a : Int} : HGv (xss ps) a = (vh (xss ps) && rng a 0 ((ps.length : Int) - 1)) := by
  unfold HGv
  rw [xss_len]
theorem pg_in {ps : List Pg} {a : Int} (h : rng a 0 ((ps.length : Int) - 1) = true) : ∃ k : Nat, k < ps.length ∧ a = k := by
  rw [rng_iff] at h
  exact ⟨a.toNat, by omega, by omega⟩

theorem toRd (a b : Int) (w : World) :
    Calls Try.prog 36 #[.agg #[.int .i64 a, .int .i64 b]] w fun e w' => e = .returned (.agg #[.int .i64 a, .int .i64 b]) ∧ Below w.heap.size w w' := by
  go_enter Try.func36, Try.ntmps36
  go_wp2
  go_returns
  exact ⟨rfl, by go_grown⟩

theorem hasI (A : Option Addr) (c : Nat) (n : Nat) (a : Int) (w : World) (hn : n ≤ 1048576) (ha : -9223372036854775808 ≤ a ∧ a ≤ 9223372036854775807) :
    Calls Try.prog 60 #[.agg #[.slice A n c], .int .i64 a] w fun e w' => e = .returned (.bool (rng a 0 ((n : Int) - 1))) ∧ Below w.heap.size w w' := by
  by_cases h1 : 0 ≤ a
  · by_cases h2 : a < (n : Int)
    · have H := hide (rng_iff.2 (show 0 ≤ a ∧ a ≤ (n : Int) - 1 by omega))
      go_enter Try.func60, Try.ntmps60
      go_wp2
      go_ret
      exact ⟨ret_bool H.out.symm, by go_grown⟩
    · have H := hide (rng_no.2 (.inr (show (n : Int) - 1 < a by omega)) : rng a 0 ((n : Int) - 1) = false)
      go_enter Try.func60, Try.ntmps60
      go_wp2
      go_ret
      exact ⟨ret_bool H.out.symm, by go_grown⟩
  · have H := hide (rng_no.2 (.inl (show a < 0 by omega)) : rng a 0 ((n : Int) - 1) = false)
    go_enter Try.func60, Try.ntmps60
    go_wp2
    go_ret
    exact ⟨ret_bool H.out.symm, by go_grown⟩

set_option maxHeartbeats 1000000 in
theorem HGI (A : Option Addr) (c : Nat) (ps : List Pg) (a b : Int) (w : World) (hr : Hp w A ps) (hs : Small ps) (ha : -9223372036854775808 ≤ a ∧ a ≤ 9223372036854775807) (hbb : -9223372036854775808 ≤ b ∧ b ≤ 9223372036854775807) :
    Calls Try.prog 37 #[.agg #[.slice A ps.length c], .agg #[.int .i64 a, .int .i64 b]] w fun e w' => e = .returned (.tuple #[.string (HGd (xss ps) a b), .bool (HGo (xss ps) a b)]) ∧ Below w.heap.size w w' := by
  have hr0 := (hr.alloc (.cells #[.slice A ps.length c] 46)).alloc (.cells #[.int .i64 a, .int .i64 b] 60)
  have hb0 : Below w.heap.size w ((w.alloc (.cells #[.slice A ps.length c] 46)).alloc (.cells #[.int .i64 a, .int .i64 b] 60)) := by go_grown
  have kB := (Blk.new w 46 #[.slice A ps.length c]).alloc (.cells #[.int .i64 a, .int .i64 b] 60)
  have kR := Blk.new (w.alloc (.cells #[.slice A ps.length c] 46)) 60 #[.int .i64 a, .int .i64 b]
  simp only [World.size_alloc] at kR
  have hsl := hs.1
  have HV := HGv_eq (ps := ps) (a := a)
  cases hv : vh (xss ps)
  · rw [hv, Bool.false_and] at HV
    have H1 := hide (HGd_no (b := b) HV)
    have H2 := hide (HGo_no (b := b) HV)
    clear HV
    go_enter Try.func37, Try.ntmps37
    go_wp2_with fail
    generalize (w.alloc (.cells #[.slice A ps.length c] 46)).alloc (.cells #[.int .i64 a, .int .i64 b] 60) = w0 at hr0 hb0 kB kR
    refine (vhI A c ps _ hr0 hs).mono ?_
    rintro e w1 ⟨rfl, hb1⟩
    rw [hv]
    go_wp2_with fail
    go_ret2
    exact ⟨ret_sb H1.out.symm H2.out.symm, bt hb0 hb1 hb0.size⟩
  · rw [hv, Bool.true_and] at HV
    cases hg : rng a 0 ((ps.length : Int) - 1)
    · rw [hg] at HV
      have H1 := hide (HGd_no (b := b) HV)
      have H2 := hide (HGo_no (b := b) HV)
      have hg' := hide hg
      clear HV hg
      go_enter Try.func37, Try.ntmps37
      go_wp2_with fail
      generalize (w.alloc (.cells #[.slice A ps.length c] 46)).alloc (.cells #[.int .i64 a, .int .i64 b] 60) = w0 at hr0 hb0 kB kR
      refine (vhI A c ps _ hr0 hs).mono ?_
      rintro e w1 ⟨rfl, hb1⟩
      have hB1 : w1.cell? ⟨w.heap.size, 0, none⟩ = some (.slice A ps.length c) := (kB.below hb1).cell 0
      have hR1 : w1.cell? ⟨w.heap.size + 1, 0, none⟩ = some (.int .i64 a) := (kR.below hb1).cell 0
      rw [hv]
      go_wp2_with fail
      refine (hasI A c ps.length a _ hsl ha).mono ?_
      rintro e w2 ⟨rfl, hb2⟩
      rw [hg'.out]
      go_wp2_with fail
      go_ret2
      exact ⟨ret_sb H1.out.symm H2.out.symm, bt hb0 (bt2 hb1 hb2) hb0.size⟩
    · rw [hg] at HV
      obtain ⟨k, hk, rfl⟩ := pg_in hg
      have H1 := hide (HGd_in (b := b) hk HV)
      have H2 := hide (HGo_in (b := b) hk HV)
      have hg' := hide hg
      have hi : (k : Int) < (ps.length : Int) := by omega
      have hsm := hs.2 _ (List.getElem_mem hk)
      clear HV hg
      go_enter Try.func37, Try.ntmps37
      go_wp2_with fail
      generalize (w.alloc (.cells #[.slice A ps.length c] 46)).alloc (.cells #[.int .i64 (k : Int), .int .i64 b] 60) = w0 at hr0 hb0 kB kR
      refine (vhI A c ps _ hr0 hs).mono ?_
      rintro e w1 ⟨rfl, hb1⟩
      have hB1 : w1.cell? ⟨w.heap.size, 0, none⟩ = some (.slice A ps.length c) := (kB.below hb1).cell 0
      have hR1 : w1.cell? ⟨w.heap.size + 1, 0, none⟩ = some (.int .i64 (k : Int)) := (kR.below hb1).cell 0
      have hR1' : w1.cell? ⟨w.heap.size + 1, 1, none⟩ = some (.int .i64 b) := (kR.below hb1).cell 1
      rw [hv]
      go_wp2_with fail
      refine (hasI A c ps.length _ _ hsl ha).mono ?_
      rintro e w2 ⟨rfl, hb2⟩
      rw [hg'.out]
      have hB2 := cell_on hb2 hB1
      have hR2 := cell_on hb2 hR1
      have hR2' := cell_on hb2 hR1'
      obtain ⟨q, off, rfl, c0, r0⟩ := (hr0.below (bt2 hb1 hb2)).page hk
      generalize ps[k] = x at c0 r0 H1 H2 hsm
      clear hr hr0
      go_wp2_with fail
      go_region_held3 (fun w' => w'.cell? ⟨w.heap.size, 0, none⟩ = some (.slice (some ⟨q, off, none⟩) ps.length c) ∧ w'.cell? ⟨w.heap.size + 1, 0, none⟩ = some (.int .i64 (k : Int)) ∧ w'.cell? ⟨w.heap.size + 1, 1, none⟩ = some (.int .i64 b) ∧ w'.cell? ⟨q, off + k, none⟩ = some (.slice x.A x.xs.length x.c))
        (first | exact ⟨hB2, hR2, hR2', c0⟩ | exact ⟨cell_on (of_drew hb3) hB2, cell_on (of_drew hb3) hR2, cell_on (of_drew hb3) hR2', cell_on (of_drew hb3) c0⟩)
        (first | (go_at_call 22; refine (gsI _ _ x.xs b _ (by first | exact r0 | exact r0.drew) hsm.1 hsm.2 hbb).mono ?_; rintro e w3 ⟨rfl, hb3⟩))
      go_wp2_with fail
      go_ret2
      exact ⟨ret_sb H1.out.symm H2.out.symm, bt hb0 (bt2 (bt2 hb1 hb2) (of_drew hb3)) hb0.size⟩

set_option maxHeartbeats 1000000 in
theorem HGS (A : Option Addr) (c : Nat) (ps : List Pg) (a b : Int) (w : World) (hr : Hp w A ps) (hs : Small ps) (ha : -9223372036854775808 ≤ a ∧ a ≤ 9223372036854775807) (hbb : -9223372036854775808 ≤ b ∧ b ≤ 9223372036854775807) :
    Calls Try.prog 35 #[.agg #[.slice A ps.length c], .agg #[.int .i64 a, .int .i64 b]] w fun e w' => e = .returned (.tuple #[.string (HGd (xss ps) a b), .bool (HGo (xss ps) a b)]) ∧ Below w.heap.size w w' := by
  have hr0 := (hr.alloc (.cells #[.slice A ps.length c] 46)).alloc (.cells #[.int .i64 a, .int .i64 b] 60)
  have hb0 : Below w.heap.size w ((w.alloc (.cells #[.slice A ps.length c] 46)).alloc (.cells #[.int .i64 a, .int .i64 b] 60)) := by go_grown
  have kB := (Blk.new w 46 #[.slice A ps.length c]).alloc (.cells #[.int .i64 a, .int .i64 b] 60)
  have kR := Blk.new (w.alloc (.cells #[.slice A ps.length c] 46)) 60 #[.int .i64 a, .int .i64 b]
  simp only [World.size_alloc] at kR
  have hsl := hs.1
  have HV := HGv_eq (ps := ps) (a := a)
  cases hv : vh (xss ps)
  · rw [hv, Bool.false_and] at HV
    have H1 := hide (HGd_no (b := b) HV)
    have H2 := hide (HGo_no (b := b) HV)
    clear HV
    go_enter Try.func35, Try.ntmps35
    go_wp2_with fail
    generalize (w.alloc (.cells #[.slice A ps.length c] 46)).alloc (.cells #[.int .i64 a, .int .i64 b] 60) = w0 at hr0 hb0 kB kR
    refine (vhS A c ps _ hr0 hs).mono ?_
    rintro e w1 ⟨rfl, hb1⟩
    rw [hv]
    go_wp2_with fail
    go_ret2
    exact ⟨ret_sb H1.out.symm H2.out.symm, bt hb0 hb1 hb0.size⟩
  · rw [hv, Bool.true_and] at HV
    cases hg : rng a 0 ((ps.length : Int) - 1)
    · rw [hg] at HV
      have H1 := hide (HGd_no (b := b) HV)
      have H2 := hide (HGo_no (b := b) HV)
      have hg' := hide hg
      clear HV hg
      go_enter Try.func35, Try.ntmps35
      go_wp2_with fail
      generalize (w.alloc (.cells #[.slice A ps.length c] 46)).alloc (.cells #[.int .i64 a, .int .i64 b] 60) = w0 at hr0 hb0 kB kR
      refine (vhS A c ps _ hr0 hs).mono ?_
      rintro e w1 ⟨rfl, hb1⟩
      have hB1 : w1.cell? ⟨w.heap.size, 0, none⟩ = some (.slice A ps.length c) := (kB.below hb1).cell 0
      have hR1 : w1.cell? ⟨w.heap.size + 1, 0, none⟩ = some (.int .i64 a) := (kR.below hb1).cell 0
      rw [hv]
      go_wp2_with fail
      refine (inR _ _ _ _).mono ?_
      rintro e w2 ⟨rfl, rfl⟩
      rw [hg'.out]
      go_wp2_with fail
      go_ret2
      exact ⟨ret_sb H1.out.symm H2.out.symm, bt hb0 hb1 hb0.size⟩
    · rw [hg] at HV
      obtain ⟨k, hk, rfl⟩ := pg_in hg
      have H1 := hide (HGd_in (b := b) hk HV)
      have H2 := hide (HGo_in (b := b) hk HV)
      have hg' := hide hg
      have hi : (k : Int) < (ps.length : Int) := by omega
      have hsm := hs.2 _ (List.getElem_mem hk)
      clear HV hg
      go_enter Try.func35, Try.ntmps35
      go_wp2_with fail
      generalize (w.alloc (.cells #[.slice A ps.length c] 46)).alloc (.cells #[.int .i64 (k : Int), .int .i64 b] 60) = w0 at hr0 hb0 kB kR
      refine (vhS A c ps _ hr0 hs).mono ?_
      rintro e w1 ⟨rfl, hb1⟩
      have hB1 : w1.cell? ⟨w.heap.size, 0, none⟩ = some (.slice A ps.length c) := (kB.below hb1).cell 0
      have hR1 : w1.cell? ⟨w.heap.size + 1, 0, none⟩ = some (.int .i64 (k : Int)) := (kR.below hb1).cell 0
      have hR1' : w1.cell? ⟨w.heap.size + 1, 1, none⟩ = some (.int .i64 b) := (kR.below hb1).cell 1
      rw [hv]
      go_wp2_with fail
      refine (inR _ _ _ _).mono ?_
      rintro e w2 ⟨rfl, rfl⟩
      rw [hg'.out]
      have hB2 := hB1
      have hR2 := hR1
      have hR2' := hR1'
      obtain ⟨q, off, rfl, c0, r0⟩ := (hr0.below hb1).page hk
      generalize ps[k] = x at c0 r0 H1 H2 hsm
      clear hr hr0
      go_wp2_with fail
      go_region_held3 (fun w' => w'.cell? ⟨w.heap.size, 0, none⟩ = some (.slice (some ⟨q, off, none⟩) ps.length c) ∧ w'.cell? ⟨w.heap.size + 1, 0, none⟩ = some (.int .i64 (k : Int)) ∧ w'.cell? ⟨w.heap.size + 1, 1, none⟩ = some (.int .i64 b) ∧ w'.cell? ⟨q, off + k, none⟩ = some (.slice x.A x.xs.length x.c))
        (first | exact ⟨hB2, hR2, hR2', c0⟩ | exact ⟨cell_on (of_drew hb3) hB2, cell_on (of_drew hb3) hR2, cell_on (of_drew hb3) hR2', cell_on (of_drew hb3) c0⟩)
        (first | (go_at_call 21; refine (gsS _ _ x.xs b _ (by first | exact r0 | exact r0.drew) hsm.1 hsm.2 hbb).mono ?_; rintro e w3 ⟨rfl, hb3⟩))
      go_wp2_with fail
      go_ret2
      exact ⟨ret_sb H1.out.symm H2.out.symm, bt hb0 (bt2 hb1 (of_drew hb3)) hb0.size⟩

set_option maxHeartbeats 2000000 in
theorem exactHg_walk (A : Option Addr) (c : Nat) (ps : List Pg) (a b : Int) (w : World) (hr : Hp w A ps) (hf : FitG ps) (hc : ps.length ≤ c) (hm : c ≤ 9223372036854775807) (ha : -9223372036854775808 ≤ a ∧ a ≤ 9223372036854775807) (hbb : -9223372036854775808 ≤ b ∧ b ≤ 9223372036854775807) :
    Calls Try.prog 11 #[.agg #[.slice A ps.length c], .agg #[.int .i64 a, .int .i64 b]] w fun e w' => e = .returned (.bool true) ∧ Below w.heap.size w w' := by
  have S1 := szG_lo 1048576 ps
  have hok := hide (fun h => small_of (szG_ok (left := 1048576) (ps := ps) h))
  generalize hs1 : szG 1048576 ps = s1 at S1 hok
  have hs1' := hide hs1
  clear hs1
  have n1 : (HGo (xss ps) a b != HGo (xss ps) a b) = false := by cases HGo (xss ps) a b <;> rfl
  have n2 : ((HGd (xss ps) a b).toList != (HGd (xss ps) a b).toList) = false := by rw [bne, beq_self_eq_true]; rfl
  have hr0 := (hr.alloc (.cells #[.slice A ps.length c] 51)).alloc (.cells #[.int .i64 a, .int .i64 b] 61)
  have hb0 : Below w.heap.size w ((w.alloc (.cells #[.slice A ps.length c] 51)).alloc (.cells #[.int .i64 a, .int .i64 b] 61)) := by go_grown
  have kB := (Blk.new w 51 #[.slice A ps.length c]).alloc (.cells #[.int .i64 a, .int .i64 b] 61)
  have kR := Blk.new (w.alloc (.cells #[.slice A ps.length c] 51)) 61 #[.int .i64 a, .int .i64 b]
  simp only [World.size_alloc] at kR
  go_enter Try.func11, Try.ntmps11
  go_wp2_with fail
  generalize (w.alloc (.cells #[.slice A ps.length c] 51)).alloc (.cells #[.int .i64 a, .int .i64 b] 61) = w0 at hr0 hb0 kB kR
  refine (szHp A c ps 1048576 _ hr0 hf (by omega) (by omega) (by omega)).mono ?_
  rintro e w1 ⟨rfl, hb1⟩
  rw [hs1'.out]
  by_cases h1 : s1 < 0
  · go_wp2_with fail
    go_ret
    exact ⟨rfl, bt hb0 hb1 hb0.size⟩
  · have sm := hok.out (by omega)
    have hB1 : w1.cell? ⟨w.heap.size, 0, none⟩ = some (.slice A ps.length c) := (kB.below hb1).cell 0
    have hR1 : w1.cell? ⟨w.heap.size + 1, 0, none⟩ = some (.int .i64 a) := (kR.below hb1).cell 0
    have hQ1 : w1.cell? ⟨w.heap.size + 1, 1, none⟩ = some (.int .i64 b) := (kR.below hb1).cell 1
    have hr1 := hr0.below hb1
    have bu : ∀ {a b : World}, Below a.heap.size a.drew b → Below a.heap.size a b := fun h => of_drew h
    clear kB kR
    go_wp2_with fail
    go_region_held3 (fun w' => w'.cell? ⟨w.heap.size, 0, none⟩ = some (.slice A ps.length c) ∧ w'.cell? ⟨w.heap.size + 1, 0, none⟩ = some (.int .i64 a) ∧ w'.cell? ⟨w.heap.size + 1, 1, none⟩ = some (.int .i64 b) ∧ Below w1.heap.size w1 w')
      (first | exact ⟨hB1, hR1, hQ1, (Below.refl _ _).drew⟩ | exact ⟨cell_on (bt2 (bt2 hb2 hb3) hb4) hB1, cell_on (bt2 (bt2 hb2 hb3) hb4) hR1, cell_on (bt2 (bt2 hb2 hb3) hb4) hQ1, bt2 (bt2 hb2 hb3) hb4⟩ | exact ⟨cell_on (bt2 hb2 hb3) hB1, cell_on (bt2 hb2 hb3) hR1, cell_on (bt2 hb2 hb3) hQ1, bt2 hb2 hb3⟩ | exact ⟨cell_on hb2 hB1, cell_on hb2 hR1, cell_on hb2 hQ1, hb2⟩)
      (first
        | (go_at_call 29; refine (toHk A c ps _ (by first | exact hr1 | exact hr1.drew) sm).mono ?_; rintro e w2 ⟨g2, gs2, rfl, hx2, sm2, r2, hb2⟩; replace hx2 := hide hx2; replace hb2 : Below w1.heap.size w1 w2 := (by first | exact hb2 | exact bu hb2))
        | (go_at_call 36; refine (toRd a b _).mono ?_; rintro e w3 ⟨rfl, hb3⟩; replace hb3 : Below w2.heap.size w2 w3 := (by first | exact hb3 | exact bu hb3))
        | (go_at_call 35; refine (HGS _ _ gs2 a b _ (by first | exact r2.below hb3 | exact (r2.below hb3).drew) sm2 ha hbb).mono ?_; rintro e w4 ⟨rfl, hb4⟩; rw [hx2.out]; replace hb4 : Below w3.heap.size w3 w4 := (by first | exact hb4 | exact bu hb4)))
    have hb4' := bt2 hb1 (bt2 (bt2 hb2 hb3) hb4)
    have hB4 := cell_on (bt2 (bt2 hb2 hb3) hb4) hB1
    have hR4 := cell_on (bt2 (bt2 hb2 hb3) hb4) hR1
    have hQ4 := cell_on (bt2 (bt2 hb2 hb3) hb4) hQ1
    rename_i hHeld
    clear hHeld hB1 hR1 hQ1 hb2 hb3 hb4 r2 hx2 hr1
    go_wp2_with fail
    refine (toHk A c ps _ (hr0.below hb4') sm).mono ?_
    rintro e w5 ⟨g5, gs5, rfl, hx5, sm5, r5, hb5⟩
    have hx5' := hide hx5
    have hB5 := cell_on hb5 hB4
    have hR5 := cell_on hb5 hR4
    have hQ5 := cell_on hb5 hQ4
    have hb5' := bt2 hb4' hb5
    clear hx5 hB4 hR4 hQ4
    have r5x := r5.alloc (.cells #[.slice (some ⟨g5, 0, none⟩) gs5.length gs5.length] 46)
    have hX5 := (Blk.new w5 46 #[.slice (some ⟨g5, 0, none⟩) gs5.length gs5.length]).cell 0
    have hb5x : Below w5.heap.size w5 (w5.alloc (.cells #[.slice (some ⟨g5, 0, none⟩) gs5.length gs5.length] 46)) := (Below.refl _ _).alloc (Nat.le_refl _) _
    have hB5x := cell_on hb5x hB5
    have hR5x := cell_on hb5x hR5
    have hQ5x := cell_on hb5x hQ5
    clear hB5 hR5 hQ5
    go_wp2_with fail
    generalize w5.alloc (.cells #[.slice (some ⟨g5, 0, none⟩) gs5.length gs5.length] 46) = wx at r5x hX5 hb5x hB5x hR5x hQ5x
    replace hX5 : wx.cell? ⟨w5.heap.size, 0, none⟩ = some (.slice (some ⟨g5, 0, none⟩) gs5.length gs5.length) := hX5
    have hbx' := bt2 hb5' hb5x
    go_region_held3 (fun w' => w'.cell? ⟨w5.heap.size, 0, none⟩ = some (.slice (some ⟨g5, 0, none⟩) gs5.length gs5.length) ∧ w'.cell? ⟨w.heap.size + 1, 0, none⟩ = some (.int .i64 a) ∧ w'.cell? ⟨w.heap.size + 1, 1, none⟩ = some (.int .i64 b) ∧ Below wx.heap.size wx w')
      (first | exact ⟨hX5, hR5x, hQ5x, (Below.refl _ _).drew⟩ | exact ⟨cell_on (bt2 hb6 hb7) hX5, cell_on (bt2 hb6 hb7) hR5x, cell_on (bt2 hb6 hb7) hQ5x, bt2 hb6 hb7⟩ | exact ⟨cell_on hb6 hX5, cell_on hb6 hR5x, cell_on hb6 hQ5x, hb6⟩)
      (first
        | (go_at_call 36; refine (toRd a b _).mono ?_; rintro e w6 ⟨rfl, hb6⟩; replace hb6 : Below wx.heap.size wx w6 := (by first | exact hb6 | exact bu hb6))
        | (go_at_call 37; refine (HGI _ _ gs5 a b _ (by first | exact r5x.below hb6 | exact (r5x.below hb6).drew) sm5 ha hbb).mono ?_; rintro e w7 ⟨rfl, hb7⟩; rw [hx5'.out]; replace hb7 : Below w6.heap.size w6 w7 := (by first | exact hb7 | exact bu hb7)))
    rename_i hHeld
    have hb67 := bt2 hb6 hb7
    have hX7 := cell_on hb67 hX5
    have hB7 := cell_on hb67 hB5x
    have hb7' := bt2 hbx' hb67
    have r7 := r5x.below hb67
    have hr7 := hr0.below hb7'
    clear hHeld hX5 hR5x hQ5x hB5x hb6 hb7 r5x r5
    generalize HGd (xss ps) a b = v at n2
    generalize HGo (xss ps) a b = z at n1
    go_wp2_with fail
    go_region_held3 (fun w' => w'.cell? ⟨w.heap.size, 0, none⟩ = some (.slice A ps.length c) ∧ w'.cell? ⟨w5.heap.size, 0, none⟩ = some (.slice (some ⟨g5, 0, none⟩) gs5.length gs5.length) ∧ Below w7.heap.size w7 w')
      (first | exact ⟨hB7, hX7, (Below.refl _ _).drew⟩ | exact ⟨cell_on (bt2 hb8 hb9) hB7, cell_on (bt2 hb8 hb9) hX7, bt2 hb8 hb9⟩ | exact ⟨cell_on hb8 hB7, cell_on hb8 hX7, hb8⟩)
      (first
        | (go_at_call 29; refine (toHk A c ps _ (by first | exact hr7 | exact hr7.drew) sm).mono ?_; rintro e w8 ⟨g8, gs8, rfl, hx8, sm8, r8, hb8⟩; replace hx8 := hide (hx5'.out.trans hx8.symm); replace hb8 : Below w7.heap.size w7 w8 := (by first | exact hb8 | exact bu hb8))
        | (go_at_call 30; refine (eqHp _ _ _ _ gs5 gs8 _ (by first | exact r7.below hb8 | exact (r7.below hb8).drew) (by first | exact r8 | exact r8.drew) hx8.out sm5).mono ?_; rintro e w9 ⟨rfl, hb9⟩; replace hb9 : Below w8.heap.size w8 w9 := (by first | exact hb9 | exact bu hb9)))
    go_wp2_with fail
    go_ret
    exact ⟨rfl, bt hb0 (bt2 (bt2 hb7' hb8) hb9) hb0.size⟩

end Go.Proofs.Ytnhkpigakbiddaa
