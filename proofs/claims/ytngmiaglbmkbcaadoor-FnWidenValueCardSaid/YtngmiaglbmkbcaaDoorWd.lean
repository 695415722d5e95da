/-
  Widened values: decimal numerals, WidenValue of the program and of the reference answer alike. Conditions: the library's table of powers of ten holds what the program's text lays.
-/
import Derived.Test.YtngmiaglbmkbcaaDoorItoa
import Derived.Test.YtngmiaglbmkbcaaDoorVlaw
import Derived.Laws.BytesArg
import Derived.Lib.ItoaLen
import Derived.Lib.SmallJoins
import Derived.IntWalk
import Derived.Deep.RegionHeld3
import Derived.Deep.DrawnRows
namespace Go.Proofs.YtngmiaglbmkbcaaDoor
open Go.RowKit
set_option linter.unusedVariables false
set_option linter.unusedSimpArgs false

theorem rq0 {α : Type} {xs : List α} {i : Nat} (h : i < xs.toArray.size) : xs.toArray[i] = xs[i]'(by simpa using h) := List.getElem_toArray h
theorem rq1 {α : Type} (a : α) (l : List α) (i : Nat) (h : i + 1 < (a :: l).length) : (a :: l)[i + 1] = l[i]'(by simpa using h) := List.getElem_cons_succ a l i h
theorem rq2 {α : Type} (a : α) (l : List α) (h : 0 < (a :: l).length) : (a :: l)[0] = a := rfl
theorem rq3 {α : Type} (l : List α) (i : Nat) (a : α) : l.toArray.setIfInBounds i a = (l.set i a).toArray := List.setIfInBounds_toArray l i a
theorem rq4 {α : Type} (x y : α) (xs : List α) : (x :: xs).set 0 y = y :: xs := List.set_cons_zero
theorem rq5 {α : Type} (x y : α) (xs : List α) (n : Nat) : (x :: xs).set (n + 1) y = x :: xs.set n y := List.set_cons_succ

def its (n : Int) : ByteArray := ⟨(Lib.itoa n).toArray⟩
def dgs (u : Nat) : ByteArray := ⟨(Lib.decDigits u).toArray⟩
abbrev Tab (w : World) : Prop := Lib.TabIs Tryd.prog w "internal/strconv.uint64pow10" .u64 Lib.pow10Tab
theorem gTab : Tryd.prog.globalNamed "internal/strconv.uint64pow10" = some 0 := by kernel_rfl
theorem tab_on {w w' : World} (h : Tab w) (hb : Below w.heap.size w w') : Tab w' := Joins.tab_stays gTab h hb (Nat.le_refl _)
theorem ito_any (n : Int) (w : World) (h0 : -9223372036854775808 ≤ n) (h1 : n ≤ 9223372036854775807) (ht : Tab w) :
    Calls Tryd.prog 14 #[.int .i64 n] w fun e w' => e = .returned (.string (its n)) ∧ Below w.heap.size w w' :=
  (itoaAny n h0 h1 w ht).mono (by rintro e w' ⟨he, k, os, rfl⟩; exact ⟨he, Lib.below_grow _ _ (Nat.le_refl _) _ _⟩)

/-! ### decimal -/
theorem cnvG (w : World) (G : Nat) (a : Int) (hk : Blk w G 5 #[.int .u8 a]) :
    (convert 30 9 (.slice (some ⟨G, 0, none⟩) 1 1)).run Tryd.prog w = .ok (.string (strOfNums [a])) w :=
  run_convert_bytes_arg (P := Tryd.prog) _ 30 5 Tryd.underlying30 Tryd.underlying5 G 0 1 1 [a] rfl (fun i hi => by
    rw [hk.cell (0 + i)]
    match i, hi with
    | 0, _ => rfl) _ Tryd.underlying9
theorem dgs_one {u : Nat} (h : u < 10) : dgs u = strOfNums [48 + (u : Int)] := by
  unfold dgs strOfNums
  rw [Lib.decDigits_one h]
  rfl
theorem dgs_more {u : Nat} (h : ¬ u < 10) : dgs u = dgs (u / 10) ++ strOfNums [48 + ((u % 10 : Nat) : Int)] := by
  unfold dgs strOfNums
  rw [Lib.decDigits, dif_neg h]
  apply ByteArray.ext
  simp
  have h : (48 + (u : Int) % 10).toNat = 48 + u % 10 := by omega
  rw [h, UInt8.ofNat_add]
  rfl
theorem dgs_size {u : Nat} (h : u ≤ 999999) : (dgs u).size ≤ 21 := by
  have := Lib.itoa_length_le (u : Int) (by omega) (by omega)
  rw [Lib.itoa_nonneg] at this
  exact this

set_option maxHeartbeats 4000000 in
theorem decN (u : Nat) : ∀ (w : World), u ≤ 999999 →
    Calls Tryd.prog 20 #[.int .i64 (u : Int)] w fun e w' => e = .returned (.string (dgs u)) ∧ Below w.heap.size w w' := by
  induction u using Nat.strongRecOn with
  | _ u ih =>
    intro w hu
    have g1 : decide ((u : Int) < 0) = false := decide_eq_false (by omega)
    by_cases h10 : u < 10
    · have HD := hide (dgs_one h10)
      have hcv := cnvG (w.alloc (.cells #[.int .u8 (48 + (u : Int))] 5)) w.heap.size (48 + (u : Int)) (Blk.new w 5 #[.int .u8 (48 + (u : Int))])
      have h10' : (u : Int) < 10 := by omega
      clear ih
      go_enter Tryd.func20, Tryd.ntmps20
      go_wp2_with fail
      go_ret
      exact ⟨ret_str HD.out.symm, (Below.refl _ _).alloc (Nat.le_refl _) _⟩
    · have HD := hide (dgs_more h10)
      have hz := dgs_size (u := u / 10) (by omega)
      have hI := hide (fun W => ih (u / 10) (by omega) W (by omega))
      have h10' : ¬ ((u : Int) < 10) := by omega
      have e1 : (u : Int).tdiv 10 = ((u / 10 : Nat) : Int) := by rw [Int.tdiv_eq_ediv_of_nonneg (by omega)]; rfl
      have e2 : (u : Int).tmod 10 = ((u % 10 : Nat) : Int) := by rw [Int.tmod_eq_emod_of_nonneg (by omega)]; rfl
      obtain ⟨q, hq⟩ : ∃ q, q = u / 10 := ⟨_, rfl⟩
      obtain ⟨r, hr⟩ : ∃ r, r = u % 10 := ⟨_, rfl⟩
      rw [← hr] at HD e2
      rw [← hq] at HD e1 hI hz
      have hr9 : r ≤ 9 := by omega
      have hq9 : q ≤ 99999 := by omega
      have z1 : (strOfNums [48 + (r : Int)]).size ≤ 1 := by rw [strOfNums_size]; exact Nat.le_refl _
      clear ih hq hr hu
      go_enter Tryd.func20, Tryd.ntmps20
      go_wp2_with fail
      have w1 : IntKind.i64.wrap (q : Int) = (q : Int) := IntWalk.i64_in _ (by omega)
      have w2 : IntKind.i64.wrap (r : Int) = (r : Int) := IntWalk.i64_in _ (by omega)
      have w3 : IntKind.i64.wrap (48 + (r : Int)) = 48 + (r : Int) := IntWalk.i64_in _ (by omega)
      have w4 : IntKind.u8.wrap (48 + (r : Int)) = 48 + (r : Int) := by rw [IntKind.wrap_u8]; omega
      have hI' := hI.out
      generalize dgs q = s at HD hz hI'
      have hsn : ¬ (9223372036854775807 < s.size + (strOfNums [48 + (r : Int)]).size) := by omega
      clear hI
      have hbx : Below w.heap.size w w.drew := (Below.refl _ _).drew
      refine wp_region_noPanic ?_
      refine wp_region_held_drew (S := (fun w' => True)) (by kernel_rfl) ?_ ?_
      · exact trivial
      generalize w.drew = W0 at hbx ⊢
      intro hHeld
      refine wpAnyH_take (i := 0) (oi := _) (v := ?_) rfl (by kernel_rfl) (by kernel_rfl) (by kernel_rfl) (fun _ _ _ h => h) (Or.inl ⟨by rfl, ?_⟩) (by assumption) ?_
      rotate_left
      · (intro wS hSw; (try dsimp only at hSw); (try go_split_ands); (simp only [List.getElem_toArray, List.getElem_cons_succ, List.getElem_cons_zero]); go_simp <;> (with_reducible rfl))
      try simp only [List.getElem_toArray, List.getElem_cons_succ, List.getElem_cons_zero, Act.put, List.setIfInBounds_toArray, List.set_cons_zero, List.set_cons_succ]
      refine wpAnyH_take (i := 1) (oi := _) (v := ?_) rfl (by kernel_rfl) (by kernel_rfl) (by kernel_rfl) (fun _ _ _ h => h) (Or.inl ⟨by rfl, ?_⟩) (by assumption) ?_
      rotate_left
      · (intro wS hSw; (try dsimp only at hSw); (try go_split_ands); (simp only [List.getElem_toArray, List.getElem_cons_succ, List.getElem_cons_zero]); go_simp <;> (with_reducible rfl))
      try simp only [List.getElem_toArray, List.getElem_cons_succ, List.getElem_cons_zero, Act.put, List.setIfInBounds_toArray, List.set_cons_zero, List.set_cons_succ]
      refine wpAnyH_take (i := 3) (oi := _) (v := ?_) rfl (by kernel_rfl) (by kernel_rfl) (by kernel_rfl) (fun _ _ _ h => h) (Or.inl ⟨by rfl, ?_⟩) (by assumption) ?_
      rotate_left
      · (intro wS hSw; (try dsimp only at hSw); (try go_split_ands); (simp only [List.getElem_toArray, List.getElem_cons_succ, List.getElem_cons_zero]); go_simp <;> (with_reducible rfl))
      try simp only [List.getElem_toArray, List.getElem_cons_succ, List.getElem_cons_zero, Act.put, List.setIfInBounds_toArray, List.set_cons_zero, List.set_cons_succ]
      refine wpAnyH_take (i := 4) (oi := _) (v := ?_) rfl (by kernel_rfl) (by kernel_rfl) (by kernel_rfl) (fun _ _ _ h => h) (Or.inl ⟨by rfl, ?_⟩) (by assumption) ?_
      rotate_left
      · (intro wS hSw; (try dsimp only at hSw); (try go_split_ands); (simp only [List.getElem_toArray, List.getElem_cons_succ, List.getElem_cons_zero]); go_simp <;> (with_reducible rfl))
      try simp only [List.getElem_toArray, List.getElem_cons_succ, List.getElem_cons_zero, Act.put, List.setIfInBounds_toArray, List.set_cons_zero, List.set_cons_succ]
      refine wpAnyH_take (i := 5) (oi := _) (v := ?_) rfl (by kernel_rfl) (by kernel_rfl) (by kernel_rfl) (fun _ _ _ h => h) (Or.inl ⟨by rfl, ?_⟩) (by assumption) ?_
      rotate_left
      · (intro wS hSw; (try dsimp only at hSw); (try go_split_ands); (simp only [List.getElem_toArray, List.getElem_cons_succ, List.getElem_cons_zero]); go_simp <;> (with_reducible rfl))
      try simp only [List.getElem_toArray, List.getElem_cons_succ, List.getElem_cons_zero, Act.put, List.setIfInBounds_toArray, List.set_cons_zero, List.set_cons_succ]
      refine wpAnyH_take (i := 6) (oi := _) (v := ?_) rfl (by kernel_rfl) (by kernel_rfl) (by kernel_rfl) (fun _ _ _ h => h) (Or.inl ⟨by rfl, ?_⟩) (by assumption) ?_
      rotate_left
      · (intro wS hSw; (try dsimp only at hSw); (try go_split_ands); (simp only [List.getElem_toArray, List.getElem_cons_succ, List.getElem_cons_zero]); go_simp <;> (with_reducible rfl))
      try simp only [List.getElem_toArray, List.getElem_cons_succ, List.getElem_cons_zero, Act.put, List.setIfInBounds_toArray, List.set_cons_zero, List.set_cons_succ]
      refine wpAnyH_ready (rs := [2, 7]) (by kernel_rfl) (by simp) (AllReadyH.cons (o := _) rfl (fun K hK => ?_) (AllReadyH.cons (o := _) rfl (fun K hK => ?_) AllReadyH.nil))
      · skip -- 2
        simp only [rq0, rq1, rq2]
        go_simp
        (go_at_call 20; refine (hI' _).mono ?_; rintro e W1 ⟨rfl, hn⟩)
        replace hbx := bt2 hbx hn
        clear hn
        refine hK.out _ _ ?_ (fun hHeld => ?_)
        · exact trivial
        clear hK K
        try simp only [rq0, rq1, rq2, Act.put, rq3, rq4, rq5]
        refine wpAnyH_ready (rs := [7]) (by kernel_rfl) (by simp) (AllReadyH.cons (o := _) rfl (fun K hK => ?_) AllReadyH.nil)
        simp only [rq0, rq1, rq2]
        go_simp
        have lit := Blk.new W1 5 #[.int .u8 (48 + (r : Int))]
        replace hbx := bt2 hbx ((Below.refl _ _).alloc (Nat.le_refl _) (.cells #[.int .u8 (48 + (r : Int))] 5))
        refine hK.out _ _ ?_ (fun hHeld => ?_)
        · exact trivial
        clear hK K
        try simp only [rq0, rq1, rq2, Act.put, rq3, rq4, rq5]
        generalize W1.alloc (.cells #[.int .u8 (48 + (r : Int))] 5) = W2 at hbx lit ⊢
        refine wpAnyH_ready (rs := [8]) (by kernel_rfl) (by simp) (AllReadyH.cons (o := _) rfl (fun K hK => ?_) AllReadyH.nil)
        have hcv := cnvG W2 W1.heap.size (48 + (r : Int)) lit
        simp only [rq0, rq1, rq2]
        go_simp
        refine hK.out _ _ ?_ (fun hHeld => ?_)
        · exact trivial
        clear hK K
        try simp only [rq0, rq1, rq2, Act.put, rq3, rq4, rq5]
        refine wpAnyH_take (i := 9) (oi := _) (v := ?_) rfl (by kernel_rfl) (by kernel_rfl) (by kernel_rfl) (fun _ _ _ h => h) (Or.inl ⟨by rfl, ?_⟩) (by assumption) ?_
        rotate_left
        · (intro wS hSw; (try dsimp only at hSw); (try go_split_ands); (simp only [List.getElem_toArray, List.getElem_cons_succ, List.getElem_cons_zero]); go_simp <;> (with_reducible rfl))
        try simp only [List.getElem_toArray, List.getElem_cons_succ, List.getElem_cons_zero, Act.put, List.setIfInBounds_toArray, List.set_cons_zero, List.set_cons_succ]
        refine wpAnyH_take (i := 10) (oi := _) (v := ?_) rfl (by kernel_rfl) (by kernel_rfl) (by kernel_rfl) (fun _ _ _ h => h) (Or.inl ⟨by rfl, ?_⟩) (by assumption) ?_
        rotate_left
        · (intro wS hSw; (try dsimp only at hSw); (try go_split_ands); (simp only [List.getElem_toArray, List.getElem_cons_succ, List.getElem_cons_zero]); go_simp <;> (with_reducible rfl))
        try simp only [List.getElem_toArray, List.getElem_cons_succ, List.getElem_cons_zero, Act.put, List.setIfInBounds_toArray, List.set_cons_zero, List.set_cons_succ]
        refine wpAnyH_done (by kernel_rfl) ?_ _
        refine NoPanic.normal ?_
        clear hHeld
        clear w1 w2 w3 w4 e1 e2
        go_wp2_with fail
        go_ret
        exact ⟨ret_str HD.out.symm, hbx⟩
      · skip -- 7
        simp only [rq0, rq1, rq2]
        go_simp
        have lit := Blk.new W0 5 #[.int .u8 (48 + (r : Int))]
        replace hbx := bt2 hbx ((Below.refl _ _).alloc (Nat.le_refl _) (.cells #[.int .u8 (48 + (r : Int))] 5))
        refine hK.out _ _ ?_ (fun hHeld => ?_)
        · exact trivial
        clear hK K
        try simp only [rq0, rq1, rq2, Act.put, rq3, rq4, rq5]
        generalize W0.alloc (.cells #[.int .u8 (48 + (r : Int))] 5) = W1 at hbx lit ⊢
        refine wpAnyH_ready (rs := [2, 8]) (by kernel_rfl) (by simp) (AllReadyH.cons (o := _) rfl (fun K hK => ?_) (AllReadyH.cons (o := _) rfl (fun K hK => ?_) AllReadyH.nil))
        · skip -- 2
          simp only [rq0, rq1, rq2]
          go_simp
          (go_at_call 20; refine (hI' _).mono ?_; rintro e W2 ⟨rfl, hn⟩)
          replace lit := lit.below hn
          replace hbx := bt2 hbx hn
          clear hn
          refine hK.out _ _ ?_ (fun hHeld => ?_)
          · exact trivial
          clear hK K
          try simp only [rq0, rq1, rq2, Act.put, rq3, rq4, rq5]
          refine wpAnyH_ready (rs := [8]) (by kernel_rfl) (by simp) (AllReadyH.cons (o := _) rfl (fun K hK => ?_) AllReadyH.nil)
          have hcv := cnvG W2 W0.heap.size (48 + (r : Int)) lit
          simp only [rq0, rq1, rq2]
          go_simp
          refine hK.out _ _ ?_ (fun hHeld => ?_)
          · exact trivial
          clear hK K
          try simp only [rq0, rq1, rq2, Act.put, rq3, rq4, rq5]
          refine wpAnyH_take (i := 9) (oi := _) (v := ?_) rfl (by kernel_rfl) (by kernel_rfl) (by kernel_rfl) (fun _ _ _ h => h) (Or.inl ⟨by rfl, ?_⟩) (by assumption) ?_
          rotate_left
          · (intro wS hSw; (try dsimp only at hSw); (try go_split_ands); (simp only [List.getElem_toArray, List.getElem_cons_succ, List.getElem_cons_zero]); go_simp <;> (with_reducible rfl))
          try simp only [List.getElem_toArray, List.getElem_cons_succ, List.getElem_cons_zero, Act.put, List.setIfInBounds_toArray, List.set_cons_zero, List.set_cons_succ]
          refine wpAnyH_take (i := 10) (oi := _) (v := ?_) rfl (by kernel_rfl) (by kernel_rfl) (by kernel_rfl) (fun _ _ _ h => h) (Or.inl ⟨by rfl, ?_⟩) (by assumption) ?_
          rotate_left
          · (intro wS hSw; (try dsimp only at hSw); (try go_split_ands); (simp only [List.getElem_toArray, List.getElem_cons_succ, List.getElem_cons_zero]); go_simp <;> (with_reducible rfl))
          try simp only [List.getElem_toArray, List.getElem_cons_succ, List.getElem_cons_zero, Act.put, List.setIfInBounds_toArray, List.set_cons_zero, List.set_cons_succ]
          refine wpAnyH_done (by kernel_rfl) ?_ _
          refine NoPanic.normal ?_
          clear hHeld
          clear w1 w2 w3 w4 e1 e2
          go_wp2_with fail
          go_ret
          exact ⟨ret_str HD.out.symm, hbx⟩
        · skip -- 8
          have hcv := cnvG W1 W0.heap.size (48 + (r : Int)) lit
          simp only [rq0, rq1, rq2]
          go_simp
          refine hK.out _ _ ?_ (fun hHeld => ?_)
          · exact trivial
          clear hK K
          try simp only [rq0, rq1, rq2, Act.put, rq3, rq4, rq5]
          refine wpAnyH_ready (rs := [2]) (by kernel_rfl) (by simp) (AllReadyH.cons (o := _) rfl (fun K hK => ?_) AllReadyH.nil)
          simp only [rq0, rq1, rq2]
          go_simp
          (go_at_call 20; refine (hI' _).mono ?_; rintro e W3 ⟨rfl, hn⟩)
          replace lit := lit.below hn
          replace hbx := bt2 hbx hn
          clear hn
          refine hK.out _ _ ?_ (fun hHeld => ?_)
          · exact trivial
          clear hK K
          try simp only [rq0, rq1, rq2, Act.put, rq3, rq4, rq5]
          refine wpAnyH_take (i := 9) (oi := _) (v := ?_) rfl (by kernel_rfl) (by kernel_rfl) (by kernel_rfl) (fun _ _ _ h => h) (Or.inl ⟨by rfl, ?_⟩) (by assumption) ?_
          rotate_left
          · (intro wS hSw; (try dsimp only at hSw); (try go_split_ands); (simp only [List.getElem_toArray, List.getElem_cons_succ, List.getElem_cons_zero]); go_simp <;> (with_reducible rfl))
          try simp only [List.getElem_toArray, List.getElem_cons_succ, List.getElem_cons_zero, Act.put, List.setIfInBounds_toArray, List.set_cons_zero, List.set_cons_succ]
          refine wpAnyH_take (i := 10) (oi := _) (v := ?_) rfl (by kernel_rfl) (by kernel_rfl) (by kernel_rfl) (fun _ _ _ h => h) (Or.inl ⟨by rfl, ?_⟩) (by assumption) ?_
          rotate_left
          · (intro wS hSw; (try dsimp only at hSw); (try go_split_ands); (simp only [List.getElem_toArray, List.getElem_cons_succ, List.getElem_cons_zero]); go_simp <;> (with_reducible rfl))
          try simp only [List.getElem_toArray, List.getElem_cons_succ, List.getElem_cons_zero, Act.put, List.setIfInBounds_toArray, List.set_cons_zero, List.set_cons_succ]
          refine wpAnyH_done (by kernel_rfl) ?_ _
          refine NoPanic.normal ?_
          clear hHeld
          clear w1 w2 w3 w4 e1 e2
          go_wp2_with fail
          go_ret
          exact ⟨ret_str HD.out.symm, hbx⟩

theorem its_neg {u : Nat} (h : 1 ≤ u) : its (-(u : Int)) = ⟨#[45]⟩ ++ dgs u := by
  unfold its dgs
  rw [Lib.itoa_neg u h]
  apply ByteArray.ext
  simp
theorem its_nat (u : Nat) : its (u : Int) = dgs u := by unfold its dgs; rw [Lib.itoa_nonneg]
set_option maxHeartbeats 1000000 in
theorem dec_any (n : Int) (w : World) (h0 : -999999 ≤ n) (h1 : n ≤ 999999) :
    Calls Tryd.prog 20 #[.int .i64 n] w fun e w' => e = .returned (.string (its n)) ∧ Below w.heap.size w w' := by
  by_cases hn : 0 ≤ n
  · obtain ⟨u, rfl⟩ := Int.eq_ofNat_of_zero_le hn
    rw [its_nat]
    exact decN u w (by omega)
  · obtain ⟨u, rfl⟩ : ∃ u : Nat, n = -(u : Int) := ⟨n.natAbs, by omega⟩
    have HD := hide (its_neg (u := u) (by omega))
    have hz := dgs_size (u := u) (by omega)
    have hI := hide (fun W => decN u W (by omega))
    generalize dgs u = s at HD hz hI
    have g1 : decide (-(u : Int) < 0) = true := decide_eq_true (by omega)
    have g2 : (-(u : Int) == - -(u : Int)) = false := by rw [beq_eq_false_iff_ne]; omega
    have g3 : (-(u : Int) == (u : Int)) = false := by rw [beq_eq_false_iff_ne]; omega
    have g4 : -(u : Int) < 0 := by omega
    have g5 : ¬ (-(u : Int) = (u : Int)) := by omega
    have g6 : 0 < (u : Int) := by omega
    have hsn : ¬ (9223372036854775807 < (⟨#[45]⟩ : ByteArray).size + s.size) := by
      have : (⟨#[45]⟩ : ByteArray).size = 1 := rfl
      omega
    go_enter Tryd.func20, Tryd.ntmps20
    go_wp2_with fail
    refine (hI.out _).mono ?_
    rintro e w1 ⟨rfl, hb1⟩
    go_wp2_with fail
    go_ret
    exact ⟨ret_str HD.out.symm, hb1⟩

/-! ### WidenValue -/
def WD (v : Vl) : Vl := if vv v then (if v.k = 1 then ⟨2, 0, its v.n⟩ else v) else ⟨0, 0, ByteArray.empty⟩
theorem WD_no {v : Vl} (h : vv v = false) : WD v = ⟨0, 0, ByteArray.empty⟩ := by unfold WD; rw [h]; rfl
theorem WD_num {v : Vl} (h : vv v = true) (h1 : v.k = 1) : WD v = ⟨2, 0, its v.n⟩ := by unfold WD; rw [h, if_pos h1]; rfl
theorem WD_same {v : Vl} (h : vv v = true) (h1 : ¬ v.k = 1) : WD v = v := by unfold WD; rw [h, if_neg h1]; rfl
theorem vv_num {v : Vl} (h : vv v = true) (h1 : v.k = 1) : -999999 ≤ v.n ∧ v.n ≤ 999999 := by
  unfold vv vvB at h
  rw [if_neg (by omega), if_pos h1, Bool.and_eq_true, rng_iff] at h
  exact h.1
/-- A value handed back. -/
def ValR (x : Vl) (w : World) (e : Ending) (w' : World) : Prop := e = .returned (.agg #[.int .i64 x.k, .int .i64 x.n, .string x.s]) ∧ Below w.heap.size w w'
theorem res3 {w W : World} {r T : Nat} {x0 x1 x2 : Value} (h : Blk W r T #[x0, x1, x2]) (hb : Below w.heap.size w W) (hr : w.heap.size ≤ r) (u0 u1 u2 : Value) :
    Blk (((W.setCell ⟨r, 0, none⟩ u0).setCell ⟨r, 1, none⟩ u1).setCell ⟨r, 2, none⟩ u2) r T #[u0, u1, u2] ∧ Below w.heap.size w (((W.setCell ⟨r, 0, none⟩ u0).setCell ⟨r, 1, none⟩ u1).setCell ⟨r, 2, none⟩ u2) :=
  ⟨by simpa using ((h.set 0 u0).set 1 u1).set 2 u2, ((hb.setCell hr _).setCell hr _).setCell hr _⟩

set_option maxHeartbeats 2000000 in
theorem wdI (v : Vl) (w : World) (hs : v.s.size ≤ 9223372036854775807) (ht : Tab w) :
    Calls Tryd.prog 8 #[.agg #[.int .i64 v.k, .int .i64 v.n, .string v.s]] w (ValR (WD v) w) := by
  have hb0 : Below w.heap.size w ((w.alloc (.cells #[.int .i64 v.k, .int .i64 v.n, .string v.s] 25)).alloc (.cells #[.int .i64 0, .int .i64 0, .string ByteArray.empty] 25)) := by go_grown
  have kA := (Blk.new w 25 #[.int .i64 v.k, .int .i64 v.n, .string v.s]).alloc (.cells #[.int .i64 0, .int .i64 0, .string ByteArray.empty] 25)
  have kR := Blk.new (w.alloc (.cells #[.int .i64 v.k, .int .i64 v.n, .string v.s] 25)) 25 #[.int .i64 0, .int .i64 0, .string ByteArray.empty]
  simp only [World.size_alloc] at kR
  have HV := hide (vvIx v · hs)
  go_enter Tryd.func8, Tryd.ntmps8
  go_wp2_with fail
  refine (HV.out _).mono ?_
  rintro e w1 ⟨rfl, hb1⟩
  replace kA := kA.below hb1
  replace kR := kR.below hb1
  have hb1' := bt hb0 hb1 hb0.size
  have ht1 := tab_on ht hb1'
  have c0 : w1.cell? ⟨w.heap.size, 0, none⟩ = some (.int .i64 v.k) := kA.cell 0
  have c1 : w1.cell? ⟨w.heap.size, 1, none⟩ = some (.int .i64 v.n) := kA.cell 1
  have c2 : w1.cell? ⟨w.heap.size, 2, none⟩ = some (.string v.s) := kA.cell 2
  clear hb0 hb1 kA
  cases hv : vv v
  · have H := hide (WD_no hv)
    have r0 : w1.cell? ⟨w.heap.size + 1, 0, none⟩ = some (.int .i64 0) := kR.cell 0
    have r1 : w1.cell? ⟨w.heap.size + 1, 1, none⟩ = some (.int .i64 0) := kR.cell 1
    have r2 : w1.cell? ⟨w.heap.size + 1, 2, none⟩ = some (.string ByteArray.empty) := kR.cell 2
    have s0 := kR.free 0
    have s1 := kR.free 1
    have s2 := kR.free 2
    go_wp2_with fail
    obtain ⟨kF, FF⟩ := res3 (w := w) kR hb1' (by omega) (.int .i64 0) (.int .i64 0) (.string ⟨#[]⟩)
    generalize hF : World.setCell _ _ _ = wF at kF FF ⊢
    have y0 : wF.cell? ⟨w.heap.size + 1, 0, none⟩ = some (.int .i64 0) := kF.cell 0
    have y1 : wF.cell? ⟨w.heap.size + 1, 1, none⟩ = some (.int .i64 0) := kF.cell 1
    have y2 : wF.cell? ⟨w.heap.size + 1, 2, none⟩ = some (.string ⟨#[]⟩) := kF.cell 2
    exact bodyPost_ret (v := .agg #[.int .i64 0, .int .i64 0, .string ByteArray.empty]) (by simp [results, Tryd.f8, go_sem, y0, y1, y2] <;> rfl) rfl ⟨by rw [H.out], FF⟩
  · by_cases h1 : v.k = 1
    · have H := hide (WD_num hv h1)
      obtain ⟨n0, n1⟩ := vv_num hv h1
      have h1' : (v.k == 1) = true := by rw [beq_iff_eq]; exact h1
      have HI := hide (fun W h => ito_any v.n W (by omega) (by omega) h)
      generalize its v.n = s at H HI
      clear hv
      go_wp2_with fail
      refine (HI.out _ ht1).mono ?_
      rintro e w2 ⟨rfl, hb2⟩
      replace kR := kR.below hb2
      have hb2' := bt2 hb1' hb2
      have r0 : w2.cell? ⟨w.heap.size + 1, 0, none⟩ = some (.int .i64 0) := kR.cell 0
      have r1 : w2.cell? ⟨w.heap.size + 1, 1, none⟩ = some (.int .i64 0) := kR.cell 1
      have r2 : w2.cell? ⟨w.heap.size + 1, 2, none⟩ = some (.string ByteArray.empty) := kR.cell 2
      have s0 := kR.free 0
      have s1 := kR.free 1
      have s2 := kR.free 2
      clear c0 c1 c2 hb2
      go_wp2_with fail
      obtain ⟨kF, FF⟩ := res3 (w := w) kR hb2' (by omega) (.int .i64 2) (.int .i64 0) (.string s)
      generalize hF : World.setCell _ _ _ = wF at kF FF ⊢
      have y0 : wF.cell? ⟨w.heap.size + 1, 0, none⟩ = some (.int .i64 2) := kF.cell 0
      have y1 : wF.cell? ⟨w.heap.size + 1, 1, none⟩ = some (.int .i64 0) := kF.cell 1
      have y2 : wF.cell? ⟨w.heap.size + 1, 2, none⟩ = some (.string s) := kF.cell 2
      exact bodyPost_ret (v := .agg #[.int .i64 2, .int .i64 0, .string s]) (by simp [results, Tryd.f8, go_sem, y0, y1, y2] <;> rfl) rfl ⟨by rw [H.out], FF⟩
    · have H := hide (WD_same hv h1)
      have h1' : (v.k == 1) = false := by rw [beq_eq_false_iff_ne]; exact h1
      clear hv
      have r0 : w1.cell? ⟨w.heap.size + 1, 0, none⟩ = some (.int .i64 0) := kR.cell 0
      have r1 : w1.cell? ⟨w.heap.size + 1, 1, none⟩ = some (.int .i64 0) := kR.cell 1
      have r2 : w1.cell? ⟨w.heap.size + 1, 2, none⟩ = some (.string ByteArray.empty) := kR.cell 2
      have s0 := kR.free 0
      have s1 := kR.free 1
      have s2 := kR.free 2
      go_wp2_with fail
      obtain ⟨kF, FF⟩ := res3 (w := w) kR hb1' (by omega) (.int .i64 v.k) (.int .i64 v.n) (.string v.s)
      generalize hF : World.setCell _ _ _ = wF at kF FF ⊢
      have y0 : wF.cell? ⟨w.heap.size + 1, 0, none⟩ = some (.int .i64 v.k) := kF.cell 0
      have y1 : wF.cell? ⟨w.heap.size + 1, 1, none⟩ = some (.int .i64 v.n) := kF.cell 1
      have y2 : wF.cell? ⟨w.heap.size + 1, 2, none⟩ = some (.string v.s) := kF.cell 2
      exact bodyPost_ret (v := .agg #[.int .i64 v.k, .int .i64 v.n, .string v.s]) (by simp [results, Tryd.f8, go_sem, y0, y1, y2] <;> rfl) rfl ⟨by rw [H.out], FF⟩

set_option maxHeartbeats 2000000 in
theorem wnS (v : Vl) (w : World) (hv : vv v = true) :
    Calls Tryd.prog 13 #[.agg #[.int .i64 v.k, .int .i64 v.n, .string v.s]] w (ValR (WD v) w) := by
  have hb0 : Below w.heap.size w ((w.alloc (.cells #[.int .i64 v.k, .int .i64 v.n, .string v.s] 25)).alloc (.cells #[.int .i64 0, .int .i64 0, .string ByteArray.empty] 25)) := by go_grown
  have kA := (Blk.new w 25 #[.int .i64 v.k, .int .i64 v.n, .string v.s]).alloc (.cells #[.int .i64 0, .int .i64 0, .string ByteArray.empty] 25)
  have kR := Blk.new (w.alloc (.cells #[.int .i64 v.k, .int .i64 v.n, .string v.s] 25)) 25 #[.int .i64 0, .int .i64 0, .string ByteArray.empty]
  simp only [World.size_alloc] at kR
  by_cases h1 : v.k = 1
  · have H := hide (WD_num hv h1)
    obtain ⟨n0, n1⟩ := vv_num hv h1
    have h1' : (v.k != 1) = false := by rw [h1]; rfl
    have HI := hide (fun W => dec_any v.n W (by omega) (by omega))
    generalize its v.n = s at H HI
    clear hv h1
    go_enter Tryd.func13, Tryd.ntmps13
    go_wp2_with fail
    refine (HI.out _).mono ?_
    rintro e w2 ⟨rfl, hb2⟩
    replace kR := kR.below hb2
    have hb2' := bt hb0 hb2 hb0.size
    have r0 : w2.cell? ⟨w.heap.size + 1, 0, none⟩ = some (.int .i64 0) := kR.cell 0
    have r1 : w2.cell? ⟨w.heap.size + 1, 1, none⟩ = some (.int .i64 0) := kR.cell 1
    have r2 : w2.cell? ⟨w.heap.size + 1, 2, none⟩ = some (.string ByteArray.empty) := kR.cell 2
    have s0 := kR.free 0
    have s1 := kR.free 1
    have s2 := kR.free 2
    clear hb2 hb0 kA
    go_wp2_with fail
    obtain ⟨kF, FF⟩ := res3 (w := w) kR hb2' (by omega) (.int .i64 2) (.int .i64 0) (.string s)
    generalize hF : World.setCell _ _ _ = wF at kF FF ⊢
    have y0 : wF.cell? ⟨w.heap.size + 1, 0, none⟩ = some (.int .i64 2) := kF.cell 0
    have y1 : wF.cell? ⟨w.heap.size + 1, 1, none⟩ = some (.int .i64 0) := kF.cell 1
    have y2 : wF.cell? ⟨w.heap.size + 1, 2, none⟩ = some (.string s) := kF.cell 2
    exact bodyPost_ret (v := .agg #[.int .i64 2, .int .i64 0, .string s]) (by simp [results, Tryd.f13, go_sem, y0, y1, y2] <;> rfl) rfl ⟨by rw [H.out], FF⟩
  · have H := hide (WD_same hv h1)
    have h1' : (v.k != 1) = true := by rw [bne_iff_ne]; exact h1
    have FI : Below w.heap.size w ((w.alloc (.cells #[.int .i64 v.k, .int .i64 v.n, .string v.s] 25)).alloc (.cells #[.int .i64 v.k, .int .i64 v.n, .string v.s] 25)) := by go_grown
    clear hv kA kR hb0
    go_enter Tryd.func13, Tryd.ntmps13
    go_wp2_with fail
    go_returns
    exact ⟨by rw [H.out], FI⟩

set_option maxHeartbeats 2000000 in
theorem wdS (v : Vl) (w : World) (hs : v.s.size ≤ 9223372036854775807) :
    Calls Tryd.prog 6 #[.agg #[.int .i64 v.k, .int .i64 v.n, .string v.s]] w (ValR (WD v) w) := by
  have hb0 : Below w.heap.size w ((w.alloc (.cells #[.int .i64 v.k, .int .i64 v.n, .string v.s] 25)).alloc (.cells #[.int .i64 0, .int .i64 0, .string ByteArray.empty] 25)) := by go_grown
  have kA := (Blk.new w 25 #[.int .i64 v.k, .int .i64 v.n, .string v.s]).alloc (.cells #[.int .i64 0, .int .i64 0, .string ByteArray.empty] 25)
  have kR := Blk.new (w.alloc (.cells #[.int .i64 v.k, .int .i64 v.n, .string v.s] 25)) 25 #[.int .i64 0, .int .i64 0, .string ByteArray.empty]
  simp only [World.size_alloc] at kR
  have HV := hide (fun W => show Calls Tryd.prog 12 #[.agg #[.int .i64 v.k, .int .i64 v.n, .string v.s]] W fun e w' => e = .returned (.bool (vv v)) ∧ Below W.heap.size W w' from vvS v.k v.n v.s W hs)
  go_enter Tryd.func6, Tryd.ntmps6
  go_wp2_with fail
  refine (HV.out _).mono ?_
  rintro e w1 ⟨rfl, hb1⟩
  replace kA := kA.below hb1
  replace kR := kR.below hb1
  have hb1' := bt hb0 hb1 hb0.size
  have c0 : w1.cell? ⟨w.heap.size, 0, none⟩ = some (.int .i64 v.k) := kA.cell 0
  have c1 : w1.cell? ⟨w.heap.size, 1, none⟩ = some (.int .i64 v.n) := kA.cell 1
  have c2 : w1.cell? ⟨w.heap.size, 2, none⟩ = some (.string v.s) := kA.cell 2
  clear hb0 hb1 kA
  cases hv : vv v
  · have H := hide (WD_no hv)
    have r0 : w1.cell? ⟨w.heap.size + 1, 0, none⟩ = some (.int .i64 0) := kR.cell 0
    have r1 : w1.cell? ⟨w.heap.size + 1, 1, none⟩ = some (.int .i64 0) := kR.cell 1
    have r2 : w1.cell? ⟨w.heap.size + 1, 2, none⟩ = some (.string ByteArray.empty) := kR.cell 2
    have s0 := kR.free 0
    have s1 := kR.free 1
    have s2 := kR.free 2
    go_wp2_with fail
    obtain ⟨kF, FF⟩ := res3 (w := w) kR hb1' (by omega) (.int .i64 0) (.int .i64 0) (.string ⟨#[]⟩)
    generalize hF : World.setCell _ _ _ = wF at kF FF ⊢
    have y0 : wF.cell? ⟨w.heap.size + 1, 0, none⟩ = some (.int .i64 0) := kF.cell 0
    have y1 : wF.cell? ⟨w.heap.size + 1, 1, none⟩ = some (.int .i64 0) := kF.cell 1
    have y2 : wF.cell? ⟨w.heap.size + 1, 2, none⟩ = some (.string ⟨#[]⟩) := kF.cell 2
    exact bodyPost_ret (v := .agg #[.int .i64 0, .int .i64 0, .string ByteArray.empty]) (by simp [results, Tryd.f6, go_sem, y0, y1, y2] <;> rfl) rfl ⟨by rw [H.out], FF⟩
  · have HI := hide (fun W => wnS v W hv)
    obtain ⟨x, hx⟩ : ∃ x, WD v = x := ⟨_, rfl⟩
    rw [hx] at HI
    have hx' := hide hx
    clear hx
    clear hv
    go_wp2_with fail
    refine (HI.out _).mono ?_
    rintro e w2 ⟨rfl, hb2⟩
    replace kR := kR.below hb2
    have hb2' := bt2 hb1' hb2
    have r0 : w2.cell? ⟨w.heap.size + 1, 0, none⟩ = some (.int .i64 0) := kR.cell 0
    have r1 : w2.cell? ⟨w.heap.size + 1, 1, none⟩ = some (.int .i64 0) := kR.cell 1
    have r2 : w2.cell? ⟨w.heap.size + 1, 2, none⟩ = some (.string ByteArray.empty) := kR.cell 2
    have s0 := kR.free 0
    have s1 := kR.free 1
    have s2 := kR.free 2
    clear c0 c1 c2 hb2
    go_wp2_with fail
    obtain ⟨kF, FF⟩ := res3 (w := w) kR hb2' (by omega) (.int .i64 x.k) (.int .i64 x.n) (.string x.s)
    generalize hF : World.setCell _ _ _ = wF at kF FF ⊢
    have y0 : wF.cell? ⟨w.heap.size + 1, 0, none⟩ = some (.int .i64 x.k) := kF.cell 0
    have y1 : wF.cell? ⟨w.heap.size + 1, 1, none⟩ = some (.int .i64 x.n) := kF.cell 1
    have y2 : wF.cell? ⟨w.heap.size + 1, 2, none⟩ = some (.string x.s) := kF.cell 2
    exact bodyPost_ret (v := .agg #[.int .i64 x.k, .int .i64 x.n, .string x.s]) (by simp [results, Tryd.f6, go_sem, y0, y1, y2] <;> rfl) rfl ⟨by rw [hx'.out], FF⟩

theorem eqV_same (x : Vl) (w : World) :
    Calls Tryd.prog 9 #[.agg #[.int .i64 x.k, .int .i64 x.n, .string x.s], .agg #[.int .i64 x.k, .int .i64 x.n, .string x.s]] w fun e w' => e = .returned (.bool true) ∧ Below w.heap.size w w' := by
  have n1 : (x.k != x.k) = false := by simp
  have n2 : (x.n != x.n) = false := by simp
  have n3 : (x.s.toList != x.s.toList) = false := by rw [bne, beq_self_eq_true]; rfl
  go_enter Tryd.func9, Tryd.ntmps9
  go_wp2
  go_ret
  exact ⟨rfl, by go_grown⟩

set_option maxHeartbeats 2000000 in
theorem exactWd_walk (v : Vl) (w : World) (hs : v.s.size ≤ 9223372036854775807) (ht : Tab w) :
    Calls Tryd.prog 3 #[.agg #[.int .i64 v.k, .int .i64 v.n, .string v.s]] w fun e w' => e = .returned (.bool true) ∧ Below w.heap.size w w' := by
  have hb0 : Below w.heap.size w (w.alloc (.cells #[.int .i64 v.k, .int .i64 v.n, .string v.s] 23)) := by go_grown
  have kA := Blk.new w 23 #[.int .i64 v.k, .int .i64 v.n, .string v.s]
  have HS := hide (fun W => wdS v W hs)
  have HI := hide (fun W h => wdI v W hs h)
  go_enter Tryd.func3, Tryd.ntmps3
  go_wp2_with fail
  refine (szV v _ _ hs (by omega) (by omega)).mono ?_
  rintro e w1 ⟨rfl, hb1⟩
  replace kA := kA.below hb1
  have hb1' := bt hb0 hb1 hb0.size
  have c0 : w1.cell? ⟨w.heap.size, 0, none⟩ = some (.int .i64 v.k) := kA.cell 0
  have c1 : w1.cell? ⟨w.heap.size, 1, none⟩ = some (.int .i64 v.n) := kA.cell 1
  have c2 : w1.cell? ⟨w.heap.size, 2, none⟩ = some (.string v.s) := kA.cell 2
  clear hb0 hb1 kA
  by_cases hl : (v.s.size : Int) ≤ 1048576
  · rw [if_pos hl]
    have hl' : ¬ (1048576 - (v.s.size : Int) < 0) := by omega
    go_wp2_with fail
    refine (toV v _).mono ?_
    rintro e w2 ⟨rfl, hb2⟩
    replace c0 := cell_on hb2 c0
    replace c1 := cell_on hb2 c1
    replace c2 := cell_on hb2 c2
    have hb2' := bt2 hb1' hb2
    go_wp2_with fail
    refine (HS.out _).mono ?_
    rintro e w3 ⟨rfl, hb3⟩
    replace c0 := cell_on hb3 c0
    replace c1 := cell_on hb3 c1
    replace c2 := cell_on hb3 c2
    have hb3' := bt2 hb2' hb3
    have hb4 : Below w3.heap.size w3 (w3.alloc (.cells #[.int .i64 (WD v).k, .int .i64 (WD v).n, .string (WD v).s] 25)) := (Below.refl _ _).alloc (Nat.le_refl _) _
    have k4 := Blk.new w3 25 #[.int .i64 (WD v).k, .int .i64 (WD v).n, .string (WD v).s]
    replace c0 := cell_on hb4 c0
    replace c1 := cell_on hb4 c1
    replace c2 := cell_on hb4 c2
    have hb4' := bt2 hb3' hb4
    clear hb1' hb2 hb2' hb3 hb3' hb4
    go_wp2_with fail
    generalize w3.alloc (.cells #[.int .i64 (WD v).k, .int .i64 (WD v).n, .string (WD v).s] 25) = w4 at c0 c1 c2 k4 hb4' ⊢
    refine (toV v _).mono ?_
    rintro e w5 ⟨rfl, hb5⟩
    replace k4 := k4.below hb5
    have hb5' := bt2 hb4' hb5
    have ht5 := tab_on ht hb5'
    clear c0 c1 c2 hb5 hb4'
    go_wp2_with fail
    refine (HI.out _ ht5).mono ?_
    rintro e w6 ⟨rfl, hb6⟩
    have hb7 : Below w6.heap.size w6 (w6.alloc (.cells #[.int .i64 (WD v).k, .int .i64 (WD v).n, .string (WD v).s] 25)) := (Below.refl _ _).alloc (Nat.le_refl _) _
    have k7 := Blk.new w6 25 #[.int .i64 (WD v).k, .int .i64 (WD v).n, .string (WD v).s]
    replace k4 := (k4.below hb6).below hb7
    have hb7' := bt2 (bt2 hb5' hb6) hb7
    clear hb5' hb6 hb7 HS HI
    generalize WD v = x at k4 k7 hb7' ⊢
    have p0 : (w6.alloc (.cells #[.int .i64 x.k, .int .i64 x.n, .string x.s] 25)).cell? ⟨w3.heap.size, 0, none⟩ = some (.int .i64 x.k) := k4.cell 0
    have p1 : (w6.alloc (.cells #[.int .i64 x.k, .int .i64 x.n, .string x.s] 25)).cell? ⟨w3.heap.size, 1, none⟩ = some (.int .i64 x.n) := k4.cell 1
    have p2 : (w6.alloc (.cells #[.int .i64 x.k, .int .i64 x.n, .string x.s] 25)).cell? ⟨w3.heap.size, 2, none⟩ = some (.string x.s) := k4.cell 2
    go_wp2_with fail
    refine (eqV_same x _).mono ?_
    rintro e w8 ⟨rfl, hb8⟩
    go_wp2_with fail
    go_ret
    exact ⟨rfl, bt2 hb7' hb8⟩
  · rw [if_neg hl]
    go_wp2_with fail
    go_ret
    exact ⟨rfl, hb1'⟩

end Go.Proofs.YtngmiaglbmkbcaaDoor
