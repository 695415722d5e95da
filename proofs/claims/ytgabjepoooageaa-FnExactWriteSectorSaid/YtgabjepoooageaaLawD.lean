/-
  The statements that synced disks survive and that the last write counts. Conditions: the argument reads as a list of bytes.
-/
import Derived.Test.YtgabjepoooageaaEqD
namespace Go.Proofs.Ytgabjepoooageaa
open Go.RowKit
set_option linter.unusedVariables false
set_option linter.unusedSimpArgs false

theorem CD_le {xs : List Int} {ws : List (Int × Int)} {q : Int} : (CD xs ws q).length ≤ 8 := by
  unfold CD
  split
  · rename_i h
    rw [Bool.and_eq_true] at h
    obtain ⟨_, h2, _⟩ := vd_parts h.1
    rw [ap_len]
    exact h2
  · simp
theorem SD_le {xs : List Int} {ws : List (Int × Int)} : (SD xs ws).length ≤ 8 := CD_le
/-- A disk handed back, opened. -/
def DiskQ (zs : List Int) (w : World) (e : Ending) (w' : World) : Prop :=
  ∃ A c, e = .returned (.agg #[.slice A zs.length c, .slice none 0 0]) ∧ Below w.heap.size w w' ∧ Lst encD 1 w.heap.size w' A c zs
theorem disk_q {zs : List Int} {w w' : World} {e : Ending} (h : DiskR zs w e w') : DiskQ zs w e w' := by
  obtain ⟨v, rfl, hb, hown⟩ := h
  obtain ⟨A, c, rfl, hL, hblk⟩ := ow_open (by omega) encD_len hown
  exact ⟨A, c, rfl, hb, hL⟩
theorem bu' {a b : World} (h : Below a.heap.size a.drew b) : Below a.heap.size a b := of_drew h

set_option maxHeartbeats 2000000 in
theorem synced_law (A : Option Addr) (c : Nat) (zs : List Int) (w : World) (h : Bytes w A c zs) :
    Calls Try.prog 8 #[.slice A zs.length c] w fun e w' => e = .returned (.bool true) ∧ Below w.heap.size w w' := by
  have hcap := h.cap
  have hmax := h.max
  by_cases hl : 1048576 < zs.length
  · go_enter Try.func8, Try.ntmps8
    go_wp2
    go_ret
    exact ⟨rfl, Below.refl _ _⟩
  · go_enter Try.func8, Try.ntmps8
    go_wp2_with fail
    refine (drawCD A c zs _ h).mono ?_
    rintro e w1 ⟨A, c, xs, Z, d, ws, q, rfl, q0, q1, hD, hb1⟩
    have hla := hD.la
    have hlb := hD.lb
    have hS : Hid (∀ A B c d W, Rl encD 1 W A xs → Rl encW 2 W B ws → Calls Try.prog 31 #[.agg #[.slice A xs.length c, .slice B ws.length d], .int .i64 q] W (DiskQ (CD xs ws q) W)) := fun A B c d W h1 h2 => (cdS A B c d xs ws q W h1 h2 (by omega) (by omega) (by omega)).mono fun _ _ h => disk_q h
    have hI : Hid (∀ A B c d W, Rl encD 1 W A xs → Rl encW 2 W B ws → Calls Try.prog 28 #[.agg #[.slice A xs.length c, .slice B ws.length d], .int .i64 q] W (DiskQ (CD xs ws q) W)) := fun A B c d W h1 h2 => (cdI A B c d xs ws q W h1 h2 (by omega) (by omega) (by omega)).mono fun _ _ h => disk_q h
    have hY : Hid (∀ A B c d W, Rl encD 1 W A xs → Rl encW 2 W B ws → Calls Try.prog 29 #[.agg #[.slice A xs.length c, .slice B ws.length d]] W (DiskQ (SD xs ws) W)) := fun A B c d W h1 h2 => (sdI A B c d xs ws W h1 h2 (by omega) (by omega)).mono fun _ _ h => disk_q h
    have hC : Hid (∀ A c W, Rl encD 1 W A (SD xs ws) → Calls Try.prog 28 #[.agg #[.slice A (SD xs ws).length c, .slice none 0 0], .int .i64 0] W (DiskQ (SD xs ws) W)) := fun A c W h1 => by
      have hle := SD_le (xs := xs) (ws := ws)
      have := (cdI A none c 0 (SD xs ws) [] 0 W h1 Rl.nil (by omega) (by simp) (by omega)).mono fun _ _ h => disk_q h
      rw [sd_self] at this
      exact this
    have l1 := CD_le (xs := xs) (ws := ws) (q := q)
    have l2 := SD_le (xs := xs) (ws := ws)
    generalize CD xs ws q = E at hS hI l1
    generalize SD xs ws = S at hY hC l2
    have hb2 : Below w1.heap.size w1 (w1.alloc (.cells #[.slice A xs.length c, .slice Z ws.length d] 30)) := (Below.refl _ _).alloc (Nat.le_refl _) _
    have k3 := Blk.new w1 30 #[.slice A xs.length c, .slice Z ws.length d]
    have c0 : (w1.alloc (.cells #[.slice A xs.length c, .slice Z ws.length d] 30)).cell? ⟨w1.heap.size, 0, none⟩ = some (.slice A xs.length c) := k3.cell 0
    have c1 : (w1.alloc (.cells #[.slice A xs.length c, .slice Z ws.length d] 30)).cell? ⟨w1.heap.size, 1, none⟩ = some (.slice Z ws.length d) := k3.cell 1
    have hD2 := hD.below hb2
    have hbb := bt2 hb1 hb2
    clear hD hb1 hb2
    go_wp2_with fail
    generalize w1.alloc (.cells #[.slice A xs.length c, .slice Z ws.length d] 30) = w2 at k3 c0 c1 hD2 hbb
    refine (hI.out _ _ _ _ _ hD2.a.rl hD2.b.rl).mono ?_
    rintro e w3 ⟨A5, c5, rfl, hb3, L5⟩
    have hb4 : Below w3.heap.size w3 (w3.alloc (.cells #[.slice A5 E.length c5, .slice none 0 0] 30)) := (Below.refl _ _).alloc (Nat.le_refl _) _
    have k5 := Blk.new w3 30 #[.slice A5 E.length c5, .slice none 0 0]
    have d0 := cell_on (bt2 hb3 hb4) c0
    have d1 := cell_on (bt2 hb3 hb4) c1
    have e0 : (w3.alloc (.cells #[.slice A5 E.length c5, .slice none 0 0] 30)).cell? ⟨w3.heap.size, 0, none⟩ = some (.slice A5 E.length c5) := k5.cell 0
    have e1 : (w3.alloc (.cells #[.slice A5 E.length c5, .slice none 0 0] 30)).cell? ⟨w3.heap.size, 1, none⟩ = some (.slice none 0 0) := k5.cell 1
    have L5' := L5.below hb4
    have hD4 := hD2.below (bt2 hb3 hb4)
    have hbb4 := bt2 hbb (bt2 hb3 hb4)
    clear L5 hD2 hbb hb3 hb4 c0 c1
    go_wp2_with fail
    generalize w3.alloc (.cells #[.slice A5 E.length c5, .slice none 0 0] 30) = w4 at k5 d0 d1 e0 e1 L5' hD4 hbb4
    go_region_held3 (fun w' => w'.cell? ⟨w1.heap.size, 0, none⟩ = some (.slice A xs.length c) ∧ w'.cell? ⟨w1.heap.size, 1, none⟩ = some (.slice Z ws.length d) ∧ w'.cell? ⟨w3.heap.size, 0, none⟩ = some (.slice A5 E.length c5) ∧ w'.cell? ⟨w3.heap.size, 1, none⟩ = some (.slice none 0 0) ∧ Below w4.heap.size w4 w')
      (first | exact ⟨d0, d1, e0, e1, (Below.refl _ _).drew⟩ | exact ⟨cell_on (bt2 hb5 hb6) d0, cell_on (bt2 hb5 hb6) d1, cell_on (bt2 hb5 hb6) e0, cell_on (bt2 hb5 hb6) e1, bt2 hb5 hb6⟩ | exact ⟨cell_on hb5 d0, cell_on hb5 d1, cell_on hb5 e0, cell_on hb5 e1, hb5⟩)
      (first
        | (go_at_call 31; refine (hS.out _ _ _ _ _ (by first | exact hD4.a.rl | exact hD4.a.rl.drew) (by first | exact hD4.b.rl | exact hD4.b.rl.drew)).mono ?_; rintro e w5 ⟨A6, c6, rfl, hb5, L6⟩; replace hb5 : Below w4.heap.size w4 w5 := (by first | exact hb5 | exact bu' hb5))
        | (go_at_call 27; refine (eqlD _ _ _ _ _ _ _ _ E [] _ (by first | exact L5'.rl.below hb5 | exact (L5'.rl.below hb5).drew) Rl.nil (by first | exact L6.rl | exact L6.rl.drew) Rl.nil (by omega) (by simp)).mono ?_; rintro e w6 ⟨rfl, hb6⟩; replace hb6 : Below w5.heap.size w5 w6 := (by first | exact hb6 | exact bu' hb6)))
    have hb6' := bt2 hb5 hb6
    have f0 := cell_on hb6' d0
    have f1 := cell_on hb6' d1
    have hD6 := hD4.below hb6'
    have hbb6 := bt2 hbb4 hb6'
    clear hb5 hb6 hb6' L6 hD4 d0 d1 e0 e1 L5' hbb4
    go_wp2_with fail
    refine (hY.out _ _ _ _ _ hD6.a.rl hD6.b.rl).mono ?_
    rintro e w7 ⟨A7, c7, rfl, hb7, L7⟩
    have hb8 : Below w7.heap.size w7 (w7.alloc (.cells #[.slice A7 S.length c7, .slice none 0 0] 30)) := (Below.refl _ _).alloc (Nat.le_refl _) _
    have k7 := Blk.new w7 30 #[.slice A7 S.length c7, .slice none 0 0]
    have e0 : (w7.alloc (.cells #[.slice A7 S.length c7, .slice none 0 0] 30)).cell? ⟨w7.heap.size, 0, none⟩ = some (.slice A7 S.length c7) := k7.cell 0
    have e1 : (w7.alloc (.cells #[.slice A7 S.length c7, .slice none 0 0] 30)).cell? ⟨w7.heap.size, 1, none⟩ = some (.slice none 0 0) := k7.cell 1
    have L8 := L7.below hb8
    have hbb8 := bt2 hbb6 (bt2 hb7 hb8)
    clear L7 hbb6 hb7 hb8 f0 f1 hD6
    go_wp2_with fail
    generalize w7.alloc (.cells #[.slice A7 S.length c7, .slice none 0 0] 30) = w8 at k7 e0 e1 L8 hbb8
    go_region_held3 (fun w' => w'.cell? ⟨w7.heap.size, 0, none⟩ = some (.slice A7 S.length c7) ∧ w'.cell? ⟨w7.heap.size, 1, none⟩ = some (.slice none 0 0) ∧ Below w8.heap.size w8 w')
      (first | exact ⟨e0, e1, (Below.refl _ _).drew⟩ | exact ⟨cell_on (bt2 hb9 hb10) e0, cell_on (bt2 hb9 hb10) e1, bt2 hb9 hb10⟩ | exact ⟨cell_on hb9 e0, cell_on hb9 e1, hb9⟩)
      (first
        | (go_at_call 28; refine (hC.out _ _ _ (by first | exact L8.rl | exact L8.rl.drew)).mono ?_; rintro e w9 ⟨A9, c9, rfl, hb9, L9⟩; replace hb9 : Below w8.heap.size w8 w9 := (by first | exact hb9 | exact bu' hb9))
        | (go_at_call 27; refine (eqlD _ _ _ _ _ _ _ _ S [] _ (by first | exact L9.rl | exact L9.rl.drew) Rl.nil (by first | exact L8.rl.below hb9 | exact (L8.rl.below hb9).drew) Rl.nil (by omega) (by simp)).mono ?_; rintro e w10 ⟨rfl, hb10⟩; replace hb10 : Below w9.heap.size w9 w10 := (by first | exact hb10 | exact bu' hb10)))
    go_wp2_with fail
    go_ret
    exact ⟨rfl, bt2 hbb8 (bt2 hb9 hb10)⟩

/-! ### the last write counts -/
/-- What a sector holds behind the first k writes. -/
def lstw (xs : List Int) (ws : List (Int × Int)) (j : Nat) : Nat → Int
  | 0 => xs.getD j 0
  | k + 1 => if (ws.getD k (0, 0)).1 = (j : Int) then (ws.getD k (0, 0)).2 else lstw xs ws j k
theorem lstw_yes {xs : List Int} {ws : List (Int × Int)} {j k : Nat} (hk : k < ws.length) (h : ws[k].1 = (j : Int)) : lstw xs ws j (k + 1) = ws[k].2 := by
  show (if _ then _ else _) = _
  rw [List.getD_eq_getElem?_getD, List.getElem?_eq_getElem hk]
  exact if_pos h
theorem lstw_no {xs : List Int} {ws : List (Int × Int)} {j k : Nat} (hk : k < ws.length) (h : ¬ ws[k].1 = (j : Int)) : lstw xs ws j (k + 1) = lstw xs ws j k := by
  show (if _ then _ else _) = _
  rw [List.getD_eq_getElem?_getD, List.getElem?_eq_getElem hk]
  exact if_neg h
theorem ones {n m k : Nat} (hn : n ≤ 8) (h : p2 n = m + 1) (hk : k < n) : m / 2 ^ k % 2 = 1 := by
  have all : ∀ n < 9, ∀ k < n, (p2 n - 1) / 2 ^ k % 2 = 1 := by decide
  have := all n (by omega) k hk
  rwa [h] at this
theorem apk_last {xs : List Int} {ws : List (Int × Int)} {m j : Nat} (hv : vd xs ws = true) (hm : p2 ws.length = m + 1) (hj : j < xs.length) : ∀ k, k ≤ ws.length → (apk xs ws m k)[j]? = some (lstw xs ws j k) := by
  obtain ⟨_, _, l3, _, hW⟩ := vd_parts hv
  intro k
  induction k with
  | zero =>
    intro _
    show xs[j]? = some (xs.getD j 0)
    rw [List.getD_eq_getElem?_getD, List.getElem?_eq_getElem hj]
    rfl
  | succ k ih =>
    intro hk
    obtain ⟨t, ht, htl, _⟩ := hW k (by omega)
    rw [apk_yes (by omega) (ones l3 hm (by omega)), List.getElem?_set, apk_len]
    have ht' : ws[k].1.toNat = t := by omega
    rw [ht']
    by_cases e : t = j
    · subst e
      rw [if_pos rfl, if_pos htl, lstw_yes (by omega) ht]
    · rw [if_neg e, lstw_no (by omega) (by omega)]
      exact ih (by omega)
theorem rd_last {xs : List Int} {ws : List (Int × Int)} {s : Int} (h : 0 ≤ RD xs ws s) : ∃ j : Nat, s = j ∧ j < xs.length ∧ RD xs ws s = lstw xs ws j ws.length := by
  cases hv : vd xs ws
  · rw [RD_bad hv] at h
    omega
  · cases hg : rng s 0 ((xs.length : Int) - 1)
    · rw [RD_no hg] at h
      omega
    · have := rng_iff.1 hg
      obtain ⟨j, rfl⟩ : ∃ j : Nat, s = j := ⟨s.toNat, by omega⟩
      obtain ⟨_, _, l3, _⟩ := vd_parts hv
      have hP := p2_le l3
      obtain ⟨y, hy, hr⟩ := RD_yes hv (k := j) (by omega)
      rw [SD_is (m := p2 ws.length - 1) (by omega) hv] at hy
      have hl := apk_last (j := j) hv (m := p2 ws.length - 1) (by omega) (by omega) _ (Nat.le_refl _)
      unfold ap at hy
      rw [hl] at hy
      exact ⟨j, rfl, by omega, by rw [hr]; exact (Option.some.inj hy).symm⟩

set_option maxHeartbeats 2000000 in
theorem readS_law (A : Option Addr) (c : Nat) (zs : List Int) (w : World) (h : Bytes w A c zs) :
    Calls Try.prog 5 #[.slice A zs.length c] w fun e w' => e = .returned (.bool true) ∧ Below w.heap.size w w' := by
  have hcap := h.cap
  have hmax := h.max
  by_cases hl : 1048576 < zs.length
  · go_enter Try.func5, Try.ntmps5
    go_wp2
    go_ret
    exact ⟨rfl, Below.refl _ _⟩
  · go_enter Try.func5, Try.ntmps5
    go_wp2_with fail
    refine (drawRD A c zs _ h).mono ?_
    rintro e w1 ⟨A, c, xs, Z, d, ws, s, rfl, q0, q1, hD, hb1⟩
    have hla := hD.la
    have hlb := hD.lb
    have hS : Hid (∀ A B c d W, Rl encD 1 W A xs → Rl encW 2 W B ws → Calls Try.prog 23 #[.agg #[.slice A xs.length c, .slice B ws.length d], .int .i64 s] W fun e w' => e = .returned (.int .i64 (RD xs ws s)) ∧ Below W.heap.size W w') := fun A B c d W h1 h2 => rdS A B c d xs ws s W h1 h2 (by omega) (by omega) (by omega)
    have hI : Hid (∀ A B c d W, Rl encD 1 W A xs → Rl encW 2 W B ws → Calls Try.prog 21 #[.agg #[.slice A xs.length c, .slice B ws.length d], .int .i64 s] W fun e w' => e = .returned (.int .i64 (RD xs ws s)) ∧ Below W.heap.size W w') := fun A B c d W h1 h2 => rdI A B c d xs ws s W h1 h2 (by omega) (by omega) (by omega)
    have hR := hide (rd_last (xs := xs) (ws := ws) (s := s))
    generalize RD xs ws s = r at hS hI hR
    have n1 : (r != r) = false := by simp
    have n2 : (r == r) = true := by simp
    have hb2 : Below w1.heap.size w1 (w1.alloc (.cells #[.slice A xs.length c, .slice Z ws.length d] 30)) := (Below.refl _ _).alloc (Nat.le_refl _) _
    have k3 := Blk.new w1 30 #[.slice A xs.length c, .slice Z ws.length d]
    have c0 : (w1.alloc (.cells #[.slice A xs.length c, .slice Z ws.length d] 30)).cell? ⟨w1.heap.size, 0, none⟩ = some (.slice A xs.length c) := k3.cell 0
    have c1 : (w1.alloc (.cells #[.slice A xs.length c, .slice Z ws.length d] 30)).cell? ⟨w1.heap.size, 1, none⟩ = some (.slice Z ws.length d) := k3.cell 1
    have hD2 := hD.below hb2
    have hbb := bt2 hb1 hb2
    clear hD hb1 hb2
    go_wp2_with fail
    generalize w1.alloc (.cells #[.slice A xs.length c, .slice Z ws.length d] 30) = w2 at k3 c0 c1 hD2 hbb
    refine (hI.out _ _ _ _ _ hD2.a.rl hD2.b.rl).mono ?_
    rintro e w3 ⟨rfl, hb3⟩
    have d0 := cell_on hb3 c0
    have d1 := cell_on hb3 c1
    have hD3 := hD2.below hb3
    have hbb3 := bt2 hbb hb3
    go_wp2_with fail
    refine (hS.out _ _ _ _ _ hD3.a.rl hD3.b.rl).mono ?_
    rintro e w4 ⟨rfl, hb4⟩
    have e0 := cell_on hb4 d0
    have e1 := cell_on hb4 d1
    have hD4 := hD3.below hb4
    have hbb4 := bt2 hbb3 hb4
    clear c0 c1 hD2 hbb d0 d1 hD3 hbb3 hb3 hb4 k3
    by_cases hr : r < 0
    · have hr' : decide (r < 0) = true := decide_eq_true hr
      go_wp2_with fail
      refine (hS.out _ _ _ _ _ hD4.a.rl hD4.b.rl).mono ?_
      rintro e w5 ⟨rfl, hb5⟩
      go_wp2_with fail
      go_ret
      exact ⟨rfl, bt2 hbb4 hb5⟩
    · have hr' : decide (r < 0) = false := decide_eq_false hr
      obtain ⟨j, rfl, hj, hrl⟩ := hR.out (by omega)
      have hrl' := hide hrl
      clear hrl hR hS hI
      obtain ⟨b, off, rfl, cx⟩ := hD4.a.rl.num hj
      have hx0 : Hid (lstw xs ws j 0 = xs[j]) := by
        show xs.getD j 0 = xs[j]
        rw [List.getD_eq_getElem?_getD, List.getElem?_eq_getElem hj]
        rfl
      have hji : (j : Int) < (xs.length : Int) := by omega
      generalize xs[j] = x at cx hx0
      go_wp2_with fail
      go_loop [6, 7] (fun l v => ∃ k : Nat, k ≤ ws.length ∧ v = .int .i64 k ∧ ∃ y : Int, l = .int .i64 y ∧ Hid (lstw xs ws j k = y)) (fun _ v => ws.length - (intOf v).toNat)
      case atStart => exact ⟨0, by omega, rfl, _, rfl, hx0⟩
      case round =>
        obtain ⟨k, hk, rfl, y, rfl, hy⟩ := hrel
        by_cases hlt : k < ws.length
        · obtain ⟨b', off', rfl, u0, u1⟩ := hD4.b.rl.wr hlt
          have hki : (k : Int) < (ws.length : Int) := by omega
          have HY := hide (lstw_yes (xs := xs) (j := j) hlt)
          have HN := hide (lstw_no (xs := xs) (j := j) hlt)
          generalize ws[k] = x at u0 u1 HY HN
          obtain ⟨x1, x2⟩ := x
          simp only at u0 u1 HY HN
          by_cases hx : x1 = (j : Int)
          · have H := hide (HY.out hx)
            subst hx
            clear HY HN
            have m1 : ((j : Int) == (j : Int)) = true := by simp
            go_wp2_with fail
            go_round
            case rel => exact ⟨k + 1, by omega, by go_num, _, rfl, H⟩
            case measure => simp [intOf]; omega
          · have H : Hid (lstw xs ws j (k + 1) = y) := (HN.out hx).trans hy.out
            have m1 : (x1 == (j : Int)) = false := by rw [beq_eq_false_iff_ne]; exact hx
            clear HY HN hx
            go_wp2_with fail
            go_round
            case rel => exact ⟨k + 1, by omega, by go_num, _, rfl, H⟩
            case measure => simp [intOf]; omega
        · obtain rfl : k = ws.length := by omega
          have hyr : r = y := hrl'.out.trans hy.out
          subst hyr
          go_wp2_with fail
          go_ret
          exact ⟨rfl, hbb4⟩

end Go.Proofs.Ytgabjepoooageaa
