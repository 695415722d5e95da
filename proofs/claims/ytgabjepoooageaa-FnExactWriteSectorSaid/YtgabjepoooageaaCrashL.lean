/-
  The statement that falls lose only what waits. Conditions: the argument reads as a list of bytes.
-/
import Derived.Test.YtgabjepoooageaaSyncL
namespace Go.Proofs.Ytgabjepoooageaa
open Go.RowKit
set_option linter.unusedVariables false
set_option linter.unusedSimpArgs false

theorem apk_from {xs : List Int} {ws : List (Int × Int)} {q j : Nat} {y : Int} (hv : vd xs ws = true) : ∀ k, k ≤ ws.length → (apk xs ws q k)[j]? = some y → xs[j]? = some y ∨ ∃ t, ∃ (ht : t < ws.length), t < k ∧ ws[t].1 = (j : Int) ∧ ws[t].2 = y := by
  obtain ⟨_, _, l3, _, hW⟩ := vd_parts hv
  intro k
  induction k with
  | zero => intro _ h; exact .inl h
  | succ k ih =>
    intro hk h
    obtain ⟨t, ht, htl, _⟩ := hW k (by omega)
    have up : ∀ {P : Prop}, (P ∨ ∃ t, ∃ (ht : t < ws.length), t < k ∧ ws[t].1 = (j : Int) ∧ ws[t].2 = y) → P ∨ ∃ t, ∃ (ht : t < ws.length), t < k + 1 ∧ ws[t].1 = (j : Int) ∧ ws[t].2 = y := fun h => by
      rcases h with h | ⟨t, ht, a, b⟩
      · exact .inl h
      · exact .inr ⟨t, ht, by omega, b⟩
    by_cases hb : q / 2 ^ k % 2 = 1
    · rw [apk_yes (by omega) hb, List.getElem?_set, apk_len] at h
      have ht' : ws[k].1.toNat = t := by omega
      rw [ht'] at h
      by_cases e : t = j
      · subst e
        rw [if_pos rfl, if_pos htl] at h
        exact .inr ⟨k, by omega, by omega, ht, Option.some.inj h⟩
      · rw [if_neg e] at h
        exact up (ih (by omega) h)
    · rw [apk_no hb] at h
      exact up (ih (by omega) h)
/-- Whether a sector's number is the old one or one of the first k writes to it. -/
def sm (ws : List (Int × Int)) (j : Nat) (x y : Int) : Nat → Bool
  | 0 => y == x
  | k + 1 => sm ws j x y k || (decide ((ws.getD k (0, 0)).1 = (j : Int)) && decide ((ws.getD k (0, 0)).2 = y))
theorem sm_step {ws : List (Int × Int)} {j k : Nat} {x y : Int} (hk : k < ws.length) : sm ws j x y (k + 1) = (sm ws j x y k || (decide (ws[k].1 = (j : Int)) && decide (ws[k].2 = y))) := by
  show (_ || _) = _
  rw [List.getD_eq_getElem?_getD, List.getElem?_eq_getElem hk]
  rfl
theorem sm_base {ws : List (Int × Int)} {j : Nat} {x y : Int} (h : y = x) : ∀ k, sm ws j x y k = true := by
  intro k
  induction k with
  | zero => show (y == x) = true; rw [h]; exact beq_self_eq_true _
  | succ k ih => show (_ || _) = true; rw [ih]; rfl
theorem sm_some {ws : List (Int × Int)} {j t : Nat} {x y : Int} (ht : t < ws.length) (h1 : ws[t].1 = (j : Int)) (h2 : ws[t].2 = y) : ∀ k, t < k → k ≤ ws.length → sm ws j x y k = true := by
  intro k
  induction k with
  | zero => intro h; omega
  | succ k ih =>
    intro hk hl
    rw [sm_step (by omega)]
    by_cases e : t = k
    · subst e
      rw [decide_eq_true h1, decide_eq_true h2]
      simp
    · rw [ih (by omega) (by omega)]
      rfl
theorem cd_yes {xs : List Int} {ws : List (Int × Int)} {q : Int} (h : CD xs ws q ≠ []) : vd xs ws = true ∧ (CD xs ws q).length = xs.length ∧ ∀ (j : Nat) (x y : Int), xs[j]? = some x → (CD xs ws q)[j]? = some y → sm ws j x y ws.length = true := by
  cases hv : vd xs ws
  · exact absurd (CD_bad hv) h
  · cases hg : rng q 0 ((p2 ws.length : Int) - 1)
    · exact absurd (CD_no hg) h
    · have := rng_iff.1 hg
      obtain ⟨m, rfl⟩ : ∃ m : Nat, q = m := ⟨q.toNat, by omega⟩
      rw [CD_yes hv (by omega), ap_len]
      refine ⟨rfl, rfl, fun j x y hx hy => ?_⟩
      rcases apk_from hv _ (Nat.le_refl _) hy with h1 | ⟨t, ht, hk, a, b⟩
      · rw [hx] at h1
        exact sm_base (Option.some.inj h1).symm _
      · exact sm_some ht a b _ hk (Nat.le_refl _)
theorem apk_zero {xs : List Int} {ws : List (Int × Int)} : ∀ k, apk xs ws 0 k = xs := by
  intro k
  induction k with
  | zero => rfl
  | succ k ih => rw [apk_no (by simp), ih]
theorem cd_zero {xs : List Int} {ws : List (Int × Int)} (h : vd xs ws = true) : CD xs ws 0 = xs := by
  obtain ⟨_, _, l3, _⟩ := vd_parts h
  have hP := p2_le l3
  have := CD_yes (q := 0) h (by omega)
  rw [show ((0 : Nat) : Int) = 0 from rfl] at this
  rw [this]
  exact apk_zero _

set_option maxHeartbeats 4000000 in
theorem crashD_law (A : Option Addr) (c : Nat) (zs : List Int) (w : World) (h : Bytes w A c zs) :
    Calls Try.prog 7 #[.slice A zs.length c] w fun e w' => e = .returned (.bool true) ∧ Below w.heap.size w w' := by
  have hcap := h.cap
  have hmax := h.max
  by_cases hl : 1048576 < zs.length
  · go_enter Try.func7, Try.ntmps7
    go_wp2
    go_ret
    exact ⟨rfl, Below.refl _ _⟩
  · go_enter Try.func7, Try.ntmps7
    go_wp2_with fail
    refine (drawCD A c zs _ h).mono ?_
    rintro e w1 ⟨A, c, xs, Z, d, ws, q, rfl, q0, q1, hD, hb1⟩
    have hla := hD.la
    have hlb := hD.lb
    have hS : Hid (∀ A B c d W, Rl encD 1 W A xs → Rl encW 2 W B ws → Calls Try.prog 31 #[.agg #[.slice A xs.length c, .slice B ws.length d], .int .i64 q] W (DiskQ (CD xs ws q) W)) := fun A B c d W h1 h2 => (cdS A B c d xs ws q W h1 h2 (by omega) (by omega) (by omega)).mono fun _ _ h => disk_q h
    have hI : Hid (∀ A B c d W, Rl encD 1 W A xs → Rl encW 2 W B ws → Calls Try.prog 28 #[.agg #[.slice A xs.length c, .slice B ws.length d], .int .i64 q] W (DiskQ (CD xs ws q) W)) := fun A B c d W h1 h2 => (cdI A B c d xs ws q W h1 h2 (by omega) (by omega) (by omega)).mono fun _ _ h => disk_q h
    have hY : Hid (∀ A B c d W, Rl encD 1 W A xs → Rl encW 2 W B ws → Calls Try.prog 29 #[.agg #[.slice A xs.length c, .slice B ws.length d]] W (DiskQ (SD xs ws) W)) := fun A B c d W h1 h2 => (sdI A B c d xs ws W h1 h2 (by omega) (by omega)).mono fun _ _ h => disk_q h
    have hP : Hid (vd xs ws = true → ∃ P : Nat, 1 ≤ P ∧ P ≤ 256 ∧ Op.shift .shl .i64 1 .i64 (ws.length : Int) = pure (.int .i64 (P : Int)) ∧ IntKind.i64.wrap (2 ^ ws.length) = (P : Int) ∧ (∀ A B c d W, Rl encD 1 W A xs → Rl encW 2 W B ws → Calls Try.prog 28 #[.agg #[.slice A xs.length c, .slice B ws.length d], .int .i64 ((P : Int) - 1)] W (DiskQ (SD xs ws) W)) ∧
        (∀ A B c d W, Rl encD 1 W A xs → Rl encW 2 W B ws → Calls Try.prog 28 #[.agg #[.slice A xs.length c, .slice B ws.length d], .int .i64 0] W (DiskQ xs W))) := fun hv => by
      obtain ⟨_, _, l3, _⟩ := vd_parts hv
      have hP := p2_le l3
      refine ⟨p2 ws.length, hP.1, hP.2, shl_p2 l3, wrap_p2 l3, fun A B c d W h1 h2 => (cdI A B c d xs ws _ W h1 h2 (by omega) (by omega) (by omega)).mono fun _ _ h => disk_q h, fun A B c d W h1 h2 => ?_⟩
      have := (cdI A B c d xs ws 0 W h1 h2 (by omega) (by omega) (by omega)).mono fun _ _ h => disk_q h
      rwa [cd_zero hv] at this
    have l1 := CD_le (xs := xs) (ws := ws) (q := q)
    have l2 := SD_le (xs := xs) (ws := ws)
    have hE := hide (cd_yes (xs := xs) (ws := ws) (q := q))
    generalize CD xs ws q = E at hS hI l1 hE
    generalize SD xs ws = S at hY hP l2
    have hb2 : Below w1.heap.size w1 (w1.alloc (.cells #[.slice A xs.length c, .slice Z ws.length d] 30)) := (Below.refl _ _).alloc (Nat.le_refl _) _
    have k3 := Blk.new w1 30 #[.slice A xs.length c, .slice Z ws.length d]
    have c0 : (w1.alloc (.cells #[.slice A xs.length c, .slice Z ws.length d] 30)).cell? ⟨w1.heap.size, 0, none⟩ = some (.slice A xs.length c) := k3.cell 0
    have c1 : (w1.alloc (.cells #[.slice A xs.length c, .slice Z ws.length d] 30)).cell? ⟨w1.heap.size, 1, none⟩ = some (.slice Z ws.length d) := k3.cell 1
    have hD2 := hD.below hb2
    have hbb := bt2 hb1 hb2
    clear hD hb1 hb2
    go_wp2_with fail
    generalize w1.alloc (.cells #[.slice A xs.length c, .slice Z ws.length d] 30) = w2 at k3 c0 c1 hD2 hbb
    refine (hI.out _ _ _ _ _ hD2.a.rl hD2.b.rl).mono ?_
    rintro e w3 ⟨A5, c5, rfl, hb3, L5⟩
    have hb4 : Below w3.heap.size w3 (w3.alloc (.cells #[.slice A5 E.length c5, .slice none 0 0] 30)) := (Below.refl _ _).alloc (Nat.le_refl _) _
    have k5 := Blk.new w3 30 #[.slice A5 E.length c5, .slice none 0 0]
    have d0 := cell_on (bt2 hb3 hb4) c0
    have d1 := cell_on (bt2 hb3 hb4) c1
    have e0 : (w3.alloc (.cells #[.slice A5 E.length c5, .slice none 0 0] 30)).cell? ⟨w3.heap.size, 0, none⟩ = some (.slice A5 E.length c5) := k5.cell 0
    have e1 : (w3.alloc (.cells #[.slice A5 E.length c5, .slice none 0 0] 30)).cell? ⟨w3.heap.size, 1, none⟩ = some (.slice none 0 0) := k5.cell 1
    have L5' := L5.below hb4
    have hD4 := hD2.below (bt2 hb3 hb4)
    have hbb4 := bt2 hbb (bt2 hb3 hb4)
    clear L5 hD2 hbb hb3 hb4 c0 c1 hI
    go_wp2_with fail
    generalize w3.alloc (.cells #[.slice A5 E.length c5, .slice none 0 0] 30) = w4 at k5 d0 d1 e0 e1 L5' hD4 hbb4
    have hbx : Below w4.heap.size w4 w4.drew := (Below.refl _ _).drew
    by_cases hz : E.length = 0
    · have hz1 : ((E.length : Int) == 0) = true := by rw [hz]; rfl
      have hz2 : E.length ≤ 0 := by omega
      clear hz
      go_region_held3 (fun w' => w'.cell? ⟨w1.heap.size, 0, none⟩ = some (.slice A xs.length c) ∧ w'.cell? ⟨w1.heap.size, 1, none⟩ = some (.slice Z ws.length d) ∧ w'.cell? ⟨w3.heap.size, 0, none⟩ = some (.slice A5 E.length c5) ∧ w'.cell? ⟨w3.heap.size, 1, none⟩ = some (.slice none 0 0))
        (first | exact ⟨cell_on hbx d0, cell_on hbx d1, cell_on hbx e0, cell_on hbx e1⟩)
        (first
          | (go_at_call 31; refine (hS.out _ _ _ _ _ (hD4.a.rl.below hbx) (hD4.b.rl.below hbx)).mono ?_; rintro e wq ⟨A6, c6, rfl, hq, L6⟩; replace hbx := bt2 hbx hq)
          | (go_at_call 27; refine (eqlD _ _ _ _ _ _ _ _ E [] _ (L5'.rl.below hbx) Rl.nil L6.rl Rl.nil (by omega) (by simp)).mono ?_; rintro e wr ⟨rfl, hq⟩; replace hbx := bt2 hbx hq))
      have hbb5 := bt2 hbb4 hbx
      have f0 := cell_on hbx d0
      have f1 := cell_on hbx d1
      have g0 := cell_on hbx e0
      have g1 := cell_on hbx e1
      have hD5 := hD4.below hbx
      have L5s := L5'.below hbx
      clear hbx d0 d1 e0 e1 hD4 L5' hbb4 k5 k3 L6 hE hP hY
      go_wp2_with fail
      have hbx : Below wr.heap.size wr wr.drew := (Below.refl _ _).drew
      go_region_held3 (fun w' => w'.cell? ⟨w1.heap.size, 0, none⟩ = some (.slice A xs.length c) ∧ w'.cell? ⟨w1.heap.size, 1, none⟩ = some (.slice Z ws.length d) ∧ w'.cell? ⟨w3.heap.size, 0, none⟩ = some (.slice A5 E.length c5) ∧ w'.cell? ⟨w3.heap.size, 1, none⟩ = some (.slice none 0 0))
        (first | exact ⟨cell_on hbx f0, cell_on hbx f1, cell_on hbx g0, cell_on hbx g1⟩)
        (first
          | (go_at_call 31; refine (hS.out _ _ _ _ _ (hD5.a.rl.below hbx) (hD5.b.rl.below hbx)).mono ?_; rintro e wq ⟨A6, c6, rfl, hq, L6⟩; replace hbx := bt2 hbx hq)
          | (go_at_call 27; refine (eqlD _ _ _ _ _ _ _ _ E [] _ (L5s.rl.below hbx) Rl.nil L6.rl Rl.nil (by omega) (by simp)).mono ?_; rintro e wt ⟨rfl, hq⟩; replace hbx := bt2 hbx hq))
      go_wp2_with fail
      go_ret
      exact ⟨rfl, bt2 hbb5 hbx⟩
    · have hz1 : ((E.length : Int) == 0) = false := by rw [beq_eq_false_iff_ne]; omega
      have hz2 : 0 < E.length := by omega
      clear hz
      go_region_held3 (fun w' => w'.cell? ⟨w1.heap.size, 0, none⟩ = some (.slice A xs.length c) ∧ w'.cell? ⟨w1.heap.size, 1, none⟩ = some (.slice Z ws.length d) ∧ w'.cell? ⟨w3.heap.size, 0, none⟩ = some (.slice A5 E.length c5) ∧ w'.cell? ⟨w3.heap.size, 1, none⟩ = some (.slice none 0 0))
        (first | exact ⟨cell_on hbx d0, cell_on hbx d1, cell_on hbx e0, cell_on hbx e1⟩)
        (first
          | (go_at_call 31; refine (hS.out _ _ _ _ _ (hD4.a.rl.below hbx) (hD4.b.rl.below hbx)).mono ?_; rintro e wq ⟨A6, c6, rfl, hq, L6⟩; replace hbx := bt2 hbx hq)
          | (go_at_call 27; refine (eqlD _ _ _ _ _ _ _ _ E [] _ (L5'.rl.below hbx) Rl.nil L6.rl Rl.nil (by omega) (by simp)).mono ?_; rintro e wb ⟨rfl, hq⟩; replace hbx := bt2 hbx hq))
      obtain ⟨hv, hEl, hsm⟩ := hE.out (by intro e; rw [e] at hz2; simp at hz2)
      obtain ⟨P, P0, P1, hsh, hwr, hCs, hC0⟩ := hP.out hv
      have hsm' := hide hsm
      have hEl' := hide hEl
      have hCs' := hide hCs
      have hC0' := hide hC0
      have hsh' := hide hsh
      have hwr' := hide hwr
      have hbb5 := bt2 hbb4 hbx
      have f0 := cell_on hbx d0
      have f1 := cell_on hbx d1
      have g0 := cell_on hbx e0
      have g1 := cell_on hbx e1
      have hD5 := hD4.below hbx
      have L5s := L5'.below hbx
      clear hbx d0 d1 e0 e1 hD4 L5' hbb4 k5 k3 L6 hE hP hS hsm hCs hC0 hsh hwr hEl hv
      go_wp2_with fail
      go_loopw [6] (fun v wr => ∃ k : Nat, k ≤ xs.length ∧ v = .int .i64 k ∧ Below wb.heap.size wb wr) (fun v _ => xs.length - (intOf v).toNat)
      case atStart => exact ⟨0, by omega, rfl, Below.refl _ _⟩
      case round =>
        obtain ⟨k, hk, rfl, hb⟩ := hrel
        have p0 := cell_on hb f0
        have p1 := cell_on hb f1
        have r0 := cell_on hb g0
        have r1 := cell_on hb g1
        have hD6 := hD5.below hb
        have L6' := L5s.below hb
        by_cases hlt : k < xs.length
        · have hkE : k < E.length := by have := hEl'.out; omega
          obtain ⟨b, off, hA5, cy⟩ := L5s.rl.num hkE
          obtain ⟨b', off', hA, cx⟩ := hD6.a.rl.num hlt
          have hs := hide (hsm'.out k xs[k] E[k] (List.getElem?_eq_getElem hlt) (List.getElem?_eq_getElem hkE))
          have hki : (k : Int) < (xs.length : Int) := by omega
          have hkEi : (k : Int) < (E.length : Int) := by omega
          generalize xs[k] = x at cx hs
          generalize E[k] = y at cy hs
          have hcy : ∀ w', Below wb.heap.size wb w' → w'.cell? ⟨b, off + k, none⟩ = some (.int .i64 y) := fun w' h => cell_on h cy
          have cy' := hcy _ hb
          subst hA5 hA
          clear hsm' hC0' hCs' hY cy
          replace hcy := hide hcy
          go_wp2_with fail
          go_quiet (fail)
          go_wp2_with fail
          go_loopw [7, 8] (fun u v wr => ∃ t : Nat, t ≤ ws.length ∧ v = .int .i64 t ∧ Below wb.heap.size wb wr ∧ ∃ z : Bool, u = .bool z ∧ Hid (sm ws k x y t = z)) (fun _ v _ => ws.length - (intOf v).toNat)
          case atStart => exact ⟨0, by omega, rfl, below_drewN hb _, _, rfl, rfl⟩
          case round =>
            obtain ⟨t, ht, rfl, hb', z, rfl, hz⟩ := hrel
            have p0 := cell_on hb' f0
            have p1 := cell_on hb' f1
            have r0 := cell_on hb' g0
            have r1 := cell_on hb' g1
            have cyS : ∀ w', Below wb.heap.size wb w' → w'.cell? ⟨b, off + k, none⟩ = some (.int .i64 y) := hcy.out
            have cy := cyS _ hb'
            clear cyS
            by_cases htl : t < ws.length
            · obtain ⟨b2, off2, rfl, u0, u1⟩ := (hD5.b.rl.below hb').wr htl
              have hti : (t : Int) < (ws.length : Int) := by omega
              have HS := hide (sm_step (j := k) (x := x) (y := y) htl)
              generalize ws[t] = v at u0 u1 HS
              obtain ⟨v1, v2⟩ := v
              simp only at u0 u1 HS
              cases z
              · by_cases h1 : v1 = (k : Int)
                · by_cases h2 : v2 = y
                  · have H : Hid (sm ws k x y (t + 1) = true) := by
                      unfold Hid
                      rw [HS.out, hz.out, decide_eq_true h1, decide_eq_true h2]
                      rfl
                    subst h1 h2
                    clear HS hz
                    have m1 : ((k : Int) == (k : Int)) = true := by simp
                    have m2 : (v2 == v2) = true := by simp
                    go_wp2_with fail
                    go_quiet (fail)
                    go_wp2_with fail
                    go_roundw
                    case rel => exact ⟨t + 1, by omega, by go_num, below_drewN hb' _, _, rfl, H⟩
                    case measure => simp [intOf]; omega
                  · have H : Hid (sm ws k x y (t + 1) = false) := by
                      unfold Hid
                      rw [HS.out, hz.out, decide_eq_false h2]
                      simp
                    subst h1
                    have m1 : ((k : Int) == (k : Int)) = true := by simp
                    have m2 : (v2 == y) = false := by rw [beq_eq_false_iff_ne]; exact h2
                    clear HS hz h2
                    go_wp2_with fail
                    go_quiet (fail)
                    go_wp2_with fail
                    go_roundw
                    case rel => exact ⟨t + 1, by omega, by go_num, below_drewN hb' _, _, rfl, H⟩
                    case measure => simp [intOf]; omega
                · have H : Hid (sm ws k x y (t + 1) = false) := by
                    unfold Hid
                    rw [HS.out, hz.out, decide_eq_false h1]
                    rfl
                  have m1 : (v1 == (k : Int)) = false := by rw [beq_eq_false_iff_ne]; exact h1
                  clear HS hz h1
                  go_wp2_with fail
                  go_quiet (fail)
                  go_wp2_with fail
                  go_roundw
                  case rel => exact ⟨t + 1, by omega, by go_num, below_drewN hb' _, _, rfl, H⟩
                  case measure => simp [intOf]; omega
              · have H : Hid (sm ws k x y (t + 1) = true) := by
                  unfold Hid
                  rw [HS.out, hz.out]
                  rfl
                clear HS hz
                go_wp2_with fail
                go_quiet (fail)
                go_wp2_with fail
                go_roundw
                case rel => exact ⟨t + 1, by omega, by go_num, below_drewN hb' _, _, rfl, H⟩
                case measure => simp [intOf]; omega
            · obtain rfl : t = ws.length := by omega
              obtain rfl : z = true := hz.out.symm.trans hs.out
              go_wp2_with fail
              go_roundw
              case rel => exact ⟨k + 1, by omega, by go_num, hb'⟩
              case measure => simp [intOf]; omega
        · obtain rfl : k = xs.length := by omega
          have hbx : Below wr.heap.size wr wr.drew := (Below.refl _ _).drew
          have hsh := hsh'.out
          have hwr := hwr'.out
          have hwr2 : IntKind.i64.wrap ((P : Int) - 1) = (P : Int) - 1 := IntWalk.i64_in _ (by omega)
          have hfd : ∀ (a : Option Addr) (n c : Nat) (W : World), (Instr.field 30 (.agg #[.slice a n c, .slice none 0 0]) 0).run Try.prog W = .ok (.slice a n c) W := fun _ _ _ _ => by kernel_rfl
          clear hsm' hk hlt hEl'
          go_wp2_with fail
          go_region_held3 (fun w' => w'.cell? ⟨w1.heap.size, 0, none⟩ = some (.slice A xs.length c) ∧ w'.cell? ⟨w1.heap.size, 1, none⟩ = some (.slice Z ws.length d))
            (first | exact ⟨cell_on hbx p0, cell_on hbx p1⟩)
            (first
              | (go_at_call 29; refine (hY.out _ _ _ _ _ (hD6.a.rl.below hbx) (hD6.b.rl.below hbx)).mono ?_; rintro e wq ⟨A7, c7, rfl, hq, L7⟩; replace L8 := L8.below hq; replace hbx := bt2 hbx hq)
              | (go_at_call 28; ((with_reducible refine (hCs'.out _ _ _ _ _ (hD6.a.rl.below hbx) (hD6.b.rl.below hbx)).mono ?_); rintro e wq ⟨A8, c8, rfl, hq, L8⟩); replace hbx := bt2 hbx hq)
              | (go_at_call 28; ((with_reducible refine (hC0'.out _ _ _ _ _ (hD6.a.rl.below hbx) (hD6.b.rl.below hbx)).mono ?_); rintro e wq ⟨A9, c9, rfl, hq, L9⟩); replace hbx := bt2 hbx hq)
              | (go_at_call 27; refine (eqlD _ _ _ _ _ _ _ _ S [] _ L8.rl Rl.nil L7.rl Rl.nil (by omega) (by simp)).mono ?_; rintro e wt ⟨rfl, hq⟩; replace hbx := bt2 hbx hq)
              | (go_at_call 32; refine (eqlI _ _ _ _ xs _ L9.rl (hD6.a.rl.below hbx) (by omega)).mono ?_; rintro e wt ⟨rfl, hq⟩; replace hbx := bt2 hbx hq))
          go_wp2_with fail
          go_ret
          exact ⟨rfl, bt2 (bt2 hbb5 hb) hbx⟩

end Go.Proofs.Ytgabjepoooageaa
