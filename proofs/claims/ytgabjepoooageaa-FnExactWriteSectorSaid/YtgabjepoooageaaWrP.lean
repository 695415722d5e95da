/-
  What a further write turns: which number a sector reads, and what a fall leaves. Plain lemmas; no conditions.
-/
import Derived.Test.YtgabjepoooageaaWrD
namespace Go.Proofs.Ytgabjepoooageaa
open Go.RowKit
set_option linter.unusedVariables false
set_option linter.unusedSimpArgs false

theorem rd_lst {xs : List Int} {ws : List (Int × Int)} {j : Nat} (hv : vd xs ws = true) (hj : j < xs.length) : RD xs ws (j : Int) = lstw xs ws j ws.length := by
  obtain ⟨_, _, l3, _⟩ := vd_parts hv
  have hP := p2_le l3
  obtain ⟨y, hy, hr⟩ := RD_yes hv hj
  rw [SD_is (m := p2 ws.length - 1) (by omega) hv] at hy
  have hl := apk_last (j := j) hv (m := p2 ws.length - 1) (by omega) hj _ (Nat.le_refl _)
  unfold ap at hy
  rw [hl] at hy
  rw [hr]
  exact (Option.some.inj hy).symm
theorem getD_pre {ws : List (Int × Int)} {x : Int × Int} {k : Nat} (hk : k < ws.length) : (ws ++ [x]).getD k (0, 0) = ws.getD k (0, 0) := by
  rw [List.getD_eq_getElem?_getD, List.getD_eq_getElem?_getD, List.getElem?_append_left hk]
theorem getD_last {ws : List (Int × Int)} {x : Int × Int} : (ws ++ [x]).getD ws.length (0, 0) = x := by
  rw [List.getD_eq_getElem?_getD, List.getElem?_append_right (Nat.le_refl _), Nat.sub_self]
  rfl
theorem lstw_pre {xs : List Int} {ws : List (Int × Int)} {x : Int × Int} {j : Nat} : ∀ k, k ≤ ws.length → lstw xs (ws ++ [x]) j k = lstw xs ws j k := by
  intro k
  induction k with
  | zero => intro _; rfl
  | succ k ih =>
    intro hk
    show (if _ then _ else _) = (if _ then _ else _)
    rw [getD_pre (by omega), ih (by omega)]
theorem rd_ne {xs : List Int} {ws : List (Int × Int)} {x : Int × Int} {j : Nat} (hv : vd xs ws = true) (hv' : vd xs (ws ++ [x]) = true) (hj : j < xs.length) (hne : ¬ x.1 = (j : Int)) : RD xs (ws ++ [x]) (j : Int) = RD xs ws (j : Int) := by
  rw [rd_lst hv hj, rd_lst hv' hj, List.length_append]
  show (if _ then _ else _) = _
  rw [getD_last, if_neg hne, lstw_pre _ (Nat.le_refl _)]
theorem rd_eq {xs : List Int} {ws : List (Int × Int)} {x : Int × Int} {j : Nat} (hv' : vd xs (ws ++ [x]) = true) (hj : j < xs.length) (he : x.1 = (j : Int)) : RD xs (ws ++ [x]) (j : Int) = x.2 := by
  rw [rd_lst hv' hj, List.length_append]
  show (if _ then _ else _) = _
  rw [getD_last, if_pos he]
theorem apk_pre {xs : List Int} {ws : List (Int × Int)} {x : Int × Int} {q : Nat} : ∀ k, k ≤ ws.length → apk xs (ws ++ [x]) q k = apk xs ws q k := by
  intro k
  induction k with
  | zero => intro _; rfl
  | succ k ih =>
    intro hk
    show (if _ then _ else _) = (if _ then _ else _)
    rw [getD_pre (by omega), ih (by omega)]
theorem p2_succ (n : Nat) : p2 (n + 1) = 2 * p2 n := by
  unfold p2
  rw [Nat.pow_succ]
  omega
theorem cd_lost {xs : List Int} {ws : List (Int × Int)} {x : Int × Int} (hv : vd xs ws = true) (hv' : vd xs (ws ++ [x]) = true) : CD xs (ws ++ [x]) ((p2 ws.length : Int) - 1) = SD xs ws := by
  obtain ⟨_, _, l3, _⟩ := vd_parts hv
  have hP := p2_le l3
  obtain ⟨m, hm⟩ : ∃ m : Nat, p2 ws.length = m + 1 := ⟨p2 ws.length - 1, by omega⟩
  have h2 := p2_succ ws.length
  rw [show (p2 ws.length : Int) - 1 = (m : Int) by omega, CD_yes hv' (by rw [List.length_append]; show m < p2 (ws.length + 1); omega), SD_is hm hv]
  unfold ap
  rw [List.length_append]
  show apk xs (ws ++ [x]) m (ws.length + 1) = _
  have h0 : m / 2 ^ ws.length = 0 := Nat.div_eq_of_lt (by unfold p2 at hm; omega)
  rw [apk_no (by rw [h0]; decide), apk_pre _ (Nat.le_refl _)]
theorem cd_all {xs : List Int} {ws : List (Int × Int)} {x : Int × Int} : CD xs (ws ++ [x]) (2 * ((p2 ws.length : Int) - 1) + 1) = SD xs (ws ++ [x]) := by
  unfold SD
  congr 1
  rw [List.length_append]
  show _ = ((p2 (ws.length + 1) : Nat) : Int) - 1
  rw [p2_succ]
  omega
/-- The write's sector is one of the disk's. -/
theorem tk_sec {n : Nat} {x : Int × Int} (h : tk n x = true) : ∃ j : Nat, x.1 = (j : Int) ∧ j < n ∧ 0 ≤ x.2 ∧ x.2 ≤ 999999 := by
  unfold tk at h
  rw [Bool.and_eq_true, rng_iff, rng_iff] at h
  exact ⟨x.1.toNat, by omega, by omega, h.2⟩

/-- A disk handed back, opened, and a word. -/
def WrQ (xs : List Int) (ws : List (Int × Int)) (x : Int × Int) (w : World) (e : Ending) (w' : World) : Prop :=
  ∃ A c B d, e = .returned (.tuple #[.agg #[.slice A (WX xs ws x).length c, .slice B (WY xs ws x).length d], .bool (wok xs ws x)]) ∧ Below w.heap.size w w' ∧ Lst encD 1 w.heap.size w' A c (WX xs ws x) ∧ Lst encW 2 w.heap.size w' B d (WY xs ws x)
theorem wr_q {xs : List Int} {ws : List (Int × Int)} {x : Int × Int} {w w' : World} {e : Ending} (h : WrR xs ws x w e w') : WrQ xs ws x w e w' := by
  obtain ⟨a, b, c, p, q, r, rfl, hb, h1, h2⟩ := h
  obtain ⟨A, c', e1, L1, -⟩ := ow_open (by omega) encD_len h1
  obtain ⟨B, d', e2, L2, -⟩ := ow_open (by omega) encW_len h2
  exact ⟨A, c', B, d', by rw [e1, e2], hb, L1, L2⟩

end Go.Proofs.Ytgabjepoooageaa
