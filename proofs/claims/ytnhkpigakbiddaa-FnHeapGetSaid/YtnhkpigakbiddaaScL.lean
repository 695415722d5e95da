/-
  The statements over the list that a heap's scan hands back. Conditions: the argument reads as a list of bytes.
-/
import Derived.Test.YtnhkpigakbiddaaHpL
import Derived.Test.YtnhkpigakbiddaaScanS
import Derived.Test.YtnhkpigakbiddaaScanX
namespace Go.Proofs.Ytnhkpigakbiddaa
open Go.RowKit
set_option linter.unusedVariables false
set_option linter.unusedSimpArgs false

theorem eqlR (A B : Option Addr) (c d : Nat) (rs : List (Int × Int)) (w : World) (hr : Rl encQ 2 w A rs) (hq : Rl encQ 2 w B rs) (hc : rs.length ≤ 1048576) :
    Calls Try.prog 33 #[.slice A rs.length c, .slice B rs.length d] w fun e w' => e = .returned (.bool true) ∧ Below w.heap.size w w' := by
  go_enter Try.func33, Try.ntmps33
  go_wp2
  go_loopw [5] (fun v wr => ∃ k : Nat, k ≤ rs.length ∧ v = .int .i64 k ∧ Below w.heap.size w wr) (fun v _ => rs.length - (intOf v).toNat)
  case atStart => exact ⟨0, by omega, rfl, Below.refl _ _⟩
  case round =>
    obtain ⟨k, hk, rfl, hb⟩ := hrel
    by_cases hlt : k < rs.length
    · obtain ⟨b, off, rfl, c0, c1⟩ := (hr.below hb).rid hlt
      obtain ⟨b', off', rfl, d0, d1⟩ := (hq.below hb).rid hlt
      generalize rs[k] = x at c0 c1 d0 d1
      have b1 : (k : Int) < (rs.length : Int) := by omega
      go_wp2_with fail
      go_quiet (fail)
      go_wp2_with fail
      go_roundw
      case rel => exact ⟨k + 1, by omega, by go_num, below_drewN hb _⟩
      case measure => simp [intOf]; omega
    · obtain rfl : k = rs.length := by omega
      go_wp2
      go_ret
      exact ⟨rfl, hb⟩

/-- The order of the list: by page, then by slot. -/
def ltR (x y : Int × Int) : Prop := x.1 < y.1 ∨ x.1 = y.1 ∧ x.2 < y.2
theorem scp_mem {i j : Nat} {xs : List Sl} {x : Int × Int} (h : x ∈ scp i xs j) : x.1 = (i : Int) := by
  unfold scp at h
  obtain ⟨k, _, hk⟩ := List.mem_filterMap.1 h
  split at hk
  · cases hk; rfl
  · cases hk
theorem scp_pw (i : Nat) (xs : List Sl) (j : Nat) : (scp i xs j).Pairwise ltR := by
  unfold scp
  rw [List.pairwise_filterMap]
  refine List.pairwise_lt_range.imp fun {a b} hab x hx y hy => ?_
  split at hx
  · split at hy
    · cases hx; cases hy
      exact .inr ⟨rfl, by simp; omega⟩
    · cases hy
  · cases hx
theorem sck_pw (css : List (List Sl)) (k : Nat) : (sck css k).Pairwise ltR := by
  unfold sck
  rw [List.pairwise_flatMap]
  refine ⟨fun a _ => scp_pw _ _ _, List.pairwise_lt_range.imp fun {a b} hab x hx y hy => .inl ?_⟩
  rw [scp_mem hx, scp_mem hy]
  omega
theorem sc_pw (css : List (List Sl)) : (SC css).Pairwise ltR := by
  unfold SC
  split
  · exact sck_pw _ _
  · exact .nil
theorem sc_step {css : List (List Sl)} {k : Nat} (hk : k + 1 < (SC css).length) : ltR (SC css)[k] (SC css)[k + 1] := List.pairwise_iff_getElem.1 (sc_pw css) k (k + 1) (by omega) hk (by omega)
theorem sc_at {css : List (List Sl)} {k : Nat} {x y : Int × Int} (h1 : (SC css)[k]? = some x) (h2 : (SC css)[k + 1]? = some y) : ltR x y := by
  obtain ⟨hk, rfl⟩ := List.getElem?_eq_some_iff.1 h2
  obtain ⟨_, rfl⟩ := List.getElem?_eq_some_iff.1 h1
  exact sc_step hk
theorem sckp_len {ps : List Pg} (hv : vh (xss ps) = true) : ∀ k, k ≤ ps.length → (sck (xss ps) k).length ≤ 8 * k := by
  intro k
  induction k with
  | zero => intro _; simp [sck]
  | succ k ih =>
    intro hk
    rw [sck_page (by omega), List.length_append]
    have := ih (by omega)
    have := scp_len k ps[k].xs ps[k].xs.length
    have := (vh_page hv (show k < ps.length by omega)).2
    omega
theorem sc_len (ps : List Pg) : (SC (xss ps)).length ≤ 48 := by
  unfold SC
  split
  · rename_i hv
    rw [xss_len]
    have h1 := sckp_len hv ps.length (Nat.le_refl _)
    by_cases h0 : 0 < ps.length
    · have := (vh_page hv h0).1
      omega
    · omega
  · simp

set_option maxHeartbeats 4000000 in
theorem scan_law (A : Option Addr) (c : Nat) (zs : List Int) (w : World) (h : Bytes w A c zs) :
    Calls Try.prog 10 #[.slice A zs.length c] w fun e w' => e = .returned (.bool true) ∧ Below w.heap.size w w' := by
  have hcap := h.cap
  have hmax := h.max
  by_cases hl : 1048576 < zs.length
  · go_enter Try.func10, Try.ntmps10
    go_wp2
    go_ret
    exact ⟨rfl, Below.refl _ _⟩
  · go_enter Try.func10, Try.ntmps10
    go_wp2_with fail
    refine (drawHS A c zs _ h).mono ?_
    rintro e w1 ⟨A, c, ps, rfl, hL, hsm, hl7, hlc, hlm, hb1⟩
    have hS : Hid (∀ W, Hp W A ps → Calls Try.prog 34 #[.agg #[.slice A ps.length c]] W fun e w' => ∃ B d, e = .returned (.slice B (SC (xss ps)).length d) ∧ Below W.heap.size W w' ∧ Rl encQ 2 w' B (SC (xss ps))) := fun W hr => (scS A c ps W hr hsm).mono (by
      rintro e w' ⟨v, rfl, hb, ho⟩
      obtain ⟨B, d, rfl, hL, -⟩ := ow_open (by omega) encQ_len ho
      exact ⟨B, d, rfl, hb, hL.rl⟩)
    have hI : Hid (∀ W, Hp W A ps → Calls Try.prog 32 #[.agg #[.slice A ps.length c]] W fun e w' => ∃ B d, e = .returned (.slice B (SC (xss ps)).length d) ∧ Below W.heap.size W w' ∧ Rl encQ 2 w' B (SC (xss ps))) := fun W hr => (scI A c ps W hr hsm).mono (by
      rintro e w' ⟨v, rfl, hb, ho⟩
      obtain ⟨B, d, rfl, hL, -⟩ := ow_open (by omega) encQ_len ho
      exact ⟨B, d, rfl, hb, hL.rl⟩)
    have h48 := sc_len ps
    have hst : Hid (∀ k x y, (SC (xss ps))[k]? = some x → (SC (xss ps))[k + 1]? = some y → ltR x y) := fun k x y h1 h2 => sc_at h1 h2
    generalize SC (xss ps) = rs at hS hI h48 hst
    have hb2 : Below w1.heap.size w1 (w1.alloc (.cells #[.slice A ps.length c] 46)) := (Below.refl _ _).alloc (Nat.le_refl _) _
    have c0 : (w1.alloc (.cells #[.slice A ps.length c] 46)).cell? ⟨w1.heap.size, 0, none⟩ = some (.slice A ps.length c) := (Blk.new w1 46 #[.slice A ps.length c]).cell 0
    have hL2 := hL.below hb2
    have hbb := bt2 hb1 hb2
    clear hL hb1 hb2
    go_wp2_with fail
    generalize w1.alloc (.cells #[.slice A ps.length c] 46) = w2 at c0 hL2 hbb ⊢
    refine (hI.out _ hL2).mono ?_
    rintro e w3 ⟨B, d, rfl, hb3, hr3⟩
    have c3 := cell_on hb3 c0
    have hL3 := hL2.below hb3
    have hbb3 := bt2 hbb hb3
    clear hb3 c0 hL2 hbb
    go_wp2_with fail
    refine (hS.out _ hL3).mono ?_
    rintro e w4 ⟨B', d', rfl, hb4, hq4⟩
    have hr4 := hr3.below hb4
    have hbb4 := bt2 hbb3 hb4
    clear hb4 c3 hL3 hbb3 hr3
    go_wp2_with fail
    refine (eqlR B B' d d' rs w4 hr4 hq4 (by omega)).mono ?_
    rintro e w5 ⟨rfl, hb5⟩
    have hr5 := hr4.below hb5
    have hbb5 := bt2 hbb4 hb5
    clear hb5 hr4 hq4 hbb4 hI hS
    go_wp2_with fail
    go_loopw [5] (fun v wr => ∃ k : Nat, 1 ≤ k ∧ k ≤ 49 ∧ v = .int .i64 k ∧ Below w5.heap.size w5 wr) (fun v _ => rs.length - (intOf v).toNat)
    case atStart => exact ⟨1, by omega, by omega, rfl, Below.refl _ _⟩
    case round =>
      obtain ⟨k, hk1, hk, rfl, hb⟩ := hrel
      by_cases hlt : k < rs.length
      · obtain ⟨j, rfl⟩ : ∃ j, k = j + 1 := ⟨k - 1, by omega⟩
        obtain ⟨b, off, rfl, x0, x1⟩ := (hr5.below hb).rid (k := j) (by omega)
        obtain ⟨b', off', hA, y0, y1⟩ := (hr5.below hb).rid hlt
        obtain ⟨rfl, rfl⟩ : b = b' ∧ off = off' := by simpa using hA
        have hlt' := hst.out j _ _ (List.getElem?_eq_getElem (by omega)) (List.getElem?_eq_getElem hlt)
        generalize rs[j] = x at x0 x1 hlt'
        generalize rs[j + 1] = y at y0 y1 hlt'
        have b1 : ((j + 1 : Nat) : Int) < (rs.length : Int) := by omega
        have e1 : ((j + 1 : Nat) : Int) - 1 = (j : Int) := by omega
        obtain ⟨x, x'⟩ := x
        obtain ⟨y, y'⟩ := y
        simp only [ltR] at x0 x1 y0 y1 hlt'
        rcases hlt' with h1 | ⟨rfl, h2⟩
        · have g1 : decide (y < x) = false := decide_eq_false (by omega)
          have g2 : (y == x) = false := by rw [beq_eq_false_iff_ne]; omega
          have g3 : decide (y = x) = false := decide_eq_false (by omega)
          have g4 : ¬ y < x := by omega
          have g5 : ¬ y = x := by omega
          go_wp2_with fail
          go_quiet (fail)
          go_wp2_with fail
          go_roundw
          case rel => exact ⟨j + 1 + 1, by omega, by omega, by go_num, below_drewN hb _⟩
          case measure => simp [intOf]; omega
        · have g1 : decide (y' ≤ x') = false := decide_eq_false (by omega)
          have g4 : ¬ y' ≤ x' := by omega
          go_wp2_with fail
          go_quiet (fail)
          go_wp2_with fail
          go_roundw
          case rel => exact ⟨j + 1 + 1, by omega, by omega, by go_num, below_drewN hb _⟩
          case measure => simp [intOf]; omega
      · have b1 : ¬ ((k : Int) < (rs.length : Int)) := by omega
        go_wp2
        go_ret
        exact ⟨rfl, bt2 hbb5 hb⟩

end Go.Proofs.Ytnhkpigakbiddaa
