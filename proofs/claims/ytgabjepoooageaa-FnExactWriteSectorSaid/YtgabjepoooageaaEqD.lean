/-
  The statements' own comparison of two disks that are alike. Conditions: the sectors and the writes read as lists.
-/
import Derived.Test.YtgabjepoooageaaDrwD
import Derived.Test.YtgabjepoooageaaReadD
namespace Go.Proofs.Ytgabjepoooageaa
open Go.RowKit
set_option linter.unusedVariables false
set_option linter.unusedSimpArgs false

@[go_sem high] theorem run_neq_W (x y a b : Int) (W : World) : (binOp .neq 41 (.agg #[.int .i64 x, .int .i64 y]) (.agg #[.int .i64 a, .int .i64 b])).run Try.prog W = .ok (.bool (!(decide (x = a) && decide (y = b)))) W := by
  go_simp
  by_cases h1 : x = a <;> by_cases h2 : y = b <;> simp [h1, h2]

theorem eqlI (A B : Option Addr) (c d : Nat) (rs : List Int) (w : World) (hr : Rl encD 1 w A rs) (hq : Rl encD 1 w B rs) (hc : rs.length ≤ 1048576) :
    Calls Try.prog 32 #[.slice A rs.length c, .slice B rs.length d] w fun e w' => e = .returned (.bool true) ∧ Below w.heap.size w w' := by
  go_enter Try.func32, Try.ntmps32
  go_wp2
  go_loopw [5] (fun v wr => ∃ k : Nat, k ≤ rs.length ∧ v = .int .i64 k ∧ Below w.heap.size w wr) (fun v _ => rs.length - (intOf v).toNat)
  case atStart => exact ⟨0, by omega, rfl, Below.refl _ _⟩
  case round =>
    obtain ⟨k, hk, rfl, hb⟩ := hrel
    by_cases hlt : k < rs.length
    · obtain ⟨b, off, rfl, c0⟩ := (hr.below hb).num hlt
      obtain ⟨b', off', rfl, d0⟩ := (hq.below hb).num hlt
      generalize rs[k] = x at c0 d0
      have b1 : (k : Int) < (rs.length : Int) := by omega
      go_wp2_with fail
      go_quiet (fail)
      go_wp2_with fail
      go_roundw
      case rel => exact ⟨k + 1, by omega, by go_num, below_drewN hb _⟩
      case measure => simp [intOf]; omega
    · obtain rfl : k = rs.length := by omega
      go_wp2
      go_ret
      exact ⟨rfl, hb⟩
theorem eqlW (A B : Option Addr) (c d : Nat) (rs : List (Int × Int)) (w : World) (hr : Rl encW 2 w A rs) (hq : Rl encW 2 w B rs) (hc : rs.length ≤ 1048576) :
    Calls Try.prog 54 #[.slice A rs.length c, .slice B rs.length d] w fun e w' => e = .returned (.bool true) ∧ Below w.heap.size w w' := by
  go_enter Try.func54, Try.ntmps54
  go_wp2
  go_loopw [5] (fun v wr => ∃ k : Nat, k ≤ rs.length ∧ v = .int .i64 k ∧ Below w.heap.size w wr) (fun v _ => rs.length - (intOf v).toNat)
  case atStart => exact ⟨0, by omega, rfl, Below.refl _ _⟩
  case round =>
    obtain ⟨k, hk, rfl, hb⟩ := hrel
    by_cases hlt : k < rs.length
    · obtain ⟨b, off, rfl, c0, c1⟩ := (hr.below hb).wr hlt
      obtain ⟨b', off', rfl, d0, d1⟩ := (hq.below hb).wr hlt
      generalize rs[k] = x at c0 c1 d0 d1
      have b1 : (k : Int) < (rs.length : Int) := by omega
      go_wp2_with fail
      go_quiet (fail)
      go_wp2_with fail
      go_roundw
      case rel => exact ⟨k + 1, by omega, by go_num, below_drewN hb _⟩
      case measure => simp [intOf]; omega
    · obtain rfl : k = rs.length := by omega
      go_wp2
      go_ret
      exact ⟨rfl, hb⟩
set_option maxHeartbeats 1000000 in
theorem eqlD (A B A' B' : Option Addr) (c d c' d' : Nat) (xs : List Int) (ws : List (Int × Int)) (w : World) (hr : Rl encD 1 w A xs) (hq : Rl encW 2 w B ws) (hr' : Rl encD 1 w A' xs) (hq' : Rl encW 2 w B' ws) (hc : xs.length ≤ 1048576) (hd : ws.length ≤ 1048576) :
    Calls Try.prog 27 #[.agg #[.slice A xs.length c, .slice B ws.length d], .agg #[.slice A' xs.length c', .slice B' ws.length d']] w fun e w' => e = .returned (.bool true) ∧ Below w.heap.size w w' := by
  have hb0 : Below w.heap.size w ((w.alloc (.cells #[.slice A xs.length c, .slice B ws.length d] 30)).alloc (.cells #[.slice A' xs.length c', .slice B' ws.length d'] 30)) := by go_grown
  have kA := (Blk.new w 30 #[.slice A xs.length c, .slice B ws.length d]).alloc (.cells #[.slice A' xs.length c', .slice B' ws.length d'] 30)
  have kB := Blk.new (w.alloc (.cells #[.slice A xs.length c, .slice B ws.length d] 30)) 30 #[.slice A' xs.length c', .slice B' ws.length d']
  simp only [World.size_alloc] at kB
  go_enter Try.func27, Try.ntmps27
  go_wp2_with fail
  generalize (w.alloc (.cells #[.slice A xs.length c, .slice B ws.length d] 30)).alloc (.cells #[.slice A' xs.length c', .slice B' ws.length d'] 30) = w0 at hb0 kA kB
  refine (eqlI A A' c c' xs _ (hr.below hb0) (hr'.below hb0) hc).mono ?_
  rintro e w1 ⟨rfl, hb1⟩
  have hA1 : w1.cell? ⟨w.heap.size, 1, none⟩ = some (.slice B ws.length d) := (kA.below hb1).cell 1
  have hB1 : w1.cell? ⟨w.heap.size + 1, 1, none⟩ = some (.slice B' ws.length d') := (kB.below hb1).cell 1
  have hbb := bt hb0 hb1 hb0.size
  go_wp2_with fail
  refine (eqlW B B' d d' ws _ (hq.below hbb) (hq'.below hbb) hd).mono ?_
  rintro e w2 ⟨rfl, hb2⟩
  go_wp2_with fail
  go_ret
  exact ⟨rfl, bt hbb hb2 hbb.size⟩

theorem apk_in {xs : List Int} {ws : List (Int × Int)} {q : Nat} (h : vd xs ws = true) : ∀ k, k ≤ ws.length → ∀ y ∈ apk xs ws q k, 0 ≤ y ∧ y ≤ 999999 := by
  obtain ⟨_, _, _, hN, hW⟩ := vd_parts h
  intro k
  induction k with
  | zero =>
    intro _ y hy
    obtain ⟨i, hi, rfl⟩ := List.getElem_of_mem hy
    exact hN i hi
  | succ k ih =>
    intro hk y hy
    by_cases hb : q / 2 ^ k % 2 = 1
    · rw [apk_yes (by omega) hb] at hy
      rcases List.mem_or_eq_of_mem_set hy with hy | hy
      · exact ih (by omega) y hy
      · obtain ⟨t, _, _, h1, h2⟩ := hW k (by omega)
        rw [hy]
        exact ⟨h1, h2⟩
    · rw [apk_no hb] at hy
      exact ih (by omega) y hy
theorem sd_in {xs : List Int} {ws : List (Int × Int)} (h : vd xs ws = true) : ∀ y ∈ SD xs ws, 0 ≤ y ∧ y ≤ 999999 := by
  obtain ⟨_, _, l3, _, _⟩ := vd_parts h
  have hP := p2_le l3
  rw [SD_is (m := p2 ws.length - 1) (by omega) h]
  exact apk_in h _ (Nat.le_refl _)
theorem sd_vd {xs : List Int} {ws : List (Int × Int)} (h : vd xs ws = true) : vd (SD xs ws) [] = true := by
  have hl := SD_len h
  obtain ⟨l1, l2, _, _, _⟩ := vd_parts h
  refine vd_yes ⟨by omega, by omega, by simp⟩ (fun k hk => ?_) (fun k hk => absurd hk (by simp))
  exact rng_iff.2 (sd_in h _ (List.getElem_mem hk))
theorem cd_nil {xs : List Int} (h : vd xs [] = true) : CD xs [] 0 = xs := CD_yes (q := 0) h (by decide)
theorem sd_nil {xs : List Int} (h : vd xs [] = true) : SD xs [] = xs := CD_yes (q := 0) h (by decide)
theorem sd_self {xs : List Int} {ws : List (Int × Int)} : CD (SD xs ws) [] 0 = SD xs ws := by
  cases h : vd xs ws
  · rw [SD_bad h]
    rfl
  · exact cd_nil (sd_vd h)
theorem rd_ge {xs : List Int} {ws : List (Int × Int)} : decide (0 ≤ RD xs ws 0) = vd xs ws := by
  cases h : vd xs ws
  · rw [RD_bad h]
    rfl
  · obtain ⟨l1, _⟩ := vd_parts h
    obtain ⟨y, hy, hr⟩ := RD_yes h (k := 0) (by omega)
    rw [show RD xs ws 0 = y from hr]
    exact decide_eq_true (sd_in h y (List.mem_of_getElem? hy)).1

set_option maxHeartbeats 1000000 in
theorem validD_law (A : Option Addr) (c : Nat) (zs : List Int) (w : World) (h : Bytes w A c zs) :
    Calls Try.prog 4 #[.slice A zs.length c] w fun e w' => e = .returned (.bool true) ∧ Below w.heap.size w w' := by
  have hcap := h.cap
  have hmax := h.max
  by_cases hl : 1048576 < zs.length
  · go_enter Try.func4, Try.ntmps4
    go_wp2
    go_ret
    exact ⟨rfl, Below.refl _ _⟩
  · go_enter Try.func4, Try.ntmps4
    go_wp2_with fail
    refine (drawVD A c zs _ h).mono ?_
    rintro e w1 ⟨A, c, xs, Z, d, ws, rfl, hD, hb1⟩
    have hla := hD.la
    have hlb := hD.lb
    have hb2 : Below w1.heap.size w1 (w1.alloc (.cells #[.slice A xs.length c, .slice Z ws.length d] 30)) := (Below.refl _ _).alloc (Nat.le_refl _) _
    have k3 := Blk.new w1 30 #[.slice A xs.length c, .slice Z ws.length d]
    have c0 : (w1.alloc (.cells #[.slice A xs.length c, .slice Z ws.length d] 30)).cell? ⟨w1.heap.size, 0, none⟩ = some (.slice A xs.length c) := k3.cell 0
    have c1 : (w1.alloc (.cells #[.slice A xs.length c, .slice Z ws.length d] 30)).cell? ⟨w1.heap.size, 1, none⟩ = some (.slice Z ws.length d) := k3.cell 1
    have hD2 := hD.below hb2
    have hbb := bt2 hb1 hb2
    have hRD := hide (rd_ge (xs := xs) (ws := ws))
    clear hD hb1 hb2
    go_wp2_with fail
    generalize w1.alloc (.cells #[.slice A xs.length c, .slice Z ws.length d] 30) = w2 at k3 c0 c1 hD2 hbb
    refine (vdI A Z c d xs ws _ hD2.a.rl hD2.b.rl (by omega) (by omega)).mono ?_
    rintro e w3 ⟨rfl, hb3⟩
    have d0 := cell_on hb3 c0
    have d1 := cell_on hb3 c1
    have hD3 := hD2.below hb3
    go_wp2_with fail
    refine (VDS A Z c d xs ws _ hD3.a.rl hD3.b.rl (by omega) (by omega)).mono ?_
    rintro e w4 ⟨rfl, hb4⟩
    have e0 := cell_on hb4 d0
    have e1 := cell_on hb4 d1
    have hD4 := hD3.below hb4
    have n1 : (vd xs ws == vd xs ws) = true := beq_self_eq_true _
    go_wp2_with fail
    refine (rdI A Z c d xs ws 0 _ hD4.a.rl hD4.b.rl (by omega) (by omega) (by omega)).mono ?_
    rintro e w5 ⟨rfl, hb5⟩
    have hRD' := hRD.out
    generalize RD xs ws 0 = r at hRD' ⊢
    generalize vd xs ws = b at hRD' n1 ⊢
    have n2 : (b == decide (0 ≤ r)) = true := by rw [hRD']; exact beq_self_eq_true _
    clear hRD'
    go_wp2_with fail
    go_ret
    exact ⟨rfl, bt2 (bt2 (bt2 hbb hb3) hb4) hb5⟩

end Go.Proofs.Ytgabjepoooageaa
