/-
  The statements that granted locks go together and that later requests do not matter. Conditions: the argument reads as a list of bytes; the table of masks reads as it was laid.
-/
import Derived.Test.YtgcplfldfjpnpaaDoorReqD
namespace Go.Proofs.YtgcplfldfjpnpaaDoor
open Go.RowKit
set_option linter.unusedVariables false
set_option linter.unusedSimpArgs false

def Req1 (w : World) (e : Ending) (w' : World) : Prop :=
  ∃ A c rs, e = .returned (.slice A rs.length c) ∧ Lst encR 2 w.heap.size w' A c rs ∧ rs.length ≤ 8 ∧ Below w.heap.size w w'
theorem drawGL (A : Option Addr) (c : Nat) (zs : List Int) (w : World) (h : Bytes w A c zs) :
    Calls Tryd.prog 17 #[.slice A zs.length c] w (Req1 w) := by
  go_enter Tryd.func17, Tryd.ntmps17
  go_wp2_with fail
  refine (new_any A c zs _ h.rl h.rng h.cap h.max (fun b hz ha => h.blk b hz ha)).mono ?_
  rintro e w1 ⟨rfl, hr, hb⟩
  go_wp2_with fail
  refine (anyReq_any _ _ _ w1 hr (by omega)).mono ?_
  rintro e w2 ⟨A, c, rs, rfl, hL, hl, -, hr2, hg2⟩
  have hb2 : Below w.heap.size w w2 := below_of_grown hb hg2 (Nat.le_refl _) hb.size
  have hsz := hb.size
  go_wp2_with fail
  go_ret
  exact ⟨A, c, rs, rfl, hL.mono (by omega), hl, hb2⟩

/-! ### what the number of granted requests says -/
theorem gr_spec (rs : List (Int × Int)) : ∃ n : Nat, gr rs = n ∧ n ≤ rs.length ∧ (∀ t, t < n → okG rs t = true) ∧ (n < rs.length → okG rs n = false) := by
  unfold gr
  cases h : (List.range rs.length).find? (fun n => !okG rs n) with
  | none =>
    rw [List.find?_eq_none] at h
    exact ⟨rs.length, rfl, Nat.le_refl _, fun t ht => by simpa using h t (List.mem_range.2 ht), fun h => absurd h (by omega)⟩
  | some n =>
    rw [List.find?_range_eq_some] at h
    obtain ⟨h1, h2, h3⟩ := h
    have h2' : n < rs.length := by simpa using h2
    exact ⟨n, rfl, by omega, fun t ht => by simpa using h3 t ht, fun _ => by simpa using h1⟩
theorem gl_spec (rs : List (Int × Int)) : GL rs = -1 ∨ ∃ n : Nat, GL rs = n ∧ n ≤ rs.length ∧ (∀ t, t < n → okG rs t = true) ∧ (n < rs.length → okG rs n = false) := by
  unfold GL
  split
  · exact .inr (gr_spec rs)
  · exact .inl rfl
theorem ok_tog {rs : List (Int × Int)} {i k : Nat} (h : okG rs i = true) (hk : k < i) : tog (md rs i) (md rs k) = true := by
  rw [tog_comm]
  exact List.all_eq_true.1 h k (List.mem_range.2 hk)
theorem ok_zero (rs : List (Int × Int)) : okG rs 0 = true := rfl
/-- Whether one of the first k requests does not go with request n. -/
def stk (rs : List (Int × Int)) (n : Nat) : Nat → Bool
  | 0 => decide (n = rs.length)
  | k + 1 => stk rs n k || !tog (md rs n) (md rs k)
theorem stk_full {rs : List (Int × Int)} : ∀ k, stk rs rs.length k = true := by
  intro k
  induction k with
  | zero => exact decide_eq_true rfl
  | succ k ih => show (_ || _) = true; rw [ih]; rfl
theorem stk_some {rs : List (Int × Int)} {n j : Nat} (h : tog (md rs n) (md rs j) = false) : ∀ k, j < k → stk rs n k = true := by
  intro k
  induction k with
  | zero => intro h; omega
  | succ k ih =>
    intro hk
    show (_ || _) = true
    by_cases e : j = k
    · subst e
      rw [h]
      simp
    · rw [ih (by omega)]
      rfl
theorem stk_end {rs : List (Int × Int)} {n : Nat} (hn : n ≤ rs.length) (h : n < rs.length → okG rs n = false) : stk rs n n = true := by
  by_cases e : n = rs.length
  · rw [e]; exact stk_full _
  · have := h (by omega)
    unfold okG at this
    rw [List.all_eq_false] at this
    obtain ⟨j, hj, hf⟩ := this
    exact stk_some (j := j) (by rw [tog_comm]; simpa using hf) _ (List.mem_range.1 hj)

/-! ### requests in front -/
theorem md_take {rs : List (Int × Int)} {k t : Nat} (h : t < k) : md (rs.take k) t = md rs t := by
  unfold md
  rw [List.getD_eq_getElem?_getD, List.getD_eq_getElem?_getD, List.getElem?_take, if_pos h]
theorem okG_take {rs : List (Int × Int)} {k t : Nat} (h : t < k) : okG (rs.take k) t = okG rs t := by
  unfold okG
  rw [Bool.eq_iff_iff, List.all_eq_true, List.all_eq_true]
  refine forall_congr' fun j => forall_congr' fun hj => ?_
  rw [md_take (by have := List.mem_range.1 hj; omega), md_take h]

theorem vq_take {rs : List (Int × Int)} (h : vq rs = true) (k : Nat) : vq (rs.take k) = true := by
  unfold vq at h
  rw [Bool.and_eq_true, decide_eq_true_eq, List.all_eq_true] at h
  obtain ⟨h8, h⟩ := h
  rw [vq_yes, List.length_take, decide_eq_true_eq]
  · omega
  · intro t ht
    have ht' := ht
    rw [List.length_take] at ht'
    have hr : t < rs.length := by omega
    have h1 := h t (List.mem_range.2 hr)
    rw [okR_at hr, Bool.and_eq_true, Bool.and_eq_true] at h1
    obtain ⟨⟨a, b⟩, c⟩ := h1
    have e : (rs.take k)[t] = rs[t] := by simp
    rw [okR_at ht, fst_new ht, e, a, b]
    · rfl
    · intro j hj he
      have e2 : (rs.take k)[j]'(by omega) = rs[j]'(by omega) := by simp
      rw [e, e2] at he
      rw [fst_dup hj hr he] at c
      cases c
theorem gl_take {rs : List (Int × Int)} {n k : Nat} (hn : GL rs = n) (hk : k ≤ rs.length) : GL (rs.take k) = ((if n ≤ k then n else k : Nat) : Int) := by
  unfold GL at hn
  cases hv : vq rs
  · rw [hv] at hn
    simp at hn
  · rw [hv] at hn
    simp only [if_true] at hn
    obtain ⟨m, hm, hl, h1, h2⟩ := gr_spec rs
    obtain rfl : n = m := by omega
    unfold GL
    rw [vq_take hv, if_pos rfl]
    have hlen : (rs.take k).length = k := by rw [List.length_take]; omega
    by_cases e : n < k
    · rw [if_pos (by omega)]
      exact gr_at (by omega) (fun t ht => by rw [okG_take (by omega)]; exact h1 t ht) (by rw [okG_take e]; exact h2 (by omega))
    · rw [gr_end (fun t ht => by rw [okG_take (by omega)]; exact h1 t (by omega)), hlen]
      by_cases e2 : n = k
      · rw [if_pos (by omega), e2]
      · rw [if_neg (by omega)]
theorem run_min (a b c : Int) (h : c = if b < a then b else a) (t : Array TypeId) (ty : TypeId) (W : World) : (Builtin.min_ t ty #[.int .i64 a, .int .i64 b]).run Tryd.prog W = .ok (.int .i64 c) W := by
  subst h
  simp [Builtin.min_, Builtin.min2]

set_option maxHeartbeats 2000000 in
theorem prefix_law (A : Option Addr) (c : Nat) (zs : List Int) (w : World) (h : Bytes w A c zs) (hM : Masks w) :
    Calls Tryd.prog 9 #[.slice A zs.length c] w fun e w' => e = .returned (.bool true) ∧ Below w.heap.size w w' := by
  have hcap := h.cap
  have hmax := h.max
  by_cases hl : 1048576 < zs.length
  · go_enter Tryd.func9, Tryd.ntmps9
    go_wp2
    go_ret
    exact ⟨rfl, Below.refl _ _⟩
  · go_enter Tryd.func9, Tryd.ntmps9
    go_wp2_with fail
    refine (drawGL A c zs _ h).mono ?_
    rintro e w1 ⟨A, c, rs, rfl, hL, hl8, hb1⟩
    have hcp := hL.cap
    have hmx := hL.max
    have hS : Hid (∀ W, Rl encR 2 W A rs → Calls Tryd.prog 19 #[.slice A rs.length c] W fun e w' => e = .returned (.int .i64 (GL rs)) ∧ Below W.heap.size W w') := fun W h => glS A c rs W h (by omega)
    have hI : Hid (∀ W, Rl encR 2 W A rs → Masks W → Calls Tryd.prog 18 #[.slice A rs.length c] W fun e w' => e = .returned (.int .i64 (GL rs)) ∧ Below W.heap.size W w') := fun W h m => glI A c rs W h (by omega) hcp m
    have hT : Hid (∀ (n : Nat), GL rs = n → ∀ k : Nat, k ≤ rs.length → ∀ W, Rl encR 2 W A rs → Masks W → Calls Tryd.prog 18 #[.slice A k c] W fun e w' => e = .returned (.int .i64 ((if n ≤ k then n else k : Nat) : Int)) ∧ Below W.heap.size W w') := fun n hn k hk W h m => by
      have hlen : (rs.take k).length = k := by rw [List.length_take]; omega
      have := glI A c (rs.take k) W (h.take k) (by omega) (by omega) m
      rwa [hlen, gl_take hn hk] at this
    have hsp := gl_spec rs
    have hsp' := hide (gl_spec rs)
    clear hsp
    generalize GL rs = r at hS hI hT hsp'
    have n1 : (r != r) = false := by simp
    have n2 : (r == r) = true := by simp
    have hM1 := hM.below hb1
    go_wp2_with fail
    refine (hI.out _ hL.rl hM1).mono ?_
    rintro e w2 ⟨rfl, hb2⟩
    have hM2 := hM1.below hb2
    have hL2 := hL.below hb2
    have hbb := bt2 hb1 hb2
    go_wp2_with fail
    refine (hS.out _ hL2.rl).mono ?_
    rintro e w3 ⟨rfl, hb3⟩
    have hM3 := hM2.below hb3
    have hL3 := hL2.below hb3
    have hbb3 := bt2 hbb hb3
    clear hM1 hM2 hL hL2 hb1 hb2 hb3 hbb hI
    rcases hsp'.out with hr | ⟨n, rfl, hn, -, -⟩
    · have hr' : decide (r < 0) = true := decide_eq_true (by omega)
      clear hr
      go_wp2_with fail
      refine (hS.out _ hL3.rl).mono ?_
      rintro e w4 ⟨rfl, hb4⟩
      go_wp2_with fail
      go_ret
      exact ⟨rfl, bt2 hbb3 hb4⟩
    · have hr' : decide ((n : Int) < 0) = false := decide_eq_false (by omega)
      have hT' := hide (hT.out n rfl)
      clear hsp' hS hT
      go_wp2_with fail
      go_loopw [5] (fun v wr => ∃ k : Nat, k ≤ rs.length ∧ v = .int .i64 k ∧ Below w3.heap.size w3 wr) (fun v _ => rs.length - (intOf v).toNat)
      case atStart => exact ⟨0, by omega, rfl, Below.refl _ _⟩
      case round =>
        obtain ⟨k, hk, rfl, hb⟩ := hrel
        have hMr := hM3.below hb
        have hLr := hL3.below hb
        by_cases hlt : k < rs.length
        · have hki : (k : Int) < (rs.length : Int) := by omega
          have hkc : (k : Int) ≤ (c : Int) := by omega
          have hmin := hide (fun (t : Array TypeId) (ty : TypeId) (W : World) => run_min (n : Int) (k : Int) ((if n ≤ k then n else k : Nat) : Int) (by split <;> split <;> omega) t ty W)
          have hC := hide (hT'.out k hk)
          generalize ((if n ≤ k then n else k : Nat) : Int) = m at hmin hC
          have m1 : (m != m) = false := by simp
          go_wp2_with fail
          refine (hC.out _ hLr.rl hMr).mono ?_
          rintro e w4 ⟨rfl, hb4⟩
          have hmin' := hmin.out
          go_wp2_with fail
          go_roundw
          case rel => exact ⟨k + 1, by omega, by go_num, bt2 hb hb4⟩
          case measure => simp [intOf]; omega
        · obtain rfl : k = rs.length := by omega
          go_wp2_with fail
          go_ret
          exact ⟨rfl, bt2 hbb3 hb⟩

theorem okG_tog {rs : List (Int × Int)} {n : Nat} (h : ∀ t, t < n → okG rs t = true) : ∀ i k, i < n → k < i → tog (md rs i) (md rs k) = true := fun i k hi hk => ok_tog (h i hi) hk

set_option maxHeartbeats 4000000 in
theorem granted_law (A : Option Addr) (c : Nat) (zs : List Int) (w : World) (h : Bytes w A c zs) (hM : Masks w) :
    Calls Tryd.prog 8 #[.slice A zs.length c] w fun e w' => e = .returned (.bool true) ∧ Below w.heap.size w w' := by
  have hcap := h.cap
  have hmax := h.max
  by_cases hl : 1048576 < zs.length
  · go_enter Tryd.func8, Tryd.ntmps8
    go_wp2
    go_ret
    exact ⟨rfl, Below.refl _ _⟩
  · go_enter Tryd.func8, Tryd.ntmps8
    go_wp2_with fail
    refine (drawGL A c zs _ h).mono ?_
    rintro e w1 ⟨A, c, rs, rfl, hL, hl8, hb1⟩
    have hcp := hL.cap
    have hmx := hL.max
    have hS : Hid (∀ W, Rl encR 2 W A rs → Calls Tryd.prog 19 #[.slice A rs.length c] W fun e w' => e = .returned (.int .i64 (GL rs)) ∧ Below W.heap.size W w') := fun W h => glS A c rs W h (by omega)
    have hI : Hid (∀ W, Rl encR 2 W A rs → Masks W → Calls Tryd.prog 18 #[.slice A rs.length c] W fun e w' => e = .returned (.int .i64 (GL rs)) ∧ Below W.heap.size W w') := fun W h m => glI A c rs W h (by omega) hcp m
    have hsp := gl_spec rs
    have hsp' := hide (gl_spec rs)
    clear hsp
    generalize GL rs = r at hS hI hsp'
    have n1 : (r != r) = false := by simp
    have n2 : (r == r) = true := by simp
    have hM1 := hM.below hb1
    go_wp2_with fail
    refine (hI.out _ hL.rl hM1).mono ?_
    rintro e w2 ⟨rfl, hb2⟩
    have hM2 := hM1.below hb2
    have hL2 := hL.below hb2
    have hbb := bt2 hb1 hb2
    go_wp2_with fail
    refine (hS.out _ hL2.rl).mono ?_
    rintro e w3 ⟨rfl, hb3⟩
    have hM3 := hM2.below hb3
    have hL3 := hL2.below hb3
    have hbb3 := bt2 hbb hb3
    clear hM1 hM2 hL hL2 hb1 hb2 hb3 hbb hI
    rcases hsp'.out with hr | ⟨n, rfl, hn, hok, hend⟩
    · have hr' : decide (r < 0) = true := decide_eq_true (by omega)
      clear hr
      go_wp2_with fail
      refine (hS.out _ hL3.rl).mono ?_
      rintro e w4 ⟨rfl, hb4⟩
      go_wp2_with fail
      go_ret
      exact ⟨rfl, bt2 hbb3 hb4⟩
    · have hr' : decide ((n : Int) < 0) = false := decide_eq_false (by omega)
      have hr2 : decide ((rs.length : Int) < (n : Int)) = false := decide_eq_false (by omega)
      have hT := hide (okG_tog hok)
      have hE := hide (stk_end hn hend)
      have hpos : 0 < rs.length → 0 < n := fun h => by
        rcases Nat.eq_zero_or_pos n with e | e
        · subst e
          have := hend h
          rw [ok_zero] at this
          cases this
        · exact e
      have hpos' := hide hpos
      clear hsp' hS hok hend hpos
      go_wp2_with fail
      go_loopw [5] (fun v wr => ∃ i : Nat, i ≤ n ∧ v = .int .i64 i ∧ Below w3.heap.size w3 wr) (fun v _ => n - (intOf v).toNat)
      case atStart => exact ⟨0, by omega, rfl, Below.refl _ _⟩
      case round =>
        obtain ⟨i, hi, rfl, hb⟩ := hrel
        by_cases hlt : i < n
        · have hii : (i : Int) < (n : Int) := by omega
          have hir : (i : Int) < (rs.length : Int) := by omega
          go_wp2_with fail
          go_loopw [6] (fun v wr => ∃ k : Nat, k ≤ i ∧ v = .int .i64 k ∧ Below w3.heap.size w3 wr) (fun v _ => i - (intOf v).toNat)
          case atStart => exact ⟨0, by omega, rfl, hb⟩
          case round =>
            obtain ⟨k, hk, rfl, hb⟩ := hrel
            by_cases hlk : k < i
            · have hki : (k : Int) < (i : Int) := by omega
              have hkr : (k : Int) < (rs.length : Int) := by omega
              have hMr := hM3.below hb
              obtain ⟨b, off, hA, c0, c1⟩ := (hL3.below hb).rl.req (k := i) (by omega)
              obtain ⟨b', off', hA', d0, d1⟩ := (hL3.below hb).rl.req (k := k) (by omega)
              rw [hA] at hA'
              obtain ⟨rfl, rfl⟩ : b = b' ∧ off = off' := by simpa using hA'
              have ht := hide (hT.out i k hlt hlk)
              rw [← md_at (by omega), ← md_at (by omega)] at ht
              generalize rs[i] = x at c1 ht
              generalize rs[k] = y at d1 ht
              clear c0 d0 hA' hT
              subst hA
              have hC : ∀ q : Nat, Calls Tryd.prog 12 #[.int .i64 x.2, .int .i64 y.2] (wr.drewN q) fun e w' => e = .returned (.bool true) ∧ wr.drewN q = w' := fun q => by
                have := lt_any x.2 y.2 (wr.drewN q) (hMr.drewN q)
                rw [ht.out] at this
                exact this
              have hC' := hide hC
              clear hC
              go_wp2_with fail
              go_quiet ((go_at_call 12; exact quiet_same2 (hC'.out _)))
              go_wp2_with fail
              go_roundw
              case rel => exact ⟨k + 1, by omega, by go_num, below_drewN hb _⟩
              case measure => simp [intOf]; omega
            · obtain rfl : k = i := by omega
              go_wp2_with fail
              go_roundw
              case rel => exact ⟨k + 1, by omega, by go_num, hb⟩
              case measure => simp [intOf]; omega
        · obtain rfl : i = n := by omega
          clear hT hi hlt
          have hbq := hide hb
          by_cases hfull : i = rs.length
          · have hf1 : ((i : Int) == (rs.length : Int)) = true := by rw [hfull]; simp
            have hf2 : decide ((i : Int) < (rs.length : Int)) = false := decide_eq_false (by omega)
            have hf3 : decide (i < rs.length) = false := decide_eq_false (by omega)
            have hp := hpos'.out
            clear hE hbq
            by_cases hz : 0 < i
            · have hz1 : (0 : Int) < (i : Int) := by omega
              have hz2 : ((rs.length : Int) == 0) = false := by rw [beq_eq_false_iff_ne]; omega
              clear hfull hp
              go_wp2_with fail
              go_loop [7, 8] (fun u v => u = .bool true ∧ v = .int .i64 0) (fun _ _ => 0)
              case atStart => exact ⟨rfl, rfl⟩
              case round =>
                obtain ⟨rfl, rfl⟩ := hrel
                go_wp2_with fail
                go_ret
                exact ⟨rfl, bt2 hbb3 hb⟩
            · have hz1 : ¬ ((0 : Int) < (i : Int)) := by omega
              have hz2 : ((rs.length : Int) == 0) = true := by
                have : rs.length = 0 := by omega
                rw [this]
                rfl
              clear hfull hp
              go_wp2_with fail
              go_loop [7, 8] (fun u v => u = .bool true ∧ v = .int .i64 0) (fun _ _ => 0)
              case atStart => exact ⟨rfl, rfl⟩
              case round =>
                obtain ⟨rfl, rfl⟩ := hrel
                go_wp2_with fail
                go_ret
                exact ⟨rfl, bt2 hbb3 hb⟩
          · have hf1 : ((i : Int) == (rs.length : Int)) = false := by rw [beq_eq_false_iff_ne]; omega
            have hil : (i : Int) < (rs.length : Int) := by omega
            have hp0 : 0 < i := hpos'.out (by omega)
            have hp1 : (0 : Int) < (i : Int) := by omega
            have hS0 : Hid (stk rs i 0 = false) := decide_eq_false hfull
            have hz2 : ((rs.length : Int) == 0) = false := by rw [beq_eq_false_iff_ne]; omega
            clear hfull hbq
            go_wp2_with fail
            go_loopw [7, 8] (fun u v wr => ∃ k : Nat, k ≤ i ∧ v = .int .i64 k ∧ Below w3.heap.size w3 wr ∧ ∃ z : Bool, u = .bool z ∧ Hid (stk rs i k = z)) (fun _ v _ => i - (intOf v).toNat)
            case atStart => exact ⟨0, by omega, rfl, hb, _, rfl, hS0⟩
            case round =>
              obtain ⟨k, hk, rfl, hb, z, rfl, hz⟩ := hrel
              by_cases hlk : k < i
              · have hki : (k : Int) < (i : Int) := by omega
                have hkr : (k : Int) < (rs.length : Int) := by omega
                have HS : Hid (stk rs i (k + 1) = (stk rs i k || !tog (md rs i) (md rs k))) := rfl
                cases z
                · have hMr := hM3.below hb
                  obtain ⟨b, off, hA, c0, c1⟩ := (hL3.below hb).rl.req (k := i) (by omega)
                  obtain ⟨b', off', hA', d0, d1⟩ := (hL3.below hb).rl.req (k := k) (by omega)
                  rw [hA] at hA'
                  obtain ⟨rfl, rfl⟩ : b = b' ∧ off = off' := by simpa using hA'
                  rw [← md_at (k := i) (by omega), ← md_at (k := k) (by omega)] at HS
                  generalize rs[i]'(by omega) = x at c1 HS
                  generalize rs[k]'(by omega) = y at d1 HS
                  have H := hide (HS.out.trans (by rw [hz.out, Bool.false_or]) : stk rs i (k + 1) = !tog x.2 y.2)
                  have hC : ∀ q : Nat, Calls Tryd.prog 12 #[.int .i64 x.2, .int .i64 y.2] (wr.drewN q) fun e w' => e = .returned (.bool (tog x.2 y.2)) ∧ wr.drewN q = w' := fun q => lt_any x.2 y.2 (wr.drewN q) (hMr.drewN q)
                  have hC' := hide hC
                  clear hC c0 d0 hA' HS hz
                  subst hA
                  generalize tog x.2 y.2 = b2 at hC' H
                  go_wp2_with fail
                  go_quiet ((go_at_call 12; exact quiet_same2 (hC'.out _)))
                  go_wp2_with fail
                  go_roundw
                  case rel => exact ⟨k + 1, by omega, by go_num, below_drewN hb _, _, rfl, H⟩
                  case measure => simp [intOf]; omega
                · have H : Hid (stk rs i (k + 1) = true) := by
                    unfold Hid
                    rw [HS.out, hz.out]
                    rfl
                  clear HS hz
                  go_wp2_with fail
                  go_quiet (fail)
                  go_wp2_with fail
                  go_roundw
                  case rel => exact ⟨k + 1, by omega, by go_num, below_drewN hb _, _, rfl, H⟩
                  case measure => simp [intOf]; omega
              · obtain rfl : k = i := by omega
                obtain rfl : z = true := hz.out.symm.trans hE.out
                go_wp2_with fail
                go_ret
                exact ⟨rfl, bt2 hbb3 hb⟩

end Go.Proofs.YtgcplfldfjpnpaaDoor
