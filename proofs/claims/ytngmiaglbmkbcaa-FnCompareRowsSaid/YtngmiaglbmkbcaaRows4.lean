/-
  CompareRows of the reference, and rows copied, measured and compared as the exact statements do it. Conditions: the slices read as lists; texts are no longer than Go lets one be.
-/
import Derived.Test.YtngmiaglbmkbcaaRows3
import Derived.Deep.RegionHeld3
import Derived.Deep.DrawnRows
namespace Go.Proofs.Ytngmiaglbmkbcaa
open Go.RowKit
set_option linter.unusedVariables false
set_option linter.unusedSimpArgs false

theorem cmpI_ti (m n : Nat) : cmpI m n = ti (decide (n < m)) - ti (decide (m < n)) := by
  unfold cmpI ti
  by_cases h : (m : Int) < n
  · rw [if_pos h]
    simp [show m < n by omega, show ¬ (n < m) by omega]
  · rw [if_neg h]
    by_cases h2 : (n : Int) < m
    · rw [if_pos h2]
      simp [show n < m by omega, show ¬ (m < n) by omega]
    · rw [if_neg h2]
      simp [show ¬ (n < m) by omega, show ¬ (m < n) by omega]

set_option maxHeartbeats 2000000 in
theorem crs_any (A B : Option Addr) (c d : Nat) (xs ys : List Vl) (w : World) (ha : Rl encV 3 w A xs) (hb : Rl encV 3 w B ys) (la : xs.length ≤ 9223372036854775807) (lb : ys.length ≤ 9223372036854775807) :
    Calls Try.prog 41 #[.slice A xs.length c, .slice B ys.length d] w fun e w' => e = .returned (.int .i64 (crF cs xs ys)) ∧ Below w.heap.size w w' := by
  have T : ∀ b, ti b = 0 ∨ ti b = 1 := fun b => by cases b <;> simp [ti]
  have T1 := T (decide (ys.length < xs.length))
  have T2 := T (decide (xs.length < ys.length))
  have HC := hide (cmpI_ti xs.length ys.length)
  clear T
  go_enter Try.func41, Try.ntmps41
  go_wp2_with fail
  go_loopw [5] (fun v wr => ∃ k : Nat, k ≤ xs.length ∧ k ≤ ys.length ∧ v = .int .i64 k ∧ Below w.heap.size w wr ∧ Hid (∀ t (_ : t < k) (h1 : t < xs.length) (h2 : t < ys.length), cs xs[t] ys[t] = 0)) (fun v _ => xs.length - (intOf v).toNat)
  case atStart => exact ⟨0, by omega, by omega, rfl, Below.refl _ _, fun t ht => absurd ht (by omega)⟩
  case round =>
    obtain ⟨k, hk1, hk2, rfl, hbr, hno⟩ := hrel
    by_cases hla : k < xs.length
    · by_cases hlb : k < ys.length
      · clear T1 T2
        obtain ⟨b, off, rfl, c0, c1, c2⟩ := (ha.below hbr).val hla
        obtain ⟨b', off', rfl, d0, d1, d2⟩ := (hb.below hbr).val hlb
        have HX : Hid (cs xs[k] ys[k] ≠ 0 → crF cs xs ys = cs xs[k] ys[k]) := fun h => crF_at cs k xs ys hla hlb (fun t ht => hno.out t ht (by omega) (by omega)) h
        have HY : Hid (cs xs[k] ys[k] = 0 → ∀ t (_ : t < k + 1) (h1 : t < xs.length) (h2 : t < ys.length), cs xs[t] ys[t] = 0) := fun h t ht h1 h2 => by
          rcases Nat.lt_or_ge t k with h3 | h3
          · exact hno.out t h3 h1 h2
          · obtain rfl : t = k := by omega
            exact h
        generalize xs[k] = x at c0 c1 c2 HX HY
        generalize ys[k] = y at d0 d1 d2 HX HY
        have i1 : (k : Int) < (xs.length : Int) := by omega
        have i2 : (k : Int) < (ys.length : Int) := by omega
        go_wp2_with fail
        go_region_held3 (fun w' => w'.cell? ⟨b, off + k * 3, none⟩ = some (.int .i64 x.k) ∧ w'.cell? ⟨b, off + k * 3 + 1, none⟩ = some (.int .i64 x.n) ∧ w'.cell? ⟨b, off + k * 3 + 2, none⟩ = some (.string x.s) ∧
            w'.cell? ⟨b', off' + k * 3, none⟩ = some (.int .i64 y.k) ∧ w'.cell? ⟨b', off' + k * 3 + 1, none⟩ = some (.int .i64 y.n) ∧ w'.cell? ⟨b', off' + k * 3 + 2, none⟩ = some (.string y.s))
          (first | exact ⟨c0, c1, c2, d0, d1, d2⟩ | exact ⟨cell_on (of_drew hb3) c0, cell_on (of_drew hb3) c1, cell_on (of_drew hb3) c2, cell_on (of_drew hb3) d0, cell_on (of_drew hb3) d1, cell_on (of_drew hb3) d2⟩)
          (first | (go_at_call 34; refine (cs_any x y _).mono ?_; rintro e w3 ⟨rfl, hb3⟩))
        cases hz : (cs x y == 0)
        · have hz' : (cs x y != 0) = true := by simp [bne, hz]
          have HF := hide (HX.out (by simpa using hz))
          go_wp2_with fail
          go_ret
          exact ⟨ret_int (by rw [HF.out]), bt hbr (of_drew hb3) hbr.size⟩
        · have hz' : (cs x y != 0) = false := by simp [bne, hz]
          have HF := hide (HY.out (by simpa using hz))
          go_wp2_with fail
          go_roundw
          case rel => exact ⟨k + 1, by omega, by omega, by go_num, bt hbr (of_drew hb3) hbr.size, HF.out⟩
          case measure => simp [intOf]; omega
      · have HF := hide (crF_end cs xs ys (fun t h1 h2 => hno.out t (by omega) h1 h2))
        go_wp2_with (go_at_call 30; refine (ti_any _ _).mono ?_; rintro e w' ⟨rfl, rfl⟩)
        go_ret
        refine ⟨ret_int ?_, hbr⟩
        rw [HF.out, HC.out]
        try simp only [Int.ofNat_lt]
        try (unfold wrap64; omega)
    · have HF := hide (crF_end cs xs ys (fun t h1 h2 => hno.out t (by omega) h1 h2))
      go_wp2_with (go_at_call 30; refine (ti_any _ _).mono ?_; rintro e w' ⟨rfl, rfl⟩)
      go_ret
      refine ⟨ret_int ?_, hbr⟩
      rw [HF.out, HC.out]
      try simp only [Int.ofNat_lt]
      try (unfold wrap64; omega)

theorem crS (A B : Option Addr) (c d : Nat) (xs ys : List Vl) (w : World) (ha : Rl encV 3 w A xs) (hb : Rl encV 3 w B ys) (fa : Fit xs) (fb : Fit ys) (la : xs.length ≤ 9223372036854775807) (lb : ys.length ≤ 9223372036854775807) :
    Calls Try.prog 24 #[.slice A xs.length c, .slice B ys.length d] w fun e w' => e = .returned (.int .i64 (CR xs ys)) ∧ Below w.heap.size w w' := by
  cases va : vrB xs
  · have H := hide (show CR xs ys = 2 by simp [CR, va])
    go_enter Try.func24, Try.ntmps24
    go_wp2_with fail
    refine (vrS A c xs _ ha fa la).mono ?_
    rintro e w1 ⟨rfl, hb1⟩
    rw [va]
    go_wp2_with fail
    go_ret
    exact ⟨ret_int H.out.symm, hb1⟩
  · cases vb : vrB ys
    · have H := hide (show CR xs ys = 2 by simp [CR, vb])
      go_enter Try.func24, Try.ntmps24
      go_wp2_with fail
      refine (vrS A c xs _ ha fa la).mono ?_
      rintro e w1 ⟨rfl, hb1⟩
      rw [va]
      go_wp2_with fail
      refine (vrS B d ys _ (hb.below hb1) fb lb).mono ?_
      rintro e w2 ⟨rfl, hb2⟩
      rw [vb]
      go_wp2_with fail
      go_ret
      exact ⟨ret_int H.out.symm, bt2 hb1 hb2⟩
    · have H := hide (CR_spec va vb)
      go_enter Try.func24, Try.ntmps24
      go_wp2_with fail
      refine (vrS A c xs _ ha fa la).mono ?_
      rintro e w1 ⟨rfl, hb1⟩
      rw [va]
      go_wp2_with fail
      refine (vrS B d ys _ (hb.below hb1) fb lb).mono ?_
      rintro e w2 ⟨rfl, hb2⟩
      rw [vb]
      have hb2' := bt2 hb1 hb2
      clear hb1 hb2
      go_wp2_with fail
      refine (crs_any A B c d xs ys _ (ha.below hb2') (hb.below hb2') la lb).mono ?_
      rintro e w3 ⟨rfl, hb3⟩
      go_wp2_with fail
      go_ret
      exact ⟨ret_int H.out.symm, bt2 hb2' hb3⟩

def szs (vs : List Vl) (k : Nat) : Nat := ((vs.take k).map fun v => v.s.size).sum
theorem szs_step {vs : List Vl} {k : Nat} (hk : k < vs.length) : szs vs (k + 1) = szs vs k + vs[k].s.size := by
  unfold szs
  rw [List.take_add_one, List.getElem?_eq_getElem hk, List.map_append, List.sum_append]
  rfl
theorem szs_mono {vs : List Vl} {k : Nat} (hk : k ≤ vs.length) : szs vs k ≤ szs vs vs.length := by
  induction hn : vs.length - k generalizing k with
  | zero => rw [show k = vs.length by omega]; exact Nat.le_refl _
  | succ n ih =>
    have h1 := ih (k := k + 1) (by omega) (by omega)
    have h2 := szs_step (vs := vs) (k := k) (by omega)
    omega
def tot (vs : List Vl) : Nat := vs.length + szs vs vs.length
def szR (left : Int) (vs : List Vl) : Int := if (tot vs : Int) ≤ left then left - tot vs else -1

set_option maxHeartbeats 1000000 in
theorem szVs (A : Option Addr) (c : Nat) (vs : List Vl) (left : Int) (w : World) (hr : Rl encV 3 w A vs) (hf : Fit vs) (h0 : 0 ≤ left) (h1 : left ≤ 1048576) (hn : vs.length ≤ 9223372036854775807) :
    Calls Try.prog 23 #[.slice A vs.length c, .int .i64 left] w fun e w' => e = .returned (.int .i64 (szR left vs)) ∧ Below w.heap.size w w' := by
  by_cases hl : (vs.length : Int) ≤ left
  · have hl' : ¬ (left - (vs.length : Int) < 0) := by omega
    go_enter Try.func23, Try.ntmps23
    go_wp2_with fail
    go_loopw [1, 5] (fun l v wr => ∃ (k t : Nat), k ≤ vs.length ∧ v = .int .i64 k ∧ Below w.heap.size w wr ∧ (t : Int) ≤ left - vs.length ∧ l = .int .i64 (left - vs.length - t) ∧ Hid (szs vs k = t)) (fun _ v _ => vs.length - (intOf v).toNat)
    case atStart => exact ⟨0, 0, by omega, rfl, Below.refl _ _, by omega, by simp, rfl⟩
    case round =>
      obtain ⟨k, t, hk, rfl, hb, ht, rfl, hs⟩ := hrel
      by_cases hlt : k < vs.length
      · obtain ⟨b, off, rfl, c0, c1, c2⟩ := (hr.below hb).val hlt
        have hz := hf.at hlt
        have HS := hide (szs_step hlt)
        have HT := hide (szs_mono (vs := vs) (k := k + 1) (by omega))
        generalize vs[k] = x at c0 c1 c2 hz HS
        by_cases hx : (x.s.size : Int) ≤ left - vs.length - t
        · have hx' : ¬ (left - (vs.length : Int) - (t : Int) - (x.s.size : Int) < 0) := by omega
          go_wp2_with fail
          refine (szV x _ _ hz (by omega) (by omega)).mono ?_
          rintro e w1 ⟨rfl, hb1⟩
          rw [if_pos hx]
          go_wp2_with fail
          go_roundw
          case rel => exact ⟨k + 1, t + x.s.size, by omega, by go_num, bt hb hb1 hb.size, by omega, by rw [Value.int.injEq]; exact ⟨rfl, by omega⟩, by have := hs.out; have := HS.out; unfold Hid; omega⟩
          case measure => simp [intOf]; omega
        · go_wp2_with fail
          refine (szV x _ _ hz (by omega) (by omega)).mono ?_
          rintro e w1 ⟨rfl, hb1⟩
          rw [if_neg (by omega)]
          go_wp2_with fail
          go_ret
          refine ⟨ret_int ?_, bt hb hb1 hb.size⟩
          have := hs.out; have := HS.out; have := HT.out
          unfold szR tot
          rw [if_neg (by omega)]
      · obtain rfl : k = vs.length := by omega
        go_wp2
        go_ret
        refine ⟨ret_int ?_, hb⟩
        have := hs.out
        unfold szR tot
        rw [if_pos (by omega)]
        omega
  · have hl' : left - (vs.length : Int) < 0 := by omega
    go_enter Try.func23, Try.ntmps23
    go_wp2
    go_ret
    refine ⟨ret_int ?_, Below.refl _ _⟩
    unfold szR tot
    rw [if_neg (by omega)]

theorem infoV : (Try.prog.info? 28).map (fun i => (i.zero, i.size, i.bytes)) = some (some (.agg #[.int .i64 0, .int .i64 0, .string ByteArray.empty]), 3, 32) := by kernel_rfl

def Made {α : Type} (enc : α → List Value) (size : Nat) (xs : List α) (w : World) (e : Ending) (w' : World) : Prop :=
  ∃ g, e = .returned (.slice (some ⟨g, 0, none⟩) xs.length xs.length) ∧ Rl enc size w' (some ⟨g, 0, none⟩) xs ∧ Below w.heap.size w w' ∧ w.heap.size ≤ g

set_option maxHeartbeats 1000000 in
theorem toVs (A : Option Addr) (c : Nat) (rs : List Vl) (w : World) (hr : Rl encV 3 w A rs) (hc : rs.length ≤ 1048576) :
    Calls Try.prog 25 #[.slice A rs.length c] w (Made encV 3 rs w) := by
  obtain ⟨i0, hi, hz0, hz1, hz2⟩ := info_parts infoV
  have hmk := fun W => mk_rows (P := Try.prog) 38 28 i0 _ 3 32 Try.underlying38 hi hz0 hz1 hz2 rs.length (by omega) (by omega) W
  clear hi hz0 hz1 hz2
  go_enter Try.func25, Try.ntmps25
  go_wp2
  have hb0 : Below w.heap.size w (w.alloc (.cells (madeCells #[.int .i64 0, .int .i64 0, .string ByteArray.empty] (rs.length * 3)) 28)) := by go_grown
  have hf0 : Fil w.heap.size 28 (rs.length * 3) 0 (rs.flatMap encV) (w.alloc (.cells (madeCells #[.int .i64 0, .int .i64 0, .string ByteArray.empty] (rs.length * 3)) 28)) := Fil.new rfl
  clear hmk
  go_loopw [4] (fun v wr => ∃ k : Nat, k ≤ rs.length ∧ v = .int .i64 k ∧ Below w.heap.size w wr ∧ Fil w.heap.size 28 (rs.length * 3) (k * 3) (rs.flatMap encV) wr) (fun v _ => rs.length - (intOf v).toNat)
  case atStart => exact ⟨0, by omega, rfl, hb0, hf0⟩
  case round =>
    obtain ⟨k, hk, rfl, hb, hf⟩ := hrel
    clear hb0 hf0
    by_cases hlt : k < rs.length
    · obtain ⟨b, off, rfl, c0, c1, c2⟩ := (hr.below hb).val hlt
      have e0 := hide (flat_at (xs := rs) encV_len hlt (j := 0) (u := .int .i64 rs[k].k) rfl)
      have e1 := hide (flat_at (xs := rs) encV_len hlt (j := 1) (u := .int .i64 rs[k].n) rfl)
      have e2 := hide (flat_at (xs := rs) encV_len hlt (j := 2) (u := .string rs[k].s) rfl)
      generalize rs[k] = x at c0 c1 c2 e0 e1 e2
      go_wp2_with fail
      refine (toV x _).mono ?_
      rintro e w2 ⟨rfl, hb2⟩
      have hf2 := hf.below hb2
      obtain ⟨⟨u0, q0⟩, f0⟩ := hf2.cell (p := k * 3) (by omega)
      obtain ⟨⟨u1, q1⟩, f1⟩ := hf2.cell (p := k * 3 + 1) (by omega)
      obtain ⟨⟨u2, q2⟩, f2⟩ := hf2.cell (p := k * 3 + 2) (by omega)
      go_wp2_with fail
      go_roundw
      case rel =>
        refine ⟨k + 1, by omega, by go_num, (((bt hb hb2 hb.size).setCell (Nat.le_refl _) _).setCell (Nat.le_refl _) _).setCell (Nat.le_refl _) _, ?_⟩
        have := ((hf2.step (by omega) e0.out).step (by omega) e1.out).step (by omega) e2.out
        rw [show (k + 1) * 3 = k * 3 + 1 + 1 + 1 by omega]
        exact this
      case measure => simp [intOf]; omega
    · obtain rfl : k = rs.length := by omega
      go_wp2
      go_ret
      exact ⟨w.heap.size, rfl, hf.all encV_len rfl, hb, Nat.le_refl _⟩

theorem eqV_same (x : Vl) (w : World) :
    Calls Try.prog 44 #[.agg #[.int .i64 x.k, .int .i64 x.n, .string x.s], .agg #[.int .i64 x.k, .int .i64 x.n, .string x.s]] w fun e w' => e = .returned (.bool true) ∧ Below w.heap.size w w' := by
  have n1 : (x.k != x.k) = false := by simp
  have n2 : (x.n != x.n) = false := by simp
  have n3 : (x.s.toList != x.s.toList) = false := by rw [bne, beq_self_eq_true]; rfl
  go_enter Try.func44, Try.ntmps44
  go_wp2
  go_ret
  exact ⟨rfl, by go_grown⟩

theorem eqVs (A B : Option Addr) (c d : Nat) (rs : List Vl) (w : World) (hr : Rl encV 3 w A rs) (hq : Rl encV 3 w B rs) (hc : rs.length ≤ 1048576) :
    Calls Try.prog 27 #[.slice A rs.length c, .slice B rs.length d] w fun e w' => e = .returned (.bool true) ∧ Below w.heap.size w w' := by
  go_enter Try.func27, Try.ntmps27
  go_wp2
  go_loopw [5] (fun v wr => ∃ k : Nat, k ≤ rs.length ∧ v = .int .i64 k ∧ Below w.heap.size w wr) (fun v _ => rs.length - (intOf v).toNat)
  case atStart => exact ⟨0, by omega, rfl, Below.refl _ _⟩
  case round =>
    obtain ⟨k, hk, rfl, hb⟩ := hrel
    by_cases hlt : k < rs.length
    · obtain ⟨b, off, rfl, c0, c1, c2⟩ := (hr.below hb).val hlt
      obtain ⟨b', off', rfl, d0, d1, d2⟩ := (hq.below hb).val hlt
      generalize rs[k] = x at c0 c1 c2 d0 d1 d2
      have b1 : (k : Int) < (rs.length : Int) := by omega
      go_wp2_with fail
      go_region_held3 (fun w' => w'.cell? ⟨b, off + k * 3, none⟩ = some (.int .i64 x.k) ∧ w'.cell? ⟨b, off + k * 3 + 1, none⟩ = some (.int .i64 x.n) ∧ w'.cell? ⟨b, off + k * 3 + 2, none⟩ = some (.string x.s) ∧
          w'.cell? ⟨b', off' + k * 3, none⟩ = some (.int .i64 x.k) ∧ w'.cell? ⟨b', off' + k * 3 + 1, none⟩ = some (.int .i64 x.n) ∧ w'.cell? ⟨b', off' + k * 3 + 2, none⟩ = some (.string x.s))
        (first | exact ⟨c0, c1, c2, d0, d1, d2⟩ | exact ⟨cell_on (of_drew hb3) c0, cell_on (of_drew hb3) c1, cell_on (of_drew hb3) c2, cell_on (of_drew hb3) d0, cell_on (of_drew hb3) d1, cell_on (of_drew hb3) d2⟩)
        (first | (go_at_call 44; refine (eqV_same x _).mono ?_; rintro e w3 ⟨rfl, hb3⟩))
      go_wp2_with fail
      go_roundw
      case rel => exact ⟨k + 1, by omega, by go_num, bt hb (of_drew hb3) hb.size⟩
      case measure => simp [intOf]; omega
    · obtain rfl : k = rs.length := by omega
      go_wp2
      go_ret
      exact ⟨rfl, hb⟩

theorem szR_ok {left : Int} {vs : List Vl} (h0 : 0 ≤ left) (h : 0 ≤ szR left vs) : vs.length ≤ left ∧ szR left vs ≤ left := by
  unfold szR tot at *
  split at h <;> rename_i h1
  · rw [if_pos h1]; omega
  · omega
theorem szR_lo (left : Int) (vs : List Vl) : -1 ≤ szR left vs := by
  unfold szR
  split <;> omega

set_option maxHeartbeats 1000000 in
theorem exactRows_walk (A : Option Addr) (c : Nat) (xs : List Vl) (B : Option Addr) (d : Nat) (ys : List Vl) (w : World) (ha : Rl encV 3 w A xs) (fa : ∀ x ∈ xs, x.s.size ≤ 9223372036854775807) (ca : xs.length ≤ c) (ma : c ≤ 9223372036854775807)
    (hb : Rl encV 3 w B ys) (fb : ∀ x ∈ ys, x.s.size ≤ 9223372036854775807) (cb : ys.length ≤ d) (mb : d ≤ 9223372036854775807) :
    Calls Try.prog 10 #[.slice A xs.length c, .slice B ys.length d] w fun e w' => e = .returned (.bool true) ∧ Below w.heap.size w w' := by
  have S1 := szR_lo 1048576 xs
  have hok := hide (szR_ok (left := 1048576) (vs := xs) (by omega))
  generalize hs1 : szR 1048576 xs = s1 at S1 hok
  have S2 := szR_lo s1 ys
  have hok2 := hide (fun h0 => szR_ok (left := s1) (vs := ys) h0)
  generalize hs2 : szR s1 ys = s2 at S2 hok2
  have hs1' := hide hs1
  have hs2' := hide hs2
  clear hs1 hs2
  go_enter Try.func10, Try.ntmps10
  go_wp2_with fail
  refine (szVs A c xs _ _ ha fa (by omega) (by omega) (by omega)).mono ?_
  rintro e w1 ⟨rfl, hb1⟩
  rw [hs1'.out]
  by_cases h1 : s1 < 0
  · go_wp2_with fail
    go_ret
    exact ⟨rfl, hb1⟩
  · have q1 := hok.out (by omega)
    go_wp2_with fail
    refine (szVs B d ys _ _ (hb.below hb1) fb (by omega) (by omega) (by omega)).mono ?_
    rintro e w2 ⟨rfl, hb2⟩
    have hb2' := bt2 hb1 hb2
    clear hb1 hb2
    rw [hs2'.out]
    by_cases h2 : s2 < 0
    · go_wp2_with fail
      go_ret
      exact ⟨rfl, hb2'⟩
    · have q2 := hok2.out (by omega) (by omega)
      have lx : xs.length ≤ 1048576 := by omega
      have ly : ys.length ≤ 1048576 := by omega
      go_wp2_with fail
      refine (toVs A c xs _ (ha.below hb2') lx).mono ?_
      rintro e w3 ⟨g3, rfl, r3, hb3, z3⟩
      have hb3' := bt2 hb2' hb3
      go_wp2_with fail
      refine (toVs B d ys _ (hb.below hb3') ly).mono ?_
      rintro e w4 ⟨g4, rfl, r4, hb4, z4⟩
      have hb4' := bt2 hb3' hb4
      go_wp2_with fail
      refine (crS _ _ _ _ xs ys _ (r3.below hb4) r4 fa fb (by omega) (by omega)).mono ?_
      rintro e w5 ⟨rfl, hb5⟩
      have hb5' := bt2 hb4' hb5
      clear hb2' hb3 hb3' hb4 hb4' hb5 r3 r4
      go_wp2_with fail
      refine (toVs A c xs _ (ha.below hb5') lx).mono ?_
      rintro e w6 ⟨g6, rfl, r6, hb6, z6⟩
      have hb6' := bt2 hb5' hb6
      go_wp2_with fail
      refine (toVs B d ys _ (hb.below hb6') ly).mono ?_
      rintro e w7 ⟨g7, rfl, r7, hb7, z7⟩
      have hb7' := bt2 hb6' hb7
      have r6' := r6.below hb7
      go_wp2_with fail
      refine (crI _ _ _ _ xs ys _ r6' r7 fa fb (by omega) (by omega)).mono ?_
      rintro e w8 ⟨rfl, hb8⟩
      have hb8' := bt2 hb7' hb8
      have r6'' := r6'.below hb8
      have r7' := r7.below hb8
      clear r6 r6' r7 hb5' hb6' hb7' hb6 hb7 hb8
      go_wp2_with fail
      refine (toVs A c xs _ (ha.below hb8') lx).mono ?_
      rintro e w9 ⟨g9, rfl, r9, hb9, z9⟩
      have hb9' := bt2 hb8' hb9
      go_wp2_with fail
      refine (eqVs _ _ _ _ xs _ (r6''.below hb9) r9 lx).mono ?_
      rintro e w10 ⟨rfl, hb10⟩
      have hb10' := bt2 hb9' hb10
      have r7'' := (r7'.below hb9).below hb10
      clear r6'' r9 r7' hb8' hb9 hb9' hb10
      go_wp2_with fail
      refine (toVs B d ys _ (hb.below hb10') ly).mono ?_
      rintro e w11 ⟨g11, rfl, r11, hb11, z11⟩
      have hb11' := bt2 hb10' hb11
      go_wp2_with fail
      refine (eqVs _ _ _ _ ys _ (r7''.below hb11) r11 ly).mono ?_
      rintro e w12 ⟨rfl, hb12⟩
      go_wp2_with fail
      go_ret
      exact ⟨rfl, bt2 hb11' hb12⟩

end Go.Proofs.Ytngmiaglbmkbcaa
