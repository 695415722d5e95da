/-
  Heaps: a list of pages in memory; their size; ValidHeap of the program and of the reference answer. Conditions: the pages read as a list, and the slots of each.
-/
import Derived.Test.YtnhkpigakbiddaaPagG
namespace Go.Proofs.Ytnhkpigakbiddaa
open Go.RowKit
set_option linter.unusedVariables false
set_option linter.unusedSimpArgs false

structure Pg where
  A : Option Addr
  c : Nat
  xs : List Sl
instance : Inhabited Pg := ⟨⟨none, 0, []⟩⟩
def encG (p : Pg) : List Value := [.slice p.A p.xs.length p.c]
theorem encG_len (p : Pg) : (encG p).length = 1 := rfl
/-- The pages of a heap: the row of pages, and the slots of each. -/
def Hp (w : World) (A : Option Addr) (ps : List Pg) : Prop := Rl encG 1 w A ps ∧ ∀ p ∈ ps, Rl encP 2 w p.A p.xs
section
variable {w w' : World} {A : Option Addr} {ps : List Pg}
theorem Hp.below (h : Hp w A ps) (hb : Below w.heap.size w w') : Hp w' A ps := ⟨h.1.below hb, fun p hp => (h.2 p hp).below hb⟩
theorem Hp.alloc (h : Hp w A ps) (o : Obj) : Hp (w.alloc o) A ps := h.below ((Below.refl _ _).alloc (Nat.le_refl _) o)
theorem Hp.drew (h : Hp w A ps) : Hp w.drew A ps := h
theorem Hp.page (h : Hp w A ps) {k : Nat} (hk : k < ps.length) : ∃ b off, A = some ⟨b, off, none⟩ ∧ w.cell? ⟨b, off + k, none⟩ = some (.slice ps[k].A ps[k].xs.length ps[k].c) ∧ Rl encP 2 w ps[k].A ps[k].xs := by
  obtain ⟨b, off, rfl, hc⟩ := h.1.at hk
  have := hc 0 _ rfl
  rw [Nat.mul_one, Nat.add_zero] at this
  exact ⟨b, off, rfl, this, h.2 _ (List.getElem_mem hk)⟩
end
def tG (ps : List Pg) (k : Nat) : Nat := ((ps.take k).map fun p => totP p.xs).sum
theorem tG_step {ps : List Pg} {k : Nat} (hk : k < ps.length) : tG ps (k + 1) = tG ps k + totP ps[k].xs := by
  unfold tG
  rw [List.take_add_one, List.getElem?_eq_getElem hk, List.map_append, List.sum_append]
  rfl
theorem tG_mono {ps : List Pg} {k : Nat} (hk : k ≤ ps.length) : tG ps k ≤ tG ps ps.length := by
  induction hn : ps.length - k generalizing k with
  | zero => rw [show k = ps.length by omega]; exact Nat.le_refl _
  | succ n ih =>
    have h1 := ih (k := k + 1) (by omega) (by omega)
    have h2 := tG_step (ps := ps) (k := k) (by omega)
    omega
theorem tG_le {ps : List Pg} {k : Nat} (hk : k < ps.length) : totP ps[k].xs ≤ tG ps ps.length := by
  have h1 := tG_mono (ps := ps) (k := k + 1) (by omega)
  have h2 := tG_step (ps := ps) (k := k) (by omega)
  omega
def szG (left : Int) (ps : List Pg) : Int := if (ps.length : Int) + tG ps ps.length ≤ left then left - ps.length - tG ps ps.length else -1
theorem szG_ok {left : Int} {ps : List Pg} (h : 0 ≤ szG left ps) : (ps.length : Int) + tG ps ps.length ≤ left := by
  unfold szG at h
  split at h <;> omega
theorem szG_lo (left : Int) (ps : List Pg) : -1 ≤ szG left ps := by
  unfold szG
  split <;> omega
/-- The pages of a heap are small enough for the walks. -/
def Small (ps : List Pg) : Prop := ps.length ≤ 1048576 ∧ ∀ p ∈ ps, p.xs.length ≤ 1048576 ∧ szs p.xs p.xs.length ≤ 1073741824
theorem small_of {ps : List Pg} (h : (ps.length : Int) + tG ps ps.length ≤ 1048576) : Small ps := by
  refine ⟨by omega, fun p hp => ?_⟩
  obtain ⟨k, hk, rfl⟩ := List.getElem_of_mem hp
  have := tG_le hk
  unfold totP at this
  omega
def FitG (ps : List Pg) : Prop := ∀ p ∈ ps, FitP p.xs ∧ p.xs.length ≤ 9223372036854775807

set_option maxHeartbeats 1000000 in
theorem szPs (A : Option Addr) (c : Nat) (ps : List Pg) (left : Int) (w : World) (hr : Hp w A ps) (hf : FitG ps) (h0 : 0 ≤ left) (h1 : left ≤ 1048576) (hn : ps.length ≤ 9223372036854775807) :
    Calls Try.prog 56 #[.slice A ps.length c, .int .i64 left] w fun e w' => e = .returned (.int .i64 (szG left ps)) ∧ Below w.heap.size w w' := by
  by_cases hl : (ps.length : Int) ≤ left
  · have hl' : ¬ (left - (ps.length : Int) < 0) := by omega
    go_enter Try.func56, Try.ntmps56
    go_wp2_with fail
    go_loopw [1, 5] (fun l v wr => ∃ (k t : Nat), k ≤ ps.length ∧ v = .int .i64 k ∧ Below w.heap.size w wr ∧ (t : Int) ≤ left - ps.length ∧ l = .int .i64 (left - ps.length - t) ∧ Hid (tG ps k = t)) (fun _ v _ => ps.length - (intOf v).toNat)
    case atStart => exact ⟨0, 0, by omega, rfl, Below.refl _ _, by omega, by simp, rfl⟩
    case round =>
      obtain ⟨k, t, hk, rfl, hb, ht, rfl, hs⟩ := hrel
      by_cases hlt : k < ps.length
      · obtain ⟨b, off, rfl, c0, r0⟩ := (hr.below hb).page hlt
        have hz := hf _ (List.getElem_mem hlt)
        have HS := hide (tG_step hlt)
        have HT := hide (tG_mono (ps := ps) (k := k + 1) (by omega))
        have hi : (k : Int) < (ps.length : Int) := by omega
        generalize ps[k] = x at c0 r0 hz HS
        by_cases hx : (totP x.xs : Int) ≤ left - ps.length - t
        · have hx' : ¬ (left - (ps.length : Int) - (t : Int) - (totP x.xs : Int) < 0) := by omega
          have HZ := hide (show szP (left - (ps.length : Int) - (t : Int)) x.xs = left - (ps.length : Int) - (t : Int) - (totP x.xs : Int) by unfold szP; rw [if_pos hx])
          go_wp2_with fail
          refine (szPg _ _ x.xs _ _ r0 hz.1 (by omega) (by omega) hz.2).mono ?_
          rintro e w1 ⟨rfl, hb1⟩
          rw [HZ.out]
          go_wp2_with fail
          go_roundw
          case rel => exact ⟨k + 1, t + totP x.xs, by omega, by go_num, bt hb hb1 hb.size, by omega, by rw [Value.int.injEq]; exact ⟨rfl, by omega⟩, by have := hs.out; have := HS.out; unfold Hid; omega⟩
          case measure => simp [intOf]; omega
        · have HZ := hide (show szP (left - (ps.length : Int) - (t : Int)) x.xs = -1 by unfold szP; rw [if_neg hx])
          go_wp2_with fail
          refine (szPg _ _ x.xs _ _ r0 hz.1 (by omega) (by omega) hz.2).mono ?_
          rintro e w1 ⟨rfl, hb1⟩
          rw [HZ.out]
          go_wp2_with fail
          go_ret
          refine ⟨ret_int ?_, bt hb hb1 hb.size⟩
          have := hs.out; have := HS.out; have := HT.out
          unfold szG
          rw [if_neg (by omega)]
      · obtain rfl : k = ps.length := by omega
        go_wp2
        go_ret
        refine ⟨ret_int ?_, hb⟩
        have := hs.out
        unfold szG
        rw [if_pos (by omega)]
        omega
  · have hl' : left - (ps.length : Int) < 0 := by omega
    go_enter Try.func56, Try.ntmps56
    go_wp2
    go_ret
    refine ⟨ret_int ?_, Below.refl _ _⟩
    unfold szG
    rw [if_neg (by omega)]

theorem szHp (A : Option Addr) (c : Nat) (ps : List Pg) (left : Int) (w : World) (hr : Hp w A ps) (hf : FitG ps) (h0 : 0 ≤ left) (h1 : left ≤ 1048576) (hn : ps.length ≤ 9223372036854775807) :
    Calls Try.prog 28 #[.agg #[.slice A ps.length c], .int .i64 left] w fun e w' => e = .returned (.int .i64 (szG left ps)) ∧ Below w.heap.size w w' := by
  have hlo := szG_lo left ps
  have hz := hide (fun W h => szPs A c ps left W h hf h0 h1 hn)
  generalize szG left ps = s at hlo hz
  have hr0 := hr.alloc (.cells #[.slice A ps.length c] 51)
  go_enter Try.func28, Try.ntmps28
  go_wp2_with fail
  refine (hz.out _ hr0).mono ?_
  rintro e w1 ⟨rfl, hb1⟩
  by_cases h : s < 0
  · obtain rfl : s = -1 := by omega
    go_wp2_with fail
    go_ret
    exact ⟨rfl, bt (by go_grown) hb1 (by simp <;> omega)⟩
  · go_wp2_with fail
    go_ret
    exact ⟨rfl, bt (by go_grown) hb1 (by simp <;> omega)⟩

/-! ### ValidHeap -/
def vh (css : List (List Sl)) : Bool := decide (css.length ≤ 6) && css.all vp
def xss (ps : List Pg) : List (List Sl) := ps.map (·.xs)
theorem xss_len (ps : List Pg) : (xss ps).length = ps.length := by simp [xss]
theorem vh_long {ps : List Pg} (h : 6 < ps.length) : vh (xss ps) = false := by
  unfold vh
  rw [xss_len, decide_eq_false (by omega)]
  rfl
theorem vh_no {ps : List Pg} {k : Nat} (hk : k < ps.length) (h : vp ps[k].xs = false) : vh (xss ps) = false := by
  unfold vh
  rw [List.all_eq_false.2 ⟨ps[k].xs, by unfold xss; exact List.mem_map.2 ⟨_, List.getElem_mem hk, rfl⟩, by simp [h]⟩]
  simp
theorem vh_yes {ps : List Pg} (hl : ps.length ≤ 6) (h : ∀ k (hk : k < ps.length), vp ps[k].xs = true) : vh (xss ps) = true := by
  unfold vh
  rw [xss_len, decide_eq_true hl, List.all_eq_true.2 (fun v hv => by
    unfold xss at hv
    obtain ⟨p, hp, rfl⟩ := List.mem_map.1 hv
    obtain ⟨i, hi, rfl⟩ := List.getElem_of_mem hp
    exact h i hi)]
  rfl

set_option maxHeartbeats 1000000 in
theorem vhI (A : Option Addr) (c : Nat) (ps : List Pg) (w : World) (hr : Hp w A ps) (hs : Small ps) :
    Calls Try.prog 26 #[.agg #[.slice A ps.length c]] w fun e w' => e = .returned (.bool (vh (xss ps))) ∧ Below w.heap.size w w' := by
  have hr0 := hr.alloc (.cells #[.slice A ps.length c] 46)
  have hb0 : Below w.heap.size w (w.alloc (.cells #[.slice A ps.length c] 46)) := (Below.refl _ _).alloc (Nat.le_refl _) _
  have hB : (w.alloc (.cells #[.slice A ps.length c] 46)).cell? ⟨w.heap.size, 0, none⟩ = some (.slice A ps.length c) := (Blk.new w 46 #[.slice A ps.length c]).cell 0
  have hsl := hs.1
  by_cases hl : 6 < ps.length
  · have H := hide (vh_long hl)
    have hl' : (6 : Int) < (ps.length : Int) := by omega
    go_enter Try.func26, Try.ntmps26
    go_wp2
    go_ret
    exact ⟨ret_bool H.out.symm, hb0⟩
  · have hl' : ¬ ((6 : Int) < (ps.length : Int)) := by omega
    have hl8 : ps.length ≤ 6 := by omega
    clear hl
    go_enter Try.func26, Try.ntmps26
    go_wp2
    generalize w.alloc (.cells #[.slice A ps.length c] 46) = w0 at hr0 hb0 hB
    go_loopw [12] (fun v wr => ∃ k : Nat, k ≤ ps.length ∧ v = .int .i64 k ∧ Below w0.heap.size w0 wr ∧ Hid (∀ t (ht : t < k) (h : t < ps.length), vp ps[t].xs = true)) (fun v _ => ps.length - (intOf v).toNat)
    case atStart => exact ⟨0, by omega, rfl, Below.refl _ _, fun t ht => absurd ht (by omega)⟩
    case round =>
      obtain ⟨k, hk, rfl, hb, hno⟩ := hrel
      by_cases hlt : k < ps.length
      · obtain ⟨b, off, rfl, c0, r0⟩ := (hr0.below hb).page hlt
        have hsm := hs.2 _ (List.getElem_mem hlt)
        have HN := hide (fun h : vp ps[k].xs = false => vh_no hlt h)
        have HY : Hid (vp ps[k].xs = true → ∀ t (ht : t < k + 1) (h : t < ps.length), vp ps[t].xs = true) := fun h t ht hh => by
          rcases Nat.lt_or_ge t k with h1 | h1
          · exact hno.out t h1 hh
          · obtain rfl : t = k := by omega
            exact h
        have hi : (k : Int) < (ps.length : Int) := by omega
        generalize ps[k] = x at c0 r0 hsm HN HY
        clear hno
        have r1 := r0.alloc (.cells #[.slice x.A x.xs.length x.c] 29)
        go_wp2_with fail
        have hbx := hb.alloc hb.size (.cells #[.slice x.A x.xs.length x.c] 29)
        refine (vpI _ _ x.xs _ r1 hsm.1 hsm.2).mono ?_
        rintro e w1 ⟨rfl, hb1⟩
        have hb1' := bt hbx hb1 hbx.size
        cases hv : vp x.xs
        · have HF := hide (HN.out hv)
          clear HN HY
          go_wp2_with fail
          go_ret
          exact ⟨ret_bool HF.out.symm, bt hb0 hb1' hb0.size⟩
        · have HF := hide (HY.out hv)
          clear HN HY
          go_wp2_with fail
          go_roundw
          case rel => exact ⟨k + 1, by omega, by go_num, hb1', HF⟩
          case measure => simp [intOf]; omega
      · obtain rfl : k = ps.length := by omega
        have HF := hide (vh_yes hl8 (fun t ht => hno.out t ht ht))
        clear hno
        go_wp2_with fail
        go_ret
        exact ⟨ret_bool HF.out.symm, bt hb0 hb hb0.size⟩

set_option maxHeartbeats 1000000 in
theorem vhS (A : Option Addr) (c : Nat) (ps : List Pg) (w : World) (hr : Hp w A ps) (hs : Small ps) :
    Calls Try.prog 55 #[.agg #[.slice A ps.length c]] w fun e w' => e = .returned (.bool (vh (xss ps))) ∧ Below w.heap.size w w' := by
  have hr0 := hr.alloc (.cells #[.slice A ps.length c] 46)
  have hb0 : Below w.heap.size w (w.alloc (.cells #[.slice A ps.length c] 46)) := (Below.refl _ _).alloc (Nat.le_refl _) _
  have hB : (w.alloc (.cells #[.slice A ps.length c] 46)).cell? ⟨w.heap.size, 0, none⟩ = some (.slice A ps.length c) := (Blk.new w 46 #[.slice A ps.length c]).cell 0
  have hsl := hs.1
  go_enter Try.func55, Try.ntmps55
  go_wp2
  generalize w.alloc (.cells #[.slice A ps.length c] 46) = w0 at hr0 hb0 hB
  go_loopw [3] (fun v wr => ∃ k : Nat, k ≤ ps.length ∧ v = .int .i64 k ∧ Below w0.heap.size w0 wr ∧ Hid (∀ t (ht : t < k) (h : t < ps.length), vp ps[t].xs = true)) (fun v _ => ps.length - (intOf v).toNat)
  case atStart => exact ⟨0, by omega, rfl, Below.refl _ _, fun t ht => absurd ht (by omega)⟩
  case round =>
    obtain ⟨k, hk, rfl, hb, hno⟩ := hrel
    have hBr := cell_on hb hB
    by_cases hlt : k < ps.length
    · obtain ⟨b, off, rfl, c0, r0⟩ := (hr0.below hb).page hlt
      have hsm := hs.2 _ (List.getElem_mem hlt)
      have HN := hide (fun h : vp ps[k].xs = false => vh_no hlt h)
      have HY : Hid (vp ps[k].xs = true → ∀ t (ht : t < k + 1) (h : t < ps.length), vp ps[t].xs = true) := fun h t ht hh => by
        rcases Nat.lt_or_ge t k with h1 | h1
        · exact hno.out t h1 hh
        · obtain rfl : t = k := by omega
          exact h
      have hi : (k : Int) < (ps.length : Int) := by omega
      generalize ps[k] = x at c0 r0 hsm HN HY
      clear hno
      go_wp2_with fail
      refine (vpS _ _ x.xs _ r0 hsm.1 hsm.2).mono ?_
      rintro e w1 ⟨rfl, hb1⟩
      have hb1' := bt hb hb1 hb.size
      have hB1 := cell_on hb1 hBr
      cases hv : vp x.xs
      · have HF := hide (HN.out hv)
        clear HN HY
        go_wp2_with fail
        go_ret
        exact ⟨ret_bool HF.out.symm, bt hb0 hb1' hb0.size⟩
      · have HF := hide (HY.out hv)
        clear HN HY
        go_wp2_with fail
        go_roundw
        case rel => exact ⟨k + 1, by omega, by go_num, hb1', HF⟩
        case measure => simp [intOf]; omega
    · obtain rfl : k = ps.length := by omega
      have HY := hide (fun h : ps.length ≤ 6 => vh_yes h (fun t ht => hno.out t ht ht))
      have HN := hide (fun h : 6 < ps.length => vh_long h)
      clear hno
      go_wp2_with fail
      go_ret
      refine ⟨ret_bool ?_, bt hb0 hb hb0.size⟩
      by_cases h6 : ps.length ≤ 6
      · rw [HY.out h6]
        simp only [decide_eq_true_eq]
        omega
      · rw [HN.out (by omega)]
        simp only [decide_eq_false_iff_not]
        omega
theorem VHS (A : Option Addr) (c : Nat) (ps : List Pg) (w : World) (hr : Hp w A ps) (hs : Small ps) :
    Calls Try.prog 27 #[.agg #[.slice A ps.length c]] w fun e w' => e = .returned (.bool (vh (xss ps))) ∧ Below w.heap.size w w' := by
  have hr0 := hr.alloc (.cells #[.slice A ps.length c] 46)
  have hb0 : Below w.heap.size w (w.alloc (.cells #[.slice A ps.length c] 46)) := (Below.refl _ _).alloc (Nat.le_refl _) _
  go_enter Try.func27, Try.ntmps27
  go_wp2_with fail
  refine (vhS A c ps _ hr0 hs).mono ?_
  rintro e w1 ⟨rfl, hb1⟩
  go_wp2_with fail
  go_ret
  exact ⟨rfl, bt hb0 hb1 hb0.size⟩

end Go.Proofs.Ytnhkpigakbiddaa
