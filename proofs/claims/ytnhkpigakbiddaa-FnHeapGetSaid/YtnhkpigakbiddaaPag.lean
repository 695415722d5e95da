/-
  Pages: what used and ValidPage of the program and of the reference answer. Conditions: the slots read as a list; their texts together are short enough to be counted.
-/
import Derived.Test.YtnhkpigakbiddaaOwn
import Derived.Test.YtnhkpigakbiddaaRange
import Derived.WalkLawsBesides
import Derived.WalkSpells
import Derived.Handy
import Derived.BigQuiet
import Derived.Deep.QuietTactic
import Derived.Outline
namespace Go.Proofs.Ytnhkpigakbiddaa
open Go.RowKit
set_option linter.unusedVariables false
set_option linter.unusedSimpArgs false

structure Sl where
  l : Bool
  d : ByteArray
instance : Inhabited Sl := ⟨⟨false, ByteArray.empty⟩⟩
def encP (x : Sl) : List Value := [.bool x.l, .string x.d]
theorem encP_len (x : Sl) : (encP x).length = 2 := rfl
def emp (s : ByteArray) : Bool := s.toList.isEmpty
section
variable {w : World} {A : Option Addr} {xs : List Sl}
theorem Rl.slot (h : Rl encP 2 w A xs) {k : Nat} (hk : k < xs.length) : ∃ b off, A = some ⟨b, off, none⟩ ∧ w.cell? ⟨b, off + k * 2, none⟩ = some (.bool xs[k].l) ∧ w.cell? ⟨b, off + k * 2 + 1, none⟩ = some (.string xs[k].d) := by
  obtain ⟨b, off, rfl, hc⟩ := h.at hk
  exact ⟨b, off, rfl, hc 0 _ rfl, hc 1 _ rfl⟩
end
def szs (xs : List Sl) (k : Nat) : Nat := ((xs.take k).map fun x => x.d.size).sum
theorem szs_step {xs : List Sl} {k : Nat} (hk : k < xs.length) : szs xs (k + 1) = szs xs k + xs[k].d.size := by
  unfold szs
  rw [List.take_add_one, List.getElem?_eq_getElem hk, List.map_append, List.sum_append]
  rfl
theorem szs_mono {xs : List Sl} {k : Nat} (hk : k ≤ xs.length) : szs xs k ≤ szs xs xs.length := by
  induction hn : xs.length - k generalizing k with
  | zero => rw [show k = xs.length by omega]; exact Nat.le_refl _
  | succ n ih =>
    have h1 := ih (k := k + 1) (by omega) (by omega)
    have h2 := szs_step (xs := xs) (k := k) (by omega)
    omega
def usd (xs : List Sl) : Nat := 2 * xs.length + szs xs xs.length
def okS (x : Sl) : Bool := x.l || emp x.d
def lst (xs : List Sl) : Bool := match xs.getLast? with | none => true | some x => x.l
def vp (xs : List Sl) : Bool := decide (xs.length ≤ 8) && xs.all okS && lst xs && decide (usd xs ≤ 100)
theorem lst_nil : lst [] = true := rfl
theorem lst_at {xs : List Sl} (h : 0 < xs.length) : lst xs = (xs[xs.length - 1]'(by omega)).l := by
  unfold lst
  rw [List.getLast?_eq_getElem?, List.getElem?_eq_getElem (by omega)]
theorem vp_long {xs : List Sl} (h : 8 < xs.length) : vp xs = false := by
  unfold vp
  rw [decide_eq_false (by omega)]
  rfl
theorem vp_no {xs : List Sl} {k : Nat} (hk : k < xs.length) (h : okS xs[k] = false) : vp xs = false := by
  unfold vp
  rw [List.all_eq_false.2 ⟨xs[k], List.getElem_mem hk, by simp [h]⟩]
  simp
theorem vp_last {xs : List Sl} (h : lst xs = false) : vp xs = false := by
  unfold vp
  rw [h]
  simp
theorem vp_yes {xs : List Sl} (hl : xs.length ≤ 8) (h : ∀ k (hk : k < xs.length), okS xs[k] = true) (hn : lst xs = true) : vp xs = decide (usd xs ≤ 100) := by
  unfold vp
  rw [List.all_eq_true.2 (fun v hv => by obtain ⟨i, hi, rfl⟩ := List.getElem_of_mem hv; exact h i hi), hn, decide_eq_true hl]
  rfl

theorem okS_no {x : Sl} : okS x = false ↔ x.l = false ∧ emp x.d = false := by
  unfold okS
  rw [Bool.or_eq_false_iff]
theorem szs_le {xs : List Sl} {k : Nat} (hk : k < xs.length) : szs xs k + xs[k].d.size ≤ szs xs xs.length := by
  rw [← szs_step hk]
  exact szs_mono (by omega)

set_option maxHeartbeats 1000000 in
theorem usI (A : Option Addr) (c : Nat) (xs : List Sl) (w : World) (hr : Rl encP 2 w A xs) (hc : xs.length ≤ 1048576) (hs : szs xs xs.length ≤ 1073741824) :
    Calls Try.prog 46 #[.agg #[.slice A xs.length c]] w fun e w' => e = .returned (.int .i64 (usd xs)) ∧ Below w.heap.size w w' := by
  have hr0 := hr.alloc (.cells #[.slice A xs.length c] 29)
  have hb0 : Below w.heap.size w (w.alloc (.cells #[.slice A xs.length c] 29)) := (Below.refl _ _).alloc (Nat.le_refl _) _
  go_enter Try.func46, Try.ntmps46
  go_wp2
  generalize w.alloc (.cells #[.slice A xs.length c] 29) = w0 at hr0 hb0
  go_loopw [3, 9] (fun o v wr => ∃ (k t : Nat), k ≤ xs.length ∧ v = .int .i64 k ∧ o = .int .i64 (2 * (k : Int) + t) ∧ t ≤ 1073741824 ∧ Hid (szs xs k = t) ∧ Below w0.heap.size w0 wr) (fun _ v _ => xs.length - (intOf v).toNat)
  case atStart => exact ⟨0, 0, by omega, rfl, rfl, by omega, rfl, Below.refl _ _⟩
  case round =>
    obtain ⟨k, t, hk, rfl, rfl, ht, hst, hb⟩ := hrel
    by_cases hlt : k < xs.length
    · obtain ⟨b, off, rfl, c0, c1⟩ := (hr0.below hb).slot hlt
      have h1 := szs_step hlt
      have h2 := szs_le hlt
      rw [hst.out] at h1 h2
      have h1h := hide h1
      have hi : (k : Int) < (xs.length : Int) := by omega
      generalize xs[k] = x at c0 c1 h1h h2
      clear h1 hst
      go_wp2_with fail
      go_roundw
      case rel => exact ⟨k + 1, t + x.d.size, by omega, by go_num, by rw [Value.int.injEq]; exact ⟨rfl, by omega⟩, by omega, h1h, hb.alloc hb.size _⟩
      case measure => simp [intOf]; omega
    · obtain rfl : k = xs.length := by omega
      have hu : Hid (2 * (xs.length : Int) + t = usd xs) := by unfold Hid usd; rw [hst.out]; omega
      go_wp2_with fail
      go_ret
      exact ⟨ret_int hu.out, bt hb0 hb hb0.size⟩

set_option maxHeartbeats 1000000 in
theorem usS (A : Option Addr) (c : Nat) (xs : List Sl) (w : World) (hr : Rl encP 2 w A xs) (hc : xs.length ≤ 1048576) (hs : szs xs xs.length ≤ 1073741824) :
    Calls Try.prog 48 #[.agg #[.slice A xs.length c]] w fun e w' => e = .returned (.int .i64 (usd xs)) ∧ Below w.heap.size w w' := by
  have hr0 := hr.alloc (.cells #[.slice A xs.length c] 29)
  have hb0 : Below w.heap.size w (w.alloc (.cells #[.slice A xs.length c] 29)) := (Below.refl _ _).alloc (Nat.le_refl _) _
  have hB : (w.alloc (.cells #[.slice A xs.length c] 29)).cell? ⟨w.heap.size, 0, none⟩ = some (.slice A xs.length c) := (Blk.new w 29 #[.slice A xs.length c]).cell 0
  go_enter Try.func48, Try.ntmps48
  go_wp2
  generalize w.alloc (.cells #[.slice A xs.length c] 29) = w0 at hr0 hb0 hB
  go_loop [3, 4] (fun o v => ∃ (k t : Nat), k ≤ xs.length ∧ v = .int .i64 k ∧ o = .int .i64 (2 * (xs.length : Int) + t) ∧ t ≤ 1073741824 ∧ Hid (szs xs k = t)) (fun _ v => xs.length - (intOf v).toNat)
  case atStart => exact ⟨0, 0, by omega, rfl, by simp, by omega, rfl⟩
  case round =>
    obtain ⟨k, t, hk, rfl, rfl, ht, hst⟩ := hrel
    by_cases hlt : k < xs.length
    · obtain ⟨b, off, rfl, c0, c1⟩ := hr0.slot hlt
      have h1 := szs_step hlt
      have h2 := szs_le hlt
      rw [hst.out] at h1 h2
      have h1h := hide h1
      have hi : (k : Int) < (xs.length : Int) := by omega
      generalize xs[k] = x at c0 c1 h1h h2
      clear h1 hst
      go_wp2_with fail
      go_round
      case rel => exact ⟨k + 1, t + x.d.size, by omega, by go_num, by rw [Value.int.injEq]; exact ⟨rfl, by omega⟩, by omega, h1h⟩
      case measure => simp [intOf]; omega
    · obtain rfl : k = xs.length := by omega
      have hu : Hid (2 * (xs.length : Int) + t = usd xs) := by unfold Hid usd; rw [hst.out]; omega
      go_wp2_with fail
      go_ret
      exact ⟨ret_int hu.out, hb0⟩

set_option maxHeartbeats 1000000 in
theorem vpI (A : Option Addr) (c : Nat) (xs : List Sl) (w : World) (hr : Rl encP 2 w A xs) (hc : xs.length ≤ 1048576) (hs : szs xs xs.length ≤ 1073741824) :
    Calls Try.prog 17 #[.agg #[.slice A xs.length c]] w fun e w' => e = .returned (.bool (vp xs)) ∧ Below w.heap.size w w' := by
  have hr0 := hr.alloc (.cells #[.slice A xs.length c] 29)
  have hb0 : Below w.heap.size w (w.alloc (.cells #[.slice A xs.length c] 29)) := (Below.refl _ _).alloc (Nat.le_refl _) _
  have hB := Blk.new w 29 #[.slice A xs.length c]
  by_cases hl : 8 < xs.length
  · have H := hide (vp_long hl)
    have hl' : (8 : Int) < (xs.length : Int) := by omega
    go_enter Try.func17, Try.ntmps17
    go_wp2
    go_ret
    exact ⟨ret_bool H.out.symm, hb0⟩
  · have hl' : ¬ ((8 : Int) < (xs.length : Int)) := by omega
    have hl8 : xs.length ≤ 8 := by omega
    clear hl
    go_enter Try.func17, Try.ntmps17
    go_wp2
    generalize w.alloc (.cells #[.slice A xs.length c] 29) = w0 at hr0 hb0 hB
    go_loopw [13] (fun v wr => ∃ k : Nat, k ≤ xs.length ∧ v = .int .i64 k ∧ Below w0.heap.size w0 wr ∧ Hid (∀ t (ht : t < k) (h : t < xs.length), okS xs[t] = true)) (fun v _ => xs.length - (intOf v).toNat)
    case atStart => exact ⟨0, by omega, rfl, Below.refl _ _, fun t ht => absurd ht (by omega)⟩
    case round =>
      obtain ⟨k, hk, rfl, hb, hno⟩ := hrel
      by_cases hlt : k < xs.length
      · obtain ⟨b, off, rfl, c0, c1⟩ := (hr0.below hb).slot hlt
        have HN := hide (fun h : okS xs[k] = false => vp_no hlt h)
        have HY : Hid (okS xs[k] = true → ∀ t (ht : t < k + 1) (h : t < xs.length), okS xs[t] = true) := fun h t ht hh => by
          rcases Nat.lt_or_ge t k with h1 | h1
          · exact hno.out t h1 hh
          · obtain rfl : t = k := by omega
            exact h
        have hi : (k : Int) < (xs.length : Int) := by omega
        generalize xs[k] = x at c0 c1 HN HY
        clear hno
        cases hx : x.l <;> cases he : emp x.d
        all_goals
          rw [hx] at c0
          have hok : okS x = (x.l || emp x.d) := rfl
          rw [hx, he] at hok
          unfold emp at he
        · have HF := hide (HN.out hok)
          clear HN HY hok
          go_wp2_with fail
          go_ret
          exact ⟨ret_bool HF.out.symm, bt hb0 (hb.alloc hb.size _) hb0.size⟩
        all_goals
          have HF := hide (HY.out hok)
          clear HN HY hok
          go_wp2_with fail
          go_roundw
          case rel => exact ⟨k + 1, by omega, by go_num, hb.alloc hb.size _, HF⟩
          case measure => simp [intOf]; omega
      · obtain rfl : k = xs.length := by omega
        have hall := hide (fun h => vp_yes hl8 (fun t ht => hno.out t ht ht) h)
        have hB' : wr.cell? ⟨w.heap.size, 0, none⟩ = some (.slice A xs.length c) := (hB.below hb).cell 0
        have hrr := hr0.below hb
        have hbb := bt hb0 hb hb0.size
        clear hno hB hr0 hb hb0 hr
        by_cases hz : xs.length = 0
        · have hx : xs = [] := List.eq_nil_of_length_eq_zero hz
          subst hx
          have hu := hide (hall.out lst_nil)
          clear hall hz
          go_wp2_with fail
          refine (usI A c [] _ Rl.nil (by simp) (by simp [szs])).mono ?_
          rintro e w1 ⟨rfl, hb1⟩
          go_wp2_with fail
          go_ret
          exact ⟨ret_bool (by rw [hu.out, decide_eq_decide]; omega), bt2 hbb hb1⟩
        · have hp : 0 < xs.length := by omega
          have hp' : (0 : Int) < (xs.length : Int) := by omega
          obtain ⟨b, off, rfl, c0, c1⟩ := hrr.slot (k := xs.length - 1) (by omega)
          have hlst := lst_at hp
          generalize xs[xs.length - 1]'(by omega) = x at c0 c1 hlst
          cases hx : x.l
          · rw [hx] at c0 hlst
            have HF := hide (vp_last hlst)
            clear hlst hall hz
            go_wp2_with fail
            go_ret
            exact ⟨ret_bool HF.out.symm, hbb⟩
          · rw [hx] at c0 hlst
            have hu := hide (hall.out hlst)
            have hus := hide (fun W h => usI (some ⟨b, off, none⟩) c xs W h hc hs)
            clear hlst hall hz
            go_wp2_with fail
            refine (hus.out _ hrr).mono ?_
            rintro e w1 ⟨rfl, hb1⟩
            go_wp2_with fail
            go_ret
            exact ⟨ret_bool (by rw [hu.out, decide_eq_decide]; omega), bt2 hbb hb1⟩

set_option maxHeartbeats 1000000 in
theorem vpS (A : Option Addr) (c : Nat) (xs : List Sl) (w : World) (hr : Rl encP 2 w A xs) (hc : xs.length ≤ 1048576) (hs : szs xs xs.length ≤ 1073741824) :
    Calls Try.prog 44 #[.agg #[.slice A xs.length c]] w fun e w' => e = .returned (.bool (vp xs)) ∧ Below w.heap.size w w' := by
  have hr0 := hr.alloc (.cells #[.slice A xs.length c] 29)
  have hb0 : Below w.heap.size w (w.alloc (.cells #[.slice A xs.length c] 29)) := (Below.refl _ _).alloc (Nat.le_refl _) _
  have hB : (w.alloc (.cells #[.slice A xs.length c] 29)).cell? ⟨w.heap.size, 0, none⟩ = some (.slice A xs.length c) := (Blk.new w 29 #[.slice A xs.length c]).cell 0
  go_enter Try.func44, Try.ntmps44
  go_wp2
  generalize w.alloc (.cells #[.slice A xs.length c] 29) = w0 at hr0 hb0 hB
  go_loop [3] (fun v => ∃ k : Nat, k ≤ xs.length ∧ v = .int .i64 k ∧ Hid (∀ t (ht : t < k) (h : t < xs.length), okS xs[t] = true)) (fun v => xs.length - (intOf v).toNat)
  case atStart => exact ⟨0, by omega, rfl, fun t ht => absurd ht (by omega)⟩
  case round =>
    obtain ⟨k, hk, rfl, hno⟩ := hrel
    by_cases hlt : k < xs.length
    · obtain ⟨b, off, rfl, c0, c1⟩ := hr0.slot hlt
      have HN := hide (fun h : okS xs[k] = false => vp_no hlt h)
      have HY : Hid (okS xs[k] = true → ∀ t (ht : t < k + 1) (h : t < xs.length), okS xs[t] = true) := fun h t ht hh => by
        rcases Nat.lt_or_ge t k with h1 | h1
        · exact hno.out t h1 hh
        · obtain rfl : t = k := by omega
          exact h
      have hi : (k : Int) < (xs.length : Int) := by omega
      generalize xs[k] = x at c0 c1 HN HY
      clear hno
      cases hx : x.l <;> cases he : emp x.d
      all_goals
        rw [hx] at c0
        have hok : okS x = (x.l || emp x.d) := rfl
        rw [hx, he] at hok
        unfold emp at he
      · have HF := hide (HN.out hok)
        clear HN HY hok
        go_wp2_with fail
        go_ret
        exact ⟨ret_bool HF.out.symm, hb0⟩
      all_goals
        have HF := hide (HY.out hok)
        clear HN HY hok
        go_wp2_with fail
        go_round
        case rel => exact ⟨k + 1, by omega, by go_num, HF⟩
        case measure => simp [intOf]; omega
    · obtain rfl : k = xs.length := by omega
      by_cases hl : 8 < xs.length
      · have H := hide (vp_long hl)
        have hl' : ¬ ((xs.length : Int) ≤ 8) := by omega
        have hl2 : decide ((xs.length : Int) ≤ 8) = false := by simp only [decide_eq_false_iff_not]; omega
        clear hno hl
        go_wp2_with fail
        go_ret
        exact ⟨ret_bool H.out.symm, hb0⟩
      · have hl8 : xs.length ≤ 8 := by omega
        have hall := hide (fun h => vp_yes hl8 (fun t ht => hno.out t ht ht) h)
        have hus := hide (fun W h => usS A c xs W h hc hs)
        clear hno hl hus
        by_cases hz : xs.length = 0
        · have hx : xs = [] := List.eq_nil_of_length_eq_zero hz
          subst hx
          have hv : Hid (vp [] = true) := by unfold Hid vp usd szs lst; rfl
          have hu := hide (fun W => usS A c [] W Rl.nil (by simp) (by simp [szs]))
          rw [show ((usd [] : Nat) : Int) = 0 from rfl] at hu
          clear hall hz
          go_wp2_with fail
          refine (hu.out _).mono ?_
          rintro e w1 ⟨rfl, hb1⟩
          have hB1 := cell_on hb1 hB
          go_wp2_with fail
          go_ret
          exact ⟨ret_bool hv.out.symm, bt2 hb0 hb1⟩
        · have hp : 0 < xs.length := by omega
          have hp' : (0 : Int) < (xs.length : Int) := by omega
          have hz0 : ((xs.length : Int) == 0) = false := by rw [beq_eq_false_iff_ne]; omega
          obtain ⟨b, off, rfl, c0, c1⟩ := hr0.slot (k := xs.length - 1) (by omega)
          have hus := hide (fun W h => usS (some ⟨b, off, none⟩) c xs W h hc hs)
          have hlst := lst_at hp
          generalize xs[xs.length - 1]'(by omega) = x at c0 c1 hlst
          have hno := hide (fun h : lst xs = false => vp_last h)
          rw [hlst] at hall hno
          clear hlst hz
          by_cases hu : usd xs ≤ 100
          · have hu' : ((usd xs : Nat) : Int) ≤ 100 := by omega
            have hall' := hide (fun h => (hall.out h).trans (decide_eq_true hu))
            clear hall hu
            cases hx : x.l
            · have HF := hide (hno.out hx)
              rw [hx] at c0
              clear hall' hno
              go_wp2_with fail
              refine (hus.out _ hr0).mono ?_
              rintro e w1 ⟨rfl, hb1⟩
              have hB1 := cell_on hb1 hB
              have c01 := cell_on hb1 c0
              go_wp2_with fail
              go_ret
              exact ⟨ret_bool HF.out.symm, bt2 hb0 hb1⟩
            · have HF := hide (hall'.out hx)
              rw [hx] at c0
              clear hall' hno
              go_wp2_with fail
              refine (hus.out _ hr0).mono ?_
              rintro e w1 ⟨rfl, hb1⟩
              have hB1 := cell_on hb1 hB
              have c01 := cell_on hb1 c0
              go_wp2_with fail
              go_ret
              exact ⟨ret_bool HF.out.symm, bt2 hb0 hb1⟩
          · have hu' : ¬ (((usd xs : Nat) : Int) ≤ 100) := by omega
            have HF : Hid (vp xs = false) := by
              cases hx : x.l
              · exact hno.out hx
              · exact (hall.out hx).trans (decide_eq_false hu)
            clear hall hno hu
            go_wp2_with fail
            refine (hus.out _ hr0).mono ?_
            rintro e w1 ⟨rfl, hb1⟩
            go_wp2_with fail
            go_ret
            exact ⟨ret_bool HF.out.symm, bt2 hb0 hb1⟩

end Go.Proofs.Ytnhkpigakbiddaa
