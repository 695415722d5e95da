/-
  Rows of values: validRow and CompareRows of the program and of the reference: what each answers for any rows. Conditions: the slices read as lists; texts are no longer than Go lets one be.
-/
import Derived.Test.YtngmiaglbmkbcaaVlaw
import Derived.Test.YtngmiaglbmkbcaaMore
namespace Go.Proofs.Ytngmiaglbmkbcaa
open Go.RowKit
set_option linter.unusedVariables false
set_option linter.unusedSimpArgs false

theorem encV_len (v : Vl) : (encV v).length = 3 := rfl
section
variable {w : World} {A : Option Addr} {vs : List Vl}
theorem Rl.val (h : Rl encV 3 w A vs) {k : Nat} (hk : k < vs.length) : ∃ b off, A = some ⟨b, off, none⟩ ∧ w.cell? ⟨b, off + k * 3, none⟩ = some (.int .i64 vs[k].k) ∧ w.cell? ⟨b, off + k * 3 + 1, none⟩ = some (.int .i64 vs[k].n) ∧ w.cell? ⟨b, off + k * 3 + 2, none⟩ = some (.string vs[k].s) := by
  obtain ⟨b, off, rfl, hc⟩ := h.at hk
  exact ⟨b, off, rfl, hc 0 _ rfl, hc 1 _ rfl, hc 2 _ rfl⟩
end
/-- Each text of the row is one that Go lets be. -/
def Fit (vs : List Vl) : Prop := ∀ v ∈ vs, v.s.size ≤ 9223372036854775807
theorem Fit.at {vs : List Vl} (h : Fit vs) {k : Nat} (hk : k < vs.length) : vs[k].s.size ≤ 9223372036854775807 := h _ (List.getElem_mem hk)

def vrB (vs : List Vl) : Bool := decide (vs.length ≤ 5) && vs.all vv
theorem vr_long {vs : List Vl} (h : 5 < vs.length) : vrB vs = false := by
  unfold vrB
  simp [show ¬ (vs.length ≤ 5) by omega]
theorem vr_no {vs : List Vl} {k : Nat} (hk : k < vs.length) (h : vv vs[k] = false) : vrB vs = false := by
  unfold vrB
  rw [Bool.and_eq_false_iff]
  exact .inr (List.all_eq_false.2 ⟨vs[k], List.getElem_mem hk, by simp [h]⟩)
theorem vr_yes {vs : List Vl} (h : ∀ k (hk : k < vs.length), vv vs[k] = true) : vrB vs = decide (vs.length ≤ 5) := by
  unfold vrB
  rw [List.all_eq_true.2 (fun v hv => by obtain ⟨i, hi, rfl⟩ := List.getElem_of_mem hv; exact h i hi), Bool.and_true]

theorem vrI (A : Option Addr) (c : Nat) (vs : List Vl) (w : World) (hr : Rl encV 3 w A vs) (hf : Fit vs) (hc : vs.length ≤ 9223372036854775807) :
    Calls Try.prog 42 #[.slice A vs.length c] w fun e w' => e = .returned (.bool (vrB vs)) ∧ Below w.heap.size w w' := by
  by_cases hl : 5 < vs.length
  · rw [vr_long hl]
    go_enter Try.func42, Try.ntmps42
    go_wp2
    go_ret
    exact ⟨rfl, Below.refl _ _⟩
  · have hl0 : (decide ((5 : Int) < (vs.length : Int))) = false := by simp; omega
    have hl' : vs.length ≤ 5 := by omega
    clear hl
    go_enter Try.func42, Try.ntmps42
    go_wp2
    go_loopw [10] (fun v wr => ∃ k : Nat, k ≤ vs.length ∧ v = .int .i64 k ∧ Below w.heap.size w wr ∧ Hid (∀ t (ht : t < k) (hl : t < vs.length), vv vs[t] = true)) (fun v _ => vs.length - (intOf v).toNat)
    case atStart => exact ⟨0, by omega, rfl, Below.refl _ _, fun t ht => absurd ht (by omega)⟩
    case round =>
      obtain ⟨k, hk, rfl, hb, hno⟩ := hrel
      by_cases hlt : k < vs.length
      · obtain ⟨b, off, rfl, c0, c1, c2⟩ := (hr.below hb).val hlt
        have hs := hf.at hlt
        have HN := hide (fun h : vv vs[k] = false => vr_no hlt h)
        have HY : Hid (vv vs[k] = true → ∀ t (ht : t < k + 1) (hl : t < vs.length), vv vs[t] = true) := fun h t ht hl => by
          rcases Nat.lt_or_ge t k with h1 | h1
          · exact hno.out t h1 hl
          · obtain rfl : t = k := by omega
            exact h
        generalize vs[k] = x at c0 c1 c2 hs HN HY
        cases hv : vv x
        · have HF := hide (HN.out hv)
          go_wp2_with fail
          refine (vvIx x _ hs).mono ?_
          rintro e w1 ⟨rfl, hb1⟩
          rw [hv]
          go_wp2_with fail
          go_ret
          exact ⟨ret_bool HF.out.symm, bt (bt hb (by go_grown) hb.size) hb1 (by have := hb.size; simp; omega)⟩
        · go_wp2_with fail
          refine (vvIx x _ hs).mono ?_
          rintro e w1 ⟨rfl, hb1⟩
          rw [hv]
          go_wp2_with fail
          go_roundw
          case rel => exact ⟨k + 1, by omega, by go_num, bt (bt hb (by go_grown) hb.size) hb1 (by have := hb.size; simp; omega), HY.out hv⟩
          case measure => simp [intOf]; omega
      · obtain rfl : k = vs.length := by omega
        go_wp2
        go_ret
        exact ⟨ret_bool (by rw [vr_yes (fun t ht => hno.out t ht ht)]; simp [hl']), hb⟩

theorem vrS (A : Option Addr) (c : Nat) (vs : List Vl) (w : World) (hr : Rl encV 3 w A vs) (hf : Fit vs) (hc : vs.length ≤ 9223372036854775807) :
    Calls Try.prog 40 #[.slice A vs.length c] w fun e w' => e = .returned (.bool (vrB vs)) ∧ Below w.heap.size w w' := by
  go_enter Try.func40, Try.ntmps40
  go_wp2
  go_loopw [3] (fun v wr => ∃ k : Nat, k ≤ vs.length ∧ v = .int .i64 k ∧ Below w.heap.size w wr ∧ Hid (∀ t (ht : t < k) (hl : t < vs.length), vv vs[t] = true)) (fun v _ => vs.length - (intOf v).toNat)
  case atStart => exact ⟨0, by omega, rfl, Below.refl _ _, fun t ht => absurd ht (by omega)⟩
  case round =>
    obtain ⟨k, hk, rfl, hb, hno⟩ := hrel
    by_cases hlt : k < vs.length
    · obtain ⟨b, off, rfl, c0, c1, c2⟩ := (hr.below hb).val hlt
      have hs := hf.at hlt
      have HN := hide (fun h : vv vs[k] = false => vr_no hlt h)
      have HY : Hid (vv vs[k] = true → ∀ t (ht : t < k + 1) (hl : t < vs.length), vv vs[t] = true) := fun h t ht hl => by
        rcases Nat.lt_or_ge t k with h1 | h1
        · exact hno.out t h1 hl
        · obtain rfl : t = k := by omega
          exact h
      generalize vs[k] = x at c0 c1 c2 hs HN HY
      cases hv : vv x
      · have HF := hide (HN.out hv)
        go_wp2_with fail
        refine (vvS x.k x.n x.s _ hs).mono ?_
        rintro e w1 ⟨rfl, hb1⟩
        rw [show vvB x.k x.n x.s = false from hv]
        go_wp2_with fail
        go_ret
        exact ⟨ret_bool HF.out.symm, bt hb hb1 hb.size⟩
      · go_wp2_with fail
        refine (vvS x.k x.n x.s _ hs).mono ?_
        rintro e w1 ⟨rfl, hb1⟩
        rw [show vvB x.k x.n x.s = true from hv]
        go_wp2_with fail
        go_roundw
        case rel => exact ⟨k + 1, by omega, by go_num, bt hb hb1 hb.size, HY.out hv⟩
        case measure => simp [intOf]; omega
    · obtain rfl : k = vs.length := by omega
      have HF := hide (vr_yes (fun t ht => hno.out t ht ht))
      go_wp2
      go_ret
      exact ⟨ret_bool (by rw [HF.out, decide_eq_decide]; omega), hb⟩

end Go.Proofs.Ytngmiaglbmkbcaa
