/-
  Requests: validity and grants of the program and of the reference: what each answers for any list of requests. Conditions: the slice reads as the list; the table of masks reads as it was laid.
-/
import Derived.Test.YtgcplfldfjpnpaaDoorReq
import Derived.Test.YtgcplfldfjpnpaaDoorRange
import Derived.Deep.DeepCutAuto
namespace Go.Proofs.YtgcplfldfjpnpaaDoor
open Go.RowKit
set_option linter.unusedVariables false
set_option linter.unusedSimpArgs false

theorem find_any (A : Option Addr) (c : Nat) (rs : List (Int × Int)) (o : Int) (w : World) (hr : Rl encR 2 w A rs) (hc : rs.length ≤ 1048576) :
    Calls Tryd.prog 37 #[.slice A rs.length c, .int .i64 o] w fun e w' => e = .returned (.int .i64 (fst1 (fun r => r.1 == o) rs)) ∧ Below w.heap.size w w' := by
  go_enter Tryd.func37, Tryd.ntmps37
  go_wp2_with fail
  refine (idx_any A c w.heap.size rs o _ (hr.alloc _) hc (by simp [go_sem])).mono ?_
  rintro e w1 ⟨rfl, hb1⟩
  go_wp2_with fail
  go_ret
  exact ⟨rfl, bt (by go_grown) hb1 (by simp <;> omega)⟩

/-- Request k of the list is in order, and the first of its owner. -/
def okR (rs : List (Int × Int)) (k : Nat) : Bool :=
  match rs[k]? with
  | some r => rng r.1 0 7 && rng r.2 1 5 && fst1 (fun q => q.1 == r.1) rs == (k : Int)
  | none => true
def vq (rs : List (Int × Int)) : Bool := decide (rs.length ≤ 8) && (List.range rs.length).all (okR rs)
theorem vq_no {rs : List (Int × Int)} {k : Nat} (hk : k < rs.length) (h : okR rs k = false) : vq rs = false := by
  unfold vq
  rw [Bool.and_eq_false_iff]
  exact .inr (List.all_eq_false.2 ⟨k, List.mem_range.2 hk, by simp [h]⟩)
theorem vq_yes {rs : List (Int × Int)} (h : ∀ k, k < rs.length → okR rs k = true) : vq rs = decide (rs.length ≤ 8) := by
  unfold vq
  rw [List.all_eq_true.2 (fun k hk => h k (List.mem_range.1 hk)), Bool.and_true]
theorem vq_long {rs : List (Int × Int)} (h : 8 < rs.length) : vq rs = false := by
  unfold vq
  simp [show ¬ (rs.length ≤ 8) by omega]
theorem okR_at {rs : List (Int × Int)} {k : Nat} (hk : k < rs.length) : okR rs k = (rng rs[k].1 0 7 && rng rs[k].2 1 5 && fst1 (fun q => q.1 == rs[k].1) rs == (k : Int)) := by
  unfold okR
  rw [List.getElem?_eq_getElem hk]

set_option maxHeartbeats 1000000 in
theorem vrI (A : Option Addr) (c : Nat) (rs : List (Int × Int)) (w : World) (hr : Rl encR 2 w A rs) (hc : rs.length ≤ 1048576) :
    Calls Tryd.prog 30 #[.slice A rs.length c] w fun e w' => e = .returned (.bool (vq rs)) ∧ Below w.heap.size w w' := by
  by_cases hl : 8 < rs.length
  · rw [vq_long hl]
    go_enter Tryd.func30, Tryd.ntmps30
    go_wp2
    go_ret
    exact ⟨rfl, Below.refl _ _⟩
  · have hl0 : (decide ((8 : Int) < (rs.length : Int))) = false := by simp; omega
    have hl' : rs.length ≤ 8 := by omega
    clear hl
    go_enter Tryd.func30, Tryd.ntmps30
    go_wp2
    go_loopw [10] (fun v wr => ∃ k : Nat, k ≤ rs.length ∧ v = .int .i64 k ∧ Below w.heap.size w wr ∧ Hid (∀ t, t < k → okR rs t = true)) (fun v _ => rs.length - (intOf v).toNat)
    case atStart => exact ⟨0, by omega, rfl, Below.refl _ _, fun t ht => absurd ht (by omega)⟩
    case round =>
      obtain ⟨k, hk, rfl, hb, hno⟩ := hrel
      by_cases hlt : k < rs.length
      · have hrr := hr.below hb
        obtain ⟨b, off, rfl, c0, c1⟩ := hrr.req hlt
        have HO := hide (okR_at hlt)
        have HN := hide (fun h : okR rs k = false => vq_no hlt h)
        generalize rs[k].1 = o at c0 HO
        generalize rs[k].2 = m at c1 HO
        by_cases o0 : o < 0
        · have ho : okR rs k = false := by rw [HO.out, rng_no.2 (.inl o0)]; simp
          have HF := hide (HN.out ho)
          clear ho
          go_wp2
          go_ret
          exact ⟨ret_bool HF.out.symm, bt hb (by go_grown) hb.size⟩
        · by_cases o1 : 7 < o
          · have ho : okR rs k = false := by rw [HO.out, rng_no.2 (.inr o1)]; simp
            have HF := hide (HN.out ho)
            clear ho
            go_wp2
            go_ret
            exact ⟨ret_bool HF.out.symm, bt hb (by go_grown) hb.size⟩
          · have HR := hide (rng_iff.2 (show 0 ≤ o ∧ o ≤ 7 by omega))
            by_cases m0 : m < 1
            · have ho : okR rs k = false := by rw [HO.out, HR.out, rng_no.2 (.inl m0)]; simp
              have HF := hide (HN.out ho)
              clear ho
              go_wp2
              go_ret
              exact ⟨ret_bool HF.out.symm, bt hb (by go_grown) hb.size⟩
            · by_cases m1 : 5 < m
              · have ho : okR rs k = false := by rw [HO.out, HR.out, rng_no.2 (.inr m1)]; simp
                have HF := hide (HN.out ho)
                clear ho
                go_wp2
                go_ret
                exact ⟨ret_bool HF.out.symm, bt hb (by go_grown) hb.size⟩
              · have HM := hide (rng_iff.2 (show 1 ≤ m ∧ m ≤ 5 by omega))
                have hal := hrr.alloc (.cells #[.int .i64 o, .int .i64 m] 32)
                cases hq : (fst1 (fun q => q.1 == o) rs == (k : Int))
                · have HF := hide (HN.out (by rw [HO.out, HR.out, HM.out, hq]; rfl))
                  have hq' : (fst1 (fun q => q.1 == o) rs != (k : Int)) = true := by simp [bne, hq]
                  go_wp2_with fail
                  refine (find_any _ c rs o _ hal hc).mono ?_
                  rintro e w2 ⟨rfl, hb2⟩
                  go_wp2_with fail
                  go_ret
                  exact ⟨ret_bool HF.out.symm, bt (bt hb (by go_grown) hb.size) hb2 (by have := hb.size; simp; omega)⟩
                · have HF : Hid (okR rs k = true) := by rw [HO.out, HR.out, HM.out, hq]; rfl
                  have hq' : (fst1 (fun q => q.1 == o) rs != (k : Int)) = false := by simp [bne, hq]
                  go_wp2_with fail
                  refine (find_any _ c rs o _ hal hc).mono ?_
                  rintro e w2 ⟨rfl, hb2⟩
                  go_wp2_with fail
                  go_roundw
                  case rel =>
                    refine ⟨k + 1, by omega, by go_num, bt (bt hb (by go_grown) hb.size) hb2 (by have := hb.size; simp; omega), fun t ht => ?_⟩
                    rcases Nat.lt_or_ge t k with h1 | h1
                    · exact hno.out t h1
                    · obtain rfl : t = k := by omega
                      exact HF.out
                  case measure => simp [intOf]; omega
      · obtain rfl : k = rs.length := by omega
        go_wp2
        go_ret
        exact ⟨ret_bool (by rw [vq_yes hno.out]; simp [hl']), hb⟩

end Go.Proofs.YtgcplfldfjpnpaaDoor
