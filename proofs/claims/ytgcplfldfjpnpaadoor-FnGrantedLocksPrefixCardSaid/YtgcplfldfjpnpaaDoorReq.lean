/-
  Requests: the small functions over slices of requests: copy, comparison, search by owner. Conditions: the slices read as lists.
-/
import Derived.Test.YtgcplfldfjpnpaaDoorLockT
import Derived.Deep.RegionWith
import Derived.OwnWalk
import Derived.Handy
namespace Go.Proofs.YtgcplfldfjpnpaaDoor
open Go.RowKit
set_option linter.unusedVariables false
set_option linter.unusedSimpArgs false

def encR (r : Int × Int) : List Value := [.int .i64 r.1, .int .i64 r.2]
theorem encR_len (r : Int × Int) : (encR r).length = 2 := rfl

section
variable {w : World} {A : Option Addr} {rs : List (Int × Int)}
/-- The two cells of element k, as a walk reads them. -/
theorem Rl.req (h : Rl encR 2 w A rs) {k : Nat} (hk : k < rs.length) : ∃ b off, A = some ⟨b, off, none⟩ ∧ w.cell? ⟨b, off + k * 2, none⟩ = some (.int .i64 rs[k].1) ∧ w.cell? ⟨b, off + k * 2 + 1, none⟩ = some (.int .i64 rs[k].2) := by
  obtain ⟨b, off, rfl, hc⟩ := h.at hk
  exact ⟨b, off, rfl, hc 0 _ rfl, hc 1 _ rfl⟩
end

theorem sz_any (A : Option Addr) (n c : Nat) (left : Int) (w : World) (h0 : 0 ≤ left) (h1 : left ≤ 1048576) (hn : (n : Int) ≤ 9223372036854775807) :
    Calls Tryd.prog 20 #[.slice A n c, .int .i64 left] w fun e w' => e = .returned (.int .i64 (if (n : Int) ≤ left then left - n else -1)) ∧ w = w' := by
  by_cases h : (n : Int) ≤ left
  · rw [if_pos h]
    go_enter Tryd.func20, Tryd.ntmps20
    go_wp2
    go_ret
    exact ⟨rfl, rfl⟩
  · rw [if_neg h]
    go_enter Tryd.func20, Tryd.ntmps20
    go_wp2
    go_ret
    exact ⟨rfl, rfl⟩

theorem eq1_any (a b c d : Int) (w : World) :
    Calls Tryd.prog 34 #[.agg #[.int .i64 a, .int .i64 b], .agg #[.int .i64 c, .int .i64 d]] w fun e w' => e = .returned (.bool (a == c && b == d)) ∧ Below w.heap.size w w' := by
  cases h1 : (a == c) <;> cases h2 : (b == d)
  all_goals
    have n1 : (a != c) = !(a == c) := rfl
    have n2 : (b != d) = !(b == d) := rfl
    rw [h1] at n1
    rw [h2] at n2
    go_enter Tryd.func34, Tryd.ntmps34
    go_wp2
    go_ret
    exact ⟨rfl, by go_grown⟩

/-- The first place at which p holds, else -1. -/
def fst1 (p : Int × Int → Bool) (rs : List (Int × Int)) : Int := match rs.findIdx? p with | some i => (i : Int) | none => -1

theorem fst1_at {p : Int × Int → Bool} {rs : List (Int × Int)} {k : Nat} (hk : k < rs.length) (h : ∀ t (ht : t < k), p (rs[t]'(by omega)) = false) (hp : p rs[k] = true) : fst1 p rs = k := by
  unfold fst1
  have : rs.findIdx? p = some k := by
    rw [List.findIdx?_eq_some_iff_getElem]
    exact ⟨hk, hp, fun j hj => by simp [h j hj]⟩
  rw [this]
theorem fst1_no {p : Int × Int → Bool} {rs : List (Int × Int)} (h : ∀ t (ht : t < rs.length), p rs[t] = false) : fst1 p rs = -1 := by
  unfold fst1
  have : rs.findIdx? p = none := by
    rw [List.findIdx?_eq_none_iff]
    intro x hx
    obtain ⟨i, hi, rfl⟩ := List.getElem_of_mem hx
    exact h i hi
  rw [this]

theorem clo_any (a b o : Int) (P : Nat) (w : World) (hP : w.cell? ⟨P, 0, none⟩ = some (.int .i64 o)) :
    Calls Tryd.prog 39 #[.agg #[.int .i64 a, .int .i64 b], .pointer (some ⟨P, 0, none⟩)] w fun e w' => e = .returned (.bool (a == o)) ∧ Below w.heap.size w w' := by
  have hPlt := cell_lt hP
  have hPne : P ≠ w.heap.size := by omega
  go_enter Tryd.func39, Tryd.ntmps39
  go_wp2
  go_ret
  exact ⟨rfl, by go_grown⟩

theorem idx_any (A : Option Addr) (c P : Nat) (rs : List (Int × Int)) (o : Int) (w : World) (hr : Rl encR 2 w A rs) (hc : rs.length ≤ 1048576) (hP : w.cell? ⟨P, 0, none⟩ = some (.int .i64 o)) :
    Calls Tryd.prog 38 #[.slice A rs.length c, .func (.func 39) #[] #[.pointer (some ⟨P, 0, none⟩)]] w
      fun e w' => e = .returned (.int .i64 (fst1 (fun r => r.1 == o) rs)) ∧ Below w.heap.size w w' := by
  go_enter Tryd.func38, Tryd.ntmps38
  go_wp2
  go_loopw [8] (fun v wr => ∃ k : Nat, k ≤ rs.length ∧ v = .int .i64 k ∧ Below w.heap.size w wr ∧ Hid (∀ t (ht : t < k) (hk : t < rs.length), (rs[t].1 == o) = false)) (fun v _ => rs.length - (intOf v).toNat)
  case atStart => exact ⟨0, by omega, rfl, Below.refl _ _, fun t ht => absurd ht (by omega)⟩
  case round =>
    obtain ⟨k, hk, rfl, hb, hno⟩ := hrel
    by_cases hlt : k < rs.length
    · obtain ⟨b, off, rfl, c0, c1⟩ := (hr.below hb).req hlt
      have hP1 := (hb.cell (p := ⟨P, 0, none⟩) (cell_lt hP)).trans hP
      cases ht : (rs[k].1 == o)
      all_goals
        go_wp2_with fail
        refine (clo_any _ _ o P _ hP1).mono ?_
        rintro e w2 ⟨rfl, hb2⟩
        rw [ht]
        go_wp2_with fail
      · go_roundw
        case rel => exact ⟨k + 1, by omega, by go_num, hb.trans (hb2.mono hb.size), fun t ht' hk' => by
          rcases Nat.lt_or_ge t k with h1 | h1
          · exact hno.out t h1 hk'
          · obtain rfl : t = k := by omega
            exact ht⟩
        case measure => simp [intOf]; omega
      · go_ret
        exact ⟨ret_int (fst1_at hlt (fun t h1 => hno.out t h1 (by omega)) ht).symm, hb.trans (hb2.mono hb.size)⟩
    · obtain rfl : k = rs.length := by omega
      go_wp2
      go_ret
      exact ⟨ret_int (fst1_no (fun t h1 => hno.out t h1 h1)).symm, hb⟩

end Go.Proofs.YtgcplfldfjpnpaaDoor
