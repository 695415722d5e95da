/-
  Disks: what ValidDisk of the program and of the reference answer. Conditions: the sectors and the writes read as lists.
-/
import Derived.Test.YtgabjepoooageaaOwn
import Derived.Test.YtgabjepoooageaaRange
import Derived.WalkLawsBesides
import Derived.WalkSpells
import Derived.Handy
import Derived.BigQuiet
import Derived.Deep.QuietTactic
import Derived.RegionTactic
import Derived.Deep.RegionHeld3
import Derived.Outline
namespace Go.Proofs.Ytgabjepoooageaa
open Go.RowKit
set_option linter.unusedVariables false
set_option linter.unusedSimpArgs false

def encD (a : Int) : List Value := [.int .i64 a]
def encW (x : Int × Int) : List Value := [.int .i64 x.1, .int .i64 x.2]
theorem encD_len (x : Int) : (encD x).length = 1 := rfl
theorem encW_len (x : Int × Int) : (encW x).length = 2 := rfl
section
variable {w : World} {A : Option Addr}
theorem Rl.num {xs : List Int} (h : Rl encD 1 w A xs) {k : Nat} (hk : k < xs.length) : ∃ b off, A = some ⟨b, off, none⟩ ∧ w.cell? ⟨b, off + k, none⟩ = some (.int .i64 xs[k]) := by
  obtain ⟨b, off, rfl, hc⟩ := h.at hk
  have := hc 0 _ rfl
  rw [Nat.mul_one, Nat.add_zero] at this
  exact ⟨b, off, rfl, this⟩
theorem Rl.wr {ws : List (Int × Int)} (h : Rl encW 2 w A ws) {k : Nat} (hk : k < ws.length) : ∃ b off, A = some ⟨b, off, none⟩ ∧ w.cell? ⟨b, off + k * 2, none⟩ = some (.int .i64 ws[k].1) ∧ w.cell? ⟨b, off + k * 2 + 1, none⟩ = some (.int .i64 ws[k].2) := by
  obtain ⟨b, off, rfl, hc⟩ := h.at hk
  exact ⟨b, off, rfl, hc 0 _ rfl, hc 1 _ rfl⟩
end
def okN (a : Int) : Bool := rng a 0 999999
def tk (n : Nat) (x : Int × Int) : Bool := rng x.1 0 ((n : Int) - 1) && rng x.2 0 999999
def vd (xs : List Int) (ws : List (Int × Int)) : Bool := decide (1 ≤ xs.length ∧ xs.length ≤ 8 ∧ ws.length ≤ 8) && xs.all okN && ws.all (tk xs.length)
section
variable {xs : List Int} {ws : List (Int × Int)}
theorem vd_len (h : ¬ (1 ≤ xs.length ∧ xs.length ≤ 8 ∧ ws.length ≤ 8)) : vd xs ws = false := by
  unfold vd
  rw [decide_eq_false h]
  rfl
theorem vd_num {k : Nat} (hk : k < xs.length) (h : okN xs[k] = false) : vd xs ws = false := by
  unfold vd
  rw [List.all_eq_false.2 ⟨xs[k], List.getElem_mem hk, by simp [h]⟩]
  simp
theorem vd_wr {k : Nat} (hk : k < ws.length) (h : tk xs.length ws[k] = false) : vd xs ws = false := by
  unfold vd
  rw [List.all_eq_false.2 ⟨ws[k], List.getElem_mem hk, by simp [h]⟩]
  simp
theorem all_of {α : Type} {xs : List α} {f : α → Bool} (h : ∀ k (hk : k < xs.length), f xs[k] = true) : xs.all f = true :=
  List.all_eq_true.2 fun v hv => by obtain ⟨i, hi, rfl⟩ := List.getElem_of_mem hv; exact h i hi
theorem vd_yes (hl : 1 ≤ xs.length ∧ xs.length ≤ 8 ∧ ws.length ≤ 8) (h1 : ∀ k (hk : k < xs.length), okN xs[k] = true) (h2 : ∀ k (hk : k < ws.length), tk xs.length ws[k] = true) : vd xs ws = true := by
  unfold vd
  rw [decide_eq_true hl, all_of h1, all_of h2]
  rfl
end
theorem upto_step {α : Type} {xs : List α} {f : α → Bool} {k : Nat} (hno : ∀ t (ht : t < k) (h : t < xs.length), f xs[t] = true) (hk : k < xs.length) (h : f xs[k] = true) : ∀ t (ht : t < k + 1) (h : t < xs.length), f xs[t] = true := fun t ht hh => by
  rcases Nat.lt_or_ge t k with h1 | h1
  · exact hno t h1 hh
  · obtain rfl : t = k := by omega
    exact h

theorem tkI (A B : Option Addr) (n c m d : Nat) (x : Int × Int) (w : World) (hn : n ≤ 1048576) :
    Calls Try.prog 43 #[.agg #[.slice A n c, .slice B m d], .agg #[.int .i64 x.1, .int .i64 x.2]] w fun e w' => e = .returned (.bool (tk n x)) ∧ Below w.heap.size w w' := by
  obtain ⟨s, y⟩ := x
  by_cases h1 : 0 ≤ s
  · by_cases h2 : s < (n : Int)
    · have g1 : rng s 0 ((n : Int) - 1) = true := rng_iff.2 (by omega)
      by_cases h3 : 0 ≤ y
      · by_cases h4 : y ≤ 999999
        · have H := hide (show tk n (s, y) = true by unfold tk; rw [g1, rng_iff.2 ⟨h3, h4⟩]; rfl)
          clear g1
          go_enter Try.func43, Try.ntmps43
          go_wp2
          go_ret
          exact ⟨ret_bool H.out.symm, by go_grown⟩
        · have H := hide (show tk n (s, y) = false by unfold tk; rw [g1, rng_no.2 (.inr (show (999999 : Int) < y by omega))]; rfl)
          clear g1
          go_enter Try.func43, Try.ntmps43
          go_wp2
          go_ret
          exact ⟨ret_bool H.out.symm, by go_grown⟩
      · have H := hide (show tk n (s, y) = false by unfold tk; rw [g1, rng_no.2 (.inl (show y < 0 by omega))]; rfl)
        clear g1
        go_enter Try.func43, Try.ntmps43
        go_wp2
        go_ret
        exact ⟨ret_bool H.out.symm, by go_grown⟩
    · have H := hide (show tk n (s, y) = false by unfold tk; rw [rng_no.2 (.inr (show (n : Int) - 1 < s by omega))]; rfl)
      go_enter Try.func43, Try.ntmps43
      go_wp2
      go_ret
      exact ⟨ret_bool H.out.symm, by go_grown⟩
  · have H := hide (show tk n (s, y) = false by unfold tk; rw [rng_no.2 (.inl (show s < 0 by omega))]; rfl)
    go_enter Try.func43, Try.ntmps43
    go_wp2
    go_ret
    exact ⟨ret_bool H.out.symm, by go_grown⟩

set_option maxHeartbeats 1000000 in
theorem aiS (A : Option Addr) (c : Nat) (xs : List Int) (w : World) (hr : Rl encD 1 w A xs) (hc : xs.length ≤ 1048576) :
    Calls Try.prog 60 #[.slice A xs.length c, .int .i64 0, .int .i64 999999] w fun e w' => e = .returned (.bool (xs.all okN)) ∧ w = w' := by
  go_enter Try.func60, Try.ntmps60
  go_wp2
  go_loop [7] (fun v => ∃ k : Nat, k ≤ xs.length ∧ v = .int .i64 k ∧ Hid (∀ t (ht : t < k) (h : t < xs.length), okN xs[t] = true)) (fun v => xs.length - (intOf v).toNat)
  case atStart => exact ⟨0, by omega, rfl, fun t ht => absurd ht (by omega)⟩
  case round =>
    obtain ⟨k, hk, rfl, hno⟩ := hrel
    by_cases hlt : k < xs.length
    · obtain ⟨b, off, rfl, c0⟩ := hr.num hlt
      have HN := hide (fun h : okN xs[k] = false => (List.all_eq_false.2 ⟨xs[k], List.getElem_mem hlt, by simp [h]⟩ : xs.all okN = false))
      have HY := hide (fun h : okN xs[k] = true => upto_step hno.out hlt h)
      have hi : (k : Int) < (xs.length : Int) := by omega
      generalize xs[k] = x at c0 HN HY
      clear hno
      go_wp2_with fail
      refine (inR _ _ _ _).mono ?_
      rintro e w2 ⟨rfl, rfl⟩
      cases hx : rng x 0 999999
      · have HF := hide (HN.out hx)
        clear HN HY
        go_wp2_with fail
        go_ret
        exact ⟨ret_bool HF.out.symm, rfl⟩
      · have HF := hide (HY.out hx)
        clear HN HY
        go_wp2_with fail
        go_round
        case rel => exact ⟨k + 1, by omega, by go_num, HF⟩
        case measure => simp [intOf]; omega
    · obtain rfl : k = xs.length := by omega
      have HF := hide (all_of (fun t ht => hno.out t ht ht))
      clear hno
      go_wp2_with fail
      go_ret
      exact ⟨ret_bool HF.out.symm, rfl⟩

def okW (x : Int × Int) : Bool := rng x.2 0 999999
set_option maxHeartbeats 1000000 in
theorem vwS (A : Option Addr) (c : Nat) (ws : List (Int × Int)) (w : World) (hr : Rl encW 2 w A ws) (hc : ws.length ≤ 1048576) :
    Calls Try.prog 61 #[.slice A ws.length c] w fun e w' => e = .returned (.bool (ws.all okW)) ∧ w = w' := by
  go_enter Try.func61, Try.ntmps61
  go_wp2
  go_loop [3] (fun v => ∃ k : Nat, k ≤ ws.length ∧ v = .int .i64 k ∧ Hid (∀ t (ht : t < k) (h : t < ws.length), okW ws[t] = true)) (fun v => ws.length - (intOf v).toNat)
  case atStart => exact ⟨0, by omega, rfl, fun t ht => absurd ht (by omega)⟩
  case round =>
    obtain ⟨k, hk, rfl, hno⟩ := hrel
    by_cases hlt : k < ws.length
    · obtain ⟨b, off, rfl, c0, c1⟩ := hr.wr hlt
      have HN := hide (fun h : okW ws[k] = false => (List.all_eq_false.2 ⟨ws[k], List.getElem_mem hlt, by simp [h]⟩ : ws.all okW = false))
      have HY := hide (fun h : okW ws[k] = true => upto_step hno.out hlt h)
      have hi : (k : Int) < (ws.length : Int) := by omega
      generalize ws[k] = x at c0 c1 HN HY
      clear hno
      go_wp2_with fail
      refine (inR _ _ _ _).mono ?_
      rintro e w2 ⟨rfl, rfl⟩
      cases hx : rng x.2 0 999999
      · have HF := hide (HN.out hx)
        clear HN HY
        go_wp2_with fail
        go_ret
        exact ⟨ret_bool HF.out.symm, rfl⟩
      · have HF := hide (HY.out hx)
        clear HN HY
        go_wp2_with fail
        go_round
        case rel => exact ⟨k + 1, by omega, by go_num, HF⟩
        case measure => simp [intOf]; omega
    · obtain rfl : k = ws.length := by omega
      have HF := hide (all_of (fun t ht => hno.out t ht ht))
      clear hno
      go_wp2_with fail
      go_ret
      exact ⟨ret_bool HF.out.symm, rfl⟩

end Go.Proofs.Ytgabjepoooageaa
