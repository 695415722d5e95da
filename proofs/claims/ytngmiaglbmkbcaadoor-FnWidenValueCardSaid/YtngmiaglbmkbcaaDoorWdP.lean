/-
  Decimal numerals as texts: their signs lie in the range of texts, they are short, and two numbers of one numeral are one. Plain lemmas; no conditions.
-/
import Derived.Test.YtngmiaglbmkbcaaDoorWd
namespace Go.Proofs.YtngmiaglbmkbcaaDoor
open Go.RowKit
set_option linter.unusedVariables false
set_option linter.unusedSimpArgs false

theorem dec_step {u : Nat} (h : ¬ u < 10) : Lib.decDigits u = Lib.decDigits (u / 10) ++ [UInt8.ofNat (48 + u % 10)] := by rw [Lib.decDigits, dif_neg h]
theorem of_nat_small {k : Nat} (h : k < 256) : (UInt8.ofNat k).toNat = k := by
  rw [UInt8.toNat_ofNat']
  exact Nat.mod_eq_of_lt h
theorem dec_chars (u : Nat) : ∀ c ∈ Lib.decDigits u, 48 ≤ c.toNat ∧ c.toNat ≤ 57 := by
  induction u using Nat.strongRecOn with
  | _ u ih =>
    by_cases h : u < 10
    · rw [Lib.decDigits_one h]
      intro c hc
      rw [List.mem_singleton] at hc
      subst hc
      rw [of_nat_small (by omega)]
      omega
    · rw [dec_step h]
      intro c hc
      rcases List.mem_append.1 hc with hc | hc
      · exact ih (u / 10) (by omega) c hc
      · rw [List.mem_singleton] at hc
        subst hc
        rw [of_nat_small (by omega)]
        omega
theorem dec_ne (u : Nat) : Lib.decDigits u ≠ [] := by
  by_cases h : u < 10
  · rw [Lib.decDigits_one h]; simp
  · rw [dec_step h]; simp
theorem dec_short : ∀ (k u : Nat), u < 10 ^ (k + 1) → (Lib.decDigits u).length ≤ k + 1 := by
  intro k
  induction k with
  | zero =>
    intro u hu
    rw [Lib.decDigits_one (by omega)]
    simp
  | succ k ih =>
    intro u hu
    by_cases h : u < 10
    · rw [Lib.decDigits_one h]; simp
    · rw [dec_step h, List.length_append]
      have h1 : u / 10 < 10 ^ (k + 1) := by
        rw [Nat.pow_succ] at hu
        omega
      have := ih (u / 10) h1
      simp
      omega
/-- The number that a row of digits says. -/
def dval (cs : List UInt8) : Nat := cs.foldl (fun a c => a * 10 + (c.toNat - 48)) 0
theorem dval_dec (u : Nat) : dval (Lib.decDigits u) = u := by
  induction u using Nat.strongRecOn with
  | _ u ih =>
    by_cases h : u < 10
    · rw [Lib.decDigits_one h]
      show 0 * 10 + ((UInt8.ofNat (48 + u)).toNat - 48) = u
      rw [of_nat_small (by omega)]
      omega
    · rw [dec_step h]
      have h1 := ih (u / 10) (by omega)
      unfold dval at h1 ⊢
      rw [List.foldl_append, h1]
      show u / 10 * 10 + ((UInt8.ofNat (48 + u % 10)).toNat - 48) = u
      rw [of_nat_small (by omega)]
      omega
theorem itoa_inj {a b : Int} (h : Lib.itoa a = Lib.itoa b) : a = b := by
  have key : ∀ (u : Nat) (cs : List UInt8), Lib.decDigits u ≠ 45 :: cs := fun u cs e => by
    have := dec_chars u 45 (by rw [e]; simp)
    have h45 : (45 : UInt8).toNat = 45 := rfl
    omega
  by_cases ha : a < 0
  · by_cases hb : b < 0
    · unfold Lib.itoa at h
      rw [if_pos ha, if_pos hb] at h
      have h2 := congrArg dval (List.cons.inj h).2
      rw [dval_dec, dval_dec] at h2
      omega
    · unfold Lib.itoa at h
      rw [if_pos ha, if_neg hb] at h
      exact absurd h.symm (key _ _)
  · by_cases hb : b < 0
    · unfold Lib.itoa at h
      rw [if_neg ha, if_pos hb] at h
      exact absurd h (key _ _)
    · unfold Lib.itoa at h
      rw [if_neg ha, if_neg hb] at h
      have h2 := congrArg dval h
      rw [dval_dec, dval_dec] at h2
      omega
theorem its_inj {a b : Int} (h : its a = its b) : a = b := by
  unfold its at h
  refine itoa_inj ?_
  have := congrArg (fun s : ByteArray => s.data.toList) h
  simpa using this
theorem itoa_chars (n : Int) : ∀ c ∈ Lib.itoa n, 45 ≤ c.toNat ∧ c.toNat ≤ 57 := by
  intro c hc
  unfold Lib.itoa at hc
  split at hc
  · rcases List.mem_cons.1 hc with rfl | hc
    · have h45 : (45 : UInt8).toNat = 45 := rfl
      omega
    · have := dec_chars _ c hc
      omega
  · have := dec_chars _ c hc
    omega
theorem itoa_short {n : Int} (h0 : -999999 ≤ n) (h1 : n ≤ 999999) : (Lib.itoa n).length ≤ 7 := by
  unfold Lib.itoa
  split
  · have := dec_short 5 n.natAbs (by omega)
    simp
    omega
  · have := dec_short 5 n.toNat (by omega)
    omega
theorem vt_its {n : Int} (h0 : -999999 ≤ n) (h1 : n ≤ 999999) : vtB (its n) = true := by
  have hz : (its n).size = (Lib.itoa n).length := by unfold its; simp [ByteArray.size]
  have hs := itoa_short h0 h1
  unfold vtB
  rw [Bool.and_eq_true]
  refine ⟨decide_eq_true (by omega), List.all_eq_true.2 fun c hc => ?_⟩
  have hc' : c ∈ Lib.itoa n := by
    unfold its at hc
    simpa using hc
  have := itoa_chars n c hc'
  unfold okc
  rw [rng_iff]
  omega
theorem vv_its {n : Int} (h0 : -999999 ≤ n) (h1 : n ≤ 999999) : vv ⟨2, 0, its n⟩ = true := by
  unfold vv vvB
  dsimp only
  rw [if_neg (by omega), if_neg (by omega), if_pos rfl, vt_its h0 h1]
  rfl
/-- A widened value is no number, valid, and widened as it is. -/
theorem wd_law {v : Vl} (h : vv v = true) : ((WD v).k != 1) = true ∧ vv (WD v) = true ∧ WD (WD v) = WD v := by
  by_cases h1 : v.k = 1
  · obtain ⟨n0, n1⟩ := vv_num h h1
    have hx := vv_its n0 n1
    rw [WD_num h h1]
    exact ⟨rfl, hx, WD_same hx (show ¬ (2 : Int) = 1 by decide)⟩
  · rw [WD_same h h1]
    exact ⟨by rw [bne_iff_ne]; exact h1, h, WD_same h h1⟩

end Go.Proofs.YtngmiaglbmkbcaaDoor
