/-
  Frames in plain Lean: where a text begins with a frame, and the frames with which it begins. No program is named. No conditions.
-/
import Derived.Test.YtgcnaajinkhakaaFrame
namespace Go.Proofs.Ytgcnaajinkhakaa
open Go.RowKit
set_option linter.unusedVariables false
set_option linter.unusedSimpArgs false

theorem eqT_iff {a b : ByteArray} : (a.toList == b.toList) = true ↔ a = b := by
  rw [ByteArray.toList_eq, ByteArray.toList_eq, beq_iff_eq]
  exact ⟨fun h => ByteArray.ext (Array.ext' h), fun h => by rw [h]⟩
theorem eqT_no {a b : ByteArray} : (a.toList == b.toList) = false ↔ a ≠ b := by
  rw [← Bool.not_eq_true, eqT_iff]
theorem ext_size {s : ByteArray} {i j : Nat} (hj : j ≤ s.size) : (s.extract i j).size = j - i := by
  rw [ByteArray.size_extract]
  omega

def dgU (i : Nat) : UInt8 := UInt8.ofNat (dg (i : Int)).toNat
theorem dgU_inj : ∀ i : Fin 16, ∀ j : Fin 16, dgU i.1 = dgU j.1 → i = j := by decide +kernel
theorem hx3_eq (n : Nat) : hx3 n = ⟨#[dgU (n / 256), dgU (n / 16 % 16), dgU (n % 16)]⟩ := by
  unfold hx3 strOfNums dgU
  simp only [List.map, Int.natCast_ediv, Int.natCast_emod, Int.cast_ofNat_Int]
theorem hx3_inj {m n : Nat} (hm : m ≤ 4095) (hn : n ≤ 4095) (h : hx3 m = hx3 n) : m = n := by
  rw [hx3_eq, hx3_eq] at h
  simp only [ByteArray.mk.injEq, Array.mk.injEq, List.cons.injEq] at h
  have a := dgU_inj ⟨m / 256, by omega⟩ ⟨n / 256, by omega⟩ h.1
  have b := dgU_inj ⟨m / 16 % 16, by omega⟩ ⟨n / 16 % 16, by omega⟩ h.2.1
  have c := dgU_inj ⟨m % 16, by omega⟩ ⟨n % 16, by omega⟩ h.2.2.1
  simp only [Fin.mk.injEq] at a b c
  omega

def isF (s : ByteArray) (n : Nat) : Bool := decide (n ≤ 40) && decide (n + 6 ≤ s.size) && ((frm (s.extract 3 (3 + n))).toList == (s.extract 0 (n + 6)).toList)
theorem isF_iff {s : ByteArray} {n : Nat} : isF s n = true ↔ n ≤ 40 ∧ n + 6 ≤ s.size ∧ frm (s.extract 3 (3 + n)) = s.extract 0 (n + 6) := by
  unfold isF
  rw [Bool.and_eq_true, Bool.and_eq_true, eqT_iff, decide_eq_true_eq, decide_eq_true_eq, and_assoc]
theorem head_of {s : ByteArray} {n : Nat} (h : frm (s.extract 3 (3 + n)) = s.extract 0 (n + 6)) (hs : n + 6 ≤ s.size) : s.extract 0 3 = hx3 n := by
  have hz : (s.extract 3 (3 + n)).size = n := by rw [ext_size (by omega)]; omega
  have h1 : (frm (s.extract 3 (3 + n))).extract 0 3 = hx3 n := by
    unfold frm front
    rw [ByteArray.append_assoc, ByteArray.extract_append_eq_left (hx3_size _).symm, hz]
  rw [h, ByteArray.extract_extract] at h1
  simpa [show min 3 (n + 6) = 3 by omega] using h1
theorem isF_head {s : ByteArray} {n : Nat} (h : isF s n = true) : s.extract 0 3 = hx3 n := by
  obtain ⟨_, h1, h2⟩ := isF_iff.1 h
  exact head_of h2 h1
theorem isF_one {s : ByteArray} {m n : Nat} (h : isF s m = true) (k : isF s n = true) : m = n :=
  hx3_inj (by have := (isF_iff.1 h).1; omega) (by have := (isF_iff.1 k).1; omega) ((isF_head h).symm.trans (isF_head k))

/-- The length of the text in the frame at the beginning. -/
def nx (s : ByteArray) : Option Nat := (List.range 41).find? (isF s)
theorem nx_some {s : ByteArray} {n : Nat} (h : isF s n = true) : nx s = some n := by
  unfold nx
  cases hf : (List.range 41).find? (isF s) with
  | none =>
    have := List.find?_eq_none.1 hf n (by have := (isF_iff.1 h).1; simp; omega)
    exact absurd h this
  | some m => rw [isF_one (List.find?_some hf) h]
theorem nx_isF {s : ByteArray} {n : Nat} (h : nx s = some n) : isF s n = true := List.find?_some h
theorem nx_none {s : ByteArray} : nx s = none ↔ ∀ n, isF s n = false := by
  constructor
  · intro h n
    cases hf : isF s n
    · rfl
    · rw [nx_some hf] at h; cases h
  · intro h
    cases hf : nx s with
    | none => rfl
    | some m => have := nx_isF hf; rw [h m] at this; cases this
theorem nx_le {s : ByteArray} {n : Nat} (h : nx s = some n) : n ≤ 40 ∧ n + 6 ≤ s.size := by
  have := isF_iff.1 (nx_isF h)
  exact ⟨this.1, this.2.1⟩

/-- The texts of the frames at the beginning. -/
def RF (s : ByteArray) : List ByteArray :=
  match h : nx s with
  | none => []
  | some n => s.extract 3 (3 + n) :: RF (s.extract (n + 6) s.size)
termination_by s.size
decreasing_by
  have := nx_le h
  rw [ByteArray.size_extract]
  omega
theorem RF_none {s : ByteArray} (h : nx s = none) : RF s = [] := by
  rw [RF]
  split <;> simp_all
theorem RF_some {s : ByteArray} {n : Nat} (h : nx s = some n) : RF s = s.extract 3 (3 + n) :: RF (s.extract (n + 6) s.size) := by
  rw [RF]
  split <;> simp_all
/-- How many bytes the frames have. -/
def lnF (xs : List ByteArray) : Nat := (xs.map fun x => x.size + 6).sum
theorem lnF_app (xs ys : List ByteArray) : lnF (xs ++ ys) = lnF xs + lnF ys := by simp [lnF]
theorem lnF_cons (x : ByteArray) (ys : List ByteArray) : lnF (x :: ys) = x.size + 6 + lnF ys := by simp [lnF]
theorem lnF_le (s : ByteArray) : lnF (RF s) ≤ s.size := by
  induction hk : s.size using Nat.strongRecOn generalizing s with
  | ind k ih =>
    cases h : nx s with
    | none => rw [RF_none h]; simp [lnF]
    | some n =>
      have hl := nx_le h
      have hz : (s.extract (n + 6) s.size).size = s.size - (n + 6) := ext_size (Nat.le_refl _)
      have := ih (s.size - (n + 6)) (by omega) _ hz
      rw [RF_some h, lnF_cons, ext_size (by omega)]
      omega

/-! ### The three digits read back -/
def hxd (c : Nat) : Int := if 48 ≤ c ∧ c ≤ 57 then (c : Int) - 48 else if 97 ≤ c ∧ c ≤ 102 then (c : Int) - 97 + 10 else -1
theorem hxd_dgU : ∀ i : Fin 16, hxd (dgU i.1).toNat = i.1 := by decide +kernel
theorem hxd_rng (c : Nat) : -1 ≤ hxd c ∧ hxd c ≤ 15 := by unfold hxd; split <;> (try split) <;> omega
def by3 (s : ByteArray) (k : Nat) : Nat := (s.data.toList.getD k 0).toNat
def hp (s : ByteArray) : Nat → Int
  | 0 => 0
  | k + 1 => 16 * hp s k + hxd (by3 s k)
def hexB (s : ByteArray) : Int := if 3 ≤ s.size ∧ 0 ≤ hxd (by3 s 0) ∧ 0 ≤ hxd (by3 s 1) ∧ 0 ≤ hxd (by3 s 2) then hp s 3 else -1
theorem by3_at {s : ByteArray} {k : Nat} (hk : k < s.size) : by3 s k = s[k].toNat := by
  unfold by3
  rw [List.getD_eq_getElem?_getD, List.getElem?_eq_getElem (by simpa using hk)]
  rfl
theorem hexB_hx {s : ByteArray} {n : Nat} (hs : 3 ≤ s.size) (hn : n ≤ 4095) (h : s.extract 0 3 = hx3 n) : hexB s = n := by
  rw [hx3_eq] at h
  have hd : ∀ k (hk : k < 3), s.data.toList.getD k 0 = #[dgU (n / 256), dgU (n / 16 % 16), dgU (n % 16)].toList.getD k 0 := fun k hk => by
    have h2 := congrArg (fun b : ByteArray => b.data.toList.getD k 0) h
    simp only [ByteArray.data_extract] at h2
    rw [← h2]
    simp only [List.getD_eq_getElem?_getD, Array.getElem?_toList, Array.getElem?_extract]
    rw [if_pos (by have : s.data.size = s.size := rfl; omega)]
    simp
  have a : by3 s 0 = (dgU (n / 256)).toNat := by unfold by3; rw [hd 0 (by omega)]; rfl
  have b : by3 s 1 = (dgU (n / 16 % 16)).toNat := by unfold by3; rw [hd 1 (by omega)]; rfl
  have c : by3 s 2 = (dgU (n % 16)).toNat := by unfold by3; rw [hd 2 (by omega)]; rfl
  have a' := hxd_dgU ⟨n / 256, by omega⟩
  have b' := hxd_dgU ⟨n / 16 % 16, by omega⟩
  have c' := hxd_dgU ⟨n % 16, by omega⟩
  unfold hexB
  simp only [hp, a, b, c, a', b', c']
  rw [if_pos (by omega)]
  omega

end Go.Proofs.Ytgcnaajinkhakaa
