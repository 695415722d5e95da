/-
  Frames in plain Lean: what is written as frames is read back; what is read back was written so; a torn or a damaged frame is none. No program is named. No conditions.
-/
import Derived.Test.YtgcnaajinkhakaaCut
namespace Go.Proofs.Ytgcnaajinkhakaa
open Go.RowKit
set_option linter.unusedVariables false
set_option linter.unusedSimpArgs false

theorem frm_text (x q : ByteArray) : (frm x ++ q).extract 3 (3 + x.size) = x := by
  unfold frm front
  rw [ByteArray.append_assoc, ByteArray.append_assoc, show (3 : Nat) = (hx3 x.size).size + 0 by rw [hx3_size], show (hx3 x.size).size + 0 + x.size = (hx3 x.size).size + x.size by omega,
    ByteArray.extract_append_size_add, ByteArray.extract_append_eq_left rfl]
theorem frm_left (x q : ByteArray) : (frm x ++ q).extract 0 (x.size + 6) = frm x := ByteArray.extract_append_eq_left (frm_size x).symm
theorem frm_rest (x q : ByteArray) : (frm x ++ q).extract (x.size + 6) (frm x ++ q).size = q :=
  ByteArray.extract_append_eq_right (frm_size x).symm (by rw [ByteArray.size_append])
theorem isF_frm {x q : ByteArray} (h : x.size ≤ 40) : isF (frm x ++ q) x.size = true := by
  refine isF_iff.2 ⟨h, ?_, ?_⟩
  · rw [ByteArray.size_append, frm_size]; omega
  · rw [frm_text, frm_left]
theorem nx_frm {x q : ByteArray} (h : x.size ≤ 40) : nx (frm x ++ q) = some x.size := nx_some (isF_frm h)
theorem RF_frm {x q : ByteArray} (h : x.size ≤ 40) : RF (frm x ++ q) = x :: RF q := by
  rw [RF_some (nx_frm h), frm_text, frm_rest]
theorem nx_short {s : ByteArray} (h : s.size < 6) : nx s = none := nx_none.2 fun m => by
  cases hm : isF s m
  · rfl
  · have := (isF_iff.1 hm).2.1
    omega
theorem RF_empty : RF ByteArray.empty = [] := RF_none (nx_short (by decide))

/-- Frames one behind the other. -/
def flat : List ByteArray → ByteArray
  | [] => ByteArray.empty
  | x :: xs => frm x ++ flat xs
theorem flat_size (xs : List ByteArray) : (flat xs).size = lnF xs := by
  induction xs with
  | nil => rfl
  | cons x xs ih => rw [flat, ByteArray.size_append, frm_size, ih, lnF_cons]
theorem flat_app (xs ys : List ByteArray) : flat (xs ++ ys) = flat xs ++ flat ys := by
  induction xs with
  | nil => simp [flat]
  | cons x xs ih => rw [List.cons_append, flat, flat, ih, ByteArray.append_assoc]
theorem RF_flat {xs : List ByteArray} {q : ByteArray} (h : ∀ x ∈ xs, x.size ≤ 40) : RF (flat xs ++ q) = xs ++ RF q := by
  induction xs with
  | nil => simp [flat]
  | cons x xs ih =>
    rw [flat, ByteArray.append_assoc, RF_frm (h x (by simp)), ih (fun y hy => h y (by simp [hy]))]
    rfl
theorem RF_le (s : ByteArray) : ∀ x ∈ RF s, x.size ≤ 40 := by
  induction hk : s.size using Nat.strongRecOn generalizing s with
  | ind k ih =>
    intro x hx
    cases h : nx s with
    | none => rw [RF_none h] at hx; cases hx
    | some n =>
      have hl := nx_le h
      rw [RF_some h] at hx
      rcases List.mem_cons.1 hx with rfl | hx
      · rw [ext_size (by omega)]; omega
      · exact ih _ (by rw [ext_size (Nat.le_refl _)]; omega) _ rfl x hx
theorem flat_RF (s : ByteArray) : flat (RF s) = s.extract 0 (lnF (RF s)) := by
  induction hk : s.size using Nat.strongRecOn generalizing s with
  | ind k ih =>
    cases h : nx s with
    | none => rw [RF_none h]; simp [flat, lnF]
    | some n =>
      have hl := nx_le h
      have hf := (isF_iff.1 (nx_isF h)).2.2
      have hz : (s.extract (n + 6) s.size).size = s.size - (n + 6) := ext_size (Nat.le_refl _)
      have hi := ih _ (by rw [hz]; omega) _ rfl
      have hle := lnF_le (s.extract (n + 6) s.size)
      rw [RF_some h, flat, hi, hf, lnF_cons, ext_size (by omega), ByteArray.extract_extract]
      rw [hz] at hle
      rw [show min (n + 6 + lnF (RF (s.extract (n + 6) s.size))) s.size = n + 6 + lnF (RF (s.extract (n + 6) s.size)) by omega, show n + 6 + 0 = n + 6 by omega, ByteArray.extract_append_extract]
      congr 1 <;> omega
theorem CL_flat {s : ByteArray} (h : s.size ≤ 600) : CL s = flat (RF s) := by
  unfold CL
  rw [if_pos h, flat_RF]
theorem RF_CL {s q : ByteArray} (h : s.size ≤ 600) : RF (CL s ++ q) = RF s ++ RF q := by
  rw [CL_flat h, RF_flat (RF_le s)]
theorem RF_CL0 {s : ByteArray} (h : s.size ≤ 600) : RF (CL s) = RF s := by
  have := RF_CL (q := ByteArray.empty) h
  rw [RF_empty, List.append_nil] at this
  rw [← this]
  simp

/-- A torn frame is none. -/
theorem nx_torn {x p q : ByteArray} (hx : x.size ≤ 40) (h : frm x = p ++ q) (hq : 0 < q.size) : nx p = none := by
  refine nx_none.2 fun m => ?_
  cases hm : isF p m
  · rfl
  · obtain ⟨h1, h2, h3⟩ := isF_iff.1 hm
    have hz := congrArg ByteArray.size h
    rw [frm_size, ByteArray.size_append] at hz
    have e1 : p.extract 0 3 = hx3 m := isF_head hm
    have e2 : (frm x).extract 0 3 = hx3 x.size := by
      unfold frm front
      rw [ByteArray.append_assoc, ByteArray.extract_append_eq_left (hx3_size _).symm]
    rw [h, ByteArray.extract_append] at e2
    have e3 : q.extract (0 - p.size) (3 - p.size) = ByteArray.empty := by
      rw [show 3 - p.size = 0 by omega]
      simp
    rw [e3, ByteArray.append_empty] at e2
    have := hx3_inj (by omega) (by omega) (e1.symm.trans e2)
    omega

end Go.Proofs.Ytgcnaajinkhakaa
