/-
  Damage in plain Lean: a frame of which one byte is replaced by the next one is no frame. No program is named. No conditions.
-/
import Derived.Test.YtgcnaajinkhakaaFlat
namespace Go.Proofs.Ytgcnaajinkhakaa
open Go.RowKit
set_option linter.unusedVariables false
set_option linter.unusedSimpArgs false

theorem stp_inj_c {y : Int} {c d : UInt8} (h : stp y c = stp y d) : c = d := by
  unfold stp at h
  have h1 : c.toNat < 256 := c.toNat_lt
  have h2 : d.toNat < 256 := d.toNat_lt
  apply UInt8.toNat_inj.1
  omega
theorem stp_inj_y {y z : Int} {c : UInt8} (hy : 0 ≤ y ∧ y ≤ 4092) (hz : 0 ≤ z ∧ z ≤ 4092) (h : stp y c = stp z c) : y = z := by
  unfold stp at h
  omega
theorem fold_inj : ∀ (cs : List UInt8) {y z : Int}, (0 ≤ y ∧ y ≤ 4092) → (0 ≤ z ∧ z ≤ 4092) → cs.foldl stp y = cs.foldl stp z → y = z
  | [], _, _, _, _, h => h
  | c :: cs, _, _, hy, hz, h => stp_inj_y hy hz (fold_inj cs (stp_rng _ c) (stp_rng _ c) h)
theorem fold_set : ∀ (cs : List UInt8) (k : Nat) (c : UInt8) (y : Int) (hk : k < cs.length), cs[k] ≠ c → (cs.set k c).foldl stp y ≠ cs.foldl stp y
  | a :: cs, 0, c, y, _, hne => fun h => hne (stp_inj_c (fold_inj cs (stp_rng _ _) (stp_rng _ _) h)).symm
  | a :: cs, k + 1, c, y, hk, hne => fold_set cs k c (stp y a) (by simpa using hk) (by simpa using hne)
theorem sum_set {cs : List UInt8} {k : Nat} {c : UInt8} (hk : k < cs.length) (hne : cs[k] ≠ c) : sumL (cs.set k c) ≠ sumL cs := fold_set cs k c 7 hk hne

theorem dat_take (s : ByteArray) (j : Nat) : (s.extract 0 j).data.toList = s.data.toList.take j := by
  rw [ByteArray.data_extract, Array.toList_extract]
  simp
theorem dat_ext (s : ByteArray) (i j : Nat) : (s.extract i j).data.toList = (s.data.toList.take j).drop i := by
  rw [ByteArray.data_extract, Array.toList_extract]
  simp [List.extract, List.drop_take]
theorem dat_len (s : ByteArray) : s.data.toList.length = s.size := by
  rw [Array.length_toList]
  rfl
theorem dat_inj {a b : ByteArray} (h : a.data.toList = b.data.toList) : a = b := ByteArray.ext (Array.ext' h)
theorem succ_ne (c : UInt8) : c ≠ c + 1 := fun h => by
  have h2 := congrArg UInt8.toNat h
  rw [UInt8.toNat_add] at h2
  have := c.toNat_lt
  simp at h2
  omega
theorem dgU_succ : ∀ i : Fin 16, ∀ j : Fin 16, dgU i.1 + 1 = dgU j.1 → j.1 = i.1 + 1 := by decide +kernel

theorem damaged {s d : ByteArray} {k : Nat} (hs : s.size ≤ 40) (hk : k < s.size + 6) (hF : k < (frm s).data.toList.length)
    (hd : d.data.toList = (frm s).data.toList.set k ((frm s).data.toList[k] + 1)) : nx d = none := by
  have hzf := frm_size s
  have hlf : (frm s).data.toList.length = s.size + 6 := by rw [dat_len, hzf]
  have hzd : d.size = s.size + 6 := by
    rw [← dat_len, hd, List.length_set, hlf]
  refine nx_none.2 fun m => ?_
  cases hm : isF d m
  · rfl
  · exfalso
    obtain ⟨h1, h2, h3⟩ := isF_iff.1 hm
    have hh := isF_head hm
    have hf3 : (frm s).extract 0 3 = hx3 s.size := by
      unfold frm front
      rw [ByteArray.append_assoc, ByteArray.extract_append_eq_left (hx3_size _).symm]
    have e1 := congrArg (fun b : ByteArray => b.data.toList) hh
    have e2 := congrArg (fun b : ByteArray => b.data.toList) hf3
    simp only [dat_take] at e1 e2
    rw [hd, List.take_set, e2] at e1
    have hFk : (frm s).data.toList[k]? = some (frm s).data.toList[k] := List.getElem?_eq_getElem hF
    generalize hc : (frm s).data.toList[k] = c at *
    by_cases k3 : k < 3
    · have hck : (hx3 s.size).data.toList[k]? = some c := by rw [← e2, List.getElem?_take_of_lt k3, hFk]
      rw [hx3_eq, hx3_eq] at e1
      rw [hx3_eq] at hck
      have : k = 0 ∨ k = 1 ∨ k = 2 := by omega
      rcases this with rfl | rfl | rfl
      · simp at hck e1
        rw [← hck] at e1
        have a := dgU_succ ⟨s.size / 256, by omega⟩ ⟨m / 256, by omega⟩ e1.1
        have b := dgU_inj ⟨s.size / 16 % 16, by omega⟩ ⟨m / 16 % 16, by omega⟩ e1.2.1
        have c := dgU_inj ⟨s.size % 16, by omega⟩ ⟨m % 16, by omega⟩ e1.2.2
        simp only [Fin.mk.injEq] at b c
        simp only at a
        omega
      · simp at hck e1
        rw [← hck] at e1
        have a := dgU_inj ⟨s.size / 256, by omega⟩ ⟨m / 256, by omega⟩ e1.1
        have b := dgU_succ ⟨s.size / 16 % 16, by omega⟩ ⟨m / 16 % 16, by omega⟩ e1.2.1
        have c := dgU_inj ⟨s.size % 16, by omega⟩ ⟨m % 16, by omega⟩ e1.2.2
        simp only [Fin.mk.injEq] at a c
        simp only at b
        omega
      · simp at hck e1
        rw [← hck] at e1
        have a := dgU_inj ⟨s.size / 256, by omega⟩ ⟨m / 256, by omega⟩ e1.1
        have b := dgU_inj ⟨s.size / 16 % 16, by omega⟩ ⟨m / 16 % 16, by omega⟩ e1.2.1
        have c := dgU_succ ⟨s.size % 16, by omega⟩ ⟨m % 16, by omega⟩ e1.2.2
        simp only [Fin.mk.injEq] at a b
        simp only at c
        omega
    · rw [List.set_eq_of_length_le (by rw [hx3_eq]; simp; omega)] at e1
      have hmn : m = s.size := hx3_inj (by omega) (by omega) (dat_inj e1.symm)
      subst hmn
      rw [show s.size + 6 = d.size by omega, ByteArray.extract_zero_size] at h3
      generalize hx : d.extract 3 (3 + s.size) = x at h3
      have hxz : x.size = s.size := by rw [← hx, ext_size (by omega)]; omega
      by_cases kn : k < s.size + 3
      · have l1 : (front x).data.toList = (front s).data.toList.set k (c + 1) := by
          have a1 : (frm x).extract 0 (s.size + 3) = front x := by unfold frm; exact ByteArray.extract_append_eq_left (by rw [front_size, hxz])
          have a2 : (frm s).extract 0 (s.size + 3) = front s := by unfold frm; exact ByteArray.extract_append_eq_left (by rw [front_size])
          rw [← a1, ← a2, h3, dat_take, dat_take, hd, List.take_set]
        have l2 : hx3 (sumT (front x)) = hx3 (sumT (front s)) := by
          have a1 : (frm x).extract (s.size + 3) (s.size + 6) = hx3 (sumT (front x)) := by unfold frm; exact ByteArray.extract_append_eq_right (by rw [front_size, hxz]) (by rw [front_size, hxz, hx3_size])
          have a2 : (frm s).extract (s.size + 3) (s.size + 6) = hx3 (sumT (front s)) := by unfold frm; exact ByteArray.extract_append_eq_right (by rw [front_size]) (by rw [front_size, hx3_size])
          rw [← a1, ← a2, h3]
          apply dat_inj
          rw [dat_ext, dat_ext, hd, List.take_set, List.drop_set_of_lt kn]
        have r1 := sum_rng (front x).data.toList
        have r2 := sum_rng (front s).data.toList
        have hsum : sumL (front x).data.toList = sumL (front s).data.toList := by
          obtain ⟨p, hp⟩ := Int.eq_ofNat_of_zero_le r1.1
          obtain ⟨q, hq⟩ := Int.eq_ofNat_of_zero_le r2.1
          unfold sumT at l2
          rw [hp, hq] at l2 ⊢
          rw [hx3_inj (by omega) (by omega) l2]
        rw [l1] at hsum
        have hlen : (front s).data.toList.length = s.size + 3 := by rw [dat_len, front_size]
        refine sum_set (by omega) ?_ hsum
        have a2 : (frm s).extract 0 (s.size + 3) = front s := by unfold frm; exact ByteArray.extract_append_eq_left (by rw [front_size])
        have a3 : (front s).data.toList[k]? = some c := by rw [← a2, dat_take, List.getElem?_take_of_lt kn, hFk]
        have a4 := (List.getElem?_eq_some_iff.1 a3).2
        rw [a4]
        exact succ_ne c
      · have hxs : x = s := by
          rw [← hx]
          apply dat_inj
          have a1 : (frm s).extract 3 (3 + s.size) = s := by have := frm_text s ByteArray.empty; simpa using this
          rw [dat_ext, hd, List.take_set, List.set_eq_of_length_le (by simp; omega), ← dat_ext, a1]
        rw [hxs] at h3
        rw [← h3] at hd
        have := congrArg (fun l => l[k]?) hd
        simp only [List.getElem?_set_self hF] at this
        rw [hFk] at this
        exact succ_ne c (Option.some.inj this)

end Go.Proofs.Ytgcnaajinkhakaa
