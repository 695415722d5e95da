/-
  DecodeKey of the reference, plain: one step of the reading of a text that is a key. No program is named. No conditions.
-/
import Derived.Test.YtoofioemjgeifaaKeyK
namespace Go.Proofs.Ytoofioemjgeifaa
open Go.RowKit
set_option linter.unusedVariables false
set_option linter.unusedSimpArgs false

/-- What is read so far is the beginning of the row, if the text is a key. -/
def Front (s : ByteArray) (pre : List Vl) (a : Nat) : Prop := ∀ vs, vrB vs = true → ek vs = s → ∃ rest, vs = pre ++ rest ∧ (ek pre).size = a
theorem front_zero (s : ByteArray) : Front s [] 0 := fun vs _ _ => ⟨vs, rfl, rfl⟩
theorem front_step {s : ByteArray} {pre : List Vl} {a a' : Nat} {v : Vl} (h : Front s pre a) (ha : a < s.size)
    (hs : ∀ x Q, vv x = true → (nums s).drop a = kz x ++ Q → x = v ∧ a + (kz x).length = a') : Front s (pre ++ [v]) a' := by
  intro vs hv he
  obtain ⟨rest, h1, h2⟩ := h vs hv he
  cases rest with
  | nil =>
    rw [List.append_nil] at h1
    rw [h1] at he
    rw [he] at h2
    omega
  | cons x rest =>
    have hx : vv x = true := vr_mem hv x (by rw [h1]; simp)
    have hn : nums s = pre.flatMap kz ++ (kz x ++ rest.flatMap kz) := by
      rw [← he]
      unfold ek
      rw [nums_son (kZ_rng (vr_mem hv)), h1, List.flatMap_append, List.flatMap_cons]
    have hl : (pre.flatMap kz).length = a := by
      unfold ek at h2
      rw [strOfNums_size] at h2
      exact h2
    obtain ⟨rfl, h4⟩ := hs x (rest.flatMap kz) hx (by rw [hn, List.drop_append, hl, Nat.sub_self, List.drop_of_length_le (by omega)]; rfl)
    refine ⟨rest, by rw [h1]; simp, ?_⟩
    rw [ek_app, ek_one, ByteArray.size_append, h2]
    unfold ekb
    rw [strOfNums_size]
    exact h4
theorem front_end {s : ByteArray} {pre : List Vl} {a : Nat} (h : Front s pre a) (hx : s.size ≤ a ∨ 5 < pre.length) : ∀ vs, vrB vs = true → ek vs = s → pre = vs := by
  intro vs hv he
  obtain ⟨rest, h1, h2⟩ := h vs hv he
  cases rest with
  | nil => rw [h1, List.append_nil]
  | cons x rest =>
    exfalso
    have hl := vr_len hv
    rw [h1, List.length_append, List.length_cons] at hl
    rcases hx with hx | hx
    · have := (ekb_size (vr_mem hv x (by rw [h1]; simp))).1
      rw [h1, ek_app, ek_cons] at he
      have hz := congrArg ByteArray.size he
      rw [ByteArray.size_append, ByteArray.size_append] at hz
      omega
    · omega
theorem drop_at {s : ByteArray} {a k : Nat} (h : a + k < s.size) : ((nums s).drop a)[k]? = some (s[a + k].toNat : Int) := by
  rw [List.getElem?_drop, nums_at h]
theorem step_head {s : ByteArray} {a : Nat} {x : Vl} {Q : List Int} (ha : a < s.size) (hx : vv x = true) (h : (nums s).drop a = kz x ++ Q) : ((s[a].toNat : Int) = 97 ∧ x.k = 0) ∨ ((s[a].toNat : Int) = 98 ∧ x.k = 1) ∨ ((s[a].toNat : Int) = 99 ∧ x.k = 2) := by
  have h1 := drop_at (s := s) (a := a) (k := 0) (by omega)
  simp only [Nat.add_zero] at h1
  rw [h, List.getElem?_append_left (kz_pos hx)] at h1
  rcases kz_head hx with ⟨p, b⟩ | ⟨p, b⟩ | ⟨p, b⟩
  · rw [p] at h1; injection h1 with h1; exact .inl ⟨h1.symm, b⟩
  · rw [p] at h1; injection h1 with h1; exact .inr (.inl ⟨h1.symm, b⟩)
  · rw [p] at h1; injection h1 with h1; exact .inr (.inr ⟨h1.symm, b⟩)
theorem step_none {s : ByteArray} {a : Nat} (ha : a < s.size) (h1 : (s[a].toNat : Int) ≠ 98) (h2 : (s[a].toNat : Int) ≠ 99) :
    ∀ x Q, vv x = true → (nums s).drop a = kz x ++ Q → x = ⟨0, 0, ByteArray.empty⟩ ∧ a + (kz x).length = a + 1 := by
  intro x Q hx h
  rcases step_head ha hx h with ⟨_, hk⟩ | ⟨e, _⟩ | ⟨e, _⟩
  · rcases vv_kind hx with ⟨k, n, s3⟩ | ⟨k, _⟩ | ⟨k, _⟩
    · refine ⟨?_, by unfold kz; rw [if_pos k]; rfl⟩
      obtain ⟨xk, xn, x3⟩ := x
      dsimp only at *
      rw [k, n, emp_iff s3]
    · omega
    · omega
  · contradiction
  · contradiction
/-- The number of four bytes, as the reference reads it. -/
def sdn (b0 b1 b2 b3 : Int) : Int := 200000 * (b0 - 48) + 4000 * (b1 - 32) + 80 * (b2 - 32) + b3 - 32 - 999999
theorem step_num {s : ByteArray} {a : Nat} {n : Int} (ha : a < s.size) (h1 : (s[a].toNat : Int) = 98) (hn : ∀ h : a + 5 ≤ s.size, n = sdn (s[a + 1].toNat : Int) (s[a + 2].toNat : Int) (s[a + 3].toNat : Int) (s[a + 4].toNat : Int)) :
    ∀ x Q, vv x = true → (nums s).drop a = kz x ++ Q → x = ⟨1, n, ByteArray.empty⟩ ∧ a + (kz x).length = a + 5 := by
  intro x Q hx h
  rcases step_head ha hx h with ⟨e, _⟩ | ⟨_, hk⟩ | ⟨e, _⟩
  · omega
  · rcases vv_kind hx with ⟨k, _⟩ | ⟨k, n0, n1, s3⟩ | ⟨k, _⟩
    · omega
    · have hz := kz_one hk
      have hlen := congrArg List.length h
      rw [hz, List.length_drop, nums_len] at hlen
      simp only [List.length_append, List.length_cons, List.length_nil] at hlen
      have e1 := drop_at (s := s) (a := a) (k := 1) (by omega)
      have e2 := drop_at (s := s) (a := a) (k := 2) (by omega)
      have e3 := drop_at (s := s) (a := a) (k := 3) (by omega)
      have e4 := drop_at (s := s) (a := a) (k := 4) (by omega)
      rw [h, hz] at e1 e2 e3 e4
      simp only [List.cons_append, List.nil_append, List.getElem?_cons_succ, List.getElem?_cons_zero, Option.some.injEq] at e1 e2 e3 e4
      refine ⟨?_, by rw [hz]; rfl⟩
      have hnn := hn (by omega)
      rw [← e1, ← e2, ← e3, ← e4] at hnn
      unfold sdn at hnn
      obtain ⟨xk, xn, x3⟩ := x
      dsimp only at *
      rw [hk, emp_iff s3, show n = xn by omega]
    · omega
  · omega
theorem step_text {s : ByteArray} {a n : Nat} (ha : a < s.size) (h1 : (s[a].toNat : Int) = 99) (hle : a + 1 + n ≤ s.size) (hno : ∀ t (ht : t < n), (s[a + 1 + t]'(by omega)).toNat ≠ 1) (hst : a + 1 + n = s.size ∨ ∃ h : a + 1 + n < s.size, s[a + 1 + n].toNat = 1) :
    ∀ x Q, vv x = true → (nums s).drop a = kz x ++ Q → x = ⟨2, 0, s.extract (a + 1) (a + 1 + n)⟩ ∧ a + (kz x).length = a + n + 2 := by
  intro x Q hx h
  rcases step_head ha hx h with ⟨e, _⟩ | ⟨e, _⟩ | ⟨_, hk⟩
  · omega
  · omega
  · rcases vv_kind hx with ⟨k, _⟩ | ⟨k, _⟩ | ⟨k, xn0, s3⟩
    · omega
    · omega
    · have hz := kz_two hk
      have hd : (nums s).drop (a + 1) = nums x.s ++ 1 :: Q := by
        have := congrArg (List.drop 1) h
        rw [List.drop_drop, hz] at this
        simpa using this
      have hp : (1 : Int) ∉ ((nums s).drop (a + 1)).take n := by
        intro hm
        obtain ⟨i, hi, he⟩ := List.getElem_of_mem hm
        have hi' : i < n := by rw [List.length_take] at hi; omega
        have := hno i hi'
        rw [List.getElem_take] at he
        have h3 := drop_at (s := s) (a := a + 1) (k := i) (by omega)
        rw [List.getElem?_eq_getElem (by rw [List.length_drop, nums_len]; omega)] at h3
        injection h3 with h3
        rw [he] at h3
        omega
      have hsplit : ((nums s).drop (a + 1)).take n ++ ((nums s).drop (a + 1)).drop n = nums x.s ++ 1 :: Q := by rw [List.take_append_drop, hd]
      rcases hst with hst | ⟨hlt, h11⟩
      · exfalso
        have hz2 : ((nums s).drop (a + 1)).drop n = [] := List.drop_of_length_le (by rw [List.length_drop, nums_len]; omega)
        rw [hz2, List.append_nil] at hsplit
        rw [hsplit] at hp
        exact hp (by simp)
      · have h4 := drop_at (s := s) (a := a + 1) (k := n) hlt
        have hcons : ((nums s).drop (a + 1)).drop n = 1 :: ((nums s).drop (a + 1)).drop (n + 1) := by
          rw [List.drop_eq_getElem_cons (by rw [List.length_drop, nums_len]; omega)]
          congr 1
          rw [List.getElem?_eq_getElem (by rw [List.length_drop, nums_len]; omega)] at h4
          injection h4 with h4
          rw [h4, h11]
          rfl
        rw [hcons] at hsplit
        obtain ⟨h5, _⟩ := cut1 hsplit hp (text_one s3)
        have h6 : x.s = s.extract (a + 1) (a + 1 + n) := by
          apply nums_inj
          rw [nums_ext, ← h5, List.drop_take]
          congr 1
          omega
        have h7 := congrArg List.length h5
        rw [List.length_take, List.length_drop, nums_len, nums_len] at h7
        constructor
        · obtain ⟨xk, xn, x3⟩ := x
          dsimp only at *
          rw [hk, xn0, ← h6]
        · rw [hz]
          simp only [List.length_cons, List.length_append, List.length_nil, nums_len]
          omega

theorem sdk_some {s : ByteArray} {out : List Vl} (hv : vrB out = true) (he : ek out = s) : DK s = some out := DK_some hv he
theorem sdk_no {s : ByteArray} {out : List Vl} (h : ∀ vs, vrB vs = true → ek vs = s → out = vs) (hn : vrB out = false ∨ ek out ≠ s) : DK s = none :=
  DK_none fun vs hv he => by
    have := h vs hv he
    subst this
    rcases hn with hn | hn
    · rw [hv] at hn; cases hn
    · exact hn he

end Go.Proofs.Ytoofioemjgeifaa
