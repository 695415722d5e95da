/-
  The order of texts, values and rows in plain Lean. No program is named. No conditions.
-/
import Derived.Test.YtngmiaglbmkbcaaRows3
namespace Go.Proofs.Ytngmiaglbmkbcaa
open Go.RowKit
set_option linter.unusedVariables false
set_option linter.unusedSimpArgs false

theorem bl_trans : ∀ (x y z : List UInt8), Op.bytesLess x y = true → Op.bytesLess y z = true → Op.bytesLess x z = true
  | x, y, [], h, k => by cases y <;> simp [Op.bytesLess] at k
  | x, [], c :: z, h, k => by cases x <;> simp [Op.bytesLess] at h
  | [], b :: y, c :: z, h, k => by simp [Op.bytesLess]
  | a :: x, b :: y, c :: z, h, k => by
    simp only [Op.bytesLess, Bool.or_eq_true, Bool.and_eq_true, decide_eq_true_eq, beq_iff_eq] at h k ⊢
    rcases h with h | ⟨rfl, h⟩
    · rcases k with k | ⟨rfl, k⟩
      · exact .inl (UInt8.lt_trans h k)
      · exact .inl h
    · rcases k with k | ⟨rfl, k⟩
      · exact .inl k
      · exact .inr ⟨rfl, bl_trans x y z h k⟩
theorem bl_total : ∀ (x y : List UInt8), Op.bytesLess x y = false → Op.bytesLess y x = false → x = y
  | [], [], _, _ => rfl
  | [], b :: y, h, _ => by simp [Op.bytesLess] at h
  | a :: x, [], _, k => by simp [Op.bytesLess] at k
  | a :: x, b :: y, h, k => by
    simp only [Op.bytesLess, Bool.or_eq_false_iff, Bool.and_eq_false_iff, decide_eq_false_iff_not, beq_eq_false_iff_ne] at h k
    have hab : a = b := by
      have h1 := h.1
      have h2 := k.1
      rw [UInt8.lt_iff_toNat_lt] at h1 h2
      exact UInt8.toNat_inj.1 (by omega)
    subst hab
    have h2 := h.2.resolve_left (by simp)
    have k2 := k.2.resolve_left (by simp)
    rw [bl_total x y h2 k2]
theorem bl_asymm {x y : List UInt8} (h : Op.bytesLess x y = true) : Op.bytesLess y x = false := by
  cases k : Op.bytesLess y x
  · rfl
  · have := bl_trans x y x h k
    rw [bytesLess_irrefl] at this
    cases this
theorem bl_app : ∀ (x : List UInt8) (c : UInt8), Op.bytesLess x (x ++ [c]) = true
  | [], c => by simp [Op.bytesLess]
  | a :: x, c => by simp [Op.bytesLess, bl_app x c]
theorem tl_inj {a b : ByteArray} (h : a.toList = b.toList) : a = b := by
  rw [ByteArray.toList_eq, ByteArray.toList_eq] at h
  exact ByteArray.ext (Array.ext' h)

theorem cmpT_lt {s t : ByteArray} (h : Op.bytesLess s.toList t.toList = true) : cmpT s t = -1 ∧ cmpT t s = 1 ∧ s ≠ t := by
  have hne : ¬ (t.toList == s.toList) = true := by
    intro e
    rw [eq_of_beq e, bytesLess_irrefl] at h
    cases h
  refine ⟨by unfold cmpT; rw [if_pos h], ?_, ?_⟩
  · unfold cmpT
    rw [if_neg (by rw [bl_asymm h]; simp), if_neg hne]
  · rintro rfl
    exact hne (beq_self_eq_true _)
theorem cmpT_tri (s t : ByteArray) :
    (Op.bytesLess s.toList t.toList = true ∧ cmpT s t = -1 ∧ cmpT t s = 1 ∧ s ≠ t) ∨ (s = t ∧ cmpT s t = 0 ∧ cmpT t s = 0) ∨ (Op.bytesLess t.toList s.toList = true ∧ cmpT s t = 1 ∧ cmpT t s = -1 ∧ s ≠ t) := by
  cases h : Op.bytesLess s.toList t.toList
  · cases k : Op.bytesLess t.toList s.toList
    · have e := bl_total _ _ h k
      exact .inr (.inl ⟨tl_inj e, cmpT_same e, cmpT_same e.symm⟩)
    · have := cmpT_lt k
      exact .inr (.inr ⟨rfl, this.2.1, this.1, fun e => this.2.2 e.symm⟩)
  · have := cmpT_lt h
    exact .inl ⟨rfl, this.1, this.2.1, this.2.2⟩
theorem cmpT_opp (s t : ByteArray) : cmpT t s = - cmpT s t := by
  rcases cmpT_tri s t with h | h | h <;> omega
theorem cmpT_zero {s t : ByteArray} : cmpT s t = 0 ↔ s = t := by
  rcases cmpT_tri s t with h | h | h
  · exact ⟨fun e => by omega, fun e => absurd e h.2.2.2⟩
  · exact ⟨fun _ => h.1, fun _ => h.2.1⟩
  · exact ⟨fun e => by omega, fun e => absurd e h.2.2.2⟩
theorem cmpT_on {s t u : ByteArray} (h : cmpT s t ≤ 0) (k : cmpT t u ≤ 0) : cmpT s u ≤ 0 := by
  rcases cmpT_tri s t with h1 | ⟨rfl, h1⟩ | h1
  · rcases cmpT_tri t u with k1 | ⟨rfl, k1⟩ | k1
    · rw [(cmpT_lt (bl_trans _ _ _ h1.1 k1.1)).1]; omega
    · exact h
    · omega
  · exact k
  · omega
theorem cmpT_rng (s t : ByteArray) : -1 ≤ cmpT s t ∧ cmpT s t ≤ 1 := by
  rcases cmpT_tri s t with h | h | h <;> omega
theorem cmpI_le {x y : Int} : cmpI x y ≤ 0 ↔ x ≤ y := by
  unfold cmpI
  split
  · omega
  · split <;> omega
theorem cmpI_zero {x y : Int} : cmpI x y = 0 ↔ x = y := by
  unfold cmpI
  split
  · omega
  · split <;> omega
theorem cmpI_opp (x y : Int) : cmpI y x = - cmpI x y := by
  unfold cmpI
  split <;> split <;> (try split) <;> omega
theorem cmpI_rng (x y : Int) : -1 ≤ cmpI x y ∧ cmpI x y ≤ 1 := by
  unfold cmpI
  split
  · omega
  · split <;> omega

theorem ci_opp (a b : Vl) : ci b a = - ci a b := by
  unfold ci
  by_cases h1 : a.k = b.k
  · have e1 : ¬ (b.k ≠ a.k) := by omega
    have e2 : ¬ (a.k ≠ b.k) := by omega
    rw [if_neg e1, if_neg e2]
    by_cases k1 : a.k = 1
    · have k2 : b.k = 1 := by omega
      rw [if_pos k1, if_pos k2, cmpI_opp a.n b.n]
    · have k2 : ¬ b.k = 1 := by omega
      rw [if_neg k1, if_neg k2, cmpT_opp a.s b.s]
  · have e1 : b.k ≠ a.k := by omega
    rw [if_pos h1, if_pos e1, cmpI_opp a.k b.k]
theorem ci_on {a b c : Vl} (h : ci a b ≤ 0) (k : ci b c ≤ 0) : ci a c ≤ 0 := by
  unfold ci at *
  by_cases h1 : a.k = b.k
  · rw [if_neg (by simp [h1])] at h
    by_cases h2 : b.k = c.k
    · rw [if_neg (by simp [h2])] at k
      rw [if_neg (by simp [h1, h2])]
      by_cases k1 : a.k = 1
      · rw [if_pos k1, cmpI_le] at h
        rw [if_pos (by omega), cmpI_le] at k
        rw [if_pos k1, cmpI_le]
        omega
      · rw [if_neg k1] at h
        rw [if_neg (by omega)] at k
        rw [if_neg k1]
        exact cmpT_on h k
    · rw [if_pos h2, cmpI_le] at k
      rw [if_pos (by omega), cmpI_le]
      omega
  · rw [if_pos h1, cmpI_le] at h
    by_cases h2 : b.k = c.k
    · rw [if_pos (by omega), cmpI_le]
      omega
    · rw [if_pos h2, cmpI_le] at k
      rw [if_pos (by omega), cmpI_le]
      omega
theorem ci_rng (a b : Vl) : -1 ≤ ci a b ∧ ci a b ≤ 1 := by
  unfold ci
  split
  · exact cmpI_rng _ _
  · split
    · exact cmpI_rng _ _
    · exact cmpT_rng _ _
theorem emp_iff {s : ByteArray} (h : emp s = true) : s = ByteArray.empty := tl_inj (emp_eq h (by decide +kernel))
theorem ci_self (a : Vl) : ci a a = 0 := by
  unfold ci
  rw [if_neg (by simp)]
  split
  · exact cmpI_zero.2 rfl
  · exact cmpT_zero.2 rfl
theorem ci_zero {a b : Vl} (ha : vv a = true) (hb : vv b = true) : ci a b = 0 ↔ a = b := by
  constructor
  · intro h
    obtain ⟨ak, an, a3⟩ := a
    obtain ⟨bk, bn, b3⟩ := b
    unfold ci at h
    by_cases h1 : ak = bk
    · subst h1
      rw [if_neg (by simp)] at h
      rcases vv_kind ha with ⟨ka, na, sa⟩ | ⟨ka, na, na', sa⟩ | ⟨ka, na, sa⟩ <;> rcases vv_kind hb with ⟨kb, nb, sb⟩ | ⟨kb, nb, nb', sb⟩ | ⟨kb, nb, sb⟩ <;> dsimp only at * <;> try (exfalso; omega)
      · rw [na, nb, emp_iff sa, emp_iff sb]
      · rw [if_pos ka, cmpI_zero] at h
        rw [h, emp_iff sa, emp_iff sb]
      · rw [if_neg (by omega), cmpT_zero] at h
        rw [h, na, nb]
    · rw [if_pos h1, cmpI_zero] at h
      exact absurd h h1
  · rintro rfl
    exact ci_self a
theorem cv_two {a b : Vl} : cv a b = 2 ↔ (vv a && vv b) = false := by
  unfold cv
  cases h : (vv a && vv b)
  · simp
  · have := ci_rng a b
    simp
    omega
theorem cv_ci {a b : Vl} (ha : vv a = true) (hb : vv b = true) : cv a b = ci a b := by
  unfold cv
  rw [ha, hb]
  rfl
theorem cv_same (v : Vl) : cv v v = if vv v then 0 else 2 := by
  unfold cv
  rw [Bool.and_self, ci_self]

/-- Two values are the same in every part, as Go's '==' asks it. -/
def eqv (a b : Vl) : Bool := (a.k == b.k) && (a.n == b.n) && (a.s.toList == b.s.toList)
theorem eqv_iff {a b : Vl} : eqv a b = true ↔ a = b := by
  unfold eqv
  rw [Bool.and_eq_true, Bool.and_eq_true, beq_iff_eq, beq_iff_eq, beq_iff_eq]
  obtain ⟨ak, an, a3⟩ := a
  obtain ⟨bk, bn, b3⟩ := b
  constructor
  · rintro ⟨⟨h1, h2⟩, h3⟩
    dsimp only at *
    rw [h1, h2, tl_inj h3]
  · intro h
    cases h
    exact ⟨⟨rfl, rfl⟩, rfl⟩

theorem crF_opp {f : Vl → Vl → Int} (hf : ∀ a b, f b a = - f a b) : ∀ (xs ys : List Vl), crF f ys xs = - crF f xs ys
  | [], [] => rfl
  | [], b :: ys => rfl
  | a :: xs, [] => rfl
  | a :: xs, b :: ys => by
    unfold crF
    have := hf a b
    by_cases h : f a b = 0
    · rw [if_pos h, if_pos (by omega), crF_opp hf xs ys]
    · rw [if_neg h, if_neg (by omega), this]
theorem crF_zero {f : Vl → Vl → Int} : ∀ (xs ys : List Vl), (∀ a ∈ xs, ∀ b ∈ ys, f a b = 0 ↔ a = b) → (crF f xs ys = 0 ↔ xs = ys)
  | [], [], _ => by simp [crF]
  | [], b :: ys, _ => by simp [crF]
  | a :: xs, [], _ => by simp [crF]
  | a :: xs, b :: ys, hf => by
    have h0 := hf a (by simp) b (by simp)
    have ih := crF_zero xs ys (fun x hx y hy => hf x (by simp [hx]) y (by simp [hy]))
    unfold crF
    rw [List.cons.injEq]
    by_cases h : f a b = 0
    · rw [if_pos h, ih]
      exact ⟨fun e => ⟨h0.1 h, e⟩, fun e => e.2⟩
    · rw [if_neg h]
      exact ⟨fun e => absurd e h, fun e => absurd (h0.2 e.1) h⟩
theorem crF_rng {f : Vl → Vl → Int} (hf : ∀ a b, -1 ≤ f a b ∧ f a b ≤ 1) : ∀ (xs ys : List Vl), -1 ≤ crF f xs ys ∧ crF f xs ys ≤ 1
  | [], [] => by simp [crF]
  | [], b :: ys => by simp [crF]
  | a :: xs, [] => by simp [crF]
  | a :: xs, b :: ys => by
    unfold crF
    split
    · exact crF_rng hf xs ys
    · exact hf a b
theorem CR_two {xs ys : List Vl} : CR xs ys = 2 ↔ (vrB xs && vrB ys) = false := by
  unfold CR
  cases h : (vrB xs && vrB ys)
  · simp
  · have := crF_rng ci_rng xs ys
    simp
    omega
theorem CR_ci {xs ys : List Vl} (ha : vrB xs = true) (hb : vrB ys = true) : CR xs ys = crF ci xs ys := by
  unfold CR
  rw [ha, hb]
  rfl
theorem CR_zero {xs ys : List Vl} (ha : vrB xs = true) (hb : vrB ys = true) : CR xs ys = 0 ↔ xs = ys := by
  rw [CR_ci ha hb]
  exact crF_zero xs ys fun a h1 b h2 => ci_zero (vr_mem ha a h1) (vr_mem hb b h2)
theorem CR_opp {xs ys : List Vl} (ha : vrB xs = true) (hb : vrB ys = true) : CR ys xs = - CR xs ys := by
  rw [CR_ci ha hb, CR_ci hb ha]
  exact crF_opp ci_opp xs ys
theorem vr_cons {v : Vl} {xs : List Vl} (hv : vv v = true) (hx : vrB xs = true) (hl : xs.length < 5) : vrB (v :: xs) = true := by
  unfold vrB
  rw [List.all_cons, hv, List.all_eq_true.2 (vr_mem hx)]
  simp
  omega
theorem CR_cons {v : Vl} {xs ys : List Vl} (hv : vv v = true) (ha : vrB xs = true) (hb : vrB ys = true) (la : xs.length < 5) (lb : ys.length < 5) : CR (v :: xs) (v :: ys) = CR xs ys := by
  rw [CR_ci ha hb, CR_ci (vr_cons hv ha la) (vr_cons hv hb lb)]
  show (if ci v v = 0 then crF ci xs ys else ci v v) = _
  rw [if_pos (ci_self v)]

end Go.Proofs.Ytngmiaglbmkbcaa
