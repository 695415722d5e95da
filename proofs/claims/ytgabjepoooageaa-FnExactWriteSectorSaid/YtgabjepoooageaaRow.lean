/-
  How the row's step opens an argument: a string, an integer, a slice of bytes, as the walks want it. No conditions.
-/
import Derived.Test.YtgabjepoooageaaBase
import Derived.Deep.Slices
import Derived.Deep.Strs
import Derived.Lib.SmallJoins
namespace Go.Proofs.Ytgabjepoooageaa
open Go.ChangeShapes Go.WideShapes Go.ChangeAt Go.RowKit
set_option linter.unusedVariables false
set_option linter.unusedSimpArgs false

theorem int_rng {n : Int} (h : (Lit.int .i64 n).wf = true) : -9223372036854775808 ≤ n ∧ n ≤ 9223372036854775807 := by
  simp only [Lit.wf, IntKind.min, IntKind.max, IntKind.signed, IntKind.bits, Bool.and_eq_true, decide_eq_true_eq, if_true] at h
  omega
theorem byte_rng {n : Int} (h : (Lit.int .u8 n).wf = true) : 0 ≤ n ∧ n ≤ 255 := by
  simp [Lit.wf, IntKind.min, IntKind.max, IntKind.signed, IntKind.bits] at h
  omega

section
variable {H : Type} {enc : TypeId × Value → H} {P : Program} {w : World} {base : Nat} {d : DataW H} {p : List MemPlace} {v : Value} {t e : TypeId}
/-- What the walks are told of a slice of bytes. -/
structure Bytes (w : World) (A : Option Addr) (c : Nat) (zs : List Int) : Prop where
  rl : Rl encB 1 w A zs
  rng : ∀ z ∈ zs, 0 ≤ z ∧ z ≤ 255
  cap : zs.length ≤ c
  max : c ≤ 9223372036854775807
  blk : ∀ b, zs ≠ [] → A.map (·.block) = some b → b < w.heap.size
theorem open_bytes {k0 : Nat → Bool} {held : Bool} (ht : P.underlying t = some (.slice e)) (he : P.underlying e = some (.int .u8)) (hC : P.cellsOf e = 1)
    (hval : Value.okWide P w .any base t v) (h : DataW.Trod enc P w 0 k0 held t v d p) :
    ∃ A c zs, v = .slice A zs.length c ∧ Bytes w A c zs := by
  obtain ⟨A, len, cap, rfl⟩ := okWide_slice ht hval
  obtain ⟨fuel, hf⟩ := h
  rcases open_ints ht he hC hf with ⟨hcs, _⟩ | ⟨x, l, c, zs, hcs, _, hl, hm, hz, _, hcell, hwz⟩
  · simp [Value.cells] at hcs
    obtain ⟨rfl, rfl, rfl⟩ := hcs
    exact ⟨none, 0, [], rfl, .inl rfl, by simp, by simp, by omega, by simp⟩
  · simp [Value.cells] at hcs
    obtain ⟨rfl, rfl, rfl⟩ := hcs
    have hlz : len ≤ zs.length := by rw [hz]; split <;> omega
    have htl : (zs.take len).length = len := by rw [List.length_take]; omega
    unfold maxLen at hm
    refine ⟨some x, cap, zs.take len, by rw [htl], ?_, fun z hz' => byte_rng (hwz z (List.mem_of_mem_take hz')), by omega, by omega, ?_⟩
    · by_cases h0 : len = 0
      · exact .inl (by rw [h0]; simp)
      · obtain ⟨b, off, spot⟩ := x
        have hc0 := hcell 0 (by omega)
        have hspot : spot = none := by simpa [Addr.add] using World.cell?_spot hc0
        subst hspot
        refine .inr ⟨b, off, rfl, fun k z hk j u hu => ?_⟩
        rw [List.getElem?_take] at hk
        split at hk
        · have hkl := (List.getElem?_eq_some_iff.1 hk).1
          have := hcell k hkl
          match j, hu with
          | 0, hu =>
            simp [encB] at hu
            subst hu
            rw [List.getD_eq_getElem?_getD, hk] at this
            have e1 : (⟨b, off, none⟩ : Addr).add k = ⟨b, off + k * 1 + 0, none⟩ := by
              unfold Addr.add
              split <;> simp_all
            rw [e1] at this
            simpa using this
          | j + 1, hu => simp [encB] at hu
        · cases hk
    · intro b hne hb
      simp at hb
      subst hb
      have h0 : 0 < len := by
        rcases Nat.eq_zero_or_pos len with h | h
        · subst h; simp at hne
        · exact h
      have := World.block_lt_of_cell? w _ (hcell 0 (by omega))
      simpa [Addr.add] using this
theorem add_off (b off k : Nat) : (⟨b, off, none⟩ : Addr).add k = ⟨b, off + k, none⟩ := by
  unfold Addr.add
  split <;> simp_all
/-- A slice of elements of 'size' cells, each of which reads as 'enc x' for a good x. -/
theorem open_row {α : Type} [Inhabited α] (enc' : α → List Value) (size : Nat) (good : α → Prop) (h0 : 0 < size) {k0 : Nat → Bool} {held : Bool} (ht : P.underlying t = some (.slice e)) (hC : P.cellsOf e = size)
    (hread : ∀ (n : Nat) (cs : List Value) (y : DataW H × List MemPlace), cs.length = size → DataW.trod enc P w 0 k0 held n e cs = some y → ∃ x, cs = enc' x ∧ good x)
    (hval : Value.okWide P w .any base t v) (h : DataW.Trod enc P w 0 k0 held t v d p) :
    ∃ A c xs, v = .slice A xs.length c ∧ Rl enc' size w A xs ∧ (∀ x ∈ xs, good x) ∧ xs.length ≤ c ∧ c ≤ 9223372036854775807 := by
  obtain ⟨A, len, cap, rfl⟩ := okWide_slice ht hval
  obtain ⟨fuel, hf⟩ := h
  rcases Go.Deep.open_slice ht hf with ⟨hcs, _⟩ | ⟨x, l, c, m, n, D, Pl, hcs, _, hl, hm, hmm, _, hi⟩
  · simp [Value.cells] at hcs
    obtain ⟨rfl, rfl, rfl⟩ := hcs
    exact ⟨none, 0, [], rfl, .inl rfl, by simp, by simp, by omega⟩
  · simp [Value.cells] at hcs
    obtain ⟨rfl, rfl, rfl⟩ := hcs
    have hlm : len ≤ m := by rw [hmm]; split <;> omega
    unfold maxLen at hm
    have hex : ∀ i, i < len → ∃ y : α, good y ∧ ∀ j u, (enc' y)[j]? = some u → w.cell? ((x.add (i * size)).add j) = some u := by
      intro i hi'
      obtain ⟨cs', hc, htr⟩ := hi i (by omega)
      rw [hC] at hc
      obtain ⟨_, hlen, hat⟩ := World.cells?_some hc
      obtain ⟨y, rfl, hg⟩ := hread _ _ _ hlen htr
      refine ⟨y, hg, fun j u hu => ?_⟩
      have hj := (List.getElem?_eq_some_iff.1 hu).1
      rw [hat j (by omega), hu]
    obtain ⟨f, hf'⟩ := Go.Deep.choose_lt hex
    refine ⟨some x, cap, (List.range len).map f, by simp, ?_, ?_, by simpa using hl, by omega⟩
    · by_cases hz : len = 0
      · exact .inl (by rw [hz]; rfl)
      · obtain ⟨b, off, spot⟩ := x
        have hsp : spot = none := by
          obtain ⟨cs', hc, htr⟩ := hi 0 (by omega)
          rw [hC] at hc
          obtain ⟨_, hlen, hat⟩ := World.cells?_some hc
          have h1 := hat 0 h0
          have h2 : cs'[0]? = some (cs'[0]'(by omega)) := List.getElem?_eq_getElem (by omega)
          rw [h2] at h1
          simpa [Addr.add] using World.cell?_spot h1
        subst hsp
        refine .inr ⟨b, off, rfl, fun k z hk j u hu => ?_⟩
        simp only [List.getElem?_map, Option.map_eq_some_iff] at hk
        obtain ⟨i, hi1, rfl⟩ := hk
        have hk' := (List.getElem?_eq_some_iff.1 hi1).1
        simp at hk'
        rw [List.getElem?_range hk'] at hi1
        obtain rfl : k = i := by simpa using hi1
        have := (hf' k hk').2 j u hu
        rw [add_off, add_off] at this
        exact this
    · intro z hz
      simp only [List.mem_map, List.mem_range] at hz
      obtain ⟨i, hi1, rfl⟩ := hz
      exact (hf' i hi1).1
end

end Go.Proofs.Ytgabjepoooageaa
