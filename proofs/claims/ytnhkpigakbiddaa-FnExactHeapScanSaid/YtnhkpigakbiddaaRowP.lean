/-
  How the row's step opens a page. No conditions.
-/
import Derived.Test.YtnhkpigakbiddaaRow
import Derived.Test.YtnhkpigakbiddaaPagX
namespace Go.Proofs.Ytnhkpigakbiddaa
open Go.ChangeShapes Go.WideShapes Go.ChangeAt Go.RowKit Go.Joins
set_option linter.unusedVariables false
set_option linter.unusedSimpArgs false

section
variable {H : Type} {P : Program} {enc : TypeId × Value → H} {w : World} {base : Nat} {t e : TypeId} {d : DataW H} {p : List MemPlace} {v : Value}
/-- A slice of elements of 'size' cells, opened from its one cell. -/
theorem open_row0 {α : Type} [Inhabited α] (enc' : α → List Value) (size : Nat) (good : α → Prop) (h0 : 0 < size) {k0 : Nat → Bool} {held : Bool} (ht : P.underlying t = some (.slice e)) (hC : P.cellsOf e = size)
    (hread : ∀ (n : Nat) (cs : List Value) (y : DataW H × List MemPlace), cs.length = size → DataW.trod enc P w 0 k0 held n e cs = some y → ∃ x, cs = enc' x ∧ good x)
    {fuel : Nat} {y : DataW H × List MemPlace} (hf : DataW.trod enc P w 0 k0 held fuel t [v] = some y) :
    ∃ A c xs, v = .slice A xs.length c ∧ Rl enc' size w A xs ∧ (∀ x ∈ xs, good x) ∧ xs.length ≤ c ∧ c ≤ 9223372036854775807 := by
  rcases Go.Deep.open_slice ht hf with ⟨hcs, _⟩ | ⟨x, len, cap, m, n, D, Pl, hcs, _, hl, hm, hmm, _, hi⟩
  · simp at hcs
    subst hcs
    exact ⟨none, 0, [], rfl, .inl rfl, by simp, by simp, by omega⟩
  · simp at hcs
    subst hcs
    have hlm : len ≤ m := by rw [hmm]; split <;> omega
    unfold maxLen at hm
    have hex : ∀ i, i < len → ∃ y : α, good y ∧ ∀ j u, (enc' y)[j]? = some u → w.cell? ((x.add (i * size)).add j) = some u := by
      intro i hi'
      obtain ⟨cs', hc, htr⟩ := hi i (by omega)
      rw [hC] at hc
      obtain ⟨_, hlen, hat⟩ := World.cells?_some hc
      obtain ⟨y, rfl, hg⟩ := hread _ _ _ hlen htr
      refine ⟨y, hg, fun j u hu => ?_⟩
      have hj := (List.getElem?_eq_some_iff.1 hu).1
      rw [hat j (by omega), hu]
    obtain ⟨f, hf'⟩ := Go.Deep.choose_lt hex
    refine ⟨some x, cap, (List.range len).map f, by simp, ?_, ?_, by simpa using hl, by omega⟩
    · by_cases hz : len = 0
      · exact .inl (by rw [hz]; rfl)
      · obtain ⟨b, off, spot⟩ := x
        have hsp : spot = none := by
          obtain ⟨cs', hc, htr⟩ := hi 0 (by omega)
          rw [hC] at hc
          obtain ⟨_, hlen, hat⟩ := World.cells?_some hc
          have h1 := hat 0 h0
          have h2 : cs'[0]? = some (cs'[0]'(by omega)) := List.getElem?_eq_getElem (by omega)
          rw [h2] at h1
          simpa [Addr.add] using World.cell?_spot h1
        subst hsp
        refine .inr ⟨b, off, rfl, fun k z hk j u hu => ?_⟩
        simp only [List.getElem?_map, Option.map_eq_some_iff] at hk
        obtain ⟨i, hi1, rfl⟩ := hk
        have hk' := (List.getElem?_eq_some_iff.1 hi1).1
        simp at hk'
        rw [List.getElem?_range hk'] at hi1
        obtain rfl : k = i := by simpa using hi1
        have := (hf' k hk').2 j u hu
        rw [add_off, add_off] at this
        exact this
    · intro z hz
      simp only [List.mem_map, List.mem_range] at hz
      obtain ⟨i, hi1, rfl⟩ := hz
      exact (hf' i hi1).1
theorem open_one {r : Reach} {f0 : Field} {k0 : Nat → Bool} {held : Bool} (hs : P.underlying t = some (.struct #[f0])) (ho : f0.offset = 0) (hC : P.cellsOf t = 1) (hc : P.cellsOf f0.type = 1) (hv : Value.okWide P w r base t v)
    (h : DataW.Trod enc P w 0 k0 held t v d p) : ∃ x y n, v = .agg #[x] ∧ DataW.trod enc P w 0 k0 held n f0.type [x] = some y := by
  obtain ⟨cs, rfl, hsz⟩ := okWide_struct hs hv
  rw [hC] at hsz
  obtain ⟨x, rfl⟩ := Array.size_eq_one_iff.1 hsz
  obtain ⟨fuel, hf⟩ := h
  obtain ⟨y0, n, _, _, h0⟩ := trod_struct1 hs hf
  rw [hc, ho] at h0
  exact ⟨x, y0, n, rfl, by simpa [Value.cells] using h0⟩
end

theorem list2 {α : Type} {cs : List α} (h : cs.length = 2) : ∃ a b, cs = [a, b] := by
  match cs, h with
  | [a, b], _ => exact ⟨a, b, rfl⟩
theorem cellsLS : Try.prog.cellsOf 88 = 2 := by kernel_rfl
theorem cellsLP : Try.prog.cellsOf 24 = 1 := by kernel_rfl
section
variable {H : Type} {enc : TypeId × Value → H} {w : World} {base : Nat} {d : DataW H} {p : List MemPlace} {v : Value}
theorem open_page0 {k0 : Nat → Bool} {held : Bool} {fuel : Nat} {y : DataW H × List MemPlace} (h : DataW.trod enc Try.prog w 0 k0 held fuel 22 [v] = some y) :
    ∃ A c xs, v = .slice A xs.length c ∧ Rl encP 2 w A xs ∧ FitP xs ∧ xs.length ≤ c ∧ c ≤ 9223372036854775807 := by
  refine open_row0 (P := Try.prog) encP 2 (fun x => x.d.size ≤ 9223372036854775807) (by omega) Try.underlying22 cellsLS (fun n cs y hl hy => ?_) h
  obtain ⟨y0, y1, m, _, _, h0, h1⟩ := trod_struct2 Try.underlying88 hy
  have ci : Try.prog.cellsOf 4 = 1 := by kernel_rfl
  have cs' : Try.prog.cellsOf 9 = 1 := by kernel_rfl
  obtain ⟨a, b, rfl⟩ := list2 hl
  simp only [ci, cs', List.drop, List.take] at h0 h1
  obtain ⟨a, ha, _⟩ := DataW.trod_bool Try.underlying4 h0
  obtain ⟨s, hs, _, hsz⟩ := DataW.trod_string Try.underlying9 h1
  simp at ha hs
  subst ha hs
  exact ⟨⟨a, s⟩, rfl, by unfold maxLen at hsz; show s.size ≤ _; omega⟩
set_option maxRecDepth 100000 in
theorem open_page {k0 : Nat → Bool} {held : Bool} (hval : Value.okWide Try.prog w .any base 24 v) (h : DataW.Trod enc Try.prog w 0 k0 held 24 v d p) :
    ∃ A c xs, v = .agg #[.slice A xs.length c] ∧ Rl encP 2 w A xs ∧ FitP xs ∧ xs.length ≤ c ∧ c ≤ 9223372036854775807 := by
  obtain ⟨x, y, n, rfl, h0⟩ := open_one Try.underlying24 rfl cellsLP (by kernel_rfl) hval h
  obtain ⟨A, c, xs, rfl, hh⟩ := open_page0 h0
  exact ⟨A, c, xs, rfl, hh⟩
end

end Go.Proofs.Ytnhkpigakbiddaa
