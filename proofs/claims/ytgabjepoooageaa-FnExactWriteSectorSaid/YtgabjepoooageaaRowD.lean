/-
  How the row's step opens a disk, and a write. No conditions.
-/
import Derived.Test.YtgabjepoooageaaRow
import Derived.Test.YtgabjepoooageaaDiskW
namespace Go.Proofs.Ytgabjepoooageaa
open Go.ChangeShapes Go.WideShapes Go.ChangeAt Go.RowKit Go.Joins
set_option linter.unusedVariables false
set_option linter.unusedSimpArgs false

section
variable {H : Type} {P : Program} {enc : TypeId × Value → H} {w : World} {base : Nat} {t e : TypeId} {d : DataW H} {p : List MemPlace} {v : Value}
/-- A slice of elements of 'size' cells, opened from its one cell. -/
theorem open_row0 {α : Type} [Inhabited α] (enc' : α → List Value) (size : Nat) (good : α → Prop) (h0 : 0 < size) {k0 : Nat → Bool} {held : Bool} (ht : P.underlying t = some (.slice e)) (hC : P.cellsOf e = size)
    (hread : ∀ (n : Nat) (cs : List Value) (y : DataW H × List MemPlace), cs.length = size → DataW.trod enc P w 0 k0 held n e cs = some y → ∃ x, cs = enc' x ∧ good x)
    {fuel : Nat} {y : DataW H × List MemPlace} (hf : DataW.trod enc P w 0 k0 held fuel t [v] = some y) :
    ∃ A c xs, v = .slice A xs.length c ∧ Rl enc' size w A xs ∧ (∀ x ∈ xs, good x) ∧ xs.length ≤ c ∧ c ≤ 9223372036854775807 := by
  rcases Go.Deep.open_slice ht hf with ⟨hcs, _⟩ | ⟨x, len, cap, m, n, D, Pl, hcs, _, hl, hm, hmm, _, hi⟩
  · simp at hcs
    subst hcs
    exact ⟨none, 0, [], rfl, .inl rfl, by simp, by simp, by omega⟩
  · simp at hcs
    subst hcs
    have hlm : len ≤ m := by rw [hmm]; split <;> omega
    unfold maxLen at hm
    have hex : ∀ i, i < len → ∃ y : α, good y ∧ ∀ j u, (enc' y)[j]? = some u → w.cell? ((x.add (i * size)).add j) = some u := by
      intro i hi'
      obtain ⟨cs', hc, htr⟩ := hi i (by omega)
      rw [hC] at hc
      obtain ⟨_, hlen, hat⟩ := World.cells?_some hc
      obtain ⟨y, rfl, hg⟩ := hread _ _ _ hlen htr
      refine ⟨y, hg, fun j u hu => ?_⟩
      have hj := (List.getElem?_eq_some_iff.1 hu).1
      rw [hat j (by omega), hu]
    obtain ⟨f, hf'⟩ := Go.Deep.choose_lt hex
    refine ⟨some x, cap, (List.range len).map f, by simp, ?_, ?_, by simpa using hl, by omega⟩
    · by_cases hz : len = 0
      · exact .inl (by rw [hz]; rfl)
      · obtain ⟨b, off, spot⟩ := x
        have hsp : spot = none := by
          obtain ⟨cs', hc, htr⟩ := hi 0 (by omega)
          rw [hC] at hc
          obtain ⟨_, hlen, hat⟩ := World.cells?_some hc
          have h1 := hat 0 h0
          have h2 : cs'[0]? = some (cs'[0]'(by omega)) := List.getElem?_eq_getElem (by omega)
          rw [h2] at h1
          simpa [Addr.add] using World.cell?_spot h1
        subst hsp
        refine .inr ⟨b, off, rfl, fun k z hk j u hu => ?_⟩
        simp only [List.getElem?_map, Option.map_eq_some_iff] at hk
        obtain ⟨i, hi1, rfl⟩ := hk
        have hk' := (List.getElem?_eq_some_iff.1 hi1).1
        simp at hk'
        rw [List.getElem?_range hk'] at hi1
        obtain rfl : k = i := by simpa using hi1
        have := (hf' k hk').2 j u hu
        rw [add_off, add_off] at this
        exact this
    · intro z hz
      simp only [List.mem_map, List.mem_range] at hz
      obtain ⟨i, hi1, rfl⟩ := hz
      exact (hf' i hi1).1
end

theorem list2 {α : Type} {cs : List α} (h : cs.length = 2) : ∃ a b, cs = [a, b] := by
  match cs, h with
  | [a, b], _ => exact ⟨a, b, rfl⟩
theorem list1 {α : Type} {cs : List α} (h : cs.length = 1) : ∃ a, cs = [a] := by
  match cs, h with
  | [a], _ => exact ⟨a, rfl⟩
theorem cellsI : Try.prog.cellsOf 3 = 1 := by kernel_rfl
theorem cellsLW : Try.prog.cellsOf 50 = 2 := by kernel_rfl
theorem cellsLD : Try.prog.cellsOf 25 = 2 := by kernel_rfl
section
variable {H : Type} {enc : TypeId × Value → H} {w : World} {base : Nat} {d : DataW H} {p : List MemPlace} {v : Value}
theorem open_ints0 {k0 : Nat → Bool} {held : Bool} {fuel : Nat} {y : DataW H × List MemPlace} (h : DataW.trod enc Try.prog w 0 k0 held fuel 22 [v] = some y) :
    ∃ A c xs, v = .slice A xs.length c ∧ Rl encD 1 w A xs ∧ xs.length ≤ 9223372036854775807 := by
  obtain ⟨A, c, xs, h1, h2, _, h4, h5⟩ := open_row0 (P := Try.prog) encD 1 (fun _ => True) (by omega) Try.underlying22 cellsI (fun n cs y hl hy => by
    obtain ⟨a, rfl⟩ := list1 hl
    obtain ⟨a, ha, _⟩ := DataW.trod_int Try.underlying3 hy
    simp at ha
    subst ha
    exact ⟨a, rfl, trivial⟩) h
  exact ⟨A, c, xs, h1, h2, by omega⟩
theorem open_writes0 {k0 : Nat → Bool} {held : Bool} {fuel : Nat} {y : DataW H × List MemPlace} (h : DataW.trod enc Try.prog w 0 k0 held fuel 23 [v] = some y) :
    ∃ A c xs, v = .slice A xs.length c ∧ Rl encW 2 w A xs ∧ xs.length ≤ 9223372036854775807 := by
  obtain ⟨A, c, xs, h1, h2, _, h4, h5⟩ := open_row0 (P := Try.prog) encW 2 (fun _ => True) (by omega) Try.underlying23 cellsLW (fun n cs y hl hy => by
    obtain ⟨y0, y1, m, _, _, h0, h1⟩ := trod_struct2 Try.underlying50 hy
    obtain ⟨a, b, rfl⟩ := list2 hl
    simp only [cellsI, List.drop, List.take] at h0 h1
    obtain ⟨a, ha, _⟩ := DataW.trod_int Try.underlying3 h0
    obtain ⟨b, hb, _⟩ := DataW.trod_int Try.underlying3 h1
    simp at ha hb
    subst ha hb
    exact ⟨(a, b), rfl, trivial⟩) h
  exact ⟨A, c, xs, h1, h2, by omega⟩
set_option maxRecDepth 100000 in
theorem open_disk {k0 : Nat → Bool} {held : Bool} (hval : Value.okWide Try.prog w .any base 25 v) (h : DataW.Trod enc Try.prog w 0 k0 held 25 v d p) :
    ∃ A c xs B e ws, v = .agg #[.slice A xs.length c, .slice B ws.length e] ∧ Rl encD 1 w A xs ∧ Rl encW 2 w B ws ∧ xs.length ≤ 9223372036854775807 ∧ ws.length ≤ 9223372036854775807 := by
  obtain ⟨c0, c1, y0, y1, n, rfl, _, _, h0, h1⟩ := open_agg2 Try.underlying25 (by kernel_rfl) cellsLD hval h
  obtain ⟨A, c, xs, rfl, a1, a2⟩ := open_ints0 h0
  obtain ⟨B, e, ws, rfl, b1, b2⟩ := open_writes0 h1
  exact ⟨A, c, xs, B, e, ws, rfl, a1, b1, a2, b2⟩
end

end Go.Proofs.Ytgabjepoooageaa
