/-
  How the row's step opens a value and a slice of values. No conditions.
-/
import Derived.Test.YtoofioemjgeifaaRow
import Derived.Test.YtoofioemjgeifaaCmp
namespace Go.Proofs.Ytoofioemjgeifaa
open Go.ChangeShapes Go.WideShapes Go.ChangeAt Go.RowKit Go.Joins
set_option linter.unusedVariables false
set_option linter.unusedSimpArgs false

theorem cellsLV : Try.prog.cellsOf 57 = 3 := by kernel_rfl
instance : Inhabited Vl := ⟨⟨0, 0, ByteArray.empty⟩⟩
section
variable {H : Type} {enc : TypeId × Value → H} {w : World} {base : Nat} {d : DataW H} {p : List MemPlace} {v : Value}
theorem open_value {k0 : Nat → Bool} {held : Bool} (hval : Value.okWide Try.prog w .any base 57 v) (h : DataW.Trod enc Try.prog w 0 k0 held 57 v d p) :
    ∃ x : Vl, v = .agg #[.int .i64 x.k, .int .i64 x.n, .string x.s] ∧ x.s.size ≤ 9223372036854775807 := by
  obtain ⟨c0, c1, c2, y0, y1, y2, n, rfl, _, _, h0, h1, h2⟩ := open_agg3 Try.underlying57 (by kernel_rfl) cellsLV hval h
  obtain ⟨a, ha, _, _⟩ := DataW.trod_int Try.underlying3 h0
  obtain ⟨b, hb, _, _⟩ := DataW.trod_int Try.underlying3 h1
  obtain ⟨s, hs, _, hsz⟩ := DataW.trod_string Try.underlying9 h2
  simp at ha hb hs
  subst ha hb hs
  exact ⟨⟨a, b, s⟩, rfl, by unfold maxLen at hsz; omega⟩
theorem open_values {k0 : Nat → Bool} {held : Bool} (hval : Value.okWide Try.prog w .any base 30 v) (h : DataW.Trod enc Try.prog w 0 k0 held 30 v d p) :
    ∃ A c xs, v = .slice A xs.length c ∧ Rl encV 3 w A xs ∧ (∀ x ∈ xs, x.s.size ≤ 9223372036854775807) ∧ xs.length ≤ c ∧ c ≤ 9223372036854775807 := by
  refine open_row (P := Try.prog) encV 3 (fun x => x.s.size ≤ 9223372036854775807) (by omega) Try.underlying30 cellsLV (fun n cs y hl hy => ?_) hval h
  obtain ⟨y0, y1, y2, m, _, _, h0, h1, h2⟩ := Go.Deep.trod_struct3 Try.underlying57 hy
  have ci : Try.prog.cellsOf 3 = 1 := by kernel_rfl
  have cs' : Try.prog.cellsOf 9 = 1 := by kernel_rfl
  match cs, hl with
  | [a, b, c], _ =>
    simp only [ci, cs', List.drop, List.take] at h0 h1 h2
    obtain ⟨a, ha, _, _⟩ := DataW.trod_int Try.underlying3 h0
    obtain ⟨b, hb, _, _⟩ := DataW.trod_int Try.underlying3 h1
    obtain ⟨s, hs, _, hsz⟩ := DataW.trod_string Try.underlying9 h2
    simp at ha hb hs
    subst ha hb hs
    exact ⟨⟨a, b, s⟩, rfl, by unfold maxLen at hsz; show s.size ≤ _; omega⟩
end

end Go.Proofs.Ytoofioemjgeifaa
