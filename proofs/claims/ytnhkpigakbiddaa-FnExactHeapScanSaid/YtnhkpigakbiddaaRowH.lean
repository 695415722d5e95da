/-
  How the row's step opens a heap, and the place of a record. No conditions.
-/
import Derived.Test.YtnhkpigakbiddaaRowP
import Derived.Test.YtnhkpigakbiddaaHeapW
namespace Go.Proofs.Ytnhkpigakbiddaa
open Go.ChangeShapes Go.WideShapes Go.ChangeAt Go.RowKit Go.Joins
set_option linter.unusedVariables false
set_option linter.unusedSimpArgs false

theorem cellsLH : Try.prog.cellsOf 51 = 1 := by kernel_rfl
theorem cellsLL : Try.prog.cellsOf 22 = 1 := by kernel_rfl
theorem cellsLM : Try.prog.cellsOf 49 = 1 := by kernel_rfl
theorem cellsLR : Try.prog.cellsOf 61 = 2 := by kernel_rfl
theorem list1 {α : Type} {cs : List α} (h : cs.length = 1) : ∃ a, cs = [a] := by
  match cs, h with
  | [a], _ => exact ⟨a, rfl⟩
section
variable {H : Type} {enc : TypeId × Value → H} {w : World} {base : Nat} {d : DataW H} {p : List MemPlace} {v : Value}
theorem open_heap0 {k0 : Nat → Bool} {held : Bool} {fuel : Nat} {y : DataW H × List MemPlace} (h : DataW.trod enc Try.prog w 0 k0 held fuel 49 [v] = some y) :
    ∃ A c ps, v = .slice A ps.length c ∧ Hp w A ps ∧ FitG ps ∧ ps.length ≤ c ∧ c ≤ 9223372036854775807 := by
  obtain ⟨A, c, ps, h1, h2, h3, h4, h5⟩ := open_row0 (P := Try.prog) encG 1 (fun x => Rl encP 2 w x.A x.xs ∧ FitP x.xs ∧ x.xs.length ≤ 9223372036854775807) (by omega) Try.underlying49 cellsLP (fun n cs y hl hy => by
    obtain ⟨y0, m, _, _, h0⟩ := trod_struct1 Try.underlying24 hy
    obtain ⟨a, rfl⟩ := list1 hl
    simp only [cellsLL, List.drop, List.take] at h0
    obtain ⟨A, c, xs, rfl, h1, h2, h3, h4⟩ := open_page0 h0
    exact ⟨⟨A, c, xs⟩, rfl, h1, h2, by show xs.length ≤ _; omega⟩) h
  exact ⟨A, c, ps, h1, ⟨h2, fun q hq => (h3 q hq).1⟩, fun q hq => (h3 q hq).2, h4, h5⟩
set_option maxRecDepth 100000 in
theorem open_heap {k0 : Nat → Bool} {held : Bool} (hval : Value.okWide Try.prog w .any base 51 v) (h : DataW.Trod enc Try.prog w 0 k0 held 51 v d p) :
    ∃ A c ps, v = .agg #[.slice A ps.length c] ∧ Hp w A ps ∧ FitG ps ∧ ps.length ≤ c ∧ c ≤ 9223372036854775807 := by
  obtain ⟨x, y, n, rfl, h0⟩ := open_one Try.underlying51 rfl cellsLH cellsLM hval h
  obtain ⟨A, c, xs, rfl, hh⟩ := open_heap0 h0
  exact ⟨A, c, xs, rfl, hh⟩
set_option maxRecDepth 100000 in
theorem open_rid {k0 : Nat → Bool} {held : Bool} (hval : Value.okWide Try.prog w .any base 61 v) (h : DataW.Trod enc Try.prog w 0 k0 held 61 v d p) :
    ∃ a b : Int, v = .agg #[.int .i64 a, .int .i64 b] ∧ (Lit.int .i64 a).wf = true ∧ (Lit.int .i64 b).wf = true := by
  obtain ⟨c0, c1, y0, y1, n, rfl, _, _, h0, h1⟩ := open_agg2 Try.underlying61 (by kernel_rfl) cellsLR hval h
  obtain ⟨a, ha, ka⟩ := DataW.trod_int Try.underlying3 h0
  obtain ⟨b, hb, kb⟩ := DataW.trod_int Try.underlying3 h1
  simp at ha hb
  subst ha hb
  exact ⟨a, b, rfl, ka.2, kb.2⟩
end

end Go.Proofs.Ytnhkpigakbiddaa
