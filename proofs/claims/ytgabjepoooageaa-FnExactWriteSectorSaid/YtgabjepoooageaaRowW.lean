/-
  How the row's step opens a write. No conditions.
-/
import Derived.Test.YtgabjepoooageaaRowD
namespace Go.Proofs.Ytgabjepoooageaa
open Go.ChangeShapes Go.WideShapes Go.ChangeAt Go.RowKit Go.Joins
set_option linter.unusedVariables false
set_option linter.unusedSimpArgs false

section
variable {H : Type} {enc : TypeId × Value → H} {w : World} {base : Nat} {d : DataW H} {p : List MemPlace} {v : Value}
theorem cellsLWr : Try.prog.cellsOf 50 = 2 := by kernel_rfl
set_option maxRecDepth 100000 in
theorem open_write {k0 : Nat → Bool} {held : Bool} (hval : Value.okWide Try.prog w .any base 50 v) (h : DataW.Trod enc Try.prog w 0 k0 held 50 v d p) :
    ∃ a b : Int, v = .agg #[.int .i64 a, .int .i64 b] ∧ (Lit.int .i64 a).wf = true ∧ (Lit.int .i64 b).wf = true := by
  obtain ⟨c0, c1, y0, y1, n, rfl, _, _, h0, h1⟩ := open_agg2 Try.underlying50 (by kernel_rfl) cellsLWr hval h
  obtain ⟨a, ha, ka⟩ := DataW.trod_int Try.underlying3 h0
  obtain ⟨b, hb, kb⟩ := DataW.trod_int Try.underlying3 h1
  simp at ha hb
  subst ha hb
  exact ⟨a, b, rfl, ka.2, kb.2⟩
end

end Go.Proofs.Ytgabjepoooageaa
