/-
  How the row's step opens a value and a slice of values. No conditions.
-/
import Derived.Test.YtngmiaglbmkbcaaDoorRow
import Derived.Test.YtngmiaglbmkbcaaDoorCmp
namespace Go.Proofs.YtngmiaglbmkbcaaDoor
open Go.ChangeShapes Go.WideShapes Go.ChangeAt Go.RowKit Go.Joins
set_option linter.unusedVariables false
set_option linter.unusedSimpArgs false

theorem cellsLV : Tryd.prog.cellsOf 23 = 3 := by kernel_rfl
instance : Inhabited Vl := ⟨⟨0, 0, ByteArray.empty⟩⟩
section
variable {H : Type} {enc : TypeId × Value → H} {w : World} {base : Nat} {d : DataW H} {p : List MemPlace} {v : Value}
theorem open_value {k0 : Nat → Bool} {held : Bool} (hval : Value.okWide Tryd.prog w .any base 23 v) (h : DataW.Trod enc Tryd.prog w 0 k0 held 23 v d p) :
    ∃ x : Vl, v = .agg #[.int .i64 x.k, .int .i64 x.n, .string x.s] ∧ x.s.size ≤ 9223372036854775807 := by
  obtain ⟨c0, c1, c2, y0, y1, y2, n, rfl, _, _, h0, h1, h2⟩ := open_agg3 Tryd.underlying23 (by kernel_rfl) cellsLV hval h
  obtain ⟨a, ha, _, _⟩ := DataW.trod_int Tryd.underlying3 h0
  obtain ⟨b, hb, _, _⟩ := DataW.trod_int Tryd.underlying3 h1
  obtain ⟨s, hs, _, hsz⟩ := DataW.trod_string Tryd.underlying9 h2
  simp at ha hb hs
  subst ha hb hs
  exact ⟨⟨a, b, s⟩, rfl, by unfold maxLen at hsz; omega⟩
end

end Go.Proofs.YtngmiaglbmkbcaaDoor
