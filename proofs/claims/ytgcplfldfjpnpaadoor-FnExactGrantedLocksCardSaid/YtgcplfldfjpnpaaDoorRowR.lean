/-
  How the row's step opens a slice of requests. No conditions.
-/
import Derived.Test.YtgcplfldfjpnpaaDoorRow
import Derived.Test.YtgcplfldfjpnpaaDoorReq
namespace Go.Proofs.YtgcplfldfjpnpaaDoor
open Go.ChangeShapes Go.WideShapes Go.ChangeAt Go.RowKit Go.Joins
set_option linter.unusedVariables false
set_option linter.unusedSimpArgs false

theorem cellsLR : Tryd.prog.cellsOf 47 = 2 := by kernel_rfl
section
variable {H : Type} {enc : TypeId × Value → H} {w : World} {base : Nat} {d : DataW H} {p : List MemPlace} {v : Value}
theorem open_reqs {k0 : Nat → Bool} {held : Bool} (hval : Value.okWide Tryd.prog w .any base 33 v) (h : DataW.Trod enc Tryd.prog w 0 k0 held 33 v d p) :
    ∃ A c xs, v = .slice A xs.length c ∧ Rl encR 2 w A xs ∧ xs.length ≤ c ∧ c ≤ 9223372036854775807 := by
  obtain ⟨A, c, xs, h1, h2, _, h3⟩ := open_row (P := Tryd.prog) encR 2 (fun _ => True) (by omega) Tryd.underlying33 cellsLR (fun n cs y hl hy => by
    obtain ⟨y0, y1, m, _, _, h0, h1⟩ := trod_struct2 Tryd.underlying47 hy
    have ci : Tryd.prog.cellsOf 3 = 1 := by kernel_rfl
    match cs, hl with
    | [a, b], _ =>
      simp only [ci, List.drop, List.take] at h0 h1
      obtain ⟨a, ha, _, _⟩ := DataW.trod_int Tryd.underlying3 h0
      obtain ⟨b, hb, _, _⟩ := DataW.trod_int Tryd.underlying3 h1
      simp at ha hb
      subst ha hb
      exact ⟨(a, b), rfl, trivial⟩) hval h
  exact ⟨A, c, xs, h1, h2, h3⟩
end

end Go.Proofs.YtgcplfldfjpnpaaDoor
