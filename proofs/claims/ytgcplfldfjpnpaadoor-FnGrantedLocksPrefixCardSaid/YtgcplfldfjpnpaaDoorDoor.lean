/-
  The door: what the condition on the package's table lockMasks gives the walks, and the start that meets it. No conditions of its own.
-/
import Derived.Test.YtgcplfldfjpnpaaDoorLock
import Derived.Test.YtgcplfldfjpnpaaDoorRows
import Derived.LaidMore
import Derived.Stop.Joined
import Derived.WalkSmall
import Derived.ChangeVars
namespace Go.Proofs.YtgcplfldfjpnpaaDoor
open Go.ChangeShapes Go.WideShapes Go.ChangeAt Go.RowKit
set_option linter.unusedVariables false
set_option linter.unusedSimpArgs false

theorem own : ownKnob Tryd.prog.godebug = none := by kernel_rfl
theorem laidOut : laidOutB Tryd.prog = true := by kernel_rfl
theorem gMask : Tryd.prog.globalNamed "loop.example/schemamigration/impl.lockMasks" = some 0 := by kernel_rfl
theorem tMask : (Tryd.prog.globals[0]?).map (·.type) = some 39 := by kernel_rfl
theorem cMask : Tryd.prog.cellsOf 39 = 6 := by kernel_rfl
theorem cByte : Tryd.prog.cellsOf 5 = 1 := by kernel_rfl
def laid1 : List (String × DataW Unit) := [("loop.example/schemamigration/impl.lockMasks", Rows.laid_loop_example_schemamigration_impl_lockMasks)]
def cells6 : Array Value := #[.int .u8 63, .int .u8 31, .int .u8 7, .int .u8 11, .int .u8 3, .int .u8 1]

theorem int_of_trod {H : Type} {enc : TypeId × Value → H} {P : Program} {w : World} {base : Nat} {sp : Nat → Bool} {held : Bool} {fuel : Nat} {t : TypeId} {k : IntKind} {c : Value} {y : DataW H × List MemPlace}
    (ht : P.underlying t = some (.int k)) (h : DataW.trod enc P w base sp held fuel t [c] = some y) : ∃ n, c = .int k n ∧ y = (.lit (.int k n), []) := by
  cases fuel with
  | zero => simp [DataW.trod] at h
  | succ fuel =>
    cases c <;> simp [DataW.trod, ht] at h
    rename_i k' n
    obtain ⟨⟨rfl, _⟩, rfl⟩ := h
    exact ⟨n, rfl, rfl⟩

/-- The door's own heap meets the condition. -/
theorem door_met (os : Os) (args : Array Value) : laidMetH Tryd.prog laid1 ((World.doorLaid Tryd.prog 400 os).forCall (fun _ _ => 0) ⟨#[], args, []⟩).memory :=
  laidMetH_of_parts3 (fuel := 8) (laidMet_of_run' 8 (by kernel_rfl) (by kernel_rfl)) (by kernel_rfl) (by kernel_rfl)

theorem var_of_laid {W : World} (h : laidMetH Tryd.prog laid1 W) : W.var? Tryd.prog "loop.example/schemamigration/impl.lockMasks" = some cells6 := by
  rw [MakeChecks.laidMetH_plain _ _ _ (by kernel_rfl)] at h
  obtain ⟨ps, ⟨g, t, cs, fuel, p, q, hg, ht, hvar, hd, _, _⟩, _⟩ := h
  obtain rfl := Option.some.inj (gMask.symm.trans hg)
  obtain rfl := Option.some.inj (tMask.symm.trans ht)
  rw [hvar]
  congr 1
  obtain ⟨l⟩ := cs
  cases fuel with
  | zero => simp [DataW.trod] at hd
  | succ fuel =>
    simp only [DataW.trod, Tryd.underlying39, cMask, cByte] at hd
    split at hd
    · rename_i hl
      obtain ⟨c0, c1, c2, c3, c4, c5, rfl⟩ : ∃ c0 c1 c2 c3 c4 c5, l = [c0, c1, c2, c3, c4, c5] := by
        match l, hl with
        | [a, b, c, d, e, f], _ => exact ⟨a, b, c, d, e, f, rfl⟩
      have e : List.range 6 = [0, 1, 2, 3, 4, 5] := rfl
      rw [e] at hd
      simp only [Option.map_eq_some_iff, List.mapM_cons, List.mapM_nil, Option.bind_eq_bind, Option.bind_eq_some_iff, Option.pure_def, Option.some.injEq] at hd
      obtain ⟨xs, ⟨y0, h0, _, ⟨y1, h1, _, ⟨y2, h2, _, ⟨y3, h3, _, ⟨y4, h4, _, ⟨y5, h5, _, rfl, rfl⟩, rfl⟩, rfl⟩, rfl⟩, rfl⟩, rfl⟩, hx⟩ := hd
      obtain ⟨n0, rfl, rfl⟩ := int_of_trod Tryd.underlying5 h0
      obtain ⟨n1, rfl, rfl⟩ := int_of_trod Tryd.underlying5 h1
      obtain ⟨n2, rfl, rfl⟩ := int_of_trod Tryd.underlying5 h2
      obtain ⟨n3, rfl, rfl⟩ := int_of_trod Tryd.underlying5 h3
      obtain ⟨n4, rfl, rfl⟩ := int_of_trod Tryd.underlying5 h4
      obtain ⟨n5, rfl, rfl⟩ := int_of_trod Tryd.underlying5 h5
      simp [Rows.laid_loop_example_schemamigration_impl_lockMasks] at hx
      obtain ⟨⟨rfl, rfl, rfl, rfl, rfl, rfl⟩, _⟩ := hx
      rfl
    · cases hd

theorem masks_of_var {W : World} (hv : W.var? Tryd.prog "loop.example/schemamigration/impl.lockMasks" = some cells6) : Masks W := by
  intro k hk
  have h := World.var?_cell gMask hv k
  match k, hk with
  | 0, _ => exact h
  | 1, _ => exact h
  | 2, _ => exact h
  | 3, _ => exact h
  | 4, _ => exact h
  | 5, _ => exact h
theorem masks_lt {W : World} (h : Masks W) : 0 < W.heap.size := cell_lt (h 0 (by omega))

abbrev maskH {H : Type} : DataW H := .agg [.lit (.int .u8 63), .lit (.int .u8 31), .lit (.int .u8 7), .lit (.int .u8 11), .lit (.int .u8 3), .lit (.int .u8 1)]
theorem reads_mask {H : Type} (enc : TypeId × Value → H) (W : World) (sp : Nat → Bool) : DataW.trod enc Tryd.prog W 0 sp true 3 39 cells6.toList = some (maskH, []) := by kernel_rfl
theorem var_datum {H : Type} {enc : TypeId × Value → H} {W : World} {gs : List (DataW H)} {q : List MemPlace} (hL : laidMetH Tryd.prog laid1 W)
    (hV : DataW.TrodVars enc Tryd.prog W (fun _ => true) ["loop.example/schemamigration/impl.lockMasks"] gs q) : gs = [maskH] := by
  obtain ⟨g, t, cs, fuel, d, p', rfl, hg, ht, hvar, hd, rfl⟩ := trodVars_one hV
  obtain rfl := Option.some.inj (gMask.symm.trans hg)
  obtain rfl := Option.some.inj (tMask.symm.trans ht)
  obtain rfl : cs = cells6 := Option.some.inj (hvar.symm.trans (var_of_laid hL))
  obtain ⟨rfl, rfl⟩ := DataW.Trod.unique (v := .agg cells6) ⟨fuel, hd⟩ ⟨3, reads_mask enc W _⟩
  rfl
theorem vars_again {H : Type} (enc : TypeId × Value → H) {W W' : World} (hL : laidMetH Tryd.prog laid1 W) (hb : Below W.heap.size W W') (sp : Nat → Bool) :
    DataW.TrodVars enc Tryd.prog W' sp ["loop.example/schemamigration/impl.lockMasks"] [maskH] (MemPlace.row ⟨0, 0, none⟩ cells6.size ++ [] ++ []) :=
  ⟨0, 39, cells6, 3, [], [], gMask, tMask, var?_below hb gMask (masks_lt (masks_of_var (var_of_laid hL))) (var_of_laid hL), reads_mask enc W' sp, rfl, rfl⟩

end Go.Proofs.YtgcplfldfjpnpaaDoor
