/-
  More plain lemmas that this seat's walks share. No conditions.
-/
import Derived.Test.YtgabjepoooageaaBase
import Derived.Deep.QuietTactic
namespace Go.Proofs.Ytgabjepoooageaa
open Go.RowKit
set_option linter.unusedVariables false

/-- A callee that leaves the world alone, met inside a quiet region. -/
theorem quiet_same2 {P : Program} {f : FuncId} {args : Array Value} {w : World} {n : Nat} {v : Value}
    (h : Calls P f args (w.drewN n) fun e w' => e = .returned v ∧ w.drewN n = w') : Calls P f args (w.drewN n) fun e w'' => e = .returned v ∧ ∃ m, w'' = w.drewN m :=
  h.mono fun _ _ ⟨he, hm⟩ => ⟨he, n, hm.symm⟩

/-- 'make([]T, n)' of elements of several cells. -/
theorem mk_rows {P : Program} (t e : TypeId) (i : TypeInfo) (z : Value) (size bytes : Nat) (ht : P.underlying t = some (.slice e)) (hi : P.info? e = some i) (hz : i.zero = some z) (hsize : i.size = size) (hby : i.bytes = bytes)
    (n : Nat) (hb : bytes * n ≤ 281474976710656) (h63 : n ≤ 9223372036854775807) (w : World) :
    (Instr.makeSlice t (.int .i64 (n : Int)) (.int .i64 (n : Int))).run P w = .ok (.slice (some ⟨w.heap.size, 0, none⟩) n n) (w.alloc (.cells (madeCells z.cells (n * size)) e)) := by
  subst hsize hby
  have hb' : (i.bytes : Int) * (n : Int) ≤ 281474976710656 := by
    rw [← Int.natCast_mul]
    omega
  have hr := run_make (P := P) w t e i z ht hi hz .i64 .i64 n n (by omega) (Int.le_refl _) hb' (by omega)
  simpa using hr

/-- Block g is a row of N cells of which the first o are the list's. -/
def Fil (g : Nat) (T : TypeId) (N o : Nat) (cs : List Value) (w : World) : Prop :=
  ∃ arr : Array Value, Blk w g T arr ∧ arr.size = N ∧ ∀ p u, p < o → cs[p]? = some u → arr[p]? = some u
section
variable {g N o : Nat} {T : TypeId} {cs : List Value} {w w' : World}
theorem Fil.new {z : Array Value} {g : Nat} (hg : g = w.heap.size) : Fil g T N 0 cs (w.alloc (.cells (madeCells z N) T)) := by
  subst hg
  exact ⟨_, Blk.new _ _ _, size_madeCells _ _, fun p u h => absurd h (by omega)⟩
theorem Fil.below (h : Fil g T N o cs w) (hb : Below w.heap.size w w') : Fil g T N o cs w' := by
  obtain ⟨arr, h1, h2⟩ := h
  exact ⟨arr, h1.below hb, h2⟩
theorem Fil.kept {row : Option Nat} (h : Fil g T N o cs w) (hb : w.grownBy w' row) (hg : some g ≠ row) : Fil g T N o cs w' := by
  obtain ⟨arr, h1, h2⟩ := h
  exact ⟨arr, h1.kept hb hg, h2⟩
theorem Fil.cell (h : Fil g T N o cs w) {p : Nat} (hp : p < N) : (∃ u, w.cell? ⟨g, p, none⟩ = some u) ∧ w.frozen? ⟨g, p, none⟩ = false := by
  obtain ⟨arr, h1, h2, _⟩ := h
  exact ⟨⟨arr[p]'(by omega), (h1.cell p).trans (Array.getElem?_eq_getElem (by omega))⟩, h1.free p⟩
theorem Fil.lt (h : Fil g T N o cs w) : g < w.heap.size := by
  obtain ⟨arr, h1, _⟩ := h
  exact h1.lt
theorem Fil.step {u : Value} (h : Fil g T N o cs w) (ho : o < N) (hu : cs[o]? = some u) : Fil g T N (o + 1) cs (w.setCell ⟨g, o, none⟩ u) := by
  obtain ⟨arr, h1, h2, h3⟩ := h
  refine ⟨_, h1.set o u, by simpa using h2, fun p v hp hv => ?_⟩
  rw [Array.getElem?_setIfInBounds]
  by_cases e : o = p
  · subst e
    rw [if_pos rfl, if_pos (by omega), ← hv, hu]
  · rw [if_neg e]
    exact h3 p v (by omega) hv
/-- .. and a value that may be told of the whole row. -/
theorem Fil.at (h : Fil g T N o cs w) {p : Nat} {u : Value} (hp : p < o) (hu : cs[p]? = some u) : w.cell? ⟨g, p, none⟩ = some u := by
  obtain ⟨arr, h1, _, h3⟩ := h
  rw [h1.cell]
  exact h3 p u hp hu
theorem Fil.all {α : Type} {enc : α → List Value} {size : Nat} {xs : List α} (h : Fil g T N N (xs.flatMap enc) w) (hs : ∀ x, (enc x).length = size) (hN : xs.length * size = N) : Rl enc size w (some ⟨g, 0, none⟩) xs := by
  refine .inr ⟨g, 0, rfl, fun i x hx j u hu => ?_⟩
  have hq := getElem?_flatMap_size hs xs i j x u hx hu
  rw [Nat.zero_add]
  refine h.at ?_ hq
  have := (List.getElem?_eq_some_iff.1 hq).1
  rw [length_flatMap_size hs, hN] at this
  exact this
end
theorem flat_at {α : Type} {enc : α → List Value} {size : Nat} (hs : ∀ x, (enc x).length = size) {xs : List α} {k : Nat} (hk : k < xs.length) {j : Nat} {u : Value} (hu : (enc xs[k])[j]? = some u) : (xs.flatMap enc)[k * size + j]? = some u :=
  getElem?_flatMap_size hs xs k j _ u (List.getElem?_eq_getElem hk) hu

/-- A cell that is there stays as it is over a contract that ends in 'Below'. -/
theorem cell_on {w w' : World} {b o : Nat} {v : Value} (hb : Below w.heap.size w w') (h : w.cell? ⟨b, o, none⟩ = some v) : w'.cell? ⟨b, o, none⟩ = some v := (hb.cell (p := ⟨b, o, none⟩) (cell_lt h)).trans h

end Go.Proofs.Ytgabjepoooageaa
