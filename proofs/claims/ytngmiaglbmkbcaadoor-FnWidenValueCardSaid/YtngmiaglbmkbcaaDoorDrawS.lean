/-
  Drawing a text from a list of texts. Conditions: the reader is one that newReader made.
-/
import Derived.Test.YtngmiaglbmkbcaaDoorDraw
import Derived.Test.YtngmiaglbmkbcaaDoorMore
namespace Go.Proofs.YtngmiaglbmkbcaaDoor
open Go.RowKit
set_option linter.unusedVariables false
set_option linter.unusedSimpArgs false

/-- A text of at most M bytes. -/
def strB (M : Nat) : Value → Bool | .string s => decide (s.size ≤ M) | _ => false
theorem strB_at {M : Nat} {arr : Array Value} (h : arr.all (strB M) = true) {k : Nat} (hk : k < arr.size) : ∃ s, arr[k]? = some (.string s) ∧ s.size ≤ M := by
  have := Array.all_eq_true.1 h k hk
  rw [Array.getElem?_eq_getElem hk]
  cases hv : arr[k] with
  | string s => rw [hv] at this; exact ⟨s, rfl, by simpa [strB] using this⟩
  | _ => rw [hv] at this; simp [strB] at this
def DrawnS (B R N M : Nat) (w : World) (e : Ending) (w' : World) : Prop :=
  ∃ s : ByteArray, e = .returned (.string s) ∧ s.size ≤ M ∧ Rdr w' B R (N + 1) ∧ w.grownBy w' (some R)

theorem of_any (M B R N n c : Nat) (arr : Array Value) (w : World) (h : Rdr w B R N) (hN : N ≤ 1000000) (ha : arr.all (strB M) = true) (hn : arr.size = n) (h0 : 0 < n) (hm : n ≤ 1000000) :
    Calls Tryd.prog 25 #[.pointer (some ⟨R, 0, none⟩), .slice (some ⟨w.heap.size, 0, none⟩) n c] (w.alloc (.cells arr 9)) (DrawnS B R N M w) := by
  have hR := h.lt
  have hb := Blk.new w 9 arr
  have hr' := h.alloc (.cells arr 9)
  have hg0 := w.grownBy_alloc (.cells arr 9) (some R)
  subst hn
  generalize w.alloc (.cells arr 9) = w0 at hb hr' hg0
  go_enter Tryd.func25, Tryd.ntmps25
  go_wp2_with fail
  refine (pick_any B R N _ w0 hr' (by omega) (by omega) (by omega)).mono ?_
  rintro e w' ⟨v, rfl, v0, v1, hr, hgr⟩
  obtain ⟨k, rfl⟩ := Int.eq_ofNat_of_zero_le v0
  have hk : k < arr.size := by omega
  obtain ⟨s, hs, hM⟩ := strB_at ha hk
  have hb' := hb.kept hgr (by simp; omega)
  have ck : w'.cell? ⟨w.heap.size, k, none⟩ = some (.string s) := (hb'.cell k).trans hs
  clear hs hb hb' ha v1
  go_wp2
  go_ret
  exact ⟨s, rfl, hM, hr, grown_trans hg0 hgr⟩

end Go.Proofs.YtngmiaglbmkbcaaDoor
