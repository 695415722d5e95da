/-
  Drawing a number from a list of numbers that lie between two bounds. Conditions: the reader is one that newReader made.
-/
import Derived.Test.YtgabjepoooageaaDraw
import Derived.Test.YtgabjepoooageaaMore
namespace Go.Proofs.Ytgabjepoooageaa
open Go.RowKit
set_option linter.unusedVariables false
set_option linter.unusedSimpArgs false

/-- A number of lo..hi. -/
def intR (lo hi : Int) : Value → Bool | .int .i64 z => decide (lo ≤ z) && decide (z ≤ hi) | _ => false
theorem intR_at {lo hi : Int} {arr : Array Value} (h : arr.all (intR lo hi) = true) {k : Nat} (hk : k < arr.size) : ∃ z, arr[k]? = some (.int .i64 z) ∧ lo ≤ z ∧ z ≤ hi := by
  have := Array.all_eq_true.1 h k hk
  rw [Array.getElem?_eq_getElem hk]
  cases hv : arr[k] with
  | int q z =>
    rw [hv] at this
    cases q <;> simp [intR] at this
    exact ⟨z, rfl, this⟩
  | _ => rw [hv] at this; simp [intR] at this
def DrawnR (lo hi : Int) (B R N : Nat) (w : World) (e : Ending) (w' : World) : Prop :=
  ∃ z : Int, e = .returned (.int .i64 z) ∧ lo ≤ z ∧ z ≤ hi ∧ Rdr w' B R (N + 1) ∧ w.grownBy w' (some R)
theorem oneR_any (lo hi : Int) (B R N n c : Nat) (arr : Array Value) (w : World) (h : Rdr w B R N) (hN : N ≤ 1000000) (ha : arr.all (intR lo hi) = true) (hn : arr.size = n) (h0 : 0 < n) (hm : n ≤ 1000000) :
    Calls Try.prog 48 #[.pointer (some ⟨R, 0, none⟩), .slice (some ⟨w.heap.size, 0, none⟩) n c] (w.alloc (.cells arr 3)) (DrawnR lo hi B R N w) := by
  have hR := h.lt
  have hb := Blk.new w 3 arr
  have hr' := h.alloc (.cells arr 3)
  have hg0 := w.grownBy_alloc (.cells arr 3) (some R)
  subst hn
  generalize w.alloc (.cells arr 3) = w0 at hb hr' hg0
  go_enter Try.func48, Try.ntmps48
  go_wp2_with fail
  refine (pick_any B R N _ w0 hr' (by omega) (by omega) (by omega)).mono ?_
  rintro e w' ⟨v, rfl, v0, v1, hr, hgr⟩
  obtain ⟨k, rfl⟩ := Int.eq_ofNat_of_zero_le v0
  have hk : k < arr.size := by omega
  obtain ⟨s, hs, hM⟩ := intR_at ha hk
  have hb' := hb.kept hgr (by simp; omega)
  have ck : w'.cell? ⟨w.heap.size, k, none⟩ = some (.int .i64 s) := (hb'.cell k).trans hs
  clear hs hb hb' ha v1
  go_wp2
  go_ret
  exact ⟨s, rfl, hM.1, hM.2, hr, grown_trans hg0 hgr⟩
theorem oneR_at (lo hi : Int) (B R N n c G : Nat) (arr : Array Value) (w : World) (hG : w.heap.size = G) (h : Rdr w B R N) (hN : N ≤ 1000000) (ha : arr.all (intR lo hi) = true) (hn : arr.size = n) (h0 : 0 < n) (hm : n ≤ 1000000) :
    Calls Try.prog 48 #[.pointer (some ⟨R, 0, none⟩), .slice (some ⟨G, 0, none⟩) n c] (w.alloc (.cells arr 3)) (DrawnR lo hi B R N w) := by
  subst hG
  exact oneR_any lo hi B R N n c arr w h hN ha hn h0 hm

end Go.Proofs.Ytgabjepoooageaa
