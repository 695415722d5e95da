/-
  The places of a heap's records: the plain list; two lists of places compared. Conditions: the places read as lists.
-/
import Derived.Test.YtnhkpigakbiddaaHeapG
namespace Go.Proofs.Ytnhkpigakbiddaa
open Go.RowKit
set_option linter.unusedVariables false
set_option linter.unusedSimpArgs false

def encQ (x : Int × Int) : List Value := [.int .i64 x.1, .int .i64 x.2]
theorem encQ_len (x : Int × Int) : (encQ x).length = 2 := rfl
theorem Rl.rid {w : World} {A : Option Addr} {ws : List (Int × Int)} (h : Rl encQ 2 w A ws) {k : Nat} (hk : k < ws.length) : ∃ b off, A = some ⟨b, off, none⟩ ∧ w.cell? ⟨b, off + k * 2, none⟩ = some (.int .i64 ws[k].1) ∧ w.cell? ⟨b, off + k * 2 + 1, none⟩ = some (.int .i64 ws[k].2) := by
  obtain ⟨b, off, rfl, hc⟩ := h.at hk
  exact ⟨b, off, rfl, hc 0 _ rfl, hc 1 _ rfl⟩
/-- The places of the first j slots' records of page i. -/
def scp (i : Nat) (xs : List Sl) (j : Nat) : List (Int × Int) := (List.range j).filterMap fun k => if (xs.getD k default).l then some ((i : Int), (k : Int)) else none
/-- The places of the first k pages' records. -/
def sck (css : List (List Sl)) (k : Nat) : List (Int × Int) := (List.range k).flatMap fun i => scp i (css.getD i []) (css.getD i []).length
def SC (css : List (List Sl)) : List (Int × Int) := if vh css then sck css css.length else []
theorem scp_step {i j : Nat} {xs : List Sl} (hj : j < xs.length) : scp i xs (j + 1) = scp i xs j ++ (if xs[j].l then [((i : Int), (j : Int))] else []) := by
  unfold scp
  rw [List.range_succ, List.filterMap_append]
  congr 1
  simp only [List.getD_eq_getElem?_getD, List.getElem?_eq_getElem hj, Option.getD_some, List.filterMap_cons, List.filterMap_nil]
  split <;> simp_all
theorem sck_step {css : List (List Sl)} {k : Nat} (hk : k < css.length) : sck css (k + 1) = sck css k ++ scp k css[k] css[k].length := by
  unfold sck
  rw [List.range_succ, List.flatMap_append]
  congr 1
  simp [List.getD_eq_getElem?_getD, List.getElem?_eq_getElem hk]
theorem scp_len (i : Nat) (xs : List Sl) (j : Nat) : (scp i xs j).length ≤ j := by
  unfold scp
  have := List.length_filterMap_le (fun k => if (xs.getD k default).l then some ((i : Int), (k : Int)) else none) (List.range j)
  simpa using this

theorem eqR1 (x : Int × Int) (w : World) :
    Calls Try.prog 62 #[.agg #[.int .i64 x.1, .int .i64 x.2], .agg #[.int .i64 x.1, .int .i64 x.2]] w fun e w' => e = .returned (.bool true) ∧ Below w.heap.size w w' := by
  go_enter Try.func62, Try.ntmps62
  go_wp2
  go_ret
  exact ⟨rfl, by go_grown⟩
theorem eqRs (A B : Option Addr) (c d : Nat) (rs : List (Int × Int)) (w : World) (hr : Rl encQ 2 w A rs) (hq : Rl encQ 2 w B rs) (hc : rs.length ≤ 1048576) :
    Calls Try.prog 39 #[.slice A rs.length c, .slice B rs.length d] w fun e w' => e = .returned (.bool true) ∧ Below w.heap.size w w' := by
  go_enter Try.func39, Try.ntmps39
  go_wp2
  go_loopw [5] (fun v wr => ∃ k : Nat, k ≤ rs.length ∧ v = .int .i64 k ∧ Below w.heap.size w wr) (fun v _ => rs.length - (intOf v).toNat)
  case atStart => exact ⟨0, by omega, rfl, Below.refl _ _⟩
  case round =>
    obtain ⟨k, hk, rfl, hb⟩ := hrel
    by_cases hlt : k < rs.length
    · obtain ⟨b, off, rfl, c0, c1⟩ := (hr.below hb).rid hlt
      obtain ⟨b', off', rfl, d0, d1⟩ := (hq.below hb).rid hlt
      generalize rs[k] = x at c0 c1 d0 d1
      have b1 : (k : Int) < (rs.length : Int) := by omega
      go_wp2_with fail
      go_region_held3 (fun w' => w'.cell? ⟨b, off + k * 2, none⟩ = some (.int .i64 x.1) ∧ w'.cell? ⟨b, off + k * 2 + 1, none⟩ = some (.int .i64 x.2) ∧
          w'.cell? ⟨b', off' + k * 2, none⟩ = some (.int .i64 x.1) ∧ w'.cell? ⟨b', off' + k * 2 + 1, none⟩ = some (.int .i64 x.2))
        (first | exact ⟨c0, c1, d0, d1⟩ | exact ⟨cell_on (of_drew hb3) c0, cell_on (of_drew hb3) c1, cell_on (of_drew hb3) d0, cell_on (of_drew hb3) d1⟩)
        (first | (go_at_call 62; refine (eqR1 x _).mono ?_; rintro e w3 ⟨rfl, hb3⟩))
      go_wp2_with fail
      go_roundw
      case rel => exact ⟨k + 1, by omega, by go_num, bt hb (of_drew hb3) hb.size⟩
      case measure => simp [intOf]; omega
    · obtain rfl : k = rs.length := by omega
      go_wp2
      go_ret
      exact ⟨rfl, hb⟩

end Go.Proofs.Ytnhkpigakbiddaa
