/-
  The text of a mark, as the exact statements make it. Conditions: the mark's number is in 1..10000000.
-/
import Derived.Test.YtnhkpigakbiddaaMore
import Derived.Test.YtnhkpigakbiddaaRange
import Derived.Laws.BytesArg
namespace Go.Proofs.Ytnhkpigakbiddaa
open Go.RowKit
set_option linter.unusedVariables false
set_option linter.unusedSimpArgs false

/-! ### The marks -/
theorem cnv1 (w : World) (a : Int) :
    (convert 37 9 (.slice (some ⟨w.heap.size, 0, none⟩) 1 1)).run Try.prog (w.alloc (.cells #[.int .u8 a] 5)) = .ok (.string (strOfNums [a])) (w.alloc (.cells #[.int .u8 a] 5)) :=
  run_convert_bytes_arg (P := Try.prog) _ 37 5 Try.underlying37 Try.underlying5 w.heap.size 0 1 1 [a] rfl (fun i hi => by
    have h := (Blk.new w 5 #[.int .u8 a]).cell (0 + i)
    rw [h]
    match i, hi with
    | 0, _ => rfl) _ Try.underlying9
def mtD (k : Nat) (out : ByteArray) : ByteArray := if k = 0 then out else mtD (k / 10) (strOfNums [48 + (k : Int) % 10] ++ out)
termination_by k
decreasing_by omega
theorem mtD_pos {k : Nat} {out : ByteArray} (h : 0 < k) : mtD k out = mtD (k / 10) (strOfNums [48 + (k : Int) % 10] ++ out) := by rw [mtD, if_neg (by omega)]
theorem mtD_zero (out : ByteArray) : mtD 0 out = out := by rw [mtD, if_pos rfl]
def mt (k : Nat) : ByteArray := ⟨#[109]⟩ ++ mtD k ByteArray.empty

set_option maxHeartbeats 1000000 in
theorem mark_any (k : Nat) (w : World) (h0 : 0 < k) (h1 : k ≤ 10000000) :
    Calls Try.prog 74 #[.int .i64 k] w fun e w' => e = .returned (.string (mt k)) ∧ Below w.heap.size w w' := by
  have q0 : ¬ ((k : Int) ≤ 0) := by omega
  have HK := hide (show mt k = ⟨#[109]⟩ ++ mtD k ByteArray.empty from rfl)
  obtain ⟨n, hn⟩ : ∃ n, n = k := ⟨_, rfl⟩
  go_enter Try.func74, Try.ntmps74
  go_wp2_with fail
  go_loopw [0, 3] (fun v o wr => ∃ (m : Nat) (out : ByteArray), v = .int .i64 m ∧ o = .string out ∧ m ≤ 10000000 ∧ out.size + m ≤ 10000000 ∧ Below w.heap.size w wr ∧ Hid (mtD k ByteArray.empty = mtD m out)) (fun v _ _ => (intOf v).toNat)
  case atStart => exact ⟨k, ByteArray.empty, rfl, rfl, by omega, by simp; omega, Below.refl _ _, rfl⟩
  case round =>
    obtain ⟨m, out, rfl, rfl, hm, hz, hb, hr⟩ := hrel
    by_cases hp : 0 < m
    · have HS := hide (mtD_pos (out := out) hp)
      have hcv := cnv1 wr (48 + (m : Int) % 10)
      have p1 : (0 : Int) < (m : Int) := by omega
      have u1 : (48 : Int) ≤ 48 + (m : Int) % 10 := by omega
      have u2 : 48 + (m : Int) % 10 ≤ 57 := by omega
      have z1 : (strOfNums [48 + (m : Int) % 10]).size ≤ 1 := by rw [strOfNums_size]; exact Nat.le_refl _
      go_wp2_with fail
      refine ⟨⟨m / 10, strOfNums [48 + (m : Int) % 10] ++ out, ?_, rfl, by omega, ?_, hb.alloc hb.size _, hr.out.trans HS.out⟩, ?_⟩
      · rw [Value.int.injEq]
        exact ⟨rfl, by omega⟩
      · rw [ByteArray.size_append]
        omega
      · simp only [intOf]
        omega
    · obtain rfl : m = 0 := by omega
      have z2 : out.size ≤ 10000000 := by omega
      have HZ := hide (mtD_zero out)
      go_wp2_with fail
      go_ret
      exact ⟨ret_str (by rw [HK.out, hr.out, HZ.out]), hb⟩

end Go.Proofs.Ytnhkpigakbiddaa
