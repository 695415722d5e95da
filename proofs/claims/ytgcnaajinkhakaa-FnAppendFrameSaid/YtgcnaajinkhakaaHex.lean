/-
  Three digits to the base 16, and the sum of a text. Conditions: the number is in 0..4095.
-/
import Derived.Test.YtgcnaajinkhakaaMore
import Derived.Test.YtgcnaajinkhakaaRange
import Derived.Test.YtgcnaajinkhakaaDraw
import Derived.Laws.BytesArg
import Derived.StillTailTactics
namespace Go.Proofs.Ytgcnaajinkhakaa
open Go.RowKit
set_option linter.unusedVariables false
set_option linter.unusedSimpArgs false

theorem i64_and15 (n : Int) : bits .and .i64 n 15 = n % 16 := by
  have h15 : (BitVec.ofInt 64 15).toNat = 2 ^ 4 - 1 := by decide
  have key : (BitVec.ofInt 64 n &&& BitVec.ofInt 64 15).toNat = (n % ((2 ^ 64 : Nat) : Int)).toNat % 2 ^ 4 := by
    rw [BitVec.toNat_and, BitVec.toNat_ofInt, h15, Nat.and_two_pow_sub_one_eq_mod]
  show IntKind.i64.wrap ((BitVec.ofInt 64 n &&& BitVec.ofInt 64 15).toNat : Nat) = n % 16
  rw [key, IntKind.wrap_i64]
  omega

/-- The digits' text under one name. -/
def digT : ByteArray := ⟨#[48, 49, 50, 51, 52, 53, 54, 55, 56, 57, 97, 98, 99, 100, 101, 102]⟩
theorem digT_size : digT.size = 16 := by decide +kernel
def dg (i : Int) : Int := ((digT[i.toNat]?).getD 0).toNat
@[go_sem high] theorem fold_digT : (⟨#[48, 49, 50, 51, 52, 53, 54, 55, 56, 57, 97, 98, 99, 100, 101, 102]⟩ : ByteArray) = digT := rfl
@[go_sem high] theorem run_index_digT {P : Program} (w : World) (t : TypeId) (k : IntKind) (i : Int) (h : P.underlying t = some .string) (h0 : 0 ≤ i) (h1 : i ≤ 15) :
    (Instr.index t (.string digT) (.int k i)).run P w = .ok (.int .u8 (dg i)) w := by
  have hi : 0 ≤ i ∧ i < (digT.size : Int) := by rw [digT_size]; omega
  have h2 : i.toNat < digT.size := by rw [digT_size]; omega
  rw [run_index_string w t digT k i h, dif_pos hi]
  simp only [dg, ByteArray.getElem?_lt' _ _ h2, Option.getD_some]

theorem conv3 (w : World) (a b c : Int) :
    (convert 24 9 (.slice (some ⟨w.heap.size, 0, none⟩) 3 3)).run Try.prog (w.alloc (.cells #[.int .u8 a, .int .u8 b, .int .u8 c] 5)) = .ok (.string (strOfNums [a, b, c])) (w.alloc (.cells #[.int .u8 a, .int .u8 b, .int .u8 c] 5)) :=
  run_convert_bytes_arg (P := Try.prog) _ 24 5 Try.underlying24 Try.underlying5 w.heap.size 0 3 3 [a, b, c] rfl (fun i hi => by
    have h := (Blk.new w 5 #[.int .u8 a, .int .u8 b, .int .u8 c]).cell (0 + i)
    rw [h]
    match i, hi with
    | 0, _ => rfl
    | 1, _ => rfl
    | 2, _ => rfl) _ Try.underlying9

def hx3 (n : Int) : ByteArray := strOfNums [dg (n / 256), dg (n / 16 % 16), dg (n % 16)]
theorem three_any (n : Int) (w : World) (h0 : 0 ≤ n) (hn : n ≤ 4095) :
    Calls Try.prog 38 #[.int .i64 n] w fun e w' => e = .returned (.string (hx3 n)) ∧ Below w.heap.size w w' := by
  have q1 : (0 : Int) ≤ n / 256 := by omega
  have q2 : n / 256 ≤ 15 := by omega
  have q3 : (0 : Int) ≤ n / 16 % 16 := by omega
  have q4 : n / 16 % 16 ≤ 15 := by omega
  have q7 : (0 : Int) ≤ n / 16 := by omega
  have q5 : (0 : Int) ≤ n % 16 := by omega
  have q6 : n % 16 ≤ 15 := by omega
  have d1 : n.tdiv 256 = n / 256 := Int.tdiv_eq_ediv_of_nonneg h0
  have d2 : n.tdiv 16 = n / 16 := Int.tdiv_eq_ediv_of_nonneg h0
  have d3 : (n / 16).tmod 16 = n / 16 % 16 := Int.tmod_eq_emod_of_nonneg q7
  have d4 : n.tmod 16 = n % 16 := Int.tmod_eq_emod_of_nonneg h0
  have w1 : IntKind.i64.wrap (n / 256) = n / 256 := IntWalk.i64_in _ (by omega)
  have w2 : IntKind.i64.wrap (n / 16) = n / 16 := IntWalk.i64_in _ (by omega)
  have w3 : IntKind.i64.wrap (n / 16 % 16) = n / 16 % 16 := IntWalk.i64_in _ (by omega)
  have w4 : IntKind.i64.wrap (n % 16) = n % 16 := IntWalk.i64_in _ (by omega)
  go_enter Try.func38, Try.ntmps38
  go_wp2_with fail
  go_still_tail 13, (by kernel_rfl)
  clear d1 d2 d3 d4 w1 w2 w3 w4
  generalize hw5 : ({ heap := w.heap, tape := w.tape, drawn := w.drawn + 1, os := w.os, output := w.output } : World) = w5
  have hb5 : Below w.heap.size w w5 := by subst hw5; exact (Below.refl _ _).drew
  clear hw5
  have hcv := conv3 w5 (dg (n / 256)) (dg (n / 16 % 16)) (dg (n % 16))
  go_wp2_with fail
  go_ret
  exact ⟨rfl, hb5.alloc hb5.size _⟩

theorem hex3_any (n : Int) (w : World) (h0 : 0 ≤ n) (hn : n ≤ 4095) :
    Calls Try.prog 30 #[.int .i64 n] w fun e w' => e = .returned (.string (hx3 n)) ∧ Below w.heap.size w w' := by
  have q1 : (0 : Int) ≤ n / 256 := by omega
  have q2 : n / 256 ≤ 15 := by omega
  have q3 : (0 : Int) ≤ n / 16 % 16 := by omega
  have q4 : n / 16 % 16 ≤ 15 := by omega
  have q7 : (0 : Int) ≤ n / 16 := by omega
  have q5 : (0 : Int) ≤ n % 16 := by omega
  have q6 : n % 16 ≤ 15 := by omega
  have w1 : bits .and .i64 (n / 256) 15 = n / 256 := by rw [i64_and15]; omega
  have w2 : bits .and .i64 (n / 16) 15 = n / 16 % 16 := i64_and15 _
  have w3 : bits .and .i64 n 15 = n % 16 := i64_and15 _
  go_enter Try.func30, Try.ntmps30
  go_wp2_with fail
  go_still_tail 11, (by kernel_rfl)
  clear w1 w2 w3
  generalize hw5 : ({ heap := w.heap, tape := w.tape, drawn := w.drawn + 1, os := w.os, output := w.output } : World) = w5
  have hb5 : Below w.heap.size w w5 := by subst hw5; exact (Below.refl _ _).drew
  clear hw5
  have hcv := conv3 w5 (dg (n / 256)) (dg (n / 16 % 16)) (dg (n % 16))
  go_wp2_with fail
  go_ret
  exact ⟨rfl, hb5.alloc hb5.size _⟩

/-- One step of the sum. -/
def stp (n : Int) (c : UInt8) : Int := (31 * n + c.toNat) % 4093
def sumL (cs : List UInt8) : Int := cs.foldl stp 7
theorem sum_step {s : ByteArray} {k : Nat} (hk : k < s.size) : sumL (s.data.toList.take (k + 1)) = stp (sumL (s.data.toList.take k)) s[k] := by
  have h : k < s.data.toList.length := by simpa using hk
  unfold sumL
  rw [List.take_add_one, List.getElem?_eq_getElem h, List.foldl_append]
  rfl
theorem stp_rng (n : Int) (c : UInt8) : 0 ≤ stp n c ∧ stp n c ≤ 4092 := by unfold stp; omega
theorem sum_rng (cs : List UInt8) : 0 ≤ sumL cs ∧ sumL cs ≤ 4092 := by
  unfold sumL
  suffices h : ∀ (cs : List UInt8) n, 0 ≤ n ∧ n ≤ 4092 → 0 ≤ cs.foldl stp n ∧ cs.foldl stp n ≤ 4092 from h cs 7 (by omega)
  intro cs
  induction cs with
  | nil => intro n h; exact h
  | cons c cs ih => intro n _; exact ih _ (stp_rng n c)
def sumT (s : ByteArray) : Int := sumL s.data.toList

theorem checkSum (s : ByteArray) (w : World) (hs : s.size ≤ 9223372036854775807) :
    Calls Try.prog 39 #[.string s] w fun e w' => e = .returned (.int .i64 (sumT s)) ∧ w = w' := by
  go_enter Try.func39, Try.ntmps39
  go_wp2_with fail
  go_loop [3, 4] (fun m v => ∃ (k : Nat) (y : Int), k ≤ s.size ∧ v = .int .i64 k ∧ m = .int .i64 y ∧ 0 ≤ y ∧ y ≤ 4092 ∧ Hid (sumL (s.data.toList.take k) = y)) (fun _ v => s.size - (intOf v).toNat)
  case atStart => exact ⟨0, 7, by omega, rfl, rfl, by omega, by omega, by unfold Hid sumL; simp⟩
  case round =>
    obtain ⟨k, y, hk, rfl, rfl, y0, y1, hy⟩ := hrel
    by_cases hlt : k < s.size
    · have hst := hide (sum_step hlt)
      obtain ⟨c, hc⟩ : ∃ c : Nat, s[k].toNat = c := ⟨_, rfl⟩
      have hlc : c < 256 := by rw [← hc]; exact s[k].toNat_lt
      have hq : Hid (stp y s[k] = (31 * y + c) % 4093) := by unfold stp; rw [hc]; exact rfl
      have hr := hide (stp_rng y s[k])
      go_wp2_with fail
      go_round
      case rel =>
        refine ⟨k + 1, stp y s[k], by omega, by go_num, ?_, hr.out.1, hr.out.2, by have := hst.out; have := hy.out; unfold Hid; rw [hst.out, hy.out]⟩
        rw [hq.out]
      case measure => simp [intOf]; omega
    · obtain rfl : k = s.size := by omega
      go_wp2
      go_ret
      refine ⟨ret_int ?_, rfl⟩
      rw [← hy.out]
      unfold sumT
      rw [List.take_of_length_le (by simp)]
theorem frameSum (s : ByteArray) (w : World) (hs : s.size ≤ 9223372036854775807) :
    Calls Try.prog 31 #[.string s] w fun e w' => e = .returned (.int .i64 (sumT s)) ∧ w = w' := by
  go_enter Try.func31, Try.ntmps31
  go_wp2_with fail
  go_loop [3, 4] (fun m v => ∃ (k : Nat) (y : Int), k ≤ s.size ∧ v = .int .i64 k ∧ m = .int .i64 y ∧ 0 ≤ y ∧ y ≤ 4092 ∧ Hid (sumL (s.data.toList.take k) = y)) (fun _ v => s.size - (intOf v).toNat)
  case atStart => exact ⟨0, 7, by omega, rfl, rfl, by omega, by omega, by unfold Hid sumL; simp⟩
  case round =>
    obtain ⟨k, y, hk, rfl, rfl, y0, y1, hy⟩ := hrel
    by_cases hlt : k < s.size
    · have hst := hide (sum_step hlt)
      obtain ⟨c, hc⟩ : ∃ c : Nat, s[k].toNat = c := ⟨_, rfl⟩
      have hlc : c < 256 := by rw [← hc]; exact s[k].toNat_lt
      have hq : Hid (stp y s[k] = (31 * y + c) % 4093) := by unfold stp; rw [hc]; exact rfl
      have hr := hide (stp_rng y s[k])
      go_wp2_with fail
      go_round
      case rel =>
        refine ⟨k + 1, stp y s[k], by omega, by go_num, ?_, hr.out.1, hr.out.2, by have := hst.out; have := hy.out; unfold Hid; rw [hst.out, hy.out]⟩
        rw [hq.out]
      case measure => simp [intOf]; omega
    · obtain rfl : k = s.size := by omega
      go_wp2
      go_ret
      refine ⟨ret_int ?_, rfl⟩
      rw [← hy.out]
      unfold sumT
      rw [List.take_of_length_le (by simp)]

end Go.Proofs.Ytgcnaajinkhakaa
