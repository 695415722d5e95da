/-
  Rows of texts compared, marked and read again, as the exact statement of ReadFrames does it. Conditions: the slices read as lists.
-/
import Derived.Test.YtgcnaajinkhakaaIter
import Derived.Deep.RegionHeld3
import Derived.Deep.DrawnRows
import Derived.BigQuiet
namespace Go.Proofs.Ytgcnaajinkhakaa
open Go.RowKit
set_option linter.unusedVariables false
set_option linter.unusedSimpArgs false

theorem own_open {w : World} {B e : Nat} {v : Value} {xs : List ByteArray} (h : w.ownsRow B e 1 v xs.length (xs.map .string)) :
    ∃ A c, v = .slice A xs.length c ∧ Rl encS 1 w A xs ∧ xs.length ≤ c ∧ (xs = [] ∨ ∃ g arr, A = some ⟨g, 0, none⟩ ∧ B ≤ g ∧ Blk w g e arr ∧ arr.size = c) := by
  obtain ⟨h1, ⟨rfl, h2⟩ | ⟨g, cap, cur, rfl, hB, hc, hn, hm, hs, ht⟩⟩ := h
  · obtain rfl : xs = [] := List.eq_nil_of_length_eq_zero h2
    exact ⟨none, 0, rfl, Rl.nil, Nat.le_refl _, .inl rfl⟩
  · refine ⟨_, cap, rfl, .inr ⟨g, 0, rfl, fun i x hx j u hu => ?_⟩, hn, .inr ⟨g, cur, rfl, hB, hc, by omega⟩⟩
    have hil : i < xs.length := (List.getElem?_eq_some_iff.1 hx).1
    obtain rfl : j = 0 := by
      have := (List.getElem?_eq_some_iff.1 hu).1
      simp [encS] at this
      omega
    simp [encS] at hu
    subst hu
    have h3 := cell_of_row w g (0 + i * 1 + 0) cur e (0, 0) hc
    refine h3.trans ?_
    have h4 : (cur.toList.take (xs.length * 1))[i]? = some (.string x) := by rw [ht, List.getElem?_map, hx]; rfl
    rw [List.getElem?_take_of_lt (by omega)] at h4
    simpa using h4

theorem encS_at {w : World} {A : Option Addr} {xs : List ByteArray} (h : Rl encS 1 w A xs) {k : Nat} (hk : k < xs.length) : ∃ b off, A = some ⟨b, off, none⟩ ∧ w.cell? ⟨b, off + k, none⟩ = some (.string xs[k]) := by
  obtain ⟨b, off, rfl, hc⟩ := h.at hk
  have := hc 0 _ rfl
  rw [Nat.mul_one] at this
  exact ⟨b, off, rfl, this⟩

theorem eqS_any (A B : Option Addr) (c d : Nat) (xs : List ByteArray) (w : World) (hr : Rl encS 1 w A xs) (hq : Rl encS 1 w B xs) (hl : xs.length ≤ 1000) :
    Calls Try.prog 23 #[.slice A xs.length c, .slice B xs.length d] w fun e w' => e = .returned (.bool true) ∧ Below w.heap.size w w' := by
  go_enter Try.func23, Try.ntmps23
  go_wp2
  go_loopw [5] (fun v wr => ∃ k : Nat, k ≤ xs.length ∧ v = .int .i64 k ∧ Below w.heap.size w wr) (fun v _ => xs.length - (intOf v).toNat)
  case atStart => exact ⟨0, by omega, rfl, Below.refl _ _⟩
  case round =>
    obtain ⟨k, hk, rfl, hb⟩ := hrel
    by_cases hlt : k < xs.length
    · obtain ⟨b, off, rfl, c0⟩ := encS_at (hr.below hb) hlt
      obtain ⟨b', off', rfl, d0⟩ := encS_at (hq.below hb) hlt
      generalize xs[k] = x at c0 d0
      have b1 : (k : Int) < (xs.length : Int) := by omega
      have n1 : (x.toList != x.toList) = false := by rw [bne, beq_self_eq_true]; rfl
      go_wp2_with fail
      go_quiet (fail)
      go_wp2_with fail
      go_roundw
      case rel => exact ⟨k + 1, by omega, by go_num, below_drewN hb _⟩
      case measure => simp [intOf]; omega
    · obtain rfl : k = xs.length := by omega
      go_wp2
      go_ret
      exact ⟨rfl, hb⟩

/-! ### The marks -/
theorem conv1 (w : World) (a : Int) :
    (convert 24 9 (.slice (some ⟨w.heap.size, 0, none⟩) 1 1)).run Try.prog (w.alloc (.cells #[.int .u8 a] 5)) = .ok (.string (strOfNums [a])) (w.alloc (.cells #[.int .u8 a] 5)) :=
  run_convert_bytes_arg (P := Try.prog) _ 24 5 Try.underlying24 Try.underlying5 w.heap.size 0 1 1 [a] rfl (fun i hi => by
    have h := (Blk.new w 5 #[.int .u8 a]).cell (0 + i)
    rw [h]
    match i, hi with
    | 0, _ => rfl) _ Try.underlying9
def mtD (k : Nat) (out : ByteArray) : ByteArray := if k = 0 then out else mtD (k / 10) (strOfNums [48 + (k : Int) % 10] ++ out)
termination_by k
decreasing_by omega
theorem mtD_pos {k : Nat} {out : ByteArray} (h : 0 < k) : mtD k out = mtD (k / 10) (strOfNums [48 + (k : Int) % 10] ++ out) := by rw [mtD, if_neg (by omega)]
theorem mtD_zero (out : ByteArray) : mtD 0 out = out := by rw [mtD, if_pos rfl]
def mt (k : Nat) : ByteArray := ⟨#[109]⟩ ++ mtD k ByteArray.empty

set_option maxHeartbeats 1000000 in
theorem mark_any (k : Nat) (w : World) (h0 : 0 < k) (h1 : k ≤ 1000000) :
    Calls Try.prog 36 #[.int .i64 k] w fun e w' => e = .returned (.string (mt k)) ∧ Below w.heap.size w w' := by
  have q0 : ¬ ((k : Int) ≤ 0) := by omega
  have HK := hide (show mt k = ⟨#[109]⟩ ++ mtD k ByteArray.empty from rfl)
  obtain ⟨n, hn⟩ : ∃ n, n = k := ⟨_, rfl⟩
  go_enter Try.func36, Try.ntmps36
  go_wp2_with fail
  go_loopw [0, 3] (fun v o wr => ∃ (m : Nat) (out : ByteArray), v = .int .i64 m ∧ o = .string out ∧ m ≤ 1000000 ∧ out.size + m ≤ 1000000 ∧ Below w.heap.size w wr ∧ Hid (mtD k ByteArray.empty = mtD m out)) (fun v _ _ => (intOf v).toNat)
  case atStart => exact ⟨k, ByteArray.empty, rfl, rfl, by omega, by simp; omega, Below.refl _ _, rfl⟩
  case round =>
    obtain ⟨m, out, rfl, rfl, hm, hz, hb, hr⟩ := hrel
    by_cases hp : 0 < m
    · have HS := hide (mtD_pos (out := out) hp)
      have hcv := conv1 wr (48 + (m : Int) % 10)
      have p1 : (0 : Int) < (m : Int) := by omega
      have u1 : (48 : Int) ≤ 48 + (m : Int) % 10 := by omega
      have u2 : 48 + (m : Int) % 10 ≤ 57 := by omega
      have z1 : (strOfNums [48 + (m : Int) % 10]).size ≤ 1 := by rw [strOfNums_size]; exact Nat.le_refl _
      go_wp2_with fail
      refine ⟨⟨m / 10, strOfNums [48 + (m : Int) % 10] ++ out, ?_, rfl, by omega, ?_, hb.alloc hb.size _, hr.out.trans HS.out⟩, ?_⟩
      · rw [Value.int.injEq]
        exact ⟨rfl, by omega⟩
      · rw [ByteArray.size_append]
        omega
      · simp only [intOf]
        omega
    · obtain rfl : m = 0 := by omega
      have z2 : out.size ≤ 1000000 := by omega
      have HZ := hide (mtD_zero out)
      go_wp2_with fail
      go_ret
      exact ⟨ret_str (by rw [HK.out, hr.out, HZ.out]), hb⟩

/-- The marks from q on. -/
def mks (q n : Nat) : List Value := (List.range n).map fun i => .string (mt (q + i))
theorem mks_at {q n k : Nat} (h : k < n) : (mks q n)[k]? = some (.string (mt (q + k))) := by
  unfold mks
  rw [List.getElem?_map, List.getElem?_range h]
  rfl

/-- What markStringS leaves: the row's block holds the marks. -/
def Marked (g n c q : Nat) (w : World) (e : Ending) (w' : World) : Prop :=
  e = .returned (.int .i64 ((q : Int) + n)) ∧ w.grownBy w' (some g) ∧ Fil g 9 c n (mks q n) w'

set_option maxHeartbeats 1000000 in
theorem markS_any (g n c q : Nat) (arr : Array Value) (w : World) (hb : Blk w g 9 arr) (hc : arr.size = c) (hn : n ≤ c) (hq : 0 < q) (hm : q + n ≤ 1000000) :
    Calls Try.prog 24 #[.slice (some ⟨g, 0, none⟩) n c, .int .i64 q] w (Marked g n c q w) := by
  have hF0 : Fil g 9 c 0 (mks q n) w := ⟨arr, hb, hc, fun p u h => absurd h (by omega)⟩
  clear hb hc
  go_enter Try.func24, Try.ntmps24
  go_wp2_with fail
  go_loopw [1, 5] (fun u v wr => ∃ k : Nat, k ≤ n ∧ v = .int .i64 k ∧ u = .int .i64 ((q : Int) + k) ∧ w.grownBy wr (some g) ∧ Fil g 9 c k (mks q n) wr) (fun _ v _ => n - (intOf v).toNat)
  case atStart => exact ⟨0, by omega, rfl, by simp, World.grownBy.refl _ _, hF0⟩
  case round =>
    obtain ⟨k, hk, rfl, rfl, hg, hf⟩ := hrel
    clear hF0
    by_cases hlt : k < n
    · have hkn : (k : Int) < (n : Int) := by omega
      have hM := mark_any (q + k) wr (by omega) (by omega)
      have hat := hide (mks_at (q := q) hlt)
      rw [show (((q + k : Nat)) : Int) = (q : Int) + k by omega] at hM
      generalize mt (q + k) = x at hM hat
      go_wp2_with fail
      refine hM.mono ?_
      rintro e w1 ⟨rfl, hb1⟩
      clear hM
      have hf1 := hf.below hb1
      obtain ⟨⟨u0, q0⟩, f0⟩ := hf1.cell (p := k) (by omega)
      go_wp2_with fail
      go_roundw
      case rel =>
        refine ⟨k + 1, by omega, by go_num, by rw [Value.int.injEq]; exact ⟨rfl, by omega⟩, grown_set (grown_trans hg (grown_below hb1 _)) (.inl rfl) _, hf1.step (by omega) hat.out⟩
      case measure => simp [intOf]; omega
    · obtain rfl : k = n := by omega
      go_wp2
      go_ret
      exact ⟨rfl, hg, hf⟩

set_option maxHeartbeats 1000000 in
theorem heldS_any (g n c q : Nat) (w : World) (hf : Fil g 9 c n (mks q n) w) (hn : n ≤ c) (hq : 0 < q) (hm : q + n ≤ 1000000) :
    Calls Try.prog 25 #[.slice (some ⟨g, 0, none⟩) n c, .int .i64 q] w fun e w' => e = .returned (.int .i64 ((q : Int) + n)) ∧ Below w.heap.size w w' := by
  go_enter Try.func25, Try.ntmps25
  go_wp2_with fail
  go_loopw [1, 5] (fun u v wr => ∃ k : Nat, k ≤ n ∧ v = .int .i64 k ∧ u = .int .i64 ((q : Int) + k) ∧ Below w.heap.size w wr) (fun _ v _ => n - (intOf v).toNat)
  case atStart => exact ⟨0, by omega, rfl, by simp, Below.refl _ _⟩
  case round =>
    obtain ⟨k, hk, rfl, rfl, hb⟩ := hrel
    by_cases hlt : k < n
    · have hkn : (k : Int) < (n : Int) := by omega
      have hM := fun W => mark_any (q + k) W (by omega) (by omega)
      have c0 := (hf.below hb).at hlt (mks_at (q := q) hlt)
      rw [show (((q + k : Nat)) : Int) = (q : Int) + k by omega] at hM
      generalize mt (q + k) = x at hM c0
      have hM' := hide hM
      clear hM
      have n1 : (x.toList != x.toList) = false := by rw [bne, beq_self_eq_true]; rfl
      go_wp2_with fail
      go_region_held3 (fun w' => w'.cell? ⟨g, k, none⟩ = some (.string x) ∧ Below w.heap.size w w')
        (first | exact ⟨c0, hb.drew⟩ | exact ⟨cell_on (of_drew hb2) c0, bt2 hb (of_drew hb2)⟩)
        (first | (go_at_call 36; refine (hM'.out _).mono ?_; rintro e w2 ⟨rfl, hb2⟩))
      go_wp2_with fail
      go_roundw
      case rel =>
        refine ⟨k + 1, by omega, by go_num, by rw [Value.int.injEq]; exact ⟨rfl, by omega⟩, bt2 hb (of_drew hb2)⟩
      case measure => simp [intOf]; omega
    · obtain rfl : k = n := by omega
      go_wp2
      go_ret
      exact ⟨rfl, hb⟩

end Go.Proofs.Ytgcnaajinkhakaa
