/-
  Disks: writes carried out. The plain list, rows copied, and what 'applied' of the reference makes. Conditions: a valid disk whose sectors and writes read as lists.
-/
import Derived.Test.YtgabjepoooageaaDiskW
import Derived.StillTailTactics
import Derived.Lib.SliceRun
import Derived.IntWalk
namespace Go.Proofs.Ytgabjepoooageaa
open Go.RowKit
set_option linter.unusedVariables false
set_option linter.unusedSimpArgs false

/-! ### the plain list -/
def bit (q k : Nat) : Bool := decide (q / 2 ^ k % 2 = 1)
def apk (xs : List Int) (ws : List (Int × Int)) (q : Nat) : Nat → List Int
  | 0 => xs
  | k + 1 => if bit q k then (apk xs ws q k).set (ws.getD k (0, 0)).1.toNat (ws.getD k (0, 0)).2 else apk xs ws q k
def ap (xs : List Int) (ws : List (Int × Int)) (q : Nat) : List Int := apk xs ws q ws.length
theorem apk_len (xs : List Int) (ws : List (Int × Int)) (q k : Nat) : (apk xs ws q k).length = xs.length := by
  induction k with
  | zero => rfl
  | succ k ih =>
    unfold apk
    split
    · rw [List.length_set, ih]
    · exact ih
theorem ap_len (xs : List Int) (ws : List (Int × Int)) (q : Nat) : (ap xs ws q).length = xs.length := apk_len _ _ _ _
theorem apk_yes {xs : List Int} {ws : List (Int × Int)} {q k : Nat} (hk : k < ws.length) (h : q / 2 ^ k % 2 = 1) : apk xs ws q (k + 1) = (apk xs ws q k).set ws[k].1.toNat ws[k].2 := by
  show (if bit q k then _ else _) = _
  rw [if_pos (by unfold bit; exact decide_eq_true h), List.getD_eq_getElem?_getD, List.getElem?_eq_getElem hk]
  rfl
theorem apk_no {xs : List Int} {ws : List (Int × Int)} {q k : Nat} (h : ¬ q / 2 ^ k % 2 = 1) : apk xs ws q (k + 1) = apk xs ws q k := by
  show (if bit q k then _ else _) = _
  rw [if_neg (by unfold bit; simpa using h)]
theorem vd_parts {xs : List Int} {ws : List (Int × Int)} (h : vd xs ws = true) : 1 ≤ xs.length ∧ xs.length ≤ 8 ∧ ws.length ≤ 8 ∧ (∀ k (hk : k < xs.length), 0 ≤ xs[k] ∧ xs[k] ≤ 999999) ∧ (∀ k (hk : k < ws.length), ∃ t : Nat, ws[k].1 = t ∧ t < xs.length ∧ 0 ≤ ws[k].2 ∧ ws[k].2 ≤ 999999) := by
  unfold vd at h
  rw [Bool.and_eq_true, Bool.and_eq_true, decide_eq_true_eq, List.all_eq_true, List.all_eq_true] at h
  obtain ⟨⟨⟨h1, h2, h3⟩, h4⟩, h5⟩ := h
  refine ⟨h1, h2, h3, fun k hk => ?_, fun k hk => ?_⟩
  · have := h4 _ (List.getElem_mem hk)
    unfold okN at this
    exact rng_iff.1 this
  · have := h5 _ (List.getElem_mem hk)
    unfold tk at this
    rw [Bool.and_eq_true, rng_iff, rng_iff] at this
    exact ⟨ws[k].1.toNat, by omega, by omega, this.2⟩

/-! ### a row of numbers of the call's own -/
def Ri (g N : Nat) (xs : List Int) (w : World) : Prop := ∃ arr : Array Value, Blk w g 3 arr ∧ arr.size = N ∧ xs.length ≤ N ∧ ∀ (k : Nat) (x : Int), xs[k]? = some x → arr[k]? = some (Value.int .i64 x)
section
variable {g N : Nat} {xs : List Int} {w w' : World}
theorem Ri.below (h : Ri g N xs w) (hb : Below w.heap.size w w') : Ri g N xs w' := by
  obtain ⟨arr, h1, h2⟩ := h
  exact ⟨arr, h1.below hb, h2⟩
theorem Ri.kept {row : Option Nat} (h : Ri g N xs w) (hb : w.grownBy w' row) (hg : some g ≠ row) : Ri g N xs w' := by
  obtain ⟨arr, h1, h2⟩ := h
  exact ⟨arr, h1.kept hb hg, h2⟩
theorem Ri.lt (h : Ri g N xs w) : g < w.heap.size := by
  obtain ⟨arr, h1, _⟩ := h
  exact h1.lt
theorem Ri.cell (h : Ri g N xs w) {k : Nat} (hk : k < xs.length) : w.cell? ⟨g, k, none⟩ = some (.int .i64 xs[k]) ∧ w.frozen? ⟨g, k, none⟩ = false := by
  obtain ⟨arr, h1, _, _, h4⟩ := h
  exact ⟨(h1.cell k).trans (h4 k _ (List.getElem?_eq_getElem hk)), h1.free k⟩
theorem Ri.set (h : Ri g N xs w) {k : Nat} (hk : k < xs.length) (y : Int) : Ri g N (xs.set k y) (w.setCell ⟨g, k, none⟩ (.int .i64 y)) := by
  obtain ⟨arr, h1, h2, h3, h4⟩ := h
  refine ⟨_, h1.set k (.int .i64 y), by simpa using h2, by simpa using h3, fun i x hx => ?_⟩
  rw [List.getElem?_set] at hx
  rw [Array.getElem?_setIfInBounds]
  by_cases e : k = i
  · subst e
    rw [if_pos rfl, if_pos hk] at hx
    obtain rfl : y = x := by simpa using hx
    rw [if_pos rfl, if_pos (by omega)]
  · rw [if_neg e] at hx ⊢
    exact h4 i x hx
theorem flat_num (xs : List Int) (k : Nat) : (xs.flatMap encD)[k]? = xs[k]?.map (Value.int .i64) := by
  induction xs generalizing k with
  | nil => simp
  | cons x xs ih =>
    rw [List.flatMap_cons]
    cases k with
    | zero => rfl
    | succ k => simpa [encD] using ih k
theorem Ri.rl (h : Ri g N xs w) : Rl encD 1 w (some ⟨g, 0, none⟩) xs := by
  obtain ⟨arr, h1, h2, h3, h4⟩ := h
  refine .inr ⟨g, 0, rfl, fun k x hx j u hu => ?_⟩
  have hj : j < 1 := (List.getElem?_eq_some_iff.1 hu).1
  obtain rfl : j = 0 := by omega
  obtain rfl : u = .int .i64 x := by simpa [encD, eq_comm] using hu
  rw [Nat.zero_add, Nat.mul_one, Nat.add_zero, h1.cell]
  exact h4 k x hx
theorem Ri.own {B : Nat} (h : Ri g N xs w) (hB : B ≤ g) (hN : N ≤ 9223372036854775807) : w.ownsRow B 3 1 (.slice (some ⟨g, 0, none⟩) xs.length N) xs.length (xs.flatMap encD) := by
  obtain ⟨arr, h1, h2, h3, h4⟩ := h
  refine ⟨by rw [length_flatMap_size encD_len], .inr ⟨g, N, arr, rfl, hB, h1, h3, by unfold maxLen; omega, by omega, ?_⟩⟩
  apply List.ext_getElem?
  intro k
  rw [Nat.mul_one, List.getElem?_take, flat_num]
  split
  · rename_i hk
    rw [Array.getElem?_toList, List.getElem?_eq_getElem hk]
    exact h4 k _ (List.getElem?_eq_getElem hk)
  · rename_i hk
    rw [List.getElem?_eq_none (by omega)]
    rfl
theorem ri_of {B : Nat} {v : Value} (h : w.ownsRow B 3 1 v xs.length (xs.flatMap encD)) (h0 : 1 ≤ xs.length) : ∃ g N, v = .slice (some ⟨g, 0, none⟩) xs.length N ∧ B ≤ g ∧ N ≤ 9223372036854775807 ∧ Ri g N xs w := by
  rcases h.2 with ⟨_, h1⟩ | ⟨g, cap, cur, hv, hB, hg, hnc, hm, hz, htk⟩
  · omega
  · refine ⟨g, cap, hv, hB, by unfold maxLen at hm; omega, cur, hg, by omega, hnc, fun k x hx => ?_⟩
    have hk := (List.getElem?_eq_some_iff.1 hx).1
    have h2 := congrArg (fun l => l[k]?) htk
    simp only [List.getElem?_take, flat_num, hx, Nat.mul_one, if_pos hk, Array.getElem?_toList] at h2
    exact h2
end

/-! ### rows copied -/
theorem Rl.flat {α : Type} {enc : α → List Value} {size : Nat} {w : World} {a : Addr} {xs : List α} (h : Rl enc size w (some a) xs) (hs : ∀ x, (enc x).length = size) (h0 : 0 < size) : ∀ j u, (xs.flatMap enc)[j]? = some u → w.cell? (a.add j) = some u := by
  rcases h with h | ⟨b, off, he, hc⟩
  · subst h
    intro j u hu
    simp at hu
  · obtain rfl : a = ⟨b, off, none⟩ := by simpa using he
    intro j u hu
    have hj := (List.getElem?_eq_some_iff.1 hu).1
    rw [length_flatMap_size hs] at hj
    have hk : j / size < xs.length := Nat.div_lt_of_lt_mul (by rw [Nat.mul_comm]; exact hj)
    have hr : j % size < (enc xs[j / size]).length := by rw [hs]; exact Nat.mod_lt _ h0
    have h1 := getElem?_flatMap_size hs xs (j / size) (j % size) _ _ (List.getElem?_eq_getElem hk) (List.getElem?_eq_getElem hr)
    have e : j / size * size + j % size = j := Nat.div_add_mod' j size
    rw [e, hu] at h1
    have h2 := hc _ _ (List.getElem?_eq_getElem hk) _ _ (List.getElem?_eq_getElem hr)
    rw [Nat.add_assoc, e] at h2
    rw [add_at, h2, h1]
theorem one_flat {α : Type} {enc : α → List Value} (h1 : ∀ x, ∀ u ∈ enc x, u.oneCell' = true) (xs : List α) : ∀ u ∈ xs.flatMap enc, u.oneCell' = true := fun u hu => by
  obtain ⟨x, _, h⟩ := List.mem_flatMap.1 hu
  exact h1 x u h
theorem encD_one (x : Int) : ∀ u ∈ encD x, u.oneCell' = true := by
  intro u hu
  obtain rfl : u = .int .i64 x := by simpa [encD] using hu
  rfl
theorem encW_one (x : Int × Int) : ∀ u ∈ encW x, u.oneCell' = true := by
  intro u hu
  simp [encW] at hu
  rcases hu with rfl | rfl <;> rfl
theorem rl_none {α : Type} {enc : α → List Value} {size : Nat} {w : World} {xs : List α} (h : Rl enc size w none xs) : xs = [] := by
  rcases h with h | ⟨b, off, he, _⟩
  · exact h
  · cases he
/-- A row copied: new memory. -/
def Copied {α : Type} (enc : α → List Value) (size : Nat) (t : TypeId) (xs : List α) (w : World) (e : Ending) (w' : World) : Prop :=
  ∃ v, e = .returned v ∧ Below w.heap.size w w' ∧ w'.ownsRow w.heap.size t size v xs.length (xs.flatMap enc)

set_option maxRecDepth 4000 in
theorem ciS (a : Addr) (c : Nat) (xs : List Int) (w : World) (hr : Rl encD 1 w (some a) xs) (hc : xs.length ≤ 1048576) :
    Calls Try.prog 53 #[.slice (some a) xs.length c] w (Copied encD 1 3 xs w) := by
  obtain ⟨i0, hi, hz0, hz1, hz2⟩ := info_parts infoI
  have hi' := hide hi
  have hz0' := hide hz0
  have hz1' := hide hz1
  have hz2' := hide hz2
  clear hi hz0 hz1 hz2
  have hfl := hide ((hr.alloc (.cells #[] 3)).flat encD_len (by omega))
  go_enter Try.func53, Try.ntmps53
  go_wp2_with (at_builtin; refine wpList_append_own _ rfl _ _ 22 rfl w.heap.size 3 i0 (.int .i64 0) 1 8 Try.underlying22 hi'.out hz0'.out hz1'.out hz2'.out rfl (by decide) _ _ _ rfl (World.ownsRow_made w #[] 0 (Nat.le_refl _) (Nat.zero_le _) rfl) a xs.length c (xs.flatMap encD) rfl (by rw [length_flatMap_size encD_len]) hfl.out (one_flat encD_one xs) (by unfold maxLen; omega) (by omega) (by simp) ?_; intro v' w1 hown hgrow hnil; clear hnil)
  go_ret
  exact ⟨v', rfl, ((Below.refl _ w).alloc (Nat.le_refl _) _).grown hgrow (by simp) (fun k hk => Nat.le_of_eq (Option.some.inj (show some w.heap.size = some k from hk))), by simpa using hown⟩

set_option maxRecDepth 4000 in
theorem clI (A : Option Addr) (c : Nat) (xs : List Int) (w : World) (hr : Rl encD 1 w A xs) (hc : xs.length ≤ 1048576) :
    Calls Try.prog 51 #[.slice A xs.length c] w (Copied encD 1 3 xs w) := by
  obtain ⟨i0, hi, hz0, hz1, hz2⟩ := info_parts infoI
  have hi' := hide hi
  have hz0' := hide hz0
  have hz1' := hide hz1
  have hz2' := hide hz2
  clear hi hz0 hz1 hz2
  have q22 : ∀ (w : World) (a : Option Addr) (n c n' c' : Nat), (binOp .eql 22 (.slice a n c) (.slice none n' c')).run Try.prog w = .ok (.bool a.isNone) w := fun w a n c n' c' => Lib.run_eql_slice_nil w _ _ a n c n' c' Try.underlying22
  cases A with
  | none =>
    obtain rfl := rl_none hr
    go_enter Try.func51, Try.ntmps51
    go_wp2
    go_ret
    exact ⟨_, rfl, Below.refl _ _, ow_nil _ _ _ _⟩
  | some a =>
    have hfl := hide ((hr.alloc (.cells #[] 3)).flat encD_len (by omega))
    go_enter Try.func51, Try.ntmps51
    go_wp2_with (at_builtin; refine wpList_append_own _ rfl _ _ 22 rfl w.heap.size 3 i0 (.int .i64 0) 1 8 Try.underlying22 hi'.out hz0'.out hz1'.out hz2'.out rfl (by decide) _ _ _ rfl (World.ownsRow_made w #[] 0 (Nat.le_refl _) (Nat.zero_le _) rfl) a xs.length c (xs.flatMap encD) rfl (by rw [length_flatMap_size encD_len]) hfl.out (one_flat encD_one xs) (by unfold maxLen; omega) (by omega) (by simp) ?_; intro v' w1 hown hgrow hnil; clear hnil)
    go_ret
    exact ⟨v', rfl, ((Below.refl _ w).alloc (Nat.le_refl _) _).grown hgrow (by simp) (fun k hk => Nat.le_of_eq (Option.some.inj (show some w.heap.size = some k from hk))), by simpa using hown⟩

set_option maxRecDepth 4000 in
theorem clW (A : Option Addr) (c : Nat) (xs : List (Int × Int)) (w : World) (hr : Rl encW 2 w A xs) (hc : xs.length ≤ 1048576) :
    Calls Try.prog 52 #[.slice A xs.length c] w (Copied encW 2 41 xs w) := by
  obtain ⟨i0, hi, hz0, hz1, hz2⟩ := info_parts infoW
  have hi' := hide hi
  have hz0' := hide hz0
  have hz1' := hide hz1
  have hz2' := hide hz2
  clear hi hz0 hz1 hz2
  have q22 : ∀ (w : World) (a : Option Addr) (n c n' c' : Nat), (binOp .eql 28 (.slice a n c) (.slice none n' c')).run Try.prog w = .ok (.bool a.isNone) w := fun w a n c n' c' => Lib.run_eql_slice_nil w _ _ a n c n' c' Try.underlying28
  cases A with
  | none =>
    obtain rfl := rl_none hr
    go_enter Try.func52, Try.ntmps52
    go_wp2
    go_ret
    exact ⟨_, rfl, Below.refl _ _, ow_nil _ _ _ _⟩
  | some a =>
    have hfl := hide ((hr.alloc (.cells #[] 41)).flat encW_len (by omega))
    go_enter Try.func52, Try.ntmps52
    go_wp2_with (at_builtin; refine wpList_append_own _ rfl _ _ 28 rfl w.heap.size 41 i0 (.agg #[.int .i64 0, .int .i64 0]) 2 16 Try.underlying28 hi'.out hz0'.out hz1'.out hz2'.out rfl (by decide) _ _ _ rfl (World.ownsRow_made w #[] 0 (Nat.le_refl _) (Nat.zero_le _) rfl) a xs.length c (xs.flatMap encW) rfl (by rw [length_flatMap_size encW_len]) hfl.out (one_flat encW_one xs) (by unfold maxLen; omega) (by omega) (by simp) ?_; intro v' w1 hown hgrow hnil; clear hnil)
    go_ret
    exact ⟨v', rfl, ((Below.refl _ w).alloc (Nat.le_refl _) _).grown hgrow (by simp) (fun k hk => Nat.le_of_eq (Option.some.inj (show some w.heap.size = some k from hk))), by simpa using hown⟩

/-! ### shifts -/
theorem i64_and1 (n : Int) : bits .and .i64 n 1 = n % 2 := by
  have h15 : (BitVec.ofInt 64 1).toNat = 2 ^ 1 - 1 := by decide
  have key : (BitVec.ofInt 64 n &&& BitVec.ofInt 64 1).toNat = (n % ((2 ^ 64 : Nat) : Int)).toNat % 2 ^ 1 := by
    rw [BitVec.toNat_and, BitVec.toNat_ofInt, h15, Nat.and_two_pow_sub_one_eq_mod]
  show IntKind.i64.wrap ((BitVec.ofInt 64 n &&& BitVec.ofInt 64 1).toNat : Nat) = n % 2
  rw [key, IntKind.wrap_i64]
  omega

set_option maxHeartbeats 1000000 in
theorem apS (A B : Option Addr) (c d : Nat) (xs : List Int) (ws : List (Int × Int)) (q : Nat) (w : World) (hr : Rl encD 1 w A xs) (hq : Rl encW 2 w B ws) (hv : vd xs ws = true) (hqb : q ≤ 255) :
    Calls Try.prog 50 #[.agg #[.slice A xs.length c, .slice B ws.length d], .int .i64 (q : Int)] w (Copied encD 1 3 (ap xs ws q) w) := by
  obtain ⟨l1, l2, l3, hN, hW⟩ := vd_parts hv
  have hW' := hide hW
  clear hv hN hW
  have hA : ∃ a, A = some a := by
    rcases hr with h | ⟨b, off, rfl, _⟩
    · subst h; simp at l1
    · exact ⟨_, rfl⟩
  obtain ⟨a, rfl⟩ := hA
  have hr0 := hr.alloc (.cells #[.slice (some a) xs.length c, .slice B ws.length d] 30)
  have hq0 := hq.alloc (.cells #[.slice (some a) xs.length c, .slice B ws.length d] 30)
  have hb0 : Below w.heap.size w (w.alloc (.cells #[.slice (some a) xs.length c, .slice B ws.length d] 30)) := (Below.refl _ _).alloc (Nat.le_refl _) _
  have kB := Blk.new w 30 #[.slice (some a) xs.length c, .slice B ws.length d]
  go_enter Try.func50, Try.ntmps50
  go_wp2_with fail
  generalize w.alloc (.cells #[.slice (some a) xs.length c, .slice B ws.length d] 30) = w0 at hr0 hq0 hb0 kB
  refine (ciS a c xs _ hr0 (by omega)).mono ?_
  rintro e w1 ⟨v, rfl, hb1, hown⟩
  obtain ⟨g, N, rfl, hg, hN, hR⟩ := ri_of hown l1
  have hz0 := hb0.size
  have hb1' := bt hb0 hb1 hz0
  have hgw : w.heap.size ≤ g := by omega
  clear hown hr0 hr
  go_wp2_with fail
  go_loopw [6] (fun v wr => ∃ k : Nat, k ≤ ws.length ∧ v = .int .i64 k ∧ Below w0.heap.size w0 wr ∧ Ri g N (apk xs ws q k) wr) (fun v _ => ws.length - (intOf v).toNat)
  case atStart => exact ⟨0, by omega, rfl, hb1, hR⟩
  case round =>
    obtain ⟨k, hk, rfl, hb, hRk⟩ := hrel
    clear hR
    have hC : wr.cell? ⟨w.heap.size, 1, none⟩ = some (.slice B ws.length d) := (kB.below hb).cell 1
    by_cases hlt : k < ws.length
    · obtain ⟨b, off, rfl, c0, c1⟩ := (hq0.below hb).wr hlt
      obtain ⟨t, ht, htl, hn0, hn1⟩ := hW'.out k hlt
      have HY := hide (fun h => apk_yes (xs := xs) (q := q) hlt h)
      have HN := hide (fun h => apk_no (xs := xs) (ws := ws) (q := q) (k := k) h)
      have HL := hide (apk_len xs ws q k)
      have hi : (k : Int) < (ws.length : Int) := by omega
      generalize ws[k] = x at c0 c1 ht hn0 hn1 HY
      obtain ⟨x1, x2⟩ := x
      simp only at c0 c1 ht hn0 hn1 HY
      subst ht
      have hm : q / 2 ^ k ≤ 255 := Nat.le_trans (Nat.div_le_self _ _) hqb
      have hsh : (q : Int) / 2 ^ k = ((q / 2 ^ k : Nat) : Int) := by simp
      generalize q / 2 ^ k = m at hm hsh HY HN
      by_cases hbit : m % 2 = 1
      · have H := hide (HY.out hbit)
        have e1 : (m : Int) % 2 = 1 := by omega
        have e2 : (m : Int).tmod 2 = 1 := by rw [Int.tmod_eq_emod_of_nonneg (by omega)]; exact e1
        clear HY HN hbit
        obtain ⟨cg, fg⟩ := hRk.cell (k := t) (by rw [HL.out]; exact htl)
        have hti : (t : Int) < (xs.length : Int) := by omega
        go_wp2_with fail
        go_still_tail 14, (by kernel_rfl)
        generalize hw5 : ({ heap := wr.heap, tape := wr.tape, drawn := wr.drawn + 1, os := wr.os, output := wr.output } : World) = w5
        have hb5 : Below wr.heap.size wr w5 := by subst hw5; exact (Below.refl _ _).drew
        clear hw5
        have hR5 := hRk.below hb5
        obtain ⟨cg5, fg5⟩ := hR5.cell (k := t) (by rw [HL.out]; exact htl)
        have hbr := bt hb hb5 hb.size
        go_wp2_with fail
        go_roundw
        case rel => exact ⟨k + 1, by omega, by go_num, hbr.setCell hg _, by rw [H.out]; exact hR5.set (by rw [HL.out]; exact htl) _⟩
        case measure => simp [intOf]; omega
      · have H := hide (HN.out hbit)
        have e1 : (m : Int) % 2 = 0 := by omega
        have e2 : (m : Int).tmod 2 = 0 := by rw [Int.tmod_eq_emod_of_nonneg (by omega)]; exact e1
        clear HY HN hbit
        go_wp2_with fail
        go_roundw
        case rel => exact ⟨k + 1, by omega, by go_num, hb, by rw [H.out]; exact hRk⟩
        case measure => simp [intOf]; omega
    · obtain rfl : k = ws.length := by omega
      go_wp2_with fail
      go_ret
      refine ⟨_, rfl, bt hb0 hb hb0.size, ?_⟩
      have := hRk.own hgw hN
      rw [apk_len] at this
      show World.ownsRow _ _ _ _ _ (apk xs ws q ws.length).length _
      rw [apk_len]
      exact this

end Go.Proofs.Ytgabjepoooageaa
