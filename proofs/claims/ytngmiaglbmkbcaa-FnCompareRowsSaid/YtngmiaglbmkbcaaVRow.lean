/-
  Drawing a row of values: anyRow hands back some row of at most six values with bounded parts. Conditions: the reader is one that newReader made.
-/
import Derived.Test.YtngmiaglbmkbcaaVAny
import Derived.Test.YtngmiaglbmkbcaaRows2
import Derived.Test.YtngmiaglbmkbcaaRow
import Derived.Test.YtngmiaglbmkbcaaOwn
import Derived.Test.YtngmiaglbmkbcaaDrawR
import Derived.Deep.RegionHeld3
import Derived.Deep.DrawnRows
namespace Go.Proofs.Ytngmiaglbmkbcaa
open Go.RowKit
set_option linter.unusedVariables false
set_option linter.unusedSimpArgs false

/-- A value with bounded parts. -/
def Sm (v : Vl) : Prop := -1000000 ≤ v.k ∧ v.k ≤ 1000000 ∧ -1000000 ≤ v.n ∧ v.n ≤ 1000000 ∧ v.s.size ≤ 13
theorem infoW : (Try.prog.info? 28).map (fun i => (i.zero, i.size, i.bytes)) = some (some (.agg #[.int .i64 0, .int .i64 0, .string ByteArray.empty]), 3, 32) := by kernel_rfl
def RowD (B R N : Nat) (w : World) (e : Ending) (w' : World) : Prop :=
  ∃ A c vs, e = .returned (.slice A vs.length c) ∧ Lst encV 3 w.heap.size w' A c vs ∧ vs.length ≤ 6 ∧ (∀ v ∈ vs, Sm v) ∧ Rdr w' B R (N + 60) ∧ w.grownBy w' (some R)

set_option maxHeartbeats 1000000 in
theorem anyRow_any (B R N : Nat) (w : World) (h : Rdr w B R N) (hN : N ≤ 1000) :
    Calls Try.prog 45 #[.pointer (some ⟨R, 0, none⟩)] w (RowD B R N w) := by
  obtain ⟨i0, hi, hz0, hz1, hz2⟩ := info_parts infoW
  have hi' := hide hi; have hz0' := hide hz0; have hz1' := hide hz1; have hz2' := hide hz2
  clear hi hz0 hz1 hz2
  have hR := h.lt
  have hBR := h.ge
  have o0 := ow_empty w (w.alloc (.cells #[] 28)) 28 3 (heap_alloc_new _ _)
  have h0 := h.alloc (.cells #[] 28)
  have g0 := w.grownBy_alloc (.cells #[] 28) (some R)
  go_enter Try.func45, Try.ntmps45
  have s0 : Hid ((w.alloc (.cells #[] 28)).heap.size = w.heap.size + 1) := World.size_alloc _ _
  go_wp2_with fail
  generalize w.alloc (.cells #[] 28) = w0 at o0 h0 g0 s0
  refine (oneR_at 0 6 B R N 7 7 _ _ w0 s0.out h0 (by omega) (by kernel_rfl) (by rfl) (by omega) (by omega)).mono ?_
  rintro e w1 ⟨z, rfl, z0, z1, hr1, hg1⟩
  obtain ⟨n, rfl⟩ := Int.eq_ofNat_of_zero_le z0
  have o1 := ow_kept o0 hg1 (fun g e => by cases e; exact hR)
  have g1 := grown_trans g0 hg1
  clear o0 h0 g0 hg1 s0
  go_wp2_with fail
  go_loopw [3, 4] (fun o u wr => ∃ (k : Nat) (z : Value) (vs : List Vl), u = .int .i64 k ∧ o = z ∧ k ≤ 6 ∧ vs.length + k ≤ 6 ∧ Hid (∀ v ∈ vs, Sm v) ∧ wr.ownsRow w.heap.size 28 3 z vs.length (vs.flatMap encV) ∧ Rdr wr B R (N + 1 + 4 * (6 - k)) ∧ w.grownBy wr (some R)) (fun _ u _ => (intOf u).toNat)
  case atStart => exact ⟨n, _, [], rfl, rfl, by omega, by simp; omega, (fun v hv => by cases hv), o1, hr1.mono (by omega), g1⟩
  case round =>
    obtain ⟨k, z, vs, rfl, rfl, hk, hl, hsm, hown, hr, hg⟩ := hrel
    clear o1 hr1 g1
    by_cases hp : 0 < k
    · have hp' : (0 : Int) < (k : Int) := by omega
      go_wp2_with fail
      refine (random_any B R _ wr hr (by omega)).mono ?_
      rintro e w2 ⟨v, rfl, k0, k1, n0, n1, hs, hr2, hg2⟩
      have hown2 := ow_kept hown hg2 (fun g e => by cases e; exact hR)
      have hg2' := grown_trans hg hg2
      have hsm2 : Hid (∀ x ∈ vs ++ [v], Sm x) := fun x hx => by
        rcases List.mem_append.1 hx with hx | hx
        · exact hsm.out x hx
        · obtain rfl : x = v := by simpa using hx
          exact ⟨by omega, by omega, by omega, by omega, hs⟩
      clear hg2 hg hr hsm
      go_wp2_with (first
        | (at_builtin; refine wpList_append_own _ rfl _ _ 38 rfl w.heap.size 28 i0 (.agg #[.int .i64 0, .int .i64 0, .string ByteArray.empty]) 3 32 Try.underlying38 hi'.out hz0'.out hz1'.out hz2'.out rfl (by decide) _ _ _ rfl (ow_below hown2 ((Below.refl _ _).alloc (Nat.le_refl _) _)) ⟨w2.heap.size, 0, none⟩ 1 1 (encV v) rfl rfl ?c1 ?c2 ?c3 ?c4 ?c5 ?_))
      case c1 =>
        intro j u hu
        have hB := (Blk.new w2 28 #[.int .i64 v.k, .int .i64 v.n, .string v.s]).cell j
        rw [add_off, Nat.zero_add, hB]
        match j, hu with
        | 0, hu => exact hu
        | 1, hu => exact hu
        | 2, hu => exact hu
      case c2 => intro u hu; simp [encV] at hu; rcases hu with rfl | rfl | rfl <;> rfl
      case c3 => unfold maxLen; omega
      case c4 => omega
      case c5 => have := hg2'.size; simp; omega
      · intro v' w3 hown' hgrow _
        have hge : ∀ k, u3.ownBlock = some k → w.heap.size ≤ k := fun k hk => ow_ge hown hk
        have hg3 := grown_own (grown_alloc hg2' (.cells #[.int .i64 v.k, .int .i64 v.n, .string v.s] 28)) hgrow hge
        have hr3 : Rdr w3 B R (N + 1 + 4 * (6 - k) + 4) := (hr2.alloc (.cells #[.int .i64 v.k, .int .i64 v.n, .string v.s] 28)).kept hgrow (fun g e => by have := hge g e; omega)
        go_wp2_with fail
        go_roundw
        case rel => exact ⟨k - 1, _, vs ++ [v], by rw [Value.int.injEq]; exact ⟨rfl, by omega⟩, rfl, by omega, by simp; omega, hsm2, by simpa using hown', hr3.mono (by omega), hg3⟩
        case measure => simp [intOf]; omega
    · obtain rfl : k = 0 := by omega
      obtain ⟨A, c, rfl, hL, hblk⟩ := ow_open (by omega) encV_len hown
      have fin : Hid (∀ (w' : World) (A : Option Addr) (c : Nat) (xs : List Vl) (M : Nat), xs.length = vs.length → Lst encV 3 w.heap.size w' A c xs → (∀ x ∈ xs, Sm x) → Rdr w' B R M → M ≤ N + 60 → w.grownBy w' (some R) → RowD B R N w (.returned (.slice A vs.length c)) w') :=
        fun w' A c xs M a b d e f g => ⟨A, c, xs, by rw [a], b, by omega, d, e.mono f, g⟩
      by_cases hv : 0 < vs.length
      · obtain ⟨g, arr, rfl, hge, hB, harr⟩ := hblk.resolve_left (by rintro rfl; simp at hv)
        have hv' : (0 : Int) < (vs.length : Int) := by omega
        go_wp2_with fail
        refine (pick_any B R _ _ wr hr (by omega) (by omega) (by omega)).mono ?_
        rintro e w2 ⟨q, rfl, q0, q1, hr2, hg2⟩
        have hL2 := hL.kept hg2 (fun g e => by cases e; exact hR)
        have hB2 := hB.kept hg2 (by simp; omega)
        have hg2' := grown_trans hg hg2
        clear hL hB hg hg2 hr q1
        by_cases hq : q = 0
        · subst hq
          go_wp2_with fail
          refine (pick_any B R _ _ w2 hr2 (by omega) (by omega) (by omega)).mono ?_
          rintro e w3 ⟨p, rfl, p0, p1, hr3, hg3⟩
          obtain ⟨k, rfl⟩ := Int.eq_ofNat_of_zero_le p0
          have hk : k < vs.length := by omega
          have hL3 := hL2.kept hg3 (fun g e => by cases e; exact hR)
          have hB3 := hB2.kept hg3 (by simp; omega)
          have hg3' := grown_trans hg2' hg3
          clear hL2 hB2 hg3 hg2' hr2 p1
          go_wp2_with fail
          refine (anyV_any B R _ w3 hr3 (by omega)).mono ?_
          rintro e w4 ⟨v, rfl, k0, k1, n0, n1, hs, hr4, hg4⟩
          have hL4 := hL3.kept hg4 (fun g e => by cases e; exact hR)
          have hB4 := hB3.kept hg4 (by simp; omega)
          have hg4' := grown_trans hg3' hg4
          clear hL3 hB3 hg4 hg3' hr3
          have hcap := hL4.cap
          have hmax := hL4.max
          have hk' : (k : Int) < (vs.length : Int) := by omega
          have e0 : w4.cell? ⟨g, k * 3, none⟩ = some (arr[k * 3]'(by omega)) := (hB4.cell _).trans (Array.getElem?_eq_getElem (by omega))
          have e1 : w4.cell? ⟨g, k * 3 + 1, none⟩ = some (arr[k * 3 + 1]'(by omega)) := (hB4.cell _).trans (Array.getElem?_eq_getElem (by omega))
          have e2 : w4.cell? ⟨g, k * 3 + 2, none⟩ = some (arr[k * 3 + 2]'(by omega)) := (hB4.cell _).trans (Array.getElem?_eq_getElem (by omega))
          have f0 := hB4.free (k * 3)
          have f1 := hB4.free (k * 3 + 1)
          have f2 := hB4.free (k * 3 + 2)
          have hgR : g ≠ R := by omega
          have hfin : Hid (RowD B R N w (.returned (.slice (some ⟨g, 0, none⟩) vs.length c)) (((w4.setCell ⟨g, k * 3, none⟩ (.int .i64 v.k)).setCell ⟨g, k * 3 + 1, none⟩ (.int .i64 v.n)).setCell ⟨g, k * 3 + 2, none⟩ (.string v.s))) := by
            have hgr := grown_own hg4' (grown_set (grown_set (grown_set (World.grownBy.refl w4 (some g)) (p := ⟨g, k * 3, none⟩) (.inl rfl) (.int .i64 v.k)) (p := ⟨g, k * 3 + 1, none⟩) (.inl rfl) (.int .i64 v.n)) (p := ⟨g, k * 3 + 2, none⟩) (.inl rfl) (.string v.s)) (fun k e => by cases e; exact hge)
            have hrs := ((hr4.set (G := g) (i := k * 3) (u := .int .i64 v.k) hgR (by omega)).set (G := g) (i := k * 3 + 1) (u := .int .i64 v.n) hgR (by omega)).set (G := g) (i := k * 3 + 2) (u := .string v.s) hgR (by omega)
            have hBs := ((hB4.set (k * 3) (.int .i64 v.k)).set (k * 3 + 1) (.int .i64 v.n)).set (k * 3 + 2) (.string v.s)
            have hrl := Rl.store (x := v) (w' := ((w4.setCell ⟨g, k * 3, none⟩ (.int .i64 v.k)).setCell ⟨g, k * 3 + 1, none⟩ (.int .i64 v.n)).setCell ⟨g, k * 3 + 2, none⟩ (.string v.s)) encV_len hL4.rl hk
              (fun o u ho hu => by
                rw [hBs.cell]
                rw [hB4.cell] at hu
                rw [Array.getElem?_setIfInBounds_ne (by omega), Array.getElem?_setIfInBounds_ne (by omega), Array.getElem?_setIfInBounds_ne (by omega)]
                exact hu)
              (fun j u hu => by
                rw [hBs.cell, Nat.zero_add]
                match j, hu with
                | 0, hu =>
                  rw [Array.getElem?_setIfInBounds_ne (by omega), Array.getElem?_setIfInBounds_ne (by omega)]
                  exact (Array.getElem?_setIfInBounds_self_of_lt (show k * 3 < arr.size by omega)).trans hu
                | 1, hu =>
                  rw [Array.getElem?_setIfInBounds_ne (by omega), Array.getElem?_setIfInBounds_self_of_lt (by simp; omega)]
                  exact hu
                | 2, hu =>
                  rw [Array.getElem?_setIfInBounds_self_of_lt (by simp; omega)]
                  exact hu)
            refine fin.out _ _ _ (vs.set k v) _ (by simp) ⟨hrl, by simpa using hL4.cap, hL4.max, fun b hb => ?_⟩ (fun x hx => ?_) hrs (by omega) hgr
            · simp at hb
              subst hb
              exact ⟨hge, hBs.lt⟩
            · rcases List.mem_or_eq_of_mem_set hx with hx | hx
              · exact hsm.out x hx
              · subst hx
                exact ⟨k0, k1, n0, n1, hs⟩
          clear hL4 hB4 hg4' hr4 hge hgR
          go_wp2_with fail
          go_ret
          exact hfin.out
        · have hq' : (q == 0) = false := by rw [beq_eq_false_iff_ne]; exact hq
          clear hq
          go_wp2_with fail
          go_ret
          exact fin.out _ _ _ vs _ rfl hL2 hsm.out hr2 (by omega) hg2'
      · have hv' : ¬ ((0 : Int) < (vs.length : Int)) := by omega
        go_wp2_with fail
        go_ret
        exact fin.out _ _ _ vs _ rfl hL hsm.out hr (by omega) hg

end Go.Proofs.Ytngmiaglbmkbcaa
