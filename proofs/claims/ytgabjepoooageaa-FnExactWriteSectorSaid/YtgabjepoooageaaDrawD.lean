/-
  Drawing a disk: some disk of at most nine sectors and nine writes, with bounded numbers. Conditions: the reader is one that newReader made.
-/
import Derived.Test.YtgabjepoooageaaDrawR
import Derived.Test.YtgabjepoooageaaCrash
namespace Go.Proofs.Ytgabjepoooageaa
open Go.RowKit
set_option linter.unusedVariables false
set_option linter.unusedSimpArgs false

def Smz (z : Int) : Prop := -1 ≤ z ∧ z ≤ 1000000
theorem Rdr.set {w : World} {B R N G i : Nat} {u : Value} (h : Rdr w B R N) (hG : G ≠ R) (hB : B ≤ G) : Rdr (w.setCell ⟨G, i, none⟩ u) B R N :=
  h.kept (row := some G) (grown_set (World.grownBy.refl _ _) (.inl rfl) u) (fun g e => by cases e; exact ⟨hB, hG⟩)
theorem Ri.le {g N : Nat} {xs : List Int} {w : World} (h : Ri g N xs w) : xs.length ≤ N := by
  obtain ⟨arr, _, _, h3, _⟩ := h
  exact h3
theorem Ri.lst {g N B : Nat} {xs : List Int} {w : World} (h : Ri g N xs w) (hB : B ≤ g) (hN : N ≤ 9223372036854775807) : Lst encD 1 B w (some ⟨g, 0, none⟩) N xs :=
  ⟨h.rl, h.le, hN, fun b hb => by
    simp at hb
    subst hb
    exact ⟨hB, h.lt⟩⟩

theorem grown_step' (w : World) (g i : Nat) (u : Value) : w.grownBy (w.setCell ⟨g, i, none⟩ u) (some g) := grown_set (World.grownBy.refl w _) (.inl rfl) u
/-- A row of numbers drawn: one number has been added, taken away or changed, or none. -/
def SpoilD (B R N : Nat) (w : World) (e : Ending) (w' : World) : Prop :=
  ∃ A c zs, e = .returned (.slice A zs.length c) ∧ Lst encD 1 w.heap.size w' A c zs ∧ zs.length ≤ 9 ∧ (∀ z ∈ zs, Smz z) ∧ Rdr w' B R (N + 4) ∧ w.grownBy w' (some R)

set_option maxHeartbeats 2000000 in
theorem spoil_any (B R N : Nat) (a : Addr) (c : Nat) (xs : List Int) (w : World) (h : Rdr w B R N) (hN : N ≤ 1000) (hr : Rl encD 1 w (some a) xs) (h1 : 1 ≤ xs.length) (h8 : xs.length ≤ 8) (hs : ∀ z ∈ xs, Smz z) :
    Calls Try.prog 63 #[.pointer (some ⟨R, 0, none⟩), .slice (some a) xs.length c, .int .i64 1000000] w (SpoilD B R N w) := by
  obtain ⟨i0, hi, hz0, hz1, hz2⟩ := info_parts infoI
  have hi' := hide hi; have hz0' := hide hz0; have hz1' := hide hz1; have hz2' := hide hz2
  clear hi hz0 hz1 hz2
  have hs' := hide hs
  clear hs
  have hR := h.lt
  have hBR := h.ge
  go_enter Try.func63, Try.ntmps63
  go_wp2_with fail
  refine (ciS a c xs _ hr (by omega)).mono ?_
  rintro e w1 ⟨v, rfl, hb1, hown⟩
  obtain ⟨g, N', rfl, hg, hN', hQ⟩ := ri_of hown h1
  have hr1 := h.below hb1
  have g1 : w.grownBy w1 (some R) := grown_below hb1 _
  have hgl := hQ.lt
  have hle := hQ.le
  clear h hr hb1
  go_wp2_with fail
  refine (pick_any B R N 20 w1 hr1 (by omega) (by omega) (by omega)).mono ?_
  rintro e w2 ⟨q, rfl, q0, q1, hr2, hg2⟩
  have hown2 := ow_kept hown hg2 (fun g e => by cases e; exact hR)
  have hQ2 := hQ.kept hg2 (by simp; omega)
  have g2 := grown_trans g1 hg2
  have hgl2 := hQ2.lt
  clear hown hQ hr1 g1 hg2 q1
  by_cases c0 : q = 0
  · subst c0
    have hsz := g2.size
    go_wp2_with (first
      | (at_builtin; refine wpList_elem Try.underlying22 hi'.out hz0'.out hz1'.out hz2'.out rfl (by decide) (by decide) encD_len encD_one rfl _ _ rfl w.heap.size _ xs rfl hown2 1000000 _ rfl _ rfl rfl (by omega) hsz ?_; intro v' w3 hown' hg3))
    have hge : ∀ k, some g = some k → w.heap.size ≤ k := fun k hk => by cases hk; omega
    go_ret
    obtain ⟨A', c', rfl, hL, -⟩ := ow_open (by omega) encD_len hown'
    refine ⟨A', c', _, rfl, hL, by simp; omega, fun z hz => ?_, (hr2.kept hg3 (fun k e => by obtain rfl : g = k := Option.some.inj (show some g = some k from e); omega)).mono (by omega), grown_own g2 hg3 hge⟩
    rcases List.mem_append.1 hz with hz | hz
    · exact hs'.out z hz
    · obtain rfl : z = 1000000 := by simpa using hz
      exact ⟨by omega, by omega⟩
  · have c0' : (q == 0) = false := by rw [beq_eq_false_iff_ne]; exact c0
    by_cases c1 : q = 1
    · subst c1
      have hp : (0 : Int) < (xs.length : Int) := by omega
      by_cases hN1 : N' = 1
      · subst hN1
        have hx1 : xs.length = 1 := by omega
        go_wp2_with fail
        go_ret
        exact (⟨some ⟨g, 0, none⟩, 0, [], rfl, ⟨Rl.nil, by simp, by omega, fun b hb => by
          simp at hb
          subst hb
          exact ⟨by omega, hgl2⟩⟩, by simp, fun z hz => (by cases hz), hr2.mono (by omega), g2⟩ : SpoilD B R N w (.returned (.slice (some ⟨g, 0, none⟩) 0 0)) w2)
      · have hN2 : 1 < N' := by omega
        have hN3 : ¬ ((N' : Int) < 1) := by omega
        go_wp2_with fail
        have fin : SpoilD B R N w (.returned (.slice (some ⟨g, 1, none⟩) (xs.length - 1) (N' - 1))) w2 := by
          have hq : xs.length - 1 = (xs.drop 1).length := by simp
          rw [hq]
          refine ⟨some ⟨g, 1, none⟩, N' - 1, xs.drop 1, rfl, ⟨hQ2.rl.drop 1, by simp; omega, by omega, fun b hb => ?_⟩, by simp; omega, fun z hz => hs'.out z (List.mem_of_mem_drop hz), hr2.mono (by omega), g2⟩
          simp at hb
          subst hb
          exact ⟨by omega, hgl2⟩
        go_ret
        exact fin
    · have c1' : (q == 1) = false := by rw [beq_eq_false_iff_ne]; exact c1
      by_cases c2 : q = 2
      · subst c2
        have hp : (0 : Int) < (xs.length : Int) := by omega
        go_wp2_with fail
        refine (pick_any B R _ _ w2 hr2 (by omega) (by omega) (by omega)).mono ?_
        rintro e w3 ⟨p, rfl, p0, p1, hr3, hg3⟩
        obtain ⟨k, rfl⟩ := Int.eq_ofNat_of_zero_le p0
        have hk : k < xs.length := by omega
        have hQ3 := hQ2.kept hg3 (by simp; omega)
        have g3 := grown_trans g2 hg3
        clear hown2 hQ2 hr2 g2 hg3 p1
        go_wp2_with fail
        refine (oneR_at (-1) 1000000 B R _ 4 4 _ _ w3 rfl hr3 (by omega) (by kernel_rfl) (by rfl) (by omega) (by omega)).mono ?_
        rintro e w4 ⟨y, rfl, y0, y1, hr4, hg4⟩
        have hQ4 := hQ3.kept hg4 (by simp; omega)
        have g4 := grown_trans g3 hg4
        obtain ⟨cg, fg⟩ := hQ4.cell hk
        have hki : (k : Int) < (xs.length : Int) := by omega
        clear hQ3 hr3 g3 hg4
        generalize xs[k] = x at cg
        go_wp2_with fail
        have hQ5 := hQ4.set hk y
        have fin : SpoilD B R N w (.returned (.slice (some ⟨g, 0, none⟩) xs.length N')) (w4.setCell ⟨g, k, none⟩ (.int .i64 y)) := by
          have hq : xs.length = (xs.set k y).length := by rw [List.length_set]
          rw [hq]
          refine ⟨some ⟨g, 0, none⟩, N', xs.set k y, rfl, hQ5.lst (by omega) hN', by rw [List.length_set]; omega, fun z hz => ?_, (hr4.set (by omega) (by omega)).mono (by omega), grown_own g4 (grown_step' _ _ _ _) (fun k e => by cases e; omega)⟩
          rcases List.mem_or_eq_of_mem_set hz with hz | hz
          · exact hs'.out z hz
          · subst hz
            exact ⟨y0, y1⟩
        go_ret
        exact fin
      · have c2' : (q == 2) = false := by rw [beq_eq_false_iff_ne]; exact c2
        clear c0 c1 c2
        go_wp2_with fail
        go_ret
        exact ⟨_, _, xs, rfl, hQ2.lst (by omega) hN', by omega, hs'.out, hr2.mono (by omega), g2⟩

/-- A disk drawn. -/
def DiskD (M B R N : Nat) (w : World) (e : Ending) (w' : World) : Prop :=
  ∃ A c xs Z d ws, e = .returned (.agg #[.slice A xs.length c, .slice Z ws.length d]) ∧ Lst encD 1 w.heap.size w' A c xs ∧ Lst encW 2 w.heap.size w' Z d ws ∧ (Z = none → d = 0) ∧ xs.length ≤ 9 ∧ ws.length ≤ 9 ∧ (∀ x ∈ xs, Smz x) ∧ (∀ x ∈ ws, Smz x.1 ∧ Smz x.2) ∧ Rdr w' B R (N + M) ∧ w.grownBy w' (some R)
theorem own_none {w : World} {B e size n c m : Nat} {xs : List Value} (h : w.ownsRow B e size (.slice none n c) m xs) : c = 0 := by
  rcases h.2 with ⟨h1, _⟩ | ⟨g, cap, cur, h1, _⟩
  · simpa using congrArg (fun v => match v with | .slice _ _ c => c | _ => 0) h1
  · simp at h1
theorem small_snoc {xs : List Int} {z : Int} (h : ∀ x ∈ xs, Smz x) (hz : Smz z) : ∀ x ∈ xs ++ [z], Smz x := fun x hx => by
  rcases List.mem_append.1 hx with hx | hx
  · exact h x hx
  · obtain rfl : x = z := by simpa using hx
    exact hz
theorem small_snocW {ws : List (Int × Int)} {z : Int × Int} (h : ∀ x ∈ ws, Smz x.1 ∧ Smz x.2) (hz : Smz z.1 ∧ Smz z.2) : ∀ x ∈ ws ++ [z], Smz x.1 ∧ Smz x.2 := fun x hx => by
  rcases List.mem_append.1 hx with hx | hx
  · exact h x hx
  · obtain rfl : x = z := by simpa using hx
    exact hz

set_option maxRecDepth 4000 in
set_option maxHeartbeats 4000000 in
theorem anyD_any (B R N : Nat) (w : World) (h : Rdr w B R N) (hN : N ≤ 100) :
    Calls Try.prog 46 #[.pointer (some ⟨R, 0, none⟩)] w (DiskD 60 B R N w) := by
  obtain ⟨i0, hi, hz0, hz1, hz2⟩ := info_parts infoI
  have hi' := hide hi; have hz0' := hide hz0; have hz1' := hide hz1; have hz2' := hide hz2
  clear hi hz0 hz1 hz2
  obtain ⟨j0, hj, hy0, hy1, hy2⟩ := info_parts infoW
  have hj' := hide hj; have hy0' := hide hy0; have hy1' := hide hy1; have hy2' := hide hy2
  clear hj hy0 hy1 hy2
  have hR := h.lt
  have hBR := h.ge
  have kr := (Blk.new w 30 #[.slice none 0 0, .slice none 0 0]).alloc (.cells #[] 3)
  have o0 := ow_empty (w.alloc (.cells #[.slice none 0 0, .slice none 0 0] 30)) ((w.alloc (.cells #[.slice none 0 0, .slice none 0 0] 30)).alloc (.cells #[] 3)) 3 1 (heap_alloc_new _ _)
  have h0 := (h.alloc (.cells #[.slice none 0 0, .slice none 0 0] 30)).alloc (.cells #[] 3)
  have g0 : w.grownBy ((w.alloc (.cells #[.slice none 0 0, .slice none 0 0] 30)).alloc (.cells #[] 3)) (some R) := grown_alloc (w.grownBy_alloc _ _) _
  have s0 : Hid (((w.alloc (.cells #[.slice none 0 0, .slice none 0 0] 30)).alloc (.cells #[] 3)).heap.size = w.heap.size + 1 + 1) := by simp [Hid]
  simp only [World.size_alloc] at o0
  go_enter Try.func46, Try.ntmps46
  go_wp2_with fail
  generalize (w.alloc (.cells #[.slice none 0 0, .slice none 0 0] 30)).alloc (.cells #[] 3) = w0 at kr o0 h0 g0 s0
  refine (oneR_at 1 8 B R N 5 5 _ _ w0 s0.out h0 (by omega) (by kernel_rfl) (by rfl) (by omega) (by omega)).mono ?_
  rintro e w1 ⟨z, rfl, z0, z1, hr1, hg1⟩
  obtain ⟨n, rfl⟩ := Int.eq_ofNat_of_zero_le (show 0 ≤ z by omega)
  have o1 := ow_kept o0 hg1 (fun g e => by cases e; omega)
  have kr1 := kr.kept hg1 (by simp; omega)
  have g1 := grown_trans g0 hg1
  clear o0 h0 g0 hg1 s0 kr h
  go_wp2_with fail
  go_loopw [3, 4] (fun o u wr => ∃ (k : Nat) (z : Value) (vs : List Int), u = .int .i64 k ∧ o = z ∧ vs.length + k = n ∧ Hid (∀ v ∈ vs, Smz v) ∧ wr.ownsRow (w.heap.size + 1) 3 1 z vs.length (vs.flatMap encD) ∧ Rdr wr B R (N + 1 + (n - k)) ∧ w.grownBy wr (some R) ∧ Blk wr w.heap.size 30 #[.slice none 0 0, .slice none 0 0]) (fun _ u _ => (intOf u).toNat)
  case atStart => exact ⟨n, _, [], rfl, rfl, by simp, (fun v hv => by cases hv), o1, hr1.mono (by omega), g1, kr1⟩
  case round =>
    obtain ⟨k, z, vs, rfl, rfl, hl, hsm, hown, hr, hg, hk⟩ := hrel
    clear o1 hr1 g1 kr1
    by_cases hp : 0 < k
    · have hp' : (0 : Int) < (k : Int) := by omega
      go_wp2_with fail
      refine (pick_any B R _ 100 wr hr (by omega) (by omega) (by omega)).mono ?_
      rintro e w2 ⟨y, rfl, y0, y1, hr2, hg2⟩
      have hown2 := ow_kept hown hg2 (fun g e => by cases e; omega)
      have hk2 := hk.kept hg2 (by simp; omega)
      have hg2' := grown_trans hg hg2
      have hsm2 := hide (small_snoc hsm.out (z := y) ⟨by omega, by omega⟩)
      have hsz := hg2'.size
      have hklt := hk2.lt
      have hge : ∀ k, u3.ownBlock = some k → w.heap.size + 1 ≤ k := fun k hk => ow_ge hown2 hk
      clear hg2 hg hr hsm y1
      go_wp2_with (first
        | (at_builtin; refine wpList_elem Try.underlying22 hi'.out hz0'.out hz1'.out hz2'.out rfl (by decide) (by decide) encD_len encD_one rfl _ _ rfl (w.heap.size + 1) _ vs rfl hown2 y _ rfl _ rfl rfl (by omega) (by omega) ?_; intro v' w3 hown' hg3))
      go_roundw
      case rel => exact ⟨k - 1, _, vs ++ [y], by rw [Value.int.injEq]; exact ⟨rfl, by omega⟩, rfl, by simp; omega, hsm2, hown', (hr2.kept hg3 (fun g e => by have := hge g e; omega)).mono (by omega), grown_own hg2' hg3 (fun g e => by have := hge g e; omega), hk2.kept hg3 (fun e => by have := hge _ e.symm; omega)⟩
      case measure => simp [intOf]; omega
    · obtain rfl : k = 0 := by omega
      obtain ⟨gs, Ns, rfl, hgs, hNs, hQ⟩ := ri_of hown (by omega)
      have hQl := hQ.lt
      have hsz := hg.size
      have hl8 : vs.length ≤ 8 := by omega
      have hl1 : 1 ≤ vs.length := by omega
      clear hown hl
      have kr3 := hk.alloc (.cells #[] 41)
      have hQ3 := hQ.below ((Below.refl _ _).alloc (Nat.le_refl _) (.cells #[] 41))
      have o3 := ow_empty wr (wr.alloc (.cells #[] 41)) 41 2 (heap_alloc_new _ _)
      have h3 := hr.alloc (.cells #[] 41)
      have g3 := grown_alloc hg (.cells #[] 41)
      have hklt := hk.lt
      obtain ⟨P, hP⟩ : ∃ P, P = wr.heap.size := ⟨_, rfl⟩
      have hwP : P ≤ (wr.alloc (.cells #[] 41)).heap.size := by simp; omega
      rw [← hP] at o3 hQl hsz hklt
      have s3 : Hid ((wr.alloc (.cells #[] 41)).heap.size = wr.heap.size + 1) := World.size_alloc _ _
      have hP' := hide hP
      clear hk hQ hr hg hP
      go_wp2_with fail
      generalize wr.alloc (.cells #[] 41) = w3 at kr3 hQ3 o3 h3 g3 s3 hwP
      refine (oneR_at 0 8 B R _ 6 6 _ _ w3 s3.out h3 (by omega) (by kernel_rfl) (by rfl) (by omega) (by omega)).mono ?_
      rintro e w4 ⟨z, rfl, z0, z1, hr4, hg4⟩
      obtain ⟨m, rfl⟩ := Int.eq_ofNat_of_zero_le z0
      have o4 := ow_kept o3 hg4 (fun g e => by cases e; omega)
      have kr4 := kr3.kept hg4 (by simp; omega)
      have hQ4 := hQ3.kept hg4 (by simp; omega)
      have g4 := grown_trans g3 hg4
      replace hwP := Nat.le_trans hwP hg4.size
      clear o3 h3 g3 hg4 s3 kr3 hQ3
      go_wp2_with fail
      go_loopw [5, 6] (fun o u wr => ∃ (k : Nat) (z : Value) (ws : List (Int × Int)), u = .int .i64 k ∧ o = z ∧ ws.length + k = m ∧ Hid (∀ x ∈ ws, Smz x.1 ∧ Smz x.2) ∧ wr.ownsRow P 41 2 z ws.length (ws.flatMap encW) ∧ Rdr wr B R (N + 10 + 2 * (m - k)) ∧ w.grownBy wr (some R) ∧ Blk wr w.heap.size 30 #[.slice none 0 0, .slice none 0 0] ∧ Ri gs Ns vs wr ∧ P ≤ wr.heap.size) (fun _ u _ => (intOf u).toNat)
      case atStart => exact ⟨m, _, [], rfl, rfl, by simp, (fun v hv => by cases hv), by rw [← hP'.out]; exact o4, hr4.mono (by omega), g4, kr4, hQ4, hwP⟩
      case round =>
        obtain ⟨k, z, ws, rfl, rfl, hl, hsmw, hown, hr, hg, hk, hQ, hPw⟩ := hrel
        clear o4 hr4 g4 kr4 hQ4 hwP
        by_cases hp : 0 < k
        · have hp' : (0 : Int) < (k : Int) := by omega
          go_wp2_with fail
          refine (pick_any B R _ _ wr hr (by omega) (by omega) (by omega)).mono ?_
          rintro e w5 ⟨y, rfl, y0, y1, hr5, hg5⟩
          have hown5 := ow_kept hown hg5 (fun g e => by cases e; omega)
          have hk5 := hk.kept hg5 (by simp; omega)
          have hQ5 := hQ.kept hg5 (by simp; omega)
          have hg5' := grown_trans hg hg5
          have y2 : y ≤ 9 := by omega
          clear hown hk hQ hg hr y1
          go_wp2_with fail
          refine (pick_any B R _ 200 w5 hr5 (by omega) (by omega) (by omega)).mono ?_
          rintro e w6 ⟨x, rfl, x0, x1, hr6, hg6⟩
          have hown6 := ow_kept hown5 hg6 (fun g e => by cases e; omega)
          have hk6 := hk5.kept hg6 (by simp; omega)
          have hQ6 := hQ5.kept hg6 (by simp; omega)
          have hg6' := grown_trans hg5' hg6
          have hsm6 := hide (small_snocW hsmw.out (z := (y, x)) ⟨⟨by omega, by omega⟩, ⟨by omega, by omega⟩⟩)
          have hsz6 := hg6'.size
          have hQ6l := hQ6.lt
          have hge : ∀ k, u5.ownBlock = some k → P ≤ k := fun k hk => ow_ge hown6 hk
          have hwr : P ≤ w6.heap.size := Nat.le_trans (Nat.le_trans hPw hg5.size) hg6.size
          clear hown5 hk5 hQ5 hg5' hr5 hg5 hg6 x1 hsmw hPw
          go_wp2_with (first
            | (at_builtin; refine wpList_elem Try.underlying28 hj'.out hy0'.out hy1'.out hy2'.out rfl (by decide) (by decide) encW_len encW_one rfl _ _ rfl P _ ws rfl hown6 (y, x) _ rfl _ rfl rfl (by omega) hwr ?_; intro v' w7 hown' hg7))
          go_roundw
          case rel => exact ⟨k - 1, _, ws ++ [(y, x)], by rw [Value.int.injEq]; exact ⟨rfl, by omega⟩, rfl, by simp; omega, hsm6, hown', (hr6.kept hg7 (fun g e => by have := hge g e; omega)).mono (by omega), grown_own hg6' hg7 (fun g e => by have := hge g e; omega), hk6.kept hg7 (fun e => by have := hge _ e.symm; omega), hQ6.kept hg7 (fun e => by have := hge _ e.symm; omega), Nat.le_trans hwr hg7.size⟩
          case measure => simp [intOf]; omega
        · obtain rfl : k = 0 := by omega
          obtain ⟨Z, d, rfl, hL, -⟩ := ow_open (by omega) encW_len hown
          have hZ : Z = none → d = 0 := fun e => by subst e; exact own_none hown
          have hQs := hg.size
          have hQll := hQ.lt
          have hQle := hQ.le
          have hsm' := hsm
          have fin : Hid (∀ (W : World) (A : Option Addr) (c : Nat) (xs : List Int) (Z : Option Addr) (d : Nat) (ys : List (Int × Int)) (M : Nat), Blk W w.heap.size 30 #[.slice none 0 0, .slice none 0 0] → Lst encD 1 (w.heap.size + 1) W A c xs → Lst encW 2 (w.heap.size + 1) W Z d ys → (Z = none → d = 0) → xs.length ≤ 9 → ys.length ≤ 9 → (∀ x ∈ xs, Smz x) → (∀ x ∈ ys, Smz x.1 ∧ Smz x.2) → Rdr W B R M → M ≤ N + 60 → w.grownBy W (some R) →
              Blk ((W.setCell ⟨w.heap.size, 0, none⟩ (.slice A xs.length c)).setCell ⟨w.heap.size, 1, none⟩ (.slice Z ys.length d)) w.heap.size 30 #[.slice A xs.length c, .slice Z ys.length d] ∧
              DiskD 60 B R N w (.returned (.agg #[.slice A xs.length c, .slice Z ys.length d])) ((W.setCell ⟨w.heap.size, 0, none⟩ (.slice A xs.length c)).setCell ⟨w.heap.size, 1, none⟩ (.slice Z ys.length d))) := by
            intro W A c xs Z d ys M a1 a2 a3 a4 a5 a6 a7 a8 a9 a10 a11
            have gs1 := grown_set (g := w.heap.size) (World.grownBy.refl W _) (p := ⟨w.heap.size, 0, none⟩) (.inl rfl) (.slice A xs.length c)
            have gs2 := grown_set gs1 (p := ⟨w.heap.size, 1, none⟩) (.inl rfl) (.slice Z ys.length d)
            refine ⟨by simpa using (a1.set 0 (.slice A xs.length c)).set 1 (.slice Z ys.length d), A, c, xs, Z, d, ys, rfl, ((a2.kept2 gs2 (fun g b e hb => ?_)).mono (by omega)), ((a3.kept2 gs2 (fun g b e hb => ?_)).mono (by omega)), a4, a5, a6, a7, a8, (a9.kept gs2 (fun g e => by cases e; omega)).mono a10, grown_own a11 gs2 (fun g e => by cases e; omega)⟩
            · have := (a2.blk b hb).1
              cases e
              omega
            · have := (a3.blk b hb).1
              cases e
              omega
          have hL' := hL.mono (B' := w.heap.size + 1) (by omega)
          have hk0 := hk.free 0
          have hk1 := hk.free 1
          clear hP'
          go_wp2_with fail
          refine (pick_any B R _ 24 wr hr (by omega) (by omega) (by omega)).mono ?_
          rintro e w5 ⟨q, rfl, q0, q1, hr5, hg5⟩
          have hL5 := hL'.kept hg5 (fun g e => by cases e; omega)
          have hk5 := hk.kept hg5 (by simp; omega)
          have hQ5 := hQ.kept hg5 (by simp; omega)
          have hown5 := ow_kept hown hg5 (fun g e => by cases e; omega)
          have g5 := grown_trans hg hg5
          clear hL hL' hk hQ hown hg hr q1 hk0 hk1
          by_cases c0 : q = 0
          · subst c0
            clear hown5
            go_wp2_with fail
            refine (spoil_any B R _ _ _ vs w5 hr5 (by omega) hQ5.rl (by omega) (by omega) hsm'.out).mono ?_
            rintro e w6 ⟨A, c, zs, rfl, hLz, hlz, hsz, hr6, hg6⟩
            have hL6 := hL5.kept hg6 (fun g e => by cases e; omega)
            have hk6 := hk5.kept hg6 (by simp; omega)
            have g6 := grown_trans g5 hg6
            have hklt6 := hk5.lt
            have hszh := g5.size
            obtain ⟨kF, FF⟩ := fin.out w6 A c zs Z d ws _ hk6 (hLz.mono (by omega)) hL6 hZ hlz (by omega) hsz hsmw.out hr6 (by omega) g6
            have r0 : w6.cell? ⟨w.heap.size, 0, none⟩ = some (.slice none 0 0) := hk6.cell 0
            have r1 : w6.cell? ⟨w.heap.size, 1, none⟩ = some (.slice none 0 0) := hk6.cell 1
            have s0 := hk6.free 0
            have s1 := hk6.free 1
            have FF' := hide FF
            clear hZ FF
            go_wp2_with fail
            generalize hF : World.setCell _ _ _ = wF at kF FF' ⊢
            have y0 : wF.cell? ⟨w.heap.size, 0, none⟩ = some (.slice A zs.length c) := kF.cell 0
            have y1 : wF.cell? ⟨w.heap.size, 1, none⟩ = some (.slice Z ws.length d) := kF.cell 1
            exact bodyPost_ret (v := .agg #[.slice A zs.length c, .slice Z ws.length d]) (by simp [results, Try.f46, go_sem, y0, y1] <;> rfl) rfl FF'.out
          · have c0' : (q == 0) = false := by rw [beq_eq_false_iff_ne]; exact c0
            by_cases c1 : q = 1
            · subst c1
              have hall : Array.all #[Value.int .i64 (-1), .int .i64 (vs.length : Int), .int .i64 0] (intR (-1) 9) = true := by
                simp [intR]
                omega
              clear hL5
              go_wp2_with fail
              refine (oneR_at (-1) 9 B R _ 3 3 _ _ w5 rfl hr5 (by omega) hall (by rfl) (by omega) (by omega)).mono ?_
              rintro e w6 ⟨y, rfl, y0, y1, hr6, hg6⟩
              have hk6 := hk5.kept hg6 (by simp; omega)
              have hQ6 := hQ5.kept hg6 (by simp; omega)
              have hown6 := ow_kept hown5 hg6 (fun g e => by cases e; omega)
              have g6 := grown_trans g5 hg6
              clear hk5 hQ5 hown5 g5 hr5
              go_wp2_with fail
              refine (oneR_at (-1) 1000000 B R _ 3 3 _ _ w6 rfl hr6 (by omega) (by kernel_rfl) (by rfl) (by omega) (by omega)).mono ?_
              rintro e w7 ⟨x, rfl, x0, x1, hr7, hg7⟩
              have hk7 := hk6.kept hg7 (by simp; omega)
              have hQ7 := hQ6.kept hg7 (by simp; omega)
              have hown7 := ow_kept hown6 hg7 (fun g e => by cases e; omega)
              have g7 := grown_trans g6 hg7
              have hsm7 := hide (small_snocW hsmw.out (z := (y, x)) ⟨⟨by omega, by omega⟩, ⟨by omega, by omega⟩⟩)
              have hge : ∀ k, (Value.slice Z ws.length d).ownBlock = some k → P ≤ k := fun k hk => ow_ge hown7 hk
              have hP7 : P ≤ w7.heap.size := Nat.le_trans (Nat.le_trans (Nat.le_trans hPw hg5.size) hg6.size) hg7.size
              clear hk6 hQ6 hown6 g6 hr6 hg5 hg6 hg7 hZ
              go_wp2_with (first
                | (at_builtin; refine wpList_elem Try.underlying28 hj'.out hy0'.out hy1'.out hy2'.out rfl (by decide) (by decide) encW_len encW_one rfl _ _ rfl P _ ws rfl hown7 (y, x) _ rfl _ rfl rfl (by omega) hP7 ?_; intro v' w8 hown8 hg8;
                    (obtain ⟨Z8, d8, rfl, hL8, -⟩ := ow_open (by omega) encW_len hown8);
                    (have hZ8 : Z8 = none → d8 = 0 := fun e => by subst e; exact own_none hown8);
                    (have hk8 := hk7.kept hg8 (fun e => by have := hge _ e.symm; omega));
                    (have hQ8 := hQ7.kept hg8 (fun e => by have := hge _ e.symm; omega));
                    (have hr8 := hr7.kept hg8 (fun g e => by have := hge g e; omega));
                    (have g8 := grown_own g7 hg8 (fun g e => by have := hge g e; omega));
                    (obtain ⟨kF, FF⟩ := fin.out w8 _ _ vs Z8 d8 (ws ++ [(y, x)]) _ hk8 (hQ8.lst (B := w.heap.size + 1) (by omega) hNs) (hL8.mono (by omega)) hZ8 (by omega) (by simp; omega) hsm'.out hsm7.out hr8 (by omega) g8);
                    (have r0 : w8.cell? ⟨w.heap.size, 0, none⟩ = some (.slice none 0 0) := hk8.cell 0);
                    (have r1 : w8.cell? ⟨w.heap.size, 1, none⟩ = some (.slice none 0 0) := hk8.cell 1);
                    (have s0 := hk8.free 0);
                    (have s1 := hk8.free 1);
                    (have FF' := hide FF);
                    (clear hZ8 FF hall hown7 hown8 hg8 hk7 hQ7 g7 hr7 hge);
                    (generalize ws ++ [(y, x)] = ys at kF FF' hL8 ⊢)))
              generalize hF : World.setCell _ _ _ = wF at kF FF' ⊢
              have y0 : wF.cell? ⟨w.heap.size, 0, none⟩ = some (.slice (some ⟨gs, 0, none⟩) vs.length Ns) := kF.cell 0
              have y1 : wF.cell? ⟨w.heap.size, 1, none⟩ = some (.slice Z8 ys.length d8) := kF.cell 1
              exact bodyPost_ret (v := .agg #[.slice (some ⟨gs, 0, none⟩) vs.length Ns, .slice Z8 ys.length d8]) (by simp [results, Try.f46, go_sem, y0, y1] <;> rfl) rfl FF'.out
            · have c1' : (q == 1) = false := by rw [beq_eq_false_iff_ne]; exact c1
              clear c0 c1 hown5
              have g5s := g5.size
              obtain ⟨kF, FF⟩ := fin.out w5 _ _ vs Z d ws _ hk5 (hQ5.lst (B := w.heap.size + 1) (by omega) hNs) hL5 hZ (by omega) (by omega) hsm'.out hsmw.out hr5 (by omega) g5
              have r0 : w5.cell? ⟨w.heap.size, 0, none⟩ = some (.slice none 0 0) := hk5.cell 0
              have r1 : w5.cell? ⟨w.heap.size, 1, none⟩ = some (.slice none 0 0) := hk5.cell 1
              have s0 := hk5.free 0
              have s1 := hk5.free 1
              have FF' := hide FF
              clear hZ FF
              go_wp2_with fail
              generalize hF : World.setCell _ _ _ = wF at kF FF' ⊢
              have y0 : wF.cell? ⟨w.heap.size, 0, none⟩ = some (.slice (some ⟨gs, 0, none⟩) vs.length Ns) := kF.cell 0
              have y1 : wF.cell? ⟨w.heap.size, 1, none⟩ = some (.slice Z ws.length d) := kF.cell 1
              exact bodyPost_ret (v := .agg #[.slice (some ⟨gs, 0, none⟩) vs.length Ns, .slice Z ws.length d]) (by simp [results, Try.f46, go_sem, y0, y1] <;> rfl) rfl FF'.out

end Go.Proofs.Ytgabjepoooageaa
