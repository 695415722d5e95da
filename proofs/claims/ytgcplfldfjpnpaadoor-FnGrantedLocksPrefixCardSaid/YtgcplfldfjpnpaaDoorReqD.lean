/-
  Drawing requests for locks: some list of at most eight, with bounded numbers. Conditions: the reader is one that newReader made.
-/
import Derived.Test.YtgcplfldfjpnpaaDoorDrawR
import Derived.Test.YtgcplfldfjpnpaaDoorOwn
import Derived.Test.YtgcplfldfjpnpaaDoorReq5
import Derived.Test.YtgcplfldfjpnpaaDoorLockL
import Derived.IntWalk
import Derived.RegionTactic
namespace Go.Proofs.YtgcplfldfjpnpaaDoor
open Go.RowKit
set_option linter.unusedVariables false
set_option linter.unusedSimpArgs false

theorem encR_one (x : Int × Int) : ∀ u ∈ encR x, u.oneCell' = true := by
  intro u hu
  simp [encR] at hu
  rcases hu with rfl | rfl <;> rfl
theorem oneB (lo hi : Int) (B R N n c G : Nat) (arr : Array Value) (w : World) (h : Rdr w B R N) (hb : Blk w G 3 arr) (hG : G ≠ R) (hN : N ≤ 1000000) (ha : arr.all (intR lo hi) = true) (hn : arr.size = n) (h0 : 0 < n) (hm : n ≤ 1000000) :
    Calls Tryd.prog 36 #[.pointer (some ⟨R, 0, none⟩), .slice (some ⟨G, 0, none⟩) n c] w (DrawnR lo hi B R N w) := by
  subst hn
  go_enter Tryd.func36, Tryd.ntmps36
  go_wp2_with fail
  refine (pick_any B R N _ w h (by omega) (by omega) (by omega)).mono ?_
  rintro e w' ⟨v, rfl, v0, v1, hr, hgr⟩
  obtain ⟨k, rfl⟩ := Int.eq_ofNat_of_zero_le v0
  have hk : k < arr.size := by omega
  obtain ⟨s, hs, hM⟩ := intR_at ha hk
  have hb' := hb.kept hgr (by simp; omega)
  have ck : w'.cell? ⟨G, k, none⟩ = some (.int .i64 s) := (hb'.cell k).trans hs
  clear hs hb hb' ha v1
  go_wp2
  go_ret
  exact ⟨s, rfl, hM.1, hM.2, hr, hgr⟩

theorem blk_at {w : World} {G : Nat} {t : TypeId} {cs : Array Value} (hG : w.heap.size = G) : Blk (w.alloc (.cells cs t)) G t cs := by
  subst hG
  exact Blk.new w t cs
def SmR (x : Int × Int) : Prop := -1 ≤ x.1 ∧ x.1 ≤ 8 ∧ 0 ≤ x.2 ∧ x.2 ≤ 6
def ReqD (B R N : Nat) (w : World) (e : Ending) (w' : World) : Prop :=
  ∃ A c rs, e = .returned (.slice A rs.length c) ∧ Lst encR 2 w.heap.size w' A c rs ∧ rs.length ≤ 8 ∧ (∀ x ∈ rs, SmR x) ∧ Rdr w' B R (N + 60) ∧ w.grownBy w' (some R)
theorem smR_snoc {rs : List (Int × Int)} {z : Int × Int} (h : ∀ x ∈ rs, SmR x) (hz : SmR z) : ∀ x ∈ rs ++ [z], SmR x := fun x hx => by
  rcases List.mem_append.1 hx with hx | hx
  · exact h x hx
  · obtain rfl : x = z := by simpa using hx
    exact hz

set_option maxRecDepth 4000 in
set_option maxHeartbeats 4000000 in
theorem anyReq_any (B R N : Nat) (w : World) (h : Rdr w B R N) (hN : N ≤ 100) :
    Calls Tryd.prog 29 #[.pointer (some ⟨R, 0, none⟩)] w (ReqD B R N w) := by
  obtain ⟨i0, hi, hz0, hz1, hz2⟩ := info_parts infoR
  have hi' := hide hi; have hz0' := hide hz0; have hz1' := hide hz1; have hz2' := hide hz2
  clear hi hz0 hz1 hz2
  have hR := h.lt
  have hBR := h.ge
  have o0 := ow_empty w (w.alloc (.cells #[] 32)) 32 2 (heap_alloc_new _ _)
  have h0 := h.alloc (.cells #[] 32)
  have g0 := w.grownBy_alloc (.cells #[] 32) (some R)
  go_enter Tryd.func29, Tryd.ntmps29
  go_wp2_with fail
  generalize w.alloc (.cells #[] 32) = w0 at o0 h0 g0
  refine (pick_any B R N 8 w0 h0 (by omega) (by omega) (by omega)).mono ?_
  rintro e w1 ⟨ow, rfl, ow0, ow1, hr1, hg1⟩
  have o1 := ow_kept o0 hg1 (fun g e => by cases e; exact hR)
  have g1 := grown_trans g0 hg1
  have ow2 : ow ≤ 7 := by omega
  clear o0 h0 g0 hg1 ow1
  go_wp2_with fail
  refine (oneR_at 0 8 B R _ 6 6 _ _ w1 rfl hr1 (by omega) (by kernel_rfl) (by rfl) (by omega) (by omega)).mono ?_
  rintro e w2 ⟨z, rfl, z0, z1, hr2, hg2⟩
  obtain ⟨n, rfl⟩ := Int.eq_ofNat_of_zero_le z0
  have o2 := ow_kept o1 hg2 (fun g e => by cases e; exact hR)
  have g2 := grown_trans g1 hg2
  clear o1 hr1 g1 hg2
  go_wp2_with fail
  go_loopw [3, 4, 5] (fun o q u wr => ∃ (k : Nat) (z : Value) (vs : List (Int × Int)) (y : Int), u = .int .i64 k ∧ o = z ∧ q = .int .i64 y ∧ 0 ≤ y ∧ y ≤ 7 ∧ vs.length + k ≤ 8 ∧ Hid (∀ v ∈ vs, SmR v) ∧ wr.ownsRow w.heap.size 32 2 z vs.length (vs.flatMap encR) ∧ Rdr wr B R (N + 2 + (8 - k)) ∧ w.grownBy wr (some R)) (fun _ _ u _ => (intOf u).toNat)
  case atStart => exact ⟨n, _, [], _, rfl, rfl, rfl, ow0, ow2, by simp; omega, (fun v hv => by cases hv), o2, hr2.mono (by omega), g2⟩
  case round =>
    obtain ⟨k, z, vs, y, rfl, rfl, rfl, y0, y7, hl, hsm, hown, hr, hg⟩ := hrel
    clear o2 hr2 g2
    by_cases hp : 0 < k
    · have hp' : (0 : Int) < (k : Int) := by omega
      go_wp2_with fail
      refine (oneR_at 1 5 B R _ 7 7 _ _ wr rfl hr (by omega) (by kernel_rfl) (by rfl) (by omega) (by omega)).mono ?_
      rintro e w3 ⟨m, rfl, m0, m1, hr3, hg3⟩
      have hown3 := ow_kept hown hg3 (fun g e => by cases e; exact hR)
      have hg3' := grown_trans hg hg3
      have hsm3 := hide (smR_snoc hsm.out (z := (y, m)) ⟨by omega, by omega, by omega, by omega⟩)
      have hsz := hg3'.size
      have hge : ∀ k, u3.ownBlock = some k → w.heap.size ≤ k := fun k hk => ow_ge hown3 hk
      clear hg3 hg hr hsm hown
      go_wp2_with (first
        | (at_builtin; refine wpList_elem Tryd.underlying28 hi'.out hz0'.out hz1'.out hz2'.out rfl (by decide) (by decide) encR_len encR_one rfl _ _ rfl w.heap.size _ vs rfl hown3 (y, m) _ rfl _ rfl rfl (by omega) hsz ?_; intro v' w4 hown' hg4))
      go_roundw
      case rel => exact ⟨k - 1, _, vs ++ [(y, m)], (y + 3) % 8, by rw [Value.int.injEq]; exact ⟨rfl, by omega⟩, rfl, rfl, by omega, by omega, by simp; omega, hsm3, hown', (hr3.kept hg4 (fun g e => by have := hge g e; omega)).mono (by omega), grown_own hg3' hg4 hge⟩
      case measure => simp [intOf]; omega
    · obtain rfl : k = 0 := by omega
      obtain ⟨A, c, rfl, hL, hblk⟩ := ow_open (by omega) encR_len hown
      have fin : Hid (∀ (w' : World) (A : Option Addr) (c : Nat) (xs : List (Int × Int)) (M : Nat), xs.length = vs.length → Lst encR 2 w.heap.size w' A c xs → (∀ x ∈ xs, SmR x) → Rdr w' B R M → M ≤ N + 60 → w.grownBy w' (some R) → ReqD B R N w (.returned (.slice A vs.length c)) w') :=
        fun w' A c xs M a b d e f g => ⟨A, c, xs, by rw [a], b, by omega, d, e.mono f, g⟩
      by_cases hv : 0 < vs.length
      · obtain ⟨g, arr, rfl, hge, hB, harr⟩ := hblk.resolve_left (by rintro rfl; simp at hv)
        have hv' : (0 : Int) < (vs.length : Int) := by omega
        go_wp2_with fail
        refine (pick_any B R _ 16 wr hr (by omega) (by omega) (by omega)).mono ?_
        rintro e w2 ⟨q, rfl, q0, q1, hr2, hg2⟩
        have hL2 := hL.kept hg2 (fun g e => by cases e; exact hR)
        have hB2 := hB.kept hg2 (by simp; omega)
        have hg2' := grown_trans hg hg2
        clear hL hB hg hg2 hr q1 hown hblk
        by_cases hq : q = 0
        · subst hq
          obtain ⟨b', off', hA', c0, c1⟩ := hL2.rl.req hv
          obtain ⟨rfl, rfl⟩ : g = b' ∧ 0 = off' := by simpa using hA'
          have hx := hsm.out _ (List.getElem_mem hv)
          generalize vs[0] = x0 at c0 c1 hx
          obtain ⟨x1, x2⟩ := x0
          obtain ⟨hx1, hx2, -, -⟩ := hx
          simp only [Nat.zero_mul, Nat.zero_add] at c0 c1 hx1 hx2
          clear c1 hA'
          have hgl := hB2.lt
          have hgx : w2.grownBy w2.drew (some R) := grown_drew (World.grownBy.refl _ _)
          have hrx : Rdr w2.drew B R (N + 2 + (8 - 0) + 1) := hr2
          have hRw : R < w2.heap.size := hr2.lt
          have finR : Hid (∀ (W : World) (y1 y2 : Int) (k M : Nat), w2.grownBy W (some R) → Rdr W B R M → M ≤ N + 60 → Blk W g 32 arr → k < vs.length → -1 ≤ y1 → y1 ≤ 8 → 0 ≤ y2 → y2 ≤ 6 → ReqD B R N w (.returned (.slice (some ⟨g, 0, none⟩) vs.length c)) ((W.setCell ⟨g, k * 2, none⟩ (.int .i64 y1)).setCell ⟨g, k * 2 + 1, none⟩ (.int .i64 y2))) := by
            intro W y1 y2 k M hg hr hM hB hk h1 h2 h3 h4
            have L := hL2.kept hg (fun g e => by cases e; exact hR)
            have hcap := L.cap
            have s1 := grown_set (g := g) (World.grownBy.refl W _) (p := ⟨g, k * 2, none⟩) (.inl rfl) (.int .i64 y1)
            have s2 := grown_set s1 (p := ⟨g, k * 2 + 1, none⟩) (.inl rfl) (.int .i64 y2)
            have hBs := (hB.set (k * 2) (.int .i64 y1)).set (k * 2 + 1) (.int .i64 y2)
            have hrl := Rl.store (x := (y1, y2)) (w' := (W.setCell ⟨g, k * 2, none⟩ (.int .i64 y1)).setCell ⟨g, k * 2 + 1, none⟩ (.int .i64 y2)) encR_len L.rl hk
              (fun o u ho hu => by
                rw [hBs.cell]
                rw [hB.cell] at hu
                rw [Array.getElem?_setIfInBounds_ne (by omega), Array.getElem?_setIfInBounds_ne (by omega)]
                exact hu)
              (fun j u hu => by
                rw [hBs.cell, Nat.zero_add]
                match j, hu with
                | 0, hu =>
                  rw [Array.getElem?_setIfInBounds_ne (by omega)]
                  exact (Array.getElem?_setIfInBounds_self_of_lt (show k * 2 < arr.size by omega)).trans hu
                | 1, hu =>
                  rw [Array.getElem?_setIfInBounds_self_of_lt (by simp; omega)]
                  exact hu)
            refine fin.out _ _ _ (vs.set k (y1, y2)) _ (by simp) ⟨hrl, by simpa using L.cap, L.max, fun b hb => ?_⟩ (fun x hx => ?_) (hr.kept s2 (fun g' e => by cases e; omega)) hM (grown_own (grown_trans hg2' hg) s2 (fun g' e => by cases e; exact hge))
            · simp at hb
              subst hb
              exact ⟨hge, hBs.lt⟩
            · rcases List.mem_or_eq_of_mem_set hx with hx | hx
              · exact hsm.out x hx
              · subst hx
                exact ⟨h1, h2, h3, h4⟩
          have c0i := c0
          have hcap := hL2.cap
          have hkB : Hid (Blk w2 g 32 arr) := hB2
          have ha1 : Array.all #[Value.int .i64 (-1), .int .i64 8, .int .i64 x1] (intR (-1) 8) = true := by
            simp [intR]
            omega
          go_wp2_with fail
          go_region_with (first
            | (go_at_call 27; refine (pick_any B R _ _ _ (by first | exact hrx | exact hrx.alloc _ | exact (hrx.alloc _).alloc _) (by omega) (by omega) (by omega)).mono ?_; rintro e wq ⟨p, rfl, p0, p1, hrq, hgq⟩; (first | (have ka := (Blk.new _ 3 #[.int .i64 (-1), .int .i64 8, .int .i64 x1]).drew.kept hgq (by simp; omega)) | (have ka := ((Blk.new _ 3 #[.int .i64 (-1), .int .i64 8, .int .i64 x1]).alloc _).drew.kept hgq (by simp; omega)) | (have ka := (Blk.new _ 3 #[.int .i64 (-1), .int .i64 8, .int .i64 x1]).kept hgq (by simp; omega)) | (have ka := ((Blk.new _ 3 #[.int .i64 (-1), .int .i64 8, .int .i64 x1]).alloc _).kept hgq (by simp; omega)) | (have ka := (ka.alloc _).kept hgq (by simp; omega)) | (have ka := ka.kept hgq (by simp; omega)) | skip); (try simp only [World.size_alloc] at ka); (first | (have kb := (Blk.new _ 3 #[.int .i64 0, .int .i64 6, .int .i64 1]).drew.kept hgq (by simp; omega)) | (have kb := ((Blk.new _ 3 #[.int .i64 0, .int .i64 6, .int .i64 1]).alloc _).drew.kept hgq (by simp; omega)) | (have kb := (Blk.new _ 3 #[.int .i64 0, .int .i64 6, .int .i64 1]).kept hgq (by simp; omega)) | (have kb := ((Blk.new _ 3 #[.int .i64 0, .int .i64 6, .int .i64 1]).alloc _).kept hgq (by simp; omega)) | (have kb := (kb.alloc _).kept hgq (by simp; omega)) | (have kb := kb.kept hgq (by simp; omega)) | skip); (try simp only [World.size_alloc] at kb); (replace hgx := (by first | exact grown_trans hgx hgq | exact grown_trans (grown_alloc hgx _) hgq | exact grown_trans (grown_alloc (grown_alloc hgx _) _) hgq : w2.grownBy wq (some R))); (replace hrx := hrq); (have c0 := hgx.cell c0i (by simp; omega)); (have hglx : g < wq.heap.size := Nat.lt_of_lt_of_le hgl hgx.size); (have hwx : w2.heap.size ≤ wq.heap.size := hgx.size); (obtain ⟨k, rfl⟩ := Int.eq_ofNat_of_zero_le p0); (have hk : k < vs.length := (by omega)); (have hki : (k : Int) < (vs.length : Int) := (by omega)); clear p1)
            | (go_at_call 36; refine (oneB (-1) 8 B R _ 3 3 _ #[.int .i64 (-1), .int .i64 8, .int .i64 x1] _ (by first | exact hrx | exact hrx.alloc _ | exact (hrx.alloc _).alloc _) (by first | exact (blk_at (t := 3) (by simp)).drew | exact ((blk_at (t := 3) (by simp)).alloc _).drew | exact blk_at (t := 3) (cs := #[.int .i64 (-1), .int .i64 8, .int .i64 x1]) (by simp) | exact (blk_at (t := 3) (cs := #[.int .i64 (-1), .int .i64 8, .int .i64 x1]) (by simp)).alloc _ | exact ka | exact ka.alloc _) (by simp; omega) (by omega) ha1 (by rfl) (by omega) (by omega)).mono ?_; rintro e wq ⟨y1, rfl, y10, y11, hrq, hgq⟩; (first | (have kb := (Blk.new _ 3 #[.int .i64 0, .int .i64 6, .int .i64 1]).drew.kept hgq (by simp; omega)) | (have kb := ((Blk.new _ 3 #[.int .i64 0, .int .i64 6, .int .i64 1]).alloc _).drew.kept hgq (by simp; omega)) | (have kb := (Blk.new _ 3 #[.int .i64 0, .int .i64 6, .int .i64 1]).kept hgq (by simp; omega)) | (have kb := ((Blk.new _ 3 #[.int .i64 0, .int .i64 6, .int .i64 1]).alloc _).kept hgq (by simp; omega)) | (have kb := (kb.alloc _).kept hgq (by simp; omega)) | (have kb := kb.kept hgq (by simp; omega)) | skip); (try simp only [World.size_alloc] at kb); (replace hgx := (by first | exact grown_trans hgx hgq | exact grown_trans (grown_alloc hgx _) hgq | exact grown_trans (grown_alloc (grown_alloc hgx _) _) hgq : w2.grownBy wq (some R))); (replace hrx := hrq); (have c0 := hgx.cell c0i (by simp; omega)); (have hglx : g < wq.heap.size := Nat.lt_of_lt_of_le hgl hgx.size); (have hwx : w2.heap.size ≤ wq.heap.size := hgx.size))
            | (go_at_call 36; refine (oneB 0 6 B R _ 3 3 _ #[.int .i64 0, .int .i64 6, .int .i64 1] _ (by first | exact hrx | exact hrx.alloc _ | exact (hrx.alloc _).alloc _) (by first | exact (blk_at (t := 3) (by simp)).drew | exact ((blk_at (t := 3) (by simp)).alloc _).drew | exact blk_at (t := 3) (cs := #[.int .i64 0, .int .i64 6, .int .i64 1]) (by simp) | exact (blk_at (t := 3) (cs := #[.int .i64 0, .int .i64 6, .int .i64 1]) (by simp)).alloc _ | exact kb | exact kb.alloc _) (by simp; omega) (by omega) (by kernel_rfl) (by rfl) (by omega) (by omega)).mono ?_; rintro e wq ⟨y2, rfl, y20, y21, hrq, hgq⟩; (replace hgx := (by first | exact grown_trans hgx hgq | exact grown_trans (grown_alloc hgx _) hgq | exact grown_trans (grown_alloc (grown_alloc hgx _) _) hgq : w2.grownBy wq (some R))); (replace hrx := hrq); (have c0 := hgx.cell c0i (by simp; omega)); (have hglx : g < wq.heap.size := Nat.lt_of_lt_of_le hgl hgx.size); (have hwx : w2.heap.size ≤ wq.heap.size := hgx.size); (have kO := hkB.out.kept hgx (by simp; omega)); (have hk0 : k * 2 < arr.size := (by omega)); (have hk1 : k * 2 + 1 < arr.size := (by omega)); (have e0 := (kO.cell (k * 2)).trans (Array.getElem?_eq_getElem hk0)); (have e1 := (kO.cell (k * 2 + 1)).trans (Array.getElem?_eq_getElem hk1)); (have f0 := kO.free (k * 2)); (have f1 := kO.free (k * 2 + 1))))
          all_goals
            have FF := finR.out wq y1 y2 k _ hgx hrx (by omega) kO hk y10 y11 y20 y21
            have FF' := hide FF
            clear FF e0 e1 f0 f1 c0 hrx hgx kO hgq
            go_wp2_with fail
            go_ret
            exact FF'.out
        · have hq' : (q == 0) = false := by rw [beq_eq_false_iff_ne]; exact hq
          clear hq
          go_wp2_with fail
          go_ret
          exact fin.out _ _ _ vs _ rfl hL2 hsm.out hr2 (by omega) hg2'
      · have hv' : ¬ ((0 : Int) < (vs.length : Int)) := by omega
        go_wp2_with fail
        go_ret
        exact fin.out _ _ _ vs _ rfl hL hsm.out hr (by omega) hg

end Go.Proofs.YtgcplfldfjpnpaaDoor
