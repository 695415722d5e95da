/-
  The draw of a disk and a write. Conditions: the argument reads as a list of bytes.
-/
import Derived.Test.YtgabjepoooageaaWrS
namespace Go.Proofs.Ytgabjepoooageaa
open Go.RowKit
set_option linter.unusedVariables false
set_option linter.unusedSimpArgs false

theorem oneG (lo hi : Int) (B R N n c G : Nat) (arr : Array Value) (w : World) (h : Rdr w B R N) (hb : Blk w G 3 arr) (hG : G ≠ R) (hN : N ≤ 1000000) (ha : arr.all (intR lo hi) = true) (hn : arr.size = n) (h0 : 0 < n) (hm : n ≤ 1000000) :
    Calls Try.prog 48 #[.pointer (some ⟨R, 0, none⟩), .slice (some ⟨G, 0, none⟩) n c] w (DrawnR lo hi B R N w) := by
  subst hn
  go_enter Try.func48, Try.ntmps48
  go_wp2_with fail
  refine (pick_any B R N _ w h (by omega) (by omega) (by omega)).mono ?_
  rintro e w' ⟨v, rfl, v0, v1, hr, hgr⟩
  obtain ⟨k, rfl⟩ := Int.eq_ofNat_of_zero_le v0
  have hk : k < arr.size := by omega
  obtain ⟨s, hs, hM⟩ := intR_at ha hk
  have hb' := hb.kept hgr (by simp; omega)
  have ck : w'.cell? ⟨G, k, none⟩ = some (.int .i64 s) := (hb'.cell k).trans hs
  clear hs hb hb' ha v1
  go_wp2
  go_ret
  exact ⟨s, rfl, hM.1, hM.2, hr, hgr⟩

set_option maxHeartbeats 4000000 in
theorem drawWD (A : Option Addr) (c : Nat) (zs : List Int) (w : World) (h : Bytes w A c zs) :
    Calls Try.prog 24 #[.slice A zs.length c] w (Drawn3 w) := by
  have kr := (Blk.new w 30 #[.slice none 0 0, .slice none 0 0]).alloc (.cells #[.int .i64 0, .int .i64 0] 41)
  have kq := Blk.new (w.alloc (.cells #[.slice none 0 0, .slice none 0 0] 30)) 41 #[.int .i64 0, .int .i64 0]
  simp only [World.size_alloc] at kq
  have hb0 : Below w.heap.size w ((w.alloc (.cells #[.slice none 0 0, .slice none 0 0] 30)).alloc (.cells #[.int .i64 0, .int .i64 0] 41)) := by go_grown
  go_enter Try.func24, Try.ntmps24
  go_wp2_with fail
  refine (new_any A c zs _ ((h.rl.alloc _).alloc _) h.rng h.cap h.max (fun b hz ha => by have := h.blk b hz ha; simp; omega)).mono ?_
  rintro e w1 ⟨rfl, hr, hb⟩
  have hb1 := bt hb0 hb hb0.size
  have kr1 := kr.below hb
  have kq1 := kq.below hb
  have hk1 := kq.lt
  generalize ((w.alloc (.cells #[.slice none 0 0, .slice none 0 0] 30)).alloc (.cells #[.int .i64 0, .int .i64 0] 41)).heap.size = S at hr hk1 ⊢
  clear kr kq hb0 hb
  go_wp2_with fail
  refine (anyD_any _ _ _ w1 hr (by omega)).mono ?_
  rintro e w2 ⟨A, c, xs, Z, d, ws, rfl, hA, hZ, hz, la, lb, sa, sb, hr2, hg2⟩
  have hD : DrD w1.heap.size w2 A c xs Z d ws := ⟨hA, hZ, hz, la, lb, sa, sb⟩
  have kr2 := kr1.kept hg2 (by simp; omega)
  have kq2 := kq1.kept hg2 (by simp; omega)
  have hb2 := below_of_grown hb1 hg2 (by omega) hb1.size
  have hz1 := kq1.lt
  have hz2 := kq2.lt
  have hS := hr.lt
  have hS2 := hr2.lt
  clear hr hg2 hA hZ hz sa sb kr1 kq1
  have hb3 : Below w2.heap.size w2 (w2.alloc (.cells #[.slice A xs.length c, .slice Z ws.length d] 30)) := (Below.refl _ _).alloc (Nat.le_refl _) _
  have k5 := Blk.new w2 30 #[.slice A xs.length c, .slice Z ws.length d]
  have hr3 := hr2.below hb3
  have kr3 := kr2.below hb3
  have kq3 := kq2.below hb3
  have hD3 := hD.below hb3
  have hb3' := bt hb2 hb3 (by omega)
  have h5l := k5.lt
  clear hr2 kr2 kq2 hD hb3
  go_wp2_with fail
  generalize w2.alloc (.cells #[.slice A xs.length c, .slice Z ws.length d] 30) = w3 at k5 hr3 kr3 kq3 hD3 hb3' h5l ⊢
  have c0 : w3.cell? ⟨w2.heap.size, 0, none⟩ = some (.slice A xs.length c) := k5.cell 0
  have c1 : w3.cell? ⟨w2.heap.size, 1, none⟩ = some (.slice Z ws.length d) := k5.cell 1
  have nr : w2.heap.size ≠ S := by omega
  have hzz := hb3'.size
  have fin : Hid (∀ W, w3.grownBy W (some S) → ∀ x y : Int, Smz x → Smz y →
      Blk W w.heap.size 30 #[.slice none 0 0, .slice none 0 0] ∧ Blk W (w.heap.size + 1) 41 #[.int .i64 0, .int .i64 0] ∧
      ∀ W', W' = (((W.setCell ⟨w.heap.size, 0, none⟩ (.slice A xs.length c)).setCell ⟨w.heap.size, 1, none⟩ (.slice Z ws.length d)).setCell ⟨w.heap.size + 1, 0, none⟩ (.int .i64 x)).setCell ⟨w.heap.size + 1, 1, none⟩ (.int .i64 y) →
        Blk W' w.heap.size 30 #[.slice A xs.length c, .slice Z ws.length d] ∧ Blk W' (w.heap.size + 1) 41 #[.int .i64 x, .int .i64 y] ∧ Drawn3 w (.returned (.tuple #[.agg #[.slice A xs.length c, .slice Z ws.length d], .agg #[.int .i64 x, .int .i64 y]])) W') := by
    intro W hg x y hx hy
    have kr4 := kr3.kept hg (by simp; omega)
    have kq4 := kq3.kept hg (by simp; omega)
    refine ⟨kr4, kq4, ?_⟩
    rintro W' rfl
    obtain ⟨kF, gF⟩ := res2 kr4 (.slice A xs.length c) (.slice Z ws.length d)
    have kq5 := kq4.kept gF (by simp)
    obtain ⟨kE, gE⟩ := res2 kq5 (.int .i64 x) (.int .i64 y)
    have hb4 := below_of_grown hb3' hg (by omega) hzz
    have hb5 := below_of_grown hb4 gF (Nat.le_refl _) hb4.size
    have hb6 := below_of_grown hb5 gE (by omega) hb5.size
    have hDF := ((hD3.kept hg (by omega)).kept gF (by omega)).kept gE (by omega)
    exact ⟨kF.kept gE (by simp), kE, A, c, xs, Z, d, ws, (x, y), rfl, hx, hy, hDF.mono (by omega), hb6⟩
  have hgx : w3.grownBy w3.drew (some S) := grown_drew (World.grownBy.refl _ _)
  have hrx : Rdr w3.drew S S (0 + 60) := hr3
  clear hr3 kr3 kq3 hD3 hb3' k5
  refine wp_region_noPanic ?_
  refine wp_region_held_drew (S := (fun w' => w'.cell? ⟨w2.heap.size, 0, none⟩ = some (.slice A xs.length c) ∧ w'.cell? ⟨w2.heap.size, 1, none⟩ = some (.slice Z ws.length d))) (by kernel_rfl) ?_ ?_
  · exact ⟨(hgx).cell c0 (by simp; omega), (hgx).cell c1 (by simp; omega)⟩
  generalize w3.drew = W0 at hgx hrx ⊢
  intro hHeld
  refine wpAnyH_take (i := 0) (oi := _) (v := ?_) rfl (by kernel_rfl) (by kernel_rfl) (by kernel_rfl) (fun _ _ _ h => h) (Or.inl ⟨by rfl, ?_⟩) (by assumption) ?_
  rotate_left
  · (intro wS hSw; (try dsimp only at hSw); (try go_split_ands); (simp only [List.getElem_toArray, List.getElem_cons_succ, List.getElem_cons_zero]); go_simp <;> (with_reducible rfl))
  try simp only [List.getElem_toArray, List.getElem_cons_succ, List.getElem_cons_zero, Act.put, List.setIfInBounds_toArray, List.set_cons_zero, List.set_cons_succ]
  refine wpAnyH_take (i := 1) (oi := _) (v := ?_) rfl (by kernel_rfl) (by kernel_rfl) (by kernel_rfl) (fun _ _ _ h => h) (Or.inl ⟨by rfl, ?_⟩) (by assumption) ?_
  rotate_left
  · (intro wS hSw; (try dsimp only at hSw); (try go_split_ands); (simp only [List.getElem_toArray, List.getElem_cons_succ, List.getElem_cons_zero]); go_simp <;> (with_reducible rfl))
  try simp only [List.getElem_toArray, List.getElem_cons_succ, List.getElem_cons_zero, Act.put, List.setIfInBounds_toArray, List.set_cons_zero, List.set_cons_succ]
  refine wpAnyH_take (i := 4) (oi := _) (v := ?_) rfl (by kernel_rfl) (by kernel_rfl) (by kernel_rfl) (fun _ _ _ h => h) (Or.inl ⟨by rfl, ?_⟩) (by assumption) ?_
  rotate_left
  · (intro wS hSw; (try dsimp only at hSw); (try go_split_ands); (simp only [List.getElem_toArray, List.getElem_cons_succ, List.getElem_cons_zero]); go_simp <;> (with_reducible rfl))
  try simp only [List.getElem_toArray, List.getElem_cons_succ, List.getElem_cons_zero, Act.put, List.setIfInBounds_toArray, List.set_cons_zero, List.set_cons_succ]
  refine wpAnyH_ready (rs := [2, 5]) (by kernel_rfl) (by simp) (AllReadyH.cons (o := _) rfl (fun K hK => ?_) (AllReadyH.cons (o := _) rfl (fun K hK => ?_) AllReadyH.nil))
  · skip -- 2
    simp only [rq0, rq1, rq2]
    go_simp
    have la := Blk.new W0 3 #[.int .i64 0, .int .i64 1, .int .i64 2, .int .i64 0, .int .i64 7, .int .i64 8, .int .i64 (-1)]
    have nla : W0.heap.size ≠ S := by have := hgx.size; omega
    replace hgx := grown_alloc hgx (.cells #[.int .i64 0, .int .i64 1, .int .i64 2, .int .i64 0, .int .i64 7, .int .i64 8, .int .i64 (-1)] 3)
    replace hrx := hrx.alloc (.cells #[.int .i64 0, .int .i64 1, .int .i64 2, .int .i64 0, .int .i64 7, .int .i64 8, .int .i64 (-1)] 3)
    refine hK.out _ _ ?_ (fun hHeld => ?_)
    · exact ⟨(hgx).cell c0 (by simp; omega), (hgx).cell c1 (by simp; omega)⟩
    clear hK K
    try simp only [rq0, rq1, rq2, Act.put, rq3, rq4, rq5]
    generalize W0.alloc (.cells #[.int .i64 0, .int .i64 1, .int .i64 2, .int .i64 0, .int .i64 7, .int .i64 8, .int .i64 (-1)] 3) = W1 at hgx hrx la ⊢
    refine wpAnyH_ready (rs := [3, 5]) (by kernel_rfl) (by simp) (AllReadyH.cons (o := _) rfl (fun K hK => ?_) (AllReadyH.cons (o := _) rfl (fun K hK => ?_) AllReadyH.nil))
    · skip -- 3
      simp only [rq0, rq1, rq2]
      go_simp
      (go_at_call 48; refine (oneG (-1) 8 _ _ _ 7 7 _ _ _ hrx la nla (by omega) (by kernel_rfl) (by rfl) (by omega) (by omega)).mono ?_; rintro e W2 ⟨x, rfl, x0, x1, hr', hg'⟩)
      replace hgx := grown_trans hgx hg'
      replace hrx := hr'
      replace la := la.kept hg' (by simpa using nla)
      clear hg' hr'
      refine hK.out _ _ ?_ (fun hHeld => ?_)
      · exact ⟨(hgx).cell c0 (by simp; omega), (hgx).cell c1 (by simp; omega)⟩
      clear hK K
      try simp only [rq0, rq1, rq2, Act.put, rq3, rq4, rq5]
      refine wpAnyH_ready (rs := [5]) (by kernel_rfl) (by simp) (AllReadyH.cons (o := _) rfl (fun K hK => ?_) AllReadyH.nil)
      simp only [rq0, rq1, rq2]
      go_simp
      have lb := Blk.new W2 3 #[.int .i64 5, .int .i64 0, .int .i64 999999, .int .i64 77, .int .i64 1000000, .int .i64 (-1)]
      replace la := la.alloc (.cells #[.int .i64 5, .int .i64 0, .int .i64 999999, .int .i64 77, .int .i64 1000000, .int .i64 (-1)] 3)
      have nlb : W2.heap.size ≠ S := by have := hgx.size; omega
      replace hgx := grown_alloc hgx (.cells #[.int .i64 5, .int .i64 0, .int .i64 999999, .int .i64 77, .int .i64 1000000, .int .i64 (-1)] 3)
      replace hrx := hrx.alloc (.cells #[.int .i64 5, .int .i64 0, .int .i64 999999, .int .i64 77, .int .i64 1000000, .int .i64 (-1)] 3)
      refine hK.out _ _ ?_ (fun hHeld => ?_)
      · exact ⟨(hgx).cell c0 (by simp; omega), (hgx).cell c1 (by simp; omega)⟩
      clear hK K
      try simp only [rq0, rq1, rq2, Act.put, rq3, rq4, rq5]
      generalize W2.alloc (.cells #[.int .i64 5, .int .i64 0, .int .i64 999999, .int .i64 77, .int .i64 1000000, .int .i64 (-1)] 3) = W3 at hgx hrx la lb ⊢
      refine wpAnyH_ready (rs := [6]) (by kernel_rfl) (by simp) (AllReadyH.cons (o := _) rfl (fun K hK => ?_) AllReadyH.nil)
      simp only [rq0, rq1, rq2]
      go_simp
      (go_at_call 48; refine (oneG (-1) 1000000 _ _ _ 6 6 _ _ _ hrx lb nlb (by omega) (by kernel_rfl) (by rfl) (by omega) (by omega)).mono ?_; rintro e W4 ⟨y, rfl, y0, y1, hr', hg'⟩)
      replace hgx := grown_trans hgx hg'
      replace hrx := hr'
      replace la := la.kept hg' (by simpa using nla)
      replace lb := lb.kept hg' (by simpa using nlb)
      clear hg' hr'
      refine hK.out _ _ ?_ (fun hHeld => ?_)
      · exact ⟨(hgx).cell c0 (by simp; omega), (hgx).cell c1 (by simp; omega)⟩
      clear hK K
      try simp only [rq0, rq1, rq2, Act.put, rq3, rq4, rq5]
      refine wpAnyH_take (i := 7) (oi := _) (v := ?_) rfl (by kernel_rfl) (by kernel_rfl) (by kernel_rfl) (fun _ _ _ h => h) (Or.inl ⟨by rfl, ?_⟩) (by assumption) ?_
      rotate_left
      · (intro wS hSw; (try dsimp only at hSw); (try go_split_ands); (simp only [List.getElem_toArray, List.getElem_cons_succ, List.getElem_cons_zero]); go_simp <;> (with_reducible rfl))
      try simp only [List.getElem_toArray, List.getElem_cons_succ, List.getElem_cons_zero, Act.put, List.setIfInBounds_toArray, List.set_cons_zero, List.set_cons_succ]
      refine wpAnyH_ready (rs := [8]) (by kernel_rfl) (by simp) (AllReadyH.cons (o := _) rfl (fun K hK => ?_) AllReadyH.nil)
      obtain ⟨kr4, kq4, FF⟩ := fin.out _ hgx x y ⟨by omega, by omega⟩ ⟨by omega, by omega⟩
      have r0 : W4.cell? ⟨w.heap.size, 0, none⟩ = some (.slice none 0 0) := kr4.cell 0
      have r1 : W4.cell? ⟨w.heap.size, 1, none⟩ = some (.slice none 0 0) := kr4.cell 1
      have s0 := kr4.free 0
      have s1 := kr4.free 1
      have p0 : W4.cell? ⟨w.heap.size + 1, 0, none⟩ = some (.int .i64 0) := kq4.cell 0
      have p1 : W4.cell? ⟨w.heap.size + 1, 1, none⟩ = some (.int .i64 0) := kq4.cell 1
      have t0 := kq4.free 0
      have t1 := kq4.free 1
      simp only [rq0, rq1, rq2]
      go_simp
      refine hK.out _ _ ?_ (fun hHeld => ?_)
      · exact ⟨(World.cell?_setCell_other _ _ _ _ (by intro e; simp at e <;> omega)).trans ((World.cell?_setCell_other _ _ _ _ (by intro e; simp at e <;> omega)).trans (hgx.cell c0 (by simp; omega))), (World.cell?_setCell_other _ _ _ _ (by intro e; simp at e <;> omega)).trans ((World.cell?_setCell_other _ _ _ _ (by intro e; simp at e <;> omega)).trans (hgx.cell c1 (by simp; omega)))⟩
      clear hK K
      try simp only [rq0, rq1, rq2, Act.put, rq3, rq4, rq5]
      refine wpAnyH_ready (rs := [9]) (by kernel_rfl) (by simp) (AllReadyH.cons (o := _) rfl (fun K hK => ?_) AllReadyH.nil)
      simp only [rq0, rq1, rq2]
      go_simp
      refine hK.out _ _ ?_ (fun hHeld => ?_)
      · exact ⟨(World.cell?_setCell_other _ _ _ _ (by intro e; simp at e <;> omega)).trans ((World.cell?_setCell_other _ _ _ _ (by intro e; simp at e <;> omega)).trans ((World.cell?_setCell_other _ _ _ _ (by intro e; simp at e <;> omega)).trans ((World.cell?_setCell_other _ _ _ _ (by intro e; simp at e <;> omega)).trans (hgx.cell c0 (by simp; omega))))), (World.cell?_setCell_other _ _ _ _ (by intro e; simp at e <;> omega)).trans ((World.cell?_setCell_other _ _ _ _ (by intro e; simp at e <;> omega)).trans ((World.cell?_setCell_other _ _ _ _ (by intro e; simp at e <;> omega)).trans ((World.cell?_setCell_other _ _ _ _ (by intro e; simp at e <;> omega)).trans (hgx.cell c1 (by simp; omega)))))⟩
      clear hK K
      try simp only [rq0, rq1, rq2, Act.put, rq3, rq4, rq5]
      refine wpAnyH_done (by kernel_rfl) ?_ _
      refine NoPanic.normal ?_
      clear hHeld
      obtain ⟨kF, kE, FF⟩ := FF _ rfl
      clear r0 r1 s0 s1 p0 p1 t0 t1 kr4 kq4 hgx hrx la lb
      have FF' := hide FF
      clear FF
      go_wp2_with fail
      replace FF' := FF'.out
      generalize hF : World.setCell _ _ _ = wF at kF kE FF' ⊢
      have z0 : wF.cell? ⟨w.heap.size, 0, none⟩ = some (.slice A xs.length c) := kF.cell 0
      have z1 : wF.cell? ⟨w.heap.size, 1, none⟩ = some (.slice Z ws.length d) := kF.cell 1
      have z2 : wF.cell? ⟨w.heap.size + 1, 0, none⟩ = some (.int .i64 x) := kE.cell 0
      have z3 : wF.cell? ⟨w.heap.size + 1, 1, none⟩ = some (.int .i64 y) := kE.cell 1
      exact bodyPost_ret (v := .tuple #[.agg #[.slice A xs.length c, .slice Z ws.length d], .agg #[.int .i64 x, .int .i64 y]]) (by simp [results, Try.f24, go_sem, z0, z1, z2, z3] <;> rfl) rfl FF'
    · skip -- 5
      simp only [rq0, rq1, rq2]
      go_simp
      have lb := Blk.new W1 3 #[.int .i64 5, .int .i64 0, .int .i64 999999, .int .i64 77, .int .i64 1000000, .int .i64 (-1)]
      replace la := la.alloc (.cells #[.int .i64 5, .int .i64 0, .int .i64 999999, .int .i64 77, .int .i64 1000000, .int .i64 (-1)] 3)
      have nlb : W1.heap.size ≠ S := by have := hgx.size; omega
      replace hgx := grown_alloc hgx (.cells #[.int .i64 5, .int .i64 0, .int .i64 999999, .int .i64 77, .int .i64 1000000, .int .i64 (-1)] 3)
      replace hrx := hrx.alloc (.cells #[.int .i64 5, .int .i64 0, .int .i64 999999, .int .i64 77, .int .i64 1000000, .int .i64 (-1)] 3)
      refine hK.out _ _ ?_ (fun hHeld => ?_)
      · exact ⟨(hgx).cell c0 (by simp; omega), (hgx).cell c1 (by simp; omega)⟩
      clear hK K
      try simp only [rq0, rq1, rq2, Act.put, rq3, rq4, rq5]
      generalize W1.alloc (.cells #[.int .i64 5, .int .i64 0, .int .i64 999999, .int .i64 77, .int .i64 1000000, .int .i64 (-1)] 3) = W2 at hgx hrx la lb ⊢
      refine wpAnyH_ready (rs := [3]) (by kernel_rfl) (by simp) (AllReadyH.cons (o := _) rfl (fun K hK => ?_) AllReadyH.nil)
      simp only [rq0, rq1, rq2]
      go_simp
      (go_at_call 48; refine (oneG (-1) 8 _ _ _ 7 7 _ _ _ hrx la nla (by omega) (by kernel_rfl) (by rfl) (by omega) (by omega)).mono ?_; rintro e W3 ⟨x, rfl, x0, x1, hr', hg'⟩)
      replace hgx := grown_trans hgx hg'
      replace hrx := hr'
      replace la := la.kept hg' (by simpa using nla)
      replace lb := lb.kept hg' (by simpa using nlb)
      clear hg' hr'
      refine hK.out _ _ ?_ (fun hHeld => ?_)
      · exact ⟨(hgx).cell c0 (by simp; omega), (hgx).cell c1 (by simp; omega)⟩
      clear hK K
      try simp only [rq0, rq1, rq2, Act.put, rq3, rq4, rq5]
      refine wpAnyH_ready (rs := [6]) (by kernel_rfl) (by simp) (AllReadyH.cons (o := _) rfl (fun K hK => ?_) AllReadyH.nil)
      simp only [rq0, rq1, rq2]
      go_simp
      (go_at_call 48; refine (oneG (-1) 1000000 _ _ _ 6 6 _ _ _ hrx lb nlb (by omega) (by kernel_rfl) (by rfl) (by omega) (by omega)).mono ?_; rintro e W4 ⟨y, rfl, y0, y1, hr', hg'⟩)
      replace hgx := grown_trans hgx hg'
      replace hrx := hr'
      replace la := la.kept hg' (by simpa using nla)
      replace lb := lb.kept hg' (by simpa using nlb)
      clear hg' hr'
      refine hK.out _ _ ?_ (fun hHeld => ?_)
      · exact ⟨(hgx).cell c0 (by simp; omega), (hgx).cell c1 (by simp; omega)⟩
      clear hK K
      try simp only [rq0, rq1, rq2, Act.put, rq3, rq4, rq5]
      refine wpAnyH_take (i := 7) (oi := _) (v := ?_) rfl (by kernel_rfl) (by kernel_rfl) (by kernel_rfl) (fun _ _ _ h => h) (Or.inl ⟨by rfl, ?_⟩) (by assumption) ?_
      rotate_left
      · (intro wS hSw; (try dsimp only at hSw); (try go_split_ands); (simp only [List.getElem_toArray, List.getElem_cons_succ, List.getElem_cons_zero]); go_simp <;> (with_reducible rfl))
      try simp only [List.getElem_toArray, List.getElem_cons_succ, List.getElem_cons_zero, Act.put, List.setIfInBounds_toArray, List.set_cons_zero, List.set_cons_succ]
      refine wpAnyH_ready (rs := [8]) (by kernel_rfl) (by simp) (AllReadyH.cons (o := _) rfl (fun K hK => ?_) AllReadyH.nil)
      obtain ⟨kr4, kq4, FF⟩ := fin.out _ hgx x y ⟨by omega, by omega⟩ ⟨by omega, by omega⟩
      have r0 : W4.cell? ⟨w.heap.size, 0, none⟩ = some (.slice none 0 0) := kr4.cell 0
      have r1 : W4.cell? ⟨w.heap.size, 1, none⟩ = some (.slice none 0 0) := kr4.cell 1
      have s0 := kr4.free 0
      have s1 := kr4.free 1
      have p0 : W4.cell? ⟨w.heap.size + 1, 0, none⟩ = some (.int .i64 0) := kq4.cell 0
      have p1 : W4.cell? ⟨w.heap.size + 1, 1, none⟩ = some (.int .i64 0) := kq4.cell 1
      have t0 := kq4.free 0
      have t1 := kq4.free 1
      simp only [rq0, rq1, rq2]
      go_simp
      refine hK.out _ _ ?_ (fun hHeld => ?_)
      · exact ⟨(World.cell?_setCell_other _ _ _ _ (by intro e; simp at e <;> omega)).trans ((World.cell?_setCell_other _ _ _ _ (by intro e; simp at e <;> omega)).trans (hgx.cell c0 (by simp; omega))), (World.cell?_setCell_other _ _ _ _ (by intro e; simp at e <;> omega)).trans ((World.cell?_setCell_other _ _ _ _ (by intro e; simp at e <;> omega)).trans (hgx.cell c1 (by simp; omega)))⟩
      clear hK K
      try simp only [rq0, rq1, rq2, Act.put, rq3, rq4, rq5]
      refine wpAnyH_ready (rs := [9]) (by kernel_rfl) (by simp) (AllReadyH.cons (o := _) rfl (fun K hK => ?_) AllReadyH.nil)
      simp only [rq0, rq1, rq2]
      go_simp
      refine hK.out _ _ ?_ (fun hHeld => ?_)
      · exact ⟨(World.cell?_setCell_other _ _ _ _ (by intro e; simp at e <;> omega)).trans ((World.cell?_setCell_other _ _ _ _ (by intro e; simp at e <;> omega)).trans ((World.cell?_setCell_other _ _ _ _ (by intro e; simp at e <;> omega)).trans ((World.cell?_setCell_other _ _ _ _ (by intro e; simp at e <;> omega)).trans (hgx.cell c0 (by simp; omega))))), (World.cell?_setCell_other _ _ _ _ (by intro e; simp at e <;> omega)).trans ((World.cell?_setCell_other _ _ _ _ (by intro e; simp at e <;> omega)).trans ((World.cell?_setCell_other _ _ _ _ (by intro e; simp at e <;> omega)).trans ((World.cell?_setCell_other _ _ _ _ (by intro e; simp at e <;> omega)).trans (hgx.cell c1 (by simp; omega)))))⟩
      clear hK K
      try simp only [rq0, rq1, rq2, Act.put, rq3, rq4, rq5]
      refine wpAnyH_done (by kernel_rfl) ?_ _
      refine NoPanic.normal ?_
      clear hHeld
      obtain ⟨kF, kE, FF⟩ := FF _ rfl
      clear r0 r1 s0 s1 p0 p1 t0 t1 kr4 kq4 hgx hrx la lb
      have FF' := hide FF
      clear FF
      go_wp2_with fail
      replace FF' := FF'.out
      generalize hF : World.setCell _ _ _ = wF at kF kE FF' ⊢
      have z0 : wF.cell? ⟨w.heap.size, 0, none⟩ = some (.slice A xs.length c) := kF.cell 0
      have z1 : wF.cell? ⟨w.heap.size, 1, none⟩ = some (.slice Z ws.length d) := kF.cell 1
      have z2 : wF.cell? ⟨w.heap.size + 1, 0, none⟩ = some (.int .i64 x) := kE.cell 0
      have z3 : wF.cell? ⟨w.heap.size + 1, 1, none⟩ = some (.int .i64 y) := kE.cell 1
      exact bodyPost_ret (v := .tuple #[.agg #[.slice A xs.length c, .slice Z ws.length d], .agg #[.int .i64 x, .int .i64 y]]) (by simp [results, Try.f24, go_sem, z0, z1, z2, z3] <;> rfl) rfl FF'
  · skip -- 5
    simp only [rq0, rq1, rq2]
    go_simp
    have lb := Blk.new W0 3 #[.int .i64 5, .int .i64 0, .int .i64 999999, .int .i64 77, .int .i64 1000000, .int .i64 (-1)]
    have nlb : W0.heap.size ≠ S := by have := hgx.size; omega
    replace hgx := grown_alloc hgx (.cells #[.int .i64 5, .int .i64 0, .int .i64 999999, .int .i64 77, .int .i64 1000000, .int .i64 (-1)] 3)
    replace hrx := hrx.alloc (.cells #[.int .i64 5, .int .i64 0, .int .i64 999999, .int .i64 77, .int .i64 1000000, .int .i64 (-1)] 3)
    refine hK.out _ _ ?_ (fun hHeld => ?_)
    · exact ⟨(hgx).cell c0 (by simp; omega), (hgx).cell c1 (by simp; omega)⟩
    clear hK K
    try simp only [rq0, rq1, rq2, Act.put, rq3, rq4, rq5]
    generalize W0.alloc (.cells #[.int .i64 5, .int .i64 0, .int .i64 999999, .int .i64 77, .int .i64 1000000, .int .i64 (-1)] 3) = W1 at hgx hrx lb ⊢
    refine wpAnyH_ready (rs := [2]) (by kernel_rfl) (by simp) (AllReadyH.cons (o := _) rfl (fun K hK => ?_) AllReadyH.nil)
    simp only [rq0, rq1, rq2]
    go_simp
    have la := Blk.new W1 3 #[.int .i64 0, .int .i64 1, .int .i64 2, .int .i64 0, .int .i64 7, .int .i64 8, .int .i64 (-1)]
    replace lb := lb.alloc (.cells #[.int .i64 0, .int .i64 1, .int .i64 2, .int .i64 0, .int .i64 7, .int .i64 8, .int .i64 (-1)] 3)
    have nla : W1.heap.size ≠ S := by have := hgx.size; omega
    replace hgx := grown_alloc hgx (.cells #[.int .i64 0, .int .i64 1, .int .i64 2, .int .i64 0, .int .i64 7, .int .i64 8, .int .i64 (-1)] 3)
    replace hrx := hrx.alloc (.cells #[.int .i64 0, .int .i64 1, .int .i64 2, .int .i64 0, .int .i64 7, .int .i64 8, .int .i64 (-1)] 3)
    refine hK.out _ _ ?_ (fun hHeld => ?_)
    · exact ⟨(hgx).cell c0 (by simp; omega), (hgx).cell c1 (by simp; omega)⟩
    clear hK K
    try simp only [rq0, rq1, rq2, Act.put, rq3, rq4, rq5]
    generalize W1.alloc (.cells #[.int .i64 0, .int .i64 1, .int .i64 2, .int .i64 0, .int .i64 7, .int .i64 8, .int .i64 (-1)] 3) = W2 at hgx hrx lb la ⊢
    refine wpAnyH_ready (rs := [3]) (by kernel_rfl) (by simp) (AllReadyH.cons (o := _) rfl (fun K hK => ?_) AllReadyH.nil)
    simp only [rq0, rq1, rq2]
    go_simp
    (go_at_call 48; refine (oneG (-1) 8 _ _ _ 7 7 _ _ _ hrx la nla (by omega) (by kernel_rfl) (by rfl) (by omega) (by omega)).mono ?_; rintro e W3 ⟨x, rfl, x0, x1, hr', hg'⟩)
    replace hgx := grown_trans hgx hg'
    replace hrx := hr'
    replace lb := lb.kept hg' (by simpa using nlb)
    replace la := la.kept hg' (by simpa using nla)
    clear hg' hr'
    refine hK.out _ _ ?_ (fun hHeld => ?_)
    · exact ⟨(hgx).cell c0 (by simp; omega), (hgx).cell c1 (by simp; omega)⟩
    clear hK K
    try simp only [rq0, rq1, rq2, Act.put, rq3, rq4, rq5]
    refine wpAnyH_ready (rs := [6]) (by kernel_rfl) (by simp) (AllReadyH.cons (o := _) rfl (fun K hK => ?_) AllReadyH.nil)
    simp only [rq0, rq1, rq2]
    go_simp
    (go_at_call 48; refine (oneG (-1) 1000000 _ _ _ 6 6 _ _ _ hrx lb nlb (by omega) (by kernel_rfl) (by rfl) (by omega) (by omega)).mono ?_; rintro e W4 ⟨y, rfl, y0, y1, hr', hg'⟩)
    replace hgx := grown_trans hgx hg'
    replace hrx := hr'
    replace lb := lb.kept hg' (by simpa using nlb)
    replace la := la.kept hg' (by simpa using nla)
    clear hg' hr'
    refine hK.out _ _ ?_ (fun hHeld => ?_)
    · exact ⟨(hgx).cell c0 (by simp; omega), (hgx).cell c1 (by simp; omega)⟩
    clear hK K
    try simp only [rq0, rq1, rq2, Act.put, rq3, rq4, rq5]
    refine wpAnyH_take (i := 7) (oi := _) (v := ?_) rfl (by kernel_rfl) (by kernel_rfl) (by kernel_rfl) (fun _ _ _ h => h) (Or.inl ⟨by rfl, ?_⟩) (by assumption) ?_
    rotate_left
    · (intro wS hSw; (try dsimp only at hSw); (try go_split_ands); (simp only [List.getElem_toArray, List.getElem_cons_succ, List.getElem_cons_zero]); go_simp <;> (with_reducible rfl))
    try simp only [List.getElem_toArray, List.getElem_cons_succ, List.getElem_cons_zero, Act.put, List.setIfInBounds_toArray, List.set_cons_zero, List.set_cons_succ]
    refine wpAnyH_ready (rs := [8]) (by kernel_rfl) (by simp) (AllReadyH.cons (o := _) rfl (fun K hK => ?_) AllReadyH.nil)
    obtain ⟨kr4, kq4, FF⟩ := fin.out _ hgx x y ⟨by omega, by omega⟩ ⟨by omega, by omega⟩
    have r0 : W4.cell? ⟨w.heap.size, 0, none⟩ = some (.slice none 0 0) := kr4.cell 0
    have r1 : W4.cell? ⟨w.heap.size, 1, none⟩ = some (.slice none 0 0) := kr4.cell 1
    have s0 := kr4.free 0
    have s1 := kr4.free 1
    have p0 : W4.cell? ⟨w.heap.size + 1, 0, none⟩ = some (.int .i64 0) := kq4.cell 0
    have p1 : W4.cell? ⟨w.heap.size + 1, 1, none⟩ = some (.int .i64 0) := kq4.cell 1
    have t0 := kq4.free 0
    have t1 := kq4.free 1
    simp only [rq0, rq1, rq2]
    go_simp
    refine hK.out _ _ ?_ (fun hHeld => ?_)
    · exact ⟨(World.cell?_setCell_other _ _ _ _ (by intro e; simp at e <;> omega)).trans ((World.cell?_setCell_other _ _ _ _ (by intro e; simp at e <;> omega)).trans (hgx.cell c0 (by simp; omega))), (World.cell?_setCell_other _ _ _ _ (by intro e; simp at e <;> omega)).trans ((World.cell?_setCell_other _ _ _ _ (by intro e; simp at e <;> omega)).trans (hgx.cell c1 (by simp; omega)))⟩
    clear hK K
    try simp only [rq0, rq1, rq2, Act.put, rq3, rq4, rq5]
    refine wpAnyH_ready (rs := [9]) (by kernel_rfl) (by simp) (AllReadyH.cons (o := _) rfl (fun K hK => ?_) AllReadyH.nil)
    simp only [rq0, rq1, rq2]
    go_simp
    refine hK.out _ _ ?_ (fun hHeld => ?_)
    · exact ⟨(World.cell?_setCell_other _ _ _ _ (by intro e; simp at e <;> omega)).trans ((World.cell?_setCell_other _ _ _ _ (by intro e; simp at e <;> omega)).trans ((World.cell?_setCell_other _ _ _ _ (by intro e; simp at e <;> omega)).trans ((World.cell?_setCell_other _ _ _ _ (by intro e; simp at e <;> omega)).trans (hgx.cell c0 (by simp; omega))))), (World.cell?_setCell_other _ _ _ _ (by intro e; simp at e <;> omega)).trans ((World.cell?_setCell_other _ _ _ _ (by intro e; simp at e <;> omega)).trans ((World.cell?_setCell_other _ _ _ _ (by intro e; simp at e <;> omega)).trans ((World.cell?_setCell_other _ _ _ _ (by intro e; simp at e <;> omega)).trans (hgx.cell c1 (by simp; omega)))))⟩
    clear hK K
    try simp only [rq0, rq1, rq2, Act.put, rq3, rq4, rq5]
    refine wpAnyH_done (by kernel_rfl) ?_ _
    refine NoPanic.normal ?_
    clear hHeld
    obtain ⟨kF, kE, FF⟩ := FF _ rfl
    clear r0 r1 s0 s1 p0 p1 t0 t1 kr4 kq4 hgx hrx la lb
    have FF' := hide FF
    clear FF
    go_wp2_with fail
    replace FF' := FF'.out
    generalize hF : World.setCell _ _ _ = wF at kF kE FF' ⊢
    have z0 : wF.cell? ⟨w.heap.size, 0, none⟩ = some (.slice A xs.length c) := kF.cell 0
    have z1 : wF.cell? ⟨w.heap.size, 1, none⟩ = some (.slice Z ws.length d) := kF.cell 1
    have z2 : wF.cell? ⟨w.heap.size + 1, 0, none⟩ = some (.int .i64 x) := kE.cell 0
    have z3 : wF.cell? ⟨w.heap.size + 1, 1, none⟩ = some (.int .i64 y) := kE.cell 1
    exact bodyPost_ret (v := .tuple #[.agg #[.slice A xs.length c, .slice Z ws.length d], .agg #[.int .i64 x, .int .i64 y]]) (by simp [results, Try.f24, go_sem, z0, z1, z2, z3] <;> rfl) rfl FF'

end Go.Proofs.Ytgabjepoooageaa
