/-
  The statement over a heap and a place drawn. Conditions: the argument reads as a list of bytes.
-/
import Derived.Test.YtnhkpigakbiddaaScL
import Derived.Test.YtnhkpigakbiddaaPgS
namespace Go.Proofs.Ytnhkpigakbiddaa
open Go.RowKit
set_option linter.unusedVariables false
set_option linter.unusedSimpArgs false

theorem scp_iff {i j : Nat} {xs : List Sl} {x : Int × Int} : x ∈ scp i xs j ↔ ∃ k, k < j ∧ (xs.getD k default).l = true ∧ x = ((i : Int), (k : Int)) := by
  unfold scp
  rw [List.mem_filterMap]
  constructor
  · rintro ⟨k, hk, h⟩
    split at h
    · rename_i hl
      cases h
      exact ⟨k, List.mem_range.1 hk, hl, rfl⟩
    · cases h
  · rintro ⟨k, hk, hl, rfl⟩
    exact ⟨k, List.mem_range.2 hk, by rw [if_pos hl]⟩
theorem sck_iff {css : List (List Sl)} {n : Nat} {x : Int × Int} : x ∈ sck css n ↔ ∃ i, i < n ∧ ∃ k, k < (css.getD i []).length ∧ ((css.getD i []).getD k default).l = true ∧ x = ((i : Int), (k : Int)) := by
  unfold sck
  rw [List.mem_flatMap]
  constructor
  · rintro ⟨i, hi, h⟩
    exact ⟨i, List.mem_range.1 hi, scp_iff.1 h⟩
  · rintro ⟨i, hi, h⟩
    exact ⟨i, List.mem_range.2 hi, scp_iff.2 h⟩
theorem vh_all {css : List (List Sl)} (h : vh css = true) {i : Nat} (hi : i < css.length) : css.length ≤ 6 ∧ vp (css.getD i []) = true := by
  unfold vh at h
  simp only [Bool.and_eq_true, decide_eq_true_eq, List.all_eq_true] at h
  refine ⟨h.1, h.2 _ ?_⟩
  rw [List.getD_eq_getElem?_getD, List.getElem?_eq_getElem hi]
  exact List.getElem_mem hi
theorem sc_iff {css : List (List Sl)} {a b : Int} : (a, b) ∈ SC css ↔ HGo css a b = true := by
  unfold SC HGo HGv
  cases hv : vh css
  · simp
  · simp only [if_true, Bool.true_and, Bool.and_eq_true, rng_iff]
    rw [sck_iff]
    constructor
    · rintro ⟨i, hi, k, hk, hl, he⟩
      cases he
      refine ⟨⟨by omega, by omega⟩, ?_⟩
      unfold LV lvn pgat
      rw [Int.toNat_natCast, (vh_all hv hi).2, Int.toNat_natCast, hl, rng_iff.2 ⟨by omega, by omega⟩]
      rfl
    · rintro ⟨⟨h1, h2⟩, h3⟩
      obtain ⟨i, rfl⟩ := Int.eq_ofNat_of_zero_le h1
      unfold LV lvn pgat at h3
      rw [Int.toNat_natCast] at h3
      simp only [Bool.and_eq_true, rng_iff] at h3
      obtain ⟨h4, ⟨h5, h6⟩, h7⟩ := h3
      obtain ⟨k, rfl⟩ := Int.eq_ofNat_of_zero_le h5
      rw [Int.toNat_natCast] at h7
      exact ⟨i, by omega, k, by omega, h7, rfl⟩
theorem sc_bd {css : List (List Sl)} {x : Int × Int} (h : x ∈ SC css) : 0 ≤ x.1 ∧ x.1 ≤ 6 ∧ 0 ≤ x.2 ∧ x.2 ≤ 8 := by
  unfold SC at h
  split at h
  · rename_i hv
    obtain ⟨i, hi, k, hk, -, rfl⟩ := sck_iff.1 h
    obtain ⟨h6, hp⟩ := vh_all hv hi
    have : (css.getD i []).length ≤ 8 := by
      have h2 : ¬ 8 < (css.getD i []).length := fun hlt => by rw [vp_long hlt] at hp; cases hp
      omega
    simp
    omega
  · cases h
/-- Whether a place stands among the first k. -/
def hasR (rs : List (Int × Int)) (a b : Int) (k : Nat) : Bool := (rs.take k).any fun x => decide (x.1 = a) && decide (x.2 = b)
theorem hasR_step {rs : List (Int × Int)} {a b : Int} {k : Nat} (hk : k < rs.length) : hasR rs a b (k + 1) = (hasR rs a b k || (decide (rs[k].1 = a) && decide (rs[k].2 = b))) := by
  unfold hasR
  rw [List.take_add_one, List.getElem?_eq_getElem hk, List.any_append]
  simp
theorem hasR_all {rs : List (Int × Int)} {a b : Int} : hasR rs a b rs.length = true ↔ (a, b) ∈ rs := by
  unfold hasR
  rw [List.take_length, List.any_eq_true]
  constructor
  · rintro ⟨⟨x, y⟩, hx, h⟩
    simp only [Bool.and_eq_true, decide_eq_true_eq] at h
    obtain ⟨rfl, rfl⟩ := h
    exact hx
  · intro h
    exact ⟨(a, b), h, by simp⟩

theorem res2 {w : World} {r T : Nat} {x0 x1 : Value} (h : Blk w r T #[x0, x1]) (u0 u1 : Value) : Blk ((w.setCell ⟨r, 0, none⟩ u0).setCell ⟨r, 1, none⟩ u1) r T #[u0, u1] ∧ w.grownBy ((w.setCell ⟨r, 0, none⟩ u0).setCell ⟨r, 1, none⟩ u1) (some r) :=
  have g1 := grown_set (g := r) (World.grownBy.refl w _) (p := ⟨r, 0, none⟩) (.inl rfl) u0
  ⟨by simpa using (h.set 0 u0).set 1 u1, grown_set g1 (p := ⟨r, 1, none⟩) (.inl rfl) u1⟩
/-- A place drawn. -/
def RidD (B R N : Nat) (w : World) (e : Ending) (w' : World) : Prop :=
  ∃ x y : Int, e = .returned (.agg #[.int .i64 x, .int .i64 y]) ∧ -1 ≤ x ∧ x ≤ 6 ∧ -1 ≤ y ∧ y ≤ 8 ∧ Rdr w' B R (N + 9) ∧ w.grownBy w' (some R)
theorem RidD.end {B R N r : Nat} {w W : World} {x y : Int} (hk : Blk W r 60 #[.int .i64 0, .int .i64 0]) (hr : Rdr W B R (N + 9)) (hg : w.grownBy W (some R)) (hw : w.heap.size ≤ r) (hR : R < w.heap.size) (hBR : B ≤ R) (h1 : -1 ≤ x) (h2 : x ≤ 6) (h3 : -1 ≤ y) (h4 : y ≤ 8) :
    Blk ((W.setCell ⟨r, 0, none⟩ (.int .i64 x)).setCell ⟨r, 1, none⟩ (.int .i64 y)) r 60 #[.int .i64 x, .int .i64 y] ∧ RidD B R N w (.returned (.agg #[.int .i64 x, .int .i64 y])) ((W.setCell ⟨r, 0, none⟩ (.int .i64 x)).setCell ⟨r, 1, none⟩ (.int .i64 y)) := by
  obtain ⟨kF, gF⟩ := res2 hk (.int .i64 x) (.int .i64 y)
  exact ⟨kF, x, y, rfl, h1, h2, h3, h4, hr.kept gF (fun q e => by cases e; omega), grown_own hg gF (fun q e => by cases e; omega)⟩

set_option maxHeartbeats 2000000 in
theorem someR (B R N : Nat) (A : Option Addr) (c : Nat) (ps : List Pg) (w : World) (h : Rdr w B R N) (hN : N ≤ 900) (hp : Hp w A ps) (hsm : Small ps) :
    Calls Try.prog 61 #[.pointer (some ⟨R, 0, none⟩), .agg #[.slice A ps.length c]] w (RidD B R N w) := by
  have hR := h.lt
  have hBR := h.ge
  have hS : Hid (∀ W, Hp W A ps → Calls Try.prog 34 #[.agg #[.slice A ps.length c]] W fun e w' => ∃ B d, e = .returned (.slice B (SC (xss ps)).length d) ∧ Below W.heap.size W w' ∧ Lst encQ 2 W.heap.size w' B d (SC (xss ps))) := fun W hr => (scS A c ps W hr hsm).mono (by
    rintro e w' ⟨v, rfl, hb, ho⟩
    obtain ⟨B, d, rfl, hL, -⟩ := ow_open (by omega) encQ_len ho
    exact ⟨B, d, rfl, hb, hL⟩)
  have h48 := sc_len ps
  have hbd : Hid (∀ x ∈ SC (xss ps), 0 ≤ x.1 ∧ x.1 ≤ 6 ∧ 0 ≤ x.2 ∧ x.2 ≤ 8) := fun x hx => sc_bd hx
  generalize SC (xss ps) = rs at hS h48 hbd
  have kr := Blk.new (w.alloc (.cells #[.slice A ps.length c] 46)) 60 #[.int .i64 0, .int .i64 0]
  simp only [World.size_alloc] at kr
  have kh := (Blk.new w 46 #[.slice A ps.length c]).alloc (.cells #[.int .i64 0, .int .i64 0] 60)
  have hb0 : Below w.heap.size w ((w.alloc (.cells #[.slice A ps.length c] 46)).alloc (.cells #[.int .i64 0, .int .i64 0] 60)) := by go_grown
  go_enter Try.func61, Try.ntmps61
  go_wp2_with fail
  generalize (w.alloc (.cells #[.slice A ps.length c] 46)).alloc (.cells #[.int .i64 0, .int .i64 0] 60) = w0 at kr kh hb0 ⊢
  refine (hS.out _ (hp.below hb0)).mono ?_
  rintro e w1 ⟨G, d, rfl, hb1, hL⟩
  have kr1 := kr.below hb1
  have hb1' := bt2 hb0 hb1
  have hr1 := h.below hb1'
  have hg1 : w.grownBy w1 (some R) := grown_below hb1' _
  have hz0 := kr.lt
  have hz1 := kr1.lt
  clear kr kh hb0 hb1 hb1' hp hS
  by_cases h0 : 0 < rs.length
  · have h0' : (0 : Int) < (rs.length : Int) := by omega
    go_wp2_with fail
    refine (pick_any B R N 4 w1 hr1 (by omega) (by omega) (by omega)).mono ?_
    rintro e w2 ⟨q, rfl, q0, q1, hr2, hg2⟩
    have kr2 := kr1.kept hg2 (by simp; omega)
    have hL2 := hL.kept hg2 (fun g e => by cases e; omega)
    have hg2' := grown_trans hg1 hg2
    have hz2 := kr2.lt
    clear kr1 hL hg1 hg2 hr1 q1
    by_cases hq : 0 < q
    · go_wp2_with fail
      refine (pick_any B R _ _ w2 hr2 (by omega) (by omega) (by omega)).mono ?_
      rintro e w3 ⟨p, rfl, p0, p1, hr3, hg3⟩
      have kr3 := kr2.kept hg3 (by simp; omega)
      have hL3 := hL2.kept hg3 (fun g e => by cases e; omega)
      have hg3' := grown_trans hg2' hg3
      clear kr2 hL2 hg2' hg3 hr2
      obtain ⟨k, rfl⟩ := Int.eq_ofNat_of_zero_le p0
      have hk : k < rs.length := by omega
      have hki : (k : Int) < (rs.length : Int) := by omega
      obtain ⟨b, off, rfl, x0, x1⟩ := hL3.rl.rid hk
      obtain ⟨y1, y2, y3, y4⟩ := hbd.out _ (List.getElem_mem hk)
      generalize rs[k] = x at x0 x1 y1 y2 y3 y4
      obtain ⟨x, y⟩ := x
      simp only at x0 x1 y1 y2 y3 y4
      obtain ⟨kF, FF⟩ := RidD.end (N := N) (x := x) (y := y) kr3 (hr3.mono (by omega)) hg3' (by omega) hR hBR (by omega) (by omega) (by omega) (by omega)
      have r0 : w3.cell? ⟨w.heap.size + 1, 0, none⟩ = some (.int .i64 0) := kr3.cell 0
      have r1 : w3.cell? ⟨w.heap.size + 1, 1, none⟩ = some (.int .i64 0) := kr3.cell 1
      have s0 := kr3.free 0
      have s1 := kr3.free 1
      have FF' := hide FF
      clear FF p1 hL3 kr3
      go_wp2_with fail
      replace FF' := FF'.out
      generalize hF : World.setCell _ _ _ = wF at kF FF' ⊢
      have z0 : wF.cell? ⟨w.heap.size + 1, 0, none⟩ = some (.int .i64 x) := kF.cell 0
      have z1 : wF.cell? ⟨w.heap.size + 1, 1, none⟩ = some (.int .i64 y) := kF.cell 1
      exact bodyPost_ret (v := .agg #[.int .i64 x, .int .i64 y]) (by simp [results, Try.f61, go_sem, z0, z1] <;> rfl) rfl FF'
    · obtain rfl : q = 0 := by omega
      clear hL2
      go_wp2_with fail
      refine (oneR_at (-1) 6 B R _ 4 4 _ _ w2 rfl hr2 (by omega) (by kernel_rfl) (by rfl) (by omega) (by omega)).mono ?_
      rintro e w3 ⟨x, rfl, x0, x1, hr3, hg3⟩
      have kr3 := kr2.kept hg3 (by simp; omega)
      have hg3' := grown_trans hg2' hg3
      clear kr2 hg2' hg3 hr2
      go_wp2_with fail
      refine (someS B R _ w3 hr3 (by omega)).mono ?_
      rintro e w4 ⟨y, rfl, y0, y1, hr4, hg4⟩
      have kr4 := kr3.kept hg4 (by simp; omega)
      have hg4' := grown_trans hg3' hg4
      clear kr3 hg3' hg4 hr3
      obtain ⟨kF, FF⟩ := RidD.end (N := N) (x := x) (y := y) kr4 (hr4.mono (by omega)) hg4' (by omega) hR hBR (by omega) (by omega) (by omega) (by omega)
      have r0 : w4.cell? ⟨w.heap.size + 1, 0, none⟩ = some (.int .i64 0) := kr4.cell 0
      have r1 : w4.cell? ⟨w.heap.size + 1, 1, none⟩ = some (.int .i64 0) := kr4.cell 1
      have s0 := kr4.free 0
      have s1 := kr4.free 1
      have FF' := hide FF
      clear FF kr4
      go_wp2_with fail
      replace FF' := FF'.out
      generalize hF : World.setCell _ _ _ = wF at kF FF' ⊢
      have z0 : wF.cell? ⟨w.heap.size + 1, 0, none⟩ = some (.int .i64 x) := kF.cell 0
      have z1 : wF.cell? ⟨w.heap.size + 1, 1, none⟩ = some (.int .i64 y) := kF.cell 1
      exact bodyPost_ret (v := .agg #[.int .i64 x, .int .i64 y]) (by simp [results, Try.f61, go_sem, z0, z1] <;> rfl) rfl FF'
  · have h0' : ¬ ((0 : Int) < (rs.length : Int)) := by omega
    clear hL
    go_wp2_with fail
    refine (oneR_at (-1) 6 B R _ 4 4 _ _ w1 rfl hr1 (by omega) (by kernel_rfl) (by rfl) (by omega) (by omega)).mono ?_
    rintro e w3 ⟨x, rfl, x0, x1, hr3, hg3⟩
    have kr3 := kr1.kept hg3 (by simp; omega)
    have hg3' := grown_trans hg1 hg3
    clear kr1 hg1 hg3 hr1
    go_wp2_with fail
    refine (someS B R _ w3 hr3 (by omega)).mono ?_
    rintro e w4 ⟨y, rfl, y0, y1, hr4, hg4⟩
    have kr4 := kr3.kept hg4 (by simp; omega)
    have hg4' := grown_trans hg3' hg4
    clear kr3 hg3' hg4 hr3
    obtain ⟨kF, FF⟩ := RidD.end (N := N) (x := x) (y := y) kr4 (hr4.mono (by omega)) hg4' (by omega) hR hBR (by omega) (by omega) (by omega) (by omega)
    have r0 : w4.cell? ⟨w.heap.size + 1, 0, none⟩ = some (.int .i64 0) := kr4.cell 0
    have r1 : w4.cell? ⟨w.heap.size + 1, 1, none⟩ = some (.int .i64 0) := kr4.cell 1
    have s0 := kr4.free 0
    have s1 := kr4.free 1
    have FF' := hide FF
    clear FF kr4
    go_wp2_with fail
    replace FF' := FF'.out
    generalize hF : World.setCell _ _ _ = wF at kF FF' ⊢
    have z0 : wF.cell? ⟨w.heap.size + 1, 0, none⟩ = some (.int .i64 x) := kF.cell 0
    have z1 : wF.cell? ⟨w.heap.size + 1, 1, none⟩ = some (.int .i64 y) := kF.cell 1
    exact bodyPost_ret (v := .agg #[.int .i64 x, .int .i64 y]) (by simp [results, Try.f61, go_sem, z0, z1] <;> rfl) rfl FF'

def DrawnHR (w : World) (e : Ending) (w' : World) : Prop :=
  ∃ A c ps, ∃ x y : Int, e = .returned (.tuple #[.agg #[.slice A ps.length c], .agg #[.int .i64 x, .int .i64 y]]) ∧ -1 ≤ x ∧ x ≤ 6 ∧ -1 ≤ y ∧ y ≤ 8 ∧ Hp w' A ps ∧ Small ps ∧ ps.length ≤ 7 ∧ ps.length ≤ c ∧ c ≤ 9223372036854775807 ∧ Below w.heap.size w w'

set_option maxHeartbeats 2000000 in
theorem drawHG (A : Option Addr) (c : Nat) (zs : List Int) (w : World) (h : Bytes w A c zs) :
    Calls Try.prog 38 #[.slice A zs.length c] w (DrawnHR w) := by
  have kr := (Blk.new w 46 #[.slice none 0 0]).alloc (.cells #[.int .i64 0, .int .i64 0] 60)
  have kq := Blk.new (w.alloc (.cells #[.slice none 0 0] 46)) 60 #[.int .i64 0, .int .i64 0]
  simp only [World.size_alloc] at kq
  have hb0 : Below w.heap.size w ((w.alloc (.cells #[.slice none 0 0] 46)).alloc (.cells #[.int .i64 0, .int .i64 0] 60)) := by go_grown
  go_enter Try.func38, Try.ntmps38
  go_wp2_with fail
  refine (new_any A c zs _ ((h.rl.alloc _).alloc _) h.rng h.cap h.max (fun b hz ha => by have := h.blk b hz ha; simp; omega)).mono ?_
  rintro e w1 ⟨rfl, hr, hb⟩
  have hb1 := bt hb0 hb hb0.size
  have kr1 := kr.below hb
  have kq1 := kq.below hb
  have hk1 := kq.lt
  generalize ((w.alloc (.cells #[.slice none 0 0] 46)).alloc (.cells #[.int .i64 0, .int .i64 0] 60)).heap.size = S at hr hk1 ⊢
  clear kr kq hb0 hb
  go_wp2_with fail
  refine (anyH _ _ _ w1 hr (by omega)).mono ?_
  rintro e w2 ⟨v, xs, rfl, hown, hps, hl7, hr2, hg2⟩
  obtain ⟨A, c, rfl, hL, -⟩ := ow_open (by omega) encG_len hown
  have kr2 := kr1.kept hg2 (by simp; omega)
  have kq2 := kq1.kept hg2 (by simp; omega)
  have hb2 := below_of_grown hb1 hg2 (by omega) hb1.size
  have hz1 := kq1.lt
  have hz2 := kq2.lt
  have hS := hr.lt
  have hS2 := hr2.lt
  clear hr hg2 hown kr1 kq1
  have hb3 : Below w2.heap.size w2 (w2.alloc (.cells #[.slice A xs.length c] 46)) := (Below.refl _ _).alloc (Nat.le_refl _) _
  have k5 := Blk.new w2 46 #[.slice A xs.length c]
  have c50 : (w2.alloc (.cells #[.slice A xs.length c] 46)).cell? ⟨w2.heap.size, 0, none⟩ = some (.slice A xs.length c) := k5.cell 0
  have hr3 := hr2.below hb3
  have kr3 := kr2.below hb3
  have kq3 := kq2.below hb3
  have hL3 := hL.below hb3
  have hps3 := hps.below hb3
  have hb3' := bt hb2 hb3 (by omega)
  have h5l := k5.lt
  clear hr2 kr2 kq2 hL hps hb3
  go_wp2_with fail
  generalize w2.alloc (.cells #[.slice A xs.length c] 46) = w3 at k5 c50 hr3 kr3 kq3 hL3 hps3 hb3' h5l ⊢
  have nr : w2.heap.size ≠ S := by omega
  have hzz := hb3'.size
  have hHp3 : Hp w3 A xs := ⟨hL3.rl, hps3.rl⟩
  have hsm3 := hps3.small hl7
  have fin : Hid (∀ W, w3.drew.grownBy W (some S) → ∀ x y : Int, -1 ≤ x → x ≤ 6 → -1 ≤ y → y ≤ 8 →
      Blk W w.heap.size 46 #[.slice none 0 0] ∧ Blk W (w.heap.size + 1) 60 #[.int .i64 0, .int .i64 0] ∧
      ∀ W', W' = ((W.setCell ⟨w.heap.size, 0, none⟩ (.slice A xs.length c)).setCell ⟨w.heap.size + 1, 0, none⟩ (.int .i64 x)).setCell ⟨w.heap.size + 1, 1, none⟩ (.int .i64 y) →
        Blk W' w.heap.size 46 #[.slice A xs.length c] ∧ Blk W' (w.heap.size + 1) 60 #[.int .i64 x, .int .i64 y] ∧ DrawnHR w (.returned (.tuple #[.agg #[.slice A xs.length c], .agg #[.int .i64 x, .int .i64 y]])) W') := by
    intro W hg x y x0 x1 y0 y1
    have kr4 := kr3.drew.kept hg (by simp; omega)
    have kq4 := kq3.drew.kept hg (by simp; omega)
    refine ⟨kr4, kq4, ?_⟩
    rintro W' rfl
    obtain ⟨kF, gF⟩ := res1 kr4 (.slice A xs.length c)
    have kq5 := kq4.kept gF (by simp)
    obtain ⟨kE, gE⟩ := res2 kq5 (.int .i64 x) (.int .i64 y)
    have hb4 := below_of_grown hb3'.drew hg (by omega) hzz
    have hb5 := below_of_grown hb4 gF (Nat.le_refl _) hb4.size
    have hb6 := below_of_grown hb5 gE (by omega) hb5.size
    have hLF := (((hL3.below (Below.refl _ w3).drew).kept hg (fun q e => by cases e; omega)).kept gF (fun q e => by cases e; omega)).kept gE (fun q e => by cases e; omega)
    have hpF := (((hps3.below (Below.refl _ w3).drew).kept hg (fun q e => by cases e; omega)).kept gF (fun q e => by cases e; omega)).kept gE (fun q e => by cases e; omega)
    exact ⟨kF.kept gE (by simp), kE, A, c, xs, x, y, rfl, x0, x1, y0, y1, ⟨hLF.rl, hpF.rl⟩, hsm3, hl7, hLF.cap, hLF.max, hb6⟩
  go_region_held3 (fun w' => w'.cell? ⟨w2.heap.size, 0, none⟩ = some (.slice A xs.length c))
    (first | exact c50 | exact hg6.cell c50 (by simp; omega) | (rw [World.cell?_setCell_other _ _ _ _ (by intro e; simp at e <;> omega)]; exact hg6.cell c50 (by simp; omega)) | (rw [World.cell?_setCell_other _ _ _ _ (by intro e; simp at e <;> omega), World.cell?_setCell_other _ _ _ _ (by intro e; simp at e <;> omega)]; exact hg6.cell c50 (by simp; omega)) | (rw [World.cell?_setCell_other _ _ _ _ (by intro e; simp at e <;> omega), World.cell?_setCell_other _ _ _ _ (by intro e; simp at e <;> omega), World.cell?_setCell_other _ _ _ _ (by intro e; simp at e <;> omega)]; exact hg6.cell c50 (by simp; omega)))
    (first | (go_at_call 61; refine (someR _ _ _ A c xs _ hr3.drew (by omega) hHp3.drew hsm3).mono ?_; rintro e w6 ⟨x, y, rfl, x0, x1, y0, y1, hr6, hg6⟩; obtain ⟨kr4, kq4, FF⟩ := fin.out w6 hg6 x y x0 x1 y0 y1; have r0 : w6.cell? ⟨w.heap.size, 0, none⟩ = some (.slice none 0 0) := kr4.cell 0; have s0 := kr4.free 0; have r1 : w6.cell? ⟨w.heap.size + 1, 0, none⟩ = some (.int .i64 0) := kq4.cell 0; have s1 := kq4.free 0; have r2 : w6.cell? ⟨w.heap.size + 1, 1, none⟩ = some (.int .i64 0) := kq4.cell 1; have s2 := kq4.free 1))
  obtain ⟨kF, kE, FF⟩ := FF _ rfl
  rename_i hHeld
  clear hHeld r0 r1 r2 s0 s1 s2 kr4 kq4 hg6
  have FF' := hide FF
  clear FF
  go_wp2_with fail
  replace FF' := FF'.out
  generalize hF : World.setCell _ _ _ = wF at kF kE FF' ⊢
  have z0 : wF.cell? ⟨w.heap.size, 0, none⟩ = some (.slice A xs.length c) := kF.cell 0
  have z1 : wF.cell? ⟨w.heap.size + 1, 0, none⟩ = some (.int .i64 x) := kE.cell 0
  have z2 : wF.cell? ⟨w.heap.size + 1, 1, none⟩ = some (.int .i64 y) := kE.cell 1
  exact bodyPost_ret (v := .tuple #[.agg #[.slice A xs.length c], .agg #[.int .i64 x, .int .i64 y]]) (by simp [results, Try.f38, go_sem, z0, z1, z2] <;> rfl) rfl FF'

@[go_sem high] theorem run_eql_R (x y a b : Int) (W : World) : (binOp .eql 60 (.agg #[.int .i64 x, .int .i64 y]) (.agg #[.int .i64 a, .int .i64 b])).run Try.prog W = .ok (.bool (decide (x = a) && decide (y = b))) W := by
  go_simp
  by_cases h1 : x = a <;> by_cases h2 : y = b <;> simp [h1, h2]

set_option maxHeartbeats 4000000 in
theorem getH_law (A : Option Addr) (c : Nat) (zs : List Int) (w : World) (h : Bytes w A c zs) :
    Calls Try.prog 12 #[.slice A zs.length c] w fun e w' => e = .returned (.bool true) ∧ Below w.heap.size w w' := by
  have hcap := h.cap
  have hmax := h.max
  by_cases hl : 1048576 < zs.length
  · go_enter Try.func12, Try.ntmps12
    go_wp2
    go_ret
    exact ⟨rfl, Below.refl _ _⟩
  · go_enter Try.func12, Try.ntmps12
    go_wp2_with fail
    refine (drawHG A c zs _ h).mono ?_
    rintro e w1 ⟨A, c, ps, a, b, rfl, a0, a1, b0, b1, hL, hsm, hl7, hlc, hlm, hb1⟩
    have hGI : Hid (∀ W, Hp W A ps → Calls Try.prog 37 #[.agg #[.slice A ps.length c], .agg #[.int .i64 a, .int .i64 b]] W fun e w' => e = .returned (.tuple #[.string (HGd (xss ps) a b), .bool (HGo (xss ps) a b)]) ∧ Below W.heap.size W w') := fun W hr => HGI A c ps a b W hr hsm (by omega) (by omega)
    have hGS : Hid (∀ W, Hp W A ps → Calls Try.prog 35 #[.agg #[.slice A ps.length c], .agg #[.int .i64 a, .int .i64 b]] W fun e w' => e = .returned (.tuple #[.string (HGd (xss ps) a b), .bool (HGo (xss ps) a b)]) ∧ Below W.heap.size W w') := fun W hr => HGS A c ps a b W hr hsm (by omega) (by omega)
    have hI : Hid (∀ W, Hp W A ps → Calls Try.prog 32 #[.agg #[.slice A ps.length c]] W fun e w' => ∃ B d, e = .returned (.slice B (SC (xss ps)).length d) ∧ Below W.heap.size W w' ∧ Rl encQ 2 w' B (SC (xss ps))) := fun W hr => (scI A c ps W hr hsm).mono (by
      rintro e w' ⟨v, rfl, hb, ho⟩
      obtain ⟨B, d, rfl, hL, -⟩ := ow_open (by omega) encQ_len ho
      exact ⟨B, d, rfl, hb, hL.rl⟩)
    have h48 := sc_len ps
    have hfin : Hid (hasR (SC (xss ps)) a b (SC (xss ps)).length = HGo (xss ps) a b) := by
      unfold Hid
      rw [Bool.eq_iff_iff, hasR_all, sc_iff]
    generalize SC (xss ps) = rs at hI h48 hfin
    generalize HGo (xss ps) a b = ok at hGI hGS hfin
    generalize HGd (xss ps) a b = G at hGI hGS
    have n1 : (G.toList != G.toList) = false := by rw [bne, beq_self_eq_true]; rfl
    have n2 : (ok != ok) = false := by simp
    have n3 : (ok == ok) = true := by simp
    have hb2 : Below w1.heap.size w1 ((w1.alloc (.cells #[.slice A ps.length c] 46)).alloc (.cells #[.int .i64 a, .int .i64 b] 60)) := by go_grown
    have kA := (Blk.new w1 46 #[.slice A ps.length c]).alloc (.cells #[.int .i64 a, .int .i64 b] 60)
    have kB := Blk.new (w1.alloc (.cells #[.slice A ps.length c] 46)) 60 #[.int .i64 a, .int .i64 b]
    simp only [World.size_alloc] at kB
    have hL2 := hL.below hb2
    have hbb := bt2 hb1 hb2
    clear hL hb1 hb2
    go_wp2_with fail
    generalize (w1.alloc (.cells #[.slice A ps.length c] 46)).alloc (.cells #[.int .i64 a, .int .i64 b] 60) = w2 at kA kB hL2 hbb ⊢
    have c0 : w2.cell? ⟨w1.heap.size, 0, none⟩ = some (.slice A ps.length c) := kA.cell 0
    have c1 : w2.cell? ⟨w1.heap.size + 1, 0, none⟩ = some (.int .i64 a) := kB.cell 0
    have c2 : w2.cell? ⟨w1.heap.size + 1, 1, none⟩ = some (.int .i64 b) := kB.cell 1
    clear kA kB
    refine (hGI.out _ hL2).mono ?_
    rintro e w3 ⟨rfl, hb3⟩
    have d0 := cell_on hb3 c0
    have d1 := cell_on hb3 c1
    have d2 := cell_on hb3 c2
    have hL3 := hL2.below hb3
    have hbb3 := bt2 hbb hb3
    clear hb3 c0 c1 c2 hL2 hbb hGI
    go_wp2_with fail
    refine (hGS.out _ hL3).mono ?_
    rintro e w4 ⟨rfl, hb4⟩
    have c0 := cell_on hb4 d0
    have c1 := cell_on hb4 d1
    have c2 := cell_on hb4 d2
    have hL4 := hL3.below hb4
    have hbb4 := bt2 hbb3 hb4
    clear hb4 d0 d1 d2 hL3 hbb3 hGS
    go_wp2_with fail
    refine (hI.out _ hL4).mono ?_
    rintro e w5 ⟨B, d, rfl, hb5, hr5⟩
    have d0 := cell_on hb5 c0
    have d1 := cell_on hb5 c1
    have d2 := cell_on hb5 c2
    have hbb5 := bt2 hbb4 hb5
    clear hb5 c0 c1 c2 hL4 hbb4 hI n1 n2
    go_wp2_with fail
    go_loopw [10, 11] (fun u v wr => ∃ (k : Nat) (z : Bool), k ≤ rs.length ∧ v = .int .i64 k ∧ u = .bool z ∧ Below w5.heap.size w5 wr ∧ Hid (hasR rs a b k = z)) (fun _ v _ => rs.length - (intOf v).toNat)
    case atStart => exact ⟨0, false, by omega, rfl, rfl, Below.refl _ _, by simp [Hid, hasR]⟩
    case round =>
      obtain ⟨k, z, hk, rfl, rfl, hb, hz⟩ := hrel
      by_cases hlt : k < rs.length
      · obtain ⟨b', off, rfl, x0, x1⟩ := (hr5.below hb).rid hlt
        have HS := hide (hasR_step (rs := rs) (a := a) (b := b) hlt)
        have p1 := cell_on hb d1
        have p2 := cell_on hb d2
        generalize rs[k] = x at x0 x1 HS
        obtain ⟨x, y⟩ := x
        simp only at x0 x1 HS
        have hi : (k : Int) < (rs.length : Int) := by omega
        cases z
        · have H : Hid (hasR rs a b (k + 1) = (decide (x = a) && decide (y = b))) := by
            unfold Hid
            rw [HS.out, hz.out]
            rfl
          clear HS hz
          go_wp2_with fail
          go_quiet (fail)
          go_wp2_with fail
          go_roundw
          case rel => exact ⟨k + 1, _, by omega, by go_num, rfl, below_drewN hb _, H⟩
          case measure => simp [intOf]; omega
        · have H : Hid (hasR rs a b (k + 1) = true) := by
            unfold Hid
            rw [HS.out, hz.out]
            rfl
          clear HS hz
          go_wp2_with fail
          go_quiet (fail)
          go_wp2_with fail
          go_roundw
          case rel => exact ⟨k + 1, _, by omega, by go_num, rfl, below_drewN hb _, H⟩
          case measure => simp [intOf]; omega
      · obtain rfl : k = rs.length := by omega
        obtain rfl : ok = z := hfin.out.symm.trans hz.out
        go_wp2_with fail
        go_ret
        exact ⟨rfl, bt2 hbb5 hb⟩

end Go.Proofs.Ytnhkpigakbiddaa
