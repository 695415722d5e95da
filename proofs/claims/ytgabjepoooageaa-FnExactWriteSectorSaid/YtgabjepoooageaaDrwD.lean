/-
  The draws of the disks' statements: some disk, and some number or write beside it. Conditions: the argument reads as a list of bytes.
-/
import Derived.Test.YtgabjepoooageaaDrawD
import Derived.Test.YtgabjepoooageaaRow
namespace Go.Proofs.Ytgabjepoooageaa
open Go.RowKit
set_option linter.unusedVariables false
set_option linter.unusedSimpArgs false

/-- What is known of a disk drawn. -/
structure DrD (B : Nat) (w' : World) (A : Option Addr) (c : Nat) (xs : List Int) (Z : Option Addr) (d : Nat) (ws : List (Int × Int)) : Prop where
  a : Lst encD 1 B w' A c xs
  b : Lst encW 2 B w' Z d ws
  z : Z = none → d = 0
  la : xs.length ≤ 9
  lb : ws.length ≤ 9
  sa : ∀ x ∈ xs, Smz x
  sb : ∀ x ∈ ws, Smz x.1 ∧ Smz x.2
def Drawn1 (w : World) (e : Ending) (w' : World) : Prop :=
  ∃ A c xs Z d ws, e = .returned (.agg #[.slice A xs.length c, .slice Z ws.length d]) ∧ DrD w.heap.size w' A c xs Z d ws ∧ Below w.heap.size w w'
def Drawn2 (w : World) (e : Ending) (w' : World) : Prop :=
  ∃ A c xs Z d ws, ∃ s : Int, e = .returned (.tuple #[.agg #[.slice A xs.length c, .slice Z ws.length d], .int .i64 s]) ∧ -10 ≤ s ∧ s ≤ 1000000 ∧ DrD w.heap.size w' A c xs Z d ws ∧ Below w.heap.size w w'
def Drawn3 (w : World) (e : Ending) (w' : World) : Prop :=
  ∃ A c xs Z d ws, ∃ x : Int × Int, e = .returned (.tuple #[.agg #[.slice A xs.length c, .slice Z ws.length d], .agg #[.int .i64 x.1, .int .i64 x.2]]) ∧ Smz x.1 ∧ Smz x.2 ∧ DrD w.heap.size w' A c xs Z d ws ∧ Below w.heap.size w w'
section
variable {B : Nat} {w w' : World} {A : Option Addr} {c : Nat} {xs : List Int} {Z : Option Addr} {d : Nat} {ws : List (Int × Int)}
theorem DrD.below (h : DrD B w A c xs Z d ws) (hb : Below w.heap.size w w') : DrD B w' A c xs Z d ws := ⟨h.a.below hb, h.b.below hb, h.z, h.la, h.lb, h.sa, h.sb⟩
theorem DrD.kept (h : DrD B w A c xs Z d ws) {g : Nat} (hb : w.grownBy w' (some g)) (hg : g < B) : DrD B w' A c xs Z d ws :=
  ⟨h.a.kept hb (fun g e => by cases e; exact hg), h.b.kept hb (fun g e => by cases e; exact hg), h.z, h.la, h.lb, h.sa, h.sb⟩
theorem DrD.mono {B' : Nat} (h : DrD B w A c xs Z d ws) (hB : B' ≤ B) : DrD B' w A c xs Z d ws := ⟨h.a.mono hB, h.b.mono hB, h.z, h.la, h.lb, h.sa, h.sb⟩
/-- The two stores into the result's cell. -/
theorem res2 {r T : Nat} {x0 x1 : Value} (h : Blk w r T #[x0, x1]) (u0 u1 : Value) : Blk ((w.setCell ⟨r, 0, none⟩ u0).setCell ⟨r, 1, none⟩ u1) r T #[u0, u1] ∧ w.grownBy ((w.setCell ⟨r, 0, none⟩ u0).setCell ⟨r, 1, none⟩ u1) (some r) :=
  have g1 := grown_set (g := r) (World.grownBy.refl w _) (p := ⟨r, 0, none⟩) (.inl rfl) u0
  ⟨by simpa using (h.set 0 u0).set 1 u1, grown_set g1 (p := ⟨r, 1, none⟩) (.inl rfl) u1⟩
end

set_option maxHeartbeats 1000000 in
theorem drawVD (A : Option Addr) (c : Nat) (zs : List Int) (w : World) (h : Bytes w A c zs) :
    Calls Try.prog 20 #[.slice A zs.length c] w (Drawn1 w) := by
  have kr := Blk.new w 30 #[.slice none 0 0, .slice none 0 0]
  have hb0 : Below w.heap.size w (w.alloc (.cells #[.slice none 0 0, .slice none 0 0] 30)) := (Below.refl _ _).alloc (Nat.le_refl _) _
  go_enter Try.func20, Try.ntmps20
  go_wp2_with fail
  refine (new_any A c zs _ (h.rl.alloc _) h.rng h.cap h.max (fun b hz ha => by have := h.blk b hz ha; simp; omega)).mono ?_
  rintro e w1 ⟨rfl, hr, hb⟩
  have hb1 := bt hb0 hb hb0.size
  have kr1 := kr.below hb
  have hk1 := kr.lt
  generalize (w.alloc (.cells #[.slice none 0 0, .slice none 0 0] 30)).heap.size = S at hr hk1
  clear kr hb0 hb
  go_wp2_with fail
  refine (anyD_any _ _ _ w1 hr (by omega)).mono ?_
  rintro e w2 ⟨A, c, xs, Z, d, ws, rfl, hA, hZ, hz, la, lb, sa, sb, hr2, hg2⟩
  have hD : DrD w1.heap.size w2 A c xs Z d ws := ⟨hA, hZ, hz, la, lb, sa, sb⟩
  have kr2 := kr1.kept hg2 (by simp; omega)
  have hb2 := below_of_grown hb1 hg2 (by omega) hb1.size
  have hz1 := kr1.lt
  have hz2 := hb2.size
  have r0 : w2.cell? ⟨w.heap.size, 0, none⟩ = some (.slice none 0 0) := kr2.cell 0
  have r1 : w2.cell? ⟨w.heap.size, 1, none⟩ = some (.slice none 0 0) := kr2.cell 1
  have s0 := kr2.free 0
  have s1 := kr2.free 1
  clear hr hr2 hg2 hA hZ hz sa sb kr1
  obtain ⟨kF, gF⟩ := res2 kr2 (.slice A xs.length c) (.slice Z ws.length d)
  go_wp2_with fail
  generalize hF : World.setCell _ _ _ = wF at kF gF ⊢
  have y0 : wF.cell? ⟨w.heap.size, 0, none⟩ = some (.slice A xs.length c) := kF.cell 0
  have y1 : wF.cell? ⟨w.heap.size, 1, none⟩ = some (.slice Z ws.length d) := kF.cell 1
  refine bodyPost_ret (v := .agg #[.slice A xs.length c, .slice Z ws.length d]) (by simp [results, Try.f20, go_sem, y0, y1] <;> rfl) rfl ?_
  exact ⟨A, c, xs, Z, d, ws, rfl, (hD.kept gF (by omega)).mono (by omega), below_of_grown hb2 gF (Nat.le_refl _) hz2⟩

set_option maxHeartbeats 1000000 in
theorem drawSD (A : Option Addr) (c : Nat) (zs : List Int) (w : World) (h : Bytes w A c zs) :
    Calls Try.prog 33 #[.slice A zs.length c] w (Drawn1 w) := by
  have kr := Blk.new w 30 #[.slice none 0 0, .slice none 0 0]
  have hb0 : Below w.heap.size w (w.alloc (.cells #[.slice none 0 0, .slice none 0 0] 30)) := (Below.refl _ _).alloc (Nat.le_refl _) _
  go_enter Try.func33, Try.ntmps33
  go_wp2_with fail
  refine (new_any A c zs _ (h.rl.alloc _) h.rng h.cap h.max (fun b hz ha => by have := h.blk b hz ha; simp; omega)).mono ?_
  rintro e w1 ⟨rfl, hr, hb⟩
  have hb1 := bt hb0 hb hb0.size
  have kr1 := kr.below hb
  have hk1 := kr.lt
  generalize (w.alloc (.cells #[.slice none 0 0, .slice none 0 0] 30)).heap.size = S at hr hk1
  clear kr hb0 hb
  go_wp2_with fail
  refine (anyD_any _ _ _ w1 hr (by omega)).mono ?_
  rintro e w2 ⟨A, c, xs, Z, d, ws, rfl, hA, hZ, hz, la, lb, sa, sb, hr2, hg2⟩
  have hD : DrD w1.heap.size w2 A c xs Z d ws := ⟨hA, hZ, hz, la, lb, sa, sb⟩
  have kr2 := kr1.kept hg2 (by simp; omega)
  have hb2 := below_of_grown hb1 hg2 (by omega) hb1.size
  have hz1 := kr1.lt
  have hz2 := hb2.size
  have r0 : w2.cell? ⟨w.heap.size, 0, none⟩ = some (.slice none 0 0) := kr2.cell 0
  have r1 : w2.cell? ⟨w.heap.size, 1, none⟩ = some (.slice none 0 0) := kr2.cell 1
  have s0 := kr2.free 0
  have s1 := kr2.free 1
  clear hr hr2 hg2 hA hZ hz sa sb kr1
  obtain ⟨kF, gF⟩ := res2 kr2 (.slice A xs.length c) (.slice Z ws.length d)
  go_wp2_with fail
  generalize hF : World.setCell _ _ _ = wF at kF gF ⊢
  have y0 : wF.cell? ⟨w.heap.size, 0, none⟩ = some (.slice A xs.length c) := kF.cell 0
  have y1 : wF.cell? ⟨w.heap.size, 1, none⟩ = some (.slice Z ws.length d) := kF.cell 1
  refine bodyPost_ret (v := .agg #[.slice A xs.length c, .slice Z ws.length d]) (by simp [results, Try.f33, go_sem, y0, y1] <;> rfl) rfl ?_
  exact ⟨A, c, xs, Z, d, ws, rfl, (hD.kept gF (by omega)).mono (by omega), below_of_grown hb2 gF (Nat.le_refl _) hz2⟩

set_option maxHeartbeats 2000000 in
theorem drawRD (A : Option Addr) (c : Nat) (zs : List Int) (w : World) (h : Bytes w A c zs) :
    Calls Try.prog 22 #[.slice A zs.length c] w (Drawn2 w) := by
  have kr := Blk.new w 30 #[.slice none 0 0, .slice none 0 0]
  have hb0 : Below w.heap.size w (w.alloc (.cells #[.slice none 0 0, .slice none 0 0] 30)) := (Below.refl _ _).alloc (Nat.le_refl _) _
  go_enter Try.func22, Try.ntmps22
  go_wp2_with fail
  refine (new_any A c zs _ (h.rl.alloc _) h.rng h.cap h.max (fun b hz ha => by have := h.blk b hz ha; simp; omega)).mono ?_
  rintro e w1 ⟨rfl, hr, hb⟩
  have hb1 := bt hb0 hb hb0.size
  have kr1 := kr.below hb
  have hk1 := kr.lt
  generalize (w.alloc (.cells #[.slice none 0 0, .slice none 0 0] 30)).heap.size = S at hr hk1 ⊢
  clear kr hb0 hb
  go_wp2_with fail
  refine (anyD_any _ _ _ w1 hr (by omega)).mono ?_
  rintro e w2 ⟨A, c, xs, Z, d, ws, rfl, hA, hZ, hz, la, lb, sa, sb, hr2, hg2⟩
  have hD : DrD w1.heap.size w2 A c xs Z d ws := ⟨hA, hZ, hz, la, lb, sa, sb⟩
  have kr2 := kr1.kept hg2 (by simp; omega)
  have hb2 := below_of_grown hb1 hg2 (by omega) hb1.size
  have hz1 := kr1.lt
  have hz2 := hb2.size
  have hS := hr.lt
  have hS2 := hr2.lt
  clear hr hg2 hA hZ hz sa sb kr1
  -- the disk's own cell
  have hb3 : Below w2.heap.size w2 (w2.alloc (.cells #[.slice A xs.length c, .slice Z ws.length d] 30)) := (Below.refl _ _).alloc (Nat.le_refl _) _
  have k5 := Blk.new w2 30 #[.slice A xs.length c, .slice Z ws.length d]
  have c50 : (w2.alloc (.cells #[.slice A xs.length c, .slice Z ws.length d] 30)).cell? ⟨w2.heap.size, 0, none⟩ = some (.slice A xs.length c) := k5.cell 0
  have c51 : (w2.alloc (.cells #[.slice A xs.length c, .slice Z ws.length d] 30)).cell? ⟨w2.heap.size, 1, none⟩ = some (.slice Z ws.length d) := k5.cell 1
  have hr3 := hr2.below hb3
  have kr3 := kr2.below hb3
  have hD3 := hD.below hb3
  have hb3' := bt hb2 hb3 hz2
  have h5l := k5.lt
  clear hr2 kr2 hD hb3
  go_wp2_with fail
  generalize w2.alloc (.cells #[.slice A xs.length c, .slice Z ws.length d] 30) = w3 at k5 c50 c51 hr3 kr3 hD3 hb3' h5l
  have bu : ∀ {a b : World}, Below a.heap.size a.drew b → Below a.heap.size a b := fun h => of_drew h
  have nr : w2.heap.size ≠ S := by omega
  have hzz := hb3'.size
  go_region_held3 (fun w' => w'.cell? ⟨w2.heap.size, 0, none⟩ = some (.slice A xs.length c) ∧ w'.cell? ⟨w2.heap.size, 1, none⟩ = some (.slice Z ws.length d))
    (first | exact ⟨c50, c51⟩ | exact ⟨cell_on (((Below.refl _ w3).drew).alloc (Nat.le_refl _) _) c50, cell_on (((Below.refl _ w3).drew).alloc (Nat.le_refl _) _) c51⟩ | exact ⟨hg6.cell c50 (by simp; omega), hg6.cell c51 (by simp; omega)⟩ | exact ⟨by rw [World.cell?_setCell_other _ _ _ _ (by intro e; simp at e <;> omega), World.cell?_setCell_other _ _ _ _ (by intro e; simp at e <;> omega)]; exact hg6.cell c50 (by simp; omega), by rw [World.cell?_setCell_other _ _ _ _ (by intro e; simp at e <;> omega), World.cell?_setCell_other _ _ _ _ (by intro e; simp at e <;> omega)]; exact hg6.cell c51 (by simp; omega)⟩)
    (first | (go_at_call 48; refine (oneR_at (-1) 8 _ _ _ 6 6 _ _ _ rfl hr3.drew (by omega) (by kernel_rfl) (by rfl) (by omega) (by omega)).mono ?_; rintro e w6 ⟨y, rfl, y0, y1, hr6, hg6⟩; have kr4 := kr3.drew.kept hg6 (by simp; omega); have hD4 := (hD3.below (Below.refl _ w3).drew).kept hg6 (by omega); have hb4 := below_of_grown (hb3'.drew) hg6 (by omega) hzz; have r0 : w6.cell? ⟨w.heap.size, 0, none⟩ = some (.slice none 0 0) := kr4.cell 0; have r1 : w6.cell? ⟨w.heap.size, 1, none⟩ = some (.slice none 0 0) := kr4.cell 1; have s0 := kr4.free 0; have s1 := kr4.free 1))
  obtain ⟨kF, gF⟩ := res2 kr4 (.slice A xs.length c) (.slice Z ws.length d)
  go_wp2_with fail
  generalize hF : World.setCell _ _ _ = wF at kF gF ⊢
  have y0 : wF.cell? ⟨w.heap.size, 0, none⟩ = some (.slice A xs.length c) := kF.cell 0
  have y1 : wF.cell? ⟨w.heap.size, 1, none⟩ = some (.slice Z ws.length d) := kF.cell 1
  refine bodyPost_ret (v := .tuple #[.agg #[.slice A xs.length c, .slice Z ws.length d], .int .i64 y]) (by simp [results, Try.f22, go_sem, y0, y1] <;> rfl) rfl ?_
  exact ⟨A, c, xs, Z, d, ws, y, rfl, by omega, by omega, (hD4.kept gF (by omega)).mono (by omega), below_of_grown hb4 gF (Nat.le_refl _) hb4.size⟩

theorem p2_le9 {n : Nat} (h : n ≤ 9) : 1 ≤ p2 n ∧ p2 n ≤ 512 := by
  have h1 : (2 : Nat) ^ n ≤ 2 ^ 9 := Nat.pow_le_pow_right (by omega) h
  have h2 : 0 < (2 : Nat) ^ n := Nat.two_pow_pos n
  unfold p2
  omega
theorem shl_p9 {n : Nat} (h : n ≤ 9) : Op.shift .shl .i64 1 .i64 (n : Int) = pure (.int .i64 (p2 n : Int)) := by
  have e : n = 0 ∨ n = 1 ∨ n = 2 ∨ n = 3 ∨ n = 4 ∨ n = 5 ∨ n = 6 ∨ n = 7 ∨ n = 8 ∨ n = 9 := by omega
  rcases e with rfl | rfl | rfl | rfl | rfl | rfl | rfl | rfl | rfl | rfl <;> rfl
theorem wrap_p9 {n : Nat} (h : n ≤ 9) : IntKind.i64.wrap (2 ^ n) = (p2 n : Int) := by
  have e : n = 0 ∨ n = 1 ∨ n = 2 ∨ n = 3 ∨ n = 4 ∨ n = 5 ∨ n = 6 ∨ n = 7 ∨ n = 8 ∨ n = 9 := by omega
  rcases e with rfl | rfl | rfl | rfl | rfl | rfl | rfl | rfl | rfl | rfl <;> rfl

set_option maxHeartbeats 2000000 in
theorem drawCD (A : Option Addr) (c : Nat) (zs : List Int) (w : World) (h : Bytes w A c zs) :
    Calls Try.prog 30 #[.slice A zs.length c] w (Drawn2 w) := by
  have kr := Blk.new w 30 #[.slice none 0 0, .slice none 0 0]
  have hb0 : Below w.heap.size w (w.alloc (.cells #[.slice none 0 0, .slice none 0 0] 30)) := (Below.refl _ _).alloc (Nat.le_refl _) _
  go_enter Try.func30, Try.ntmps30
  go_wp2_with fail
  refine (new_any A c zs _ (h.rl.alloc _) h.rng h.cap h.max (fun b hz ha => by have := h.blk b hz ha; simp; omega)).mono ?_
  rintro e w1 ⟨rfl, hr, hb⟩
  have hb1 := bt hb0 hb hb0.size
  have kr1 := kr.below hb
  have hk1 := kr.lt
  generalize (w.alloc (.cells #[.slice none 0 0, .slice none 0 0] 30)).heap.size = S at hr hk1 ⊢
  clear kr hb0 hb
  go_wp2_with fail
  refine (anyD_any _ _ _ w1 hr (by omega)).mono ?_
  rintro e w2 ⟨A, c, xs, Z, d, ws, rfl, hA, hZ, hz, la, lb, sa, sb, hr2, hg2⟩
  have hD : DrD w1.heap.size w2 A c xs Z d ws := ⟨hA, hZ, hz, la, lb, sa, sb⟩
  have kr2 := kr1.kept hg2 (by simp; omega)
  have hb2 := below_of_grown hb1 hg2 (by omega) hb1.size
  have hz1 := kr1.lt
  have hz2 := hb2.size
  have hS := hr.lt
  have hS2 := hr2.lt
  clear hr hg2 hA hZ hz sa sb kr1
  -- the disk's own cell
  have hb3 : Below w2.heap.size w2 (w2.alloc (.cells #[.slice A xs.length c, .slice Z ws.length d] 30)) := (Below.refl _ _).alloc (Nat.le_refl _) _
  have k5 := Blk.new w2 30 #[.slice A xs.length c, .slice Z ws.length d]
  have c50 : (w2.alloc (.cells #[.slice A xs.length c, .slice Z ws.length d] 30)).cell? ⟨w2.heap.size, 0, none⟩ = some (.slice A xs.length c) := k5.cell 0
  have c51 : (w2.alloc (.cells #[.slice A xs.length c, .slice Z ws.length d] 30)).cell? ⟨w2.heap.size, 1, none⟩ = some (.slice Z ws.length d) := k5.cell 1
  have hr3 := hr2.below hb3
  have kr3 := kr2.below hb3
  have hD3 := hD.below hb3
  have hb3' := bt hb2 hb3 hz2
  have h5l := k5.lt
  clear hr2 kr2 hD hb3
  have hP := p2_le9 lb
  have hsh := shl_p9 lb
  have hwr := wrap_p9 lb
  generalize p2 ws.length = P at hP hsh hwr
  go_wp2_with fail
  generalize w2.alloc (.cells #[.slice A xs.length c, .slice Z ws.length d] 30) = w3 at k5 c50 c51 hr3 kr3 hD3 hb3' h5l
  clear hsh hwr
  refine (pick_any _ _ _ 12 w3 hr3 (by omega) (by omega) (by omega)).mono ?_
  rintro e w4 ⟨q, rfl, q0, q1, hr4, hg4⟩
  have kr4' := kr3.kept hg4 (by simp; omega)
  have hD4' := hD3.kept hg4 (by omega)
  have hb4' := below_of_grown hb3' hg4 (by omega) hb3'.size
  have k5' := k5.kept hg4 (by simp; omega)
  replace c50 : w4.cell? ⟨w2.heap.size, 0, none⟩ = some (.slice A xs.length c) := k5'.cell 0
  replace c51 : w4.cell? ⟨w2.heap.size, 1, none⟩ = some (.slice Z ws.length d) := k5'.cell 1
  have nr : w2.heap.size ≠ S := by omega
  have hzz := hb4'.size
  clear hr3 kr3 hD3 hb3' k5 k5' hg4 q1
  have fin : ∀ (y : Int) (w6 : World), -10 ≤ y → y ≤ 1000000 → w4.grownBy w6 (some S) → Blk ((w6.setCell ⟨w.heap.size, 0, none⟩ (.slice A xs.length c)).setCell ⟨w.heap.size, 1, none⟩ (.slice Z ws.length d)) w.heap.size 30 #[.slice A xs.length c, .slice Z ws.length d] ∧
      Drawn2 w (.returned (.tuple #[.agg #[.slice A xs.length c, .slice Z ws.length d], .int .i64 y])) ((w6.setCell ⟨w.heap.size, 0, none⟩ (.slice A xs.length c)).setCell ⟨w.heap.size, 1, none⟩ (.slice Z ws.length d)) := by
    intro y w6 y0 y1 hg6
    have hD4 := hD4'.kept hg6 (by omega)
    have hb4 := below_of_grown hb4' hg6 (by omega) hzz
    obtain ⟨kF, gF⟩ := res2 (kr4'.kept hg6 (by simp; omega)) (.slice A xs.length c) (.slice Z ws.length d)
    exact ⟨kF, A, c, xs, Z, d, ws, y, rfl, by omega, by omega, (hD4.kept gF (by omega)).mono (by omega), below_of_grown hb4 gF (Nat.le_refl _) hb4.size⟩
  have fin' := hide fin
  clear fin
  by_cases hq : q = 0
  · subst hq
    have hall : Array.all #[Value.int .i64 (-1), .int .i64 (P : Int)] (intR (-1) 512) = true := by
      simp [intR]
      omega
    go_wp2_with fail
    go_region_held3 (fun w' => w'.cell? ⟨w2.heap.size, 0, none⟩ = some (.slice A xs.length c) ∧ w'.cell? ⟨w2.heap.size, 1, none⟩ = some (.slice Z ws.length d))
      (first | exact ⟨c50, c51⟩ | exact ⟨cell_on (((Below.refl _ w4).drew).alloc (Nat.le_refl _) _) c50, cell_on (((Below.refl _ w4).drew).alloc (Nat.le_refl _) _) c51⟩ | exact ⟨hg6.cell c50 (by simp; omega), hg6.cell c51 (by simp; omega)⟩ | exact ⟨by rw [World.cell?_setCell_other _ _ _ _ (by intro e; simp at e <;> omega), World.cell?_setCell_other _ _ _ _ (by intro e; simp at e <;> omega)]; exact hg6.cell c50 (by simp; omega), by rw [World.cell?_setCell_other _ _ _ _ (by intro e; simp at e <;> omega), World.cell?_setCell_other _ _ _ _ (by intro e; simp at e <;> omega)]; exact hg6.cell c51 (by simp; omega)⟩)
      (first | (go_at_call 48; refine (oneR_at (-1) 512 _ _ _ 2 2 _ _ _ rfl hr4.drew (by omega) hall (by rfl) (by omega) (by omega)).mono ?_; rintro e w6 ⟨y, rfl, y0, y1, hr6, hg6⟩; have kr4 := kr4'.drew.kept hg6 (by simp; omega); have r0 : w6.cell? ⟨w.heap.size, 0, none⟩ = some (.slice none 0 0) := kr4.cell 0; have r1 : w6.cell? ⟨w.heap.size, 1, none⟩ = some (.slice none 0 0) := kr4.cell 1; have s0 := kr4.free 0; have s1 := kr4.free 1))
    go_wp2_with fail
    obtain ⟨kF, FF⟩ := fin'.out y w6 (by omega) (by omega) (grown_trans (grown_drew (World.grownBy.refl _ _)) hg6)
    generalize hF : World.setCell _ _ _ = wF at kF FF ⊢
    have z0 : wF.cell? ⟨w.heap.size, 0, none⟩ = some (.slice A xs.length c) := kF.cell 0
    have z1 : wF.cell? ⟨w.heap.size, 1, none⟩ = some (.slice Z ws.length d) := kF.cell 1
    exact bodyPost_ret (v := .tuple #[.agg #[.slice A xs.length c, .slice Z ws.length d], .int .i64 y]) (by simp [results, Try.f30, go_sem, z0, z1] <;> rfl) rfl FF
  · have hq' : (q == 0) = false := by rw [beq_eq_false_iff_ne]; exact hq
    clear hq
    have hPz : ¬ ((P : Int) = 0) := by omega
    have hP1 : (1 : Int) ≤ (P : Int) := by omega
    have hPn : ¬ P = 0 := by omega
    have hPz' : ((P : Int) == 0) = false := by rw [beq_eq_false_iff_ne]; exact hPz
    go_wp2_with fail
    go_region_held3 (fun w' => w'.cell? ⟨w2.heap.size, 0, none⟩ = some (.slice A xs.length c) ∧ w'.cell? ⟨w2.heap.size, 1, none⟩ = some (.slice Z ws.length d))
      (first | exact ⟨c50, c51⟩ | exact ⟨cell_on (((Below.refl _ w4).drew).alloc (Nat.le_refl _) _) c50, cell_on (((Below.refl _ w4).drew).alloc (Nat.le_refl _) _) c51⟩ | exact ⟨hg6.cell c50 (by simp; omega), hg6.cell c51 (by simp; omega)⟩ | exact ⟨by rw [World.cell?_setCell_other _ _ _ _ (by intro e; simp at e <;> omega), World.cell?_setCell_other _ _ _ _ (by intro e; simp at e <;> omega)]; exact hg6.cell c50 (by simp; omega), by rw [World.cell?_setCell_other _ _ _ _ (by intro e; simp at e <;> omega), World.cell?_setCell_other _ _ _ _ (by intro e; simp at e <;> omega)]; exact hg6.cell c51 (by simp; omega)⟩)
      (first | (go_at_call 55; refine (pick_any _ _ _ 256 _ hr4.drew (by omega) (by omega) (by omega)).mono ?_; rintro e w6 ⟨v, rfl, v0, v1, hr6, hg6⟩; have hv1 : v < 256 := (by omega); have m0 := mod_rng (x := v) (n := (P : Int)) hP1; have e1 : v.tmod (P : Int) = v % (P : Int) := Int.tmod_eq_emod_of_nonneg v0; have e2 : IntKind.i64.wrap (v % (P : Int)) = v % (P : Int) := IntWalk.i64_in _ (by omega); have kr4 := kr4'.drew.kept hg6 (by simp; omega); have r0 : w6.cell? ⟨w.heap.size, 0, none⟩ = some (.slice none 0 0) := kr4.cell 0; have r1 : w6.cell? ⟨w.heap.size, 1, none⟩ = some (.slice none 0 0) := kr4.cell 1; have s0 := kr4.free 0; have s1 := kr4.free 1; clear v1))
    go_wp2_with fail
    clear e1 e2
    obtain ⟨kF, FF⟩ := fin'.out (v % (P : Int)) w6 (by omega) (by omega) (grown_trans (grown_drew (World.grownBy.refl _ _)) hg6)
    generalize v % (P : Int) = y at FF ⊢
    generalize hF : World.setCell _ _ _ = wF at kF FF ⊢
    have z0 : wF.cell? ⟨w.heap.size, 0, none⟩ = some (.slice A xs.length c) := kF.cell 0
    have z1 : wF.cell? ⟨w.heap.size, 1, none⟩ = some (.slice Z ws.length d) := kF.cell 1
    exact bodyPost_ret (v := .tuple #[.agg #[.slice A xs.length c, .slice Z ws.length d], .int .i64 y]) (by simp [results, Try.f30, go_sem, z0, z1] <;> rfl) rfl FF

end Go.Proofs.Ytgabjepoooageaa
