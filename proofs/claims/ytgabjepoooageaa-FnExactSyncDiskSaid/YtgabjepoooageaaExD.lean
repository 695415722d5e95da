/-
  The exact statements about CrashDisk and SyncDisk, walked. Conditions: the sectors and the writes read as lists.
-/
import Derived.Test.YtgabjepoooageaaReadD
import Derived.Test.YtgabjepoooageaaMarkD
namespace Go.Proofs.Ytgabjepoooageaa
open Go.RowKit
set_option linter.unusedVariables false
set_option linter.unusedSimpArgs false

theorem CD_len {xs : List Int} {ws : List (Int × Int)} {q : Int} : (CD xs ws q).length ≤ 8 := by
  unfold CD
  split
  · rename_i h
    rw [Bool.and_eq_true] at h
    obtain ⟨_, h2, _⟩ := vd_parts h.1
    rw [ap_len]
    exact h2
  · simp
/-- A disk handed back, opened. -/
def DiskO (zs : List Int) (w : World) (e : Ending) (w' : World) : Prop :=
  ∃ A c, e = .returned (.agg #[.slice A zs.length c, .slice none 0 0]) ∧ Below w.heap.size w w' ∧ Rl encD 1 w' A zs ∧ (zs = [] ∨ ∃ g, A = some ⟨g, 0, none⟩ ∧ w.heap.size ≤ g ∧ Ri g c zs w')
theorem disk_open {zs : List Int} {w w' : World} {e : Ending} (h : DiskR zs w e w') : DiskO zs w e w' := by
  obtain ⟨v, rfl, hb, hown⟩ := h
  obtain ⟨A, c, rfl, hL, hblk⟩ := ow_open (by omega) encD_len hown
  refine ⟨A, c, rfl, hb, hL.rl, ?_⟩
  rcases Nat.eq_zero_or_pos zs.length with h0 | h0
  · exact .inl (List.eq_nil_of_length_eq_zero h0)
  · obtain ⟨g, N, hv, hg, _, hR⟩ := ri_of hown h0
    obtain ⟨rfl, rfl⟩ : A = some ⟨g, 0, none⟩ ∧ c = N := by simpa using hv
    exact .inr ⟨g, rfl, hg, hR⟩
theorem Ri.le {g N : Nat} {xs : List Int} {w : World} (h : Ri g N xs w) : xs.length ≤ N := by
  obtain ⟨arr, _, _, h3, _⟩ := h
  exact h3

set_option maxHeartbeats 4000000 in
theorem exactCd_walk (A : Option Addr) (c : Nat) (xs : List Int) (B : Option Addr) (d : Nat) (ws : List (Int × Int)) (q : Int) (w : World) (hr : Rl encD 1 w A xs) (hq : Rl encW 2 w B ws) (hc : xs.length ≤ 9223372036854775807) (hd : ws.length ≤ 9223372036854775807) (hqr : -9223372036854775808 ≤ q ∧ q ≤ 9223372036854775807) :
    Calls Try.prog 13 #[.agg #[.slice A xs.length c, .slice B ws.length d], .int .i64 q] w fun e w' => e = .returned (.bool true) ∧ Below w.heap.size w w' := by
  have hS : Hid (∀ A B c d W, Rl encD 1 W A xs → Rl encW 2 W B ws → xs.length ≤ 1048576 → ws.length ≤ 1048576 → Calls Try.prog 31 #[.agg #[.slice A xs.length c, .slice B ws.length d], .int .i64 q] W (DiskO (CD xs ws q) W)) := fun A B c d W h1 h2 h3 h4 => (cdS A B c d xs ws q W h1 h2 h3 h4 hqr).mono fun _ _ h => disk_open h
  have hI : Hid (∀ A B c d W, Rl encD 1 W A xs → Rl encW 2 W B ws → xs.length ≤ 1048576 → ws.length ≤ 1048576 → Calls Try.prog 28 #[.agg #[.slice A xs.length c, .slice B ws.length d], .int .i64 q] W (DiskO (CD xs ws q) W)) := fun A B c d W h1 h2 h3 h4 => (cdI A B c d xs ws q W h1 h2 h3 h4 hqr).mono fun _ _ h => disk_open h
  have hl := CD_len (xs := xs) (ws := ws) (q := q)
  generalize CD xs ws q = zs at hS hI hl
  have hb0 : Below w.heap.size w (w.alloc (.cells #[.slice A xs.length c, .slice B ws.length d] 25)) := (Below.refl _ _).alloc (Nat.le_refl _) _
  have kB := Blk.new w 25 #[.slice A xs.length c, .slice B ws.length d]
  have hr0 := hr
  have hq0 := hq
  replace hr := hr.below hb0
  replace hq := hq.below hb0
  go_enter Try.func13, Try.ntmps13
  go_wp2_with fail
  generalize w.alloc (.cells #[.slice A xs.length c, .slice B ws.length d] 25) = w0 at hr hq hb0 kB
  refine (szDk A B c d xs.length ws.length _ hc hd).mono ?_
  rintro e w1 ⟨s1, rfl, hb1, hok⟩
  have hok' := hide hok
  clear hok
  have hbb := bt hb0 hb1 hb0.size
  replace hr := hr.below hb1
  replace hq := hq.below hb1
  replace kB := kB.below hb1
  have hwB : w.heap.size < w1.heap.size := kB.lt
  clear hb0 hb1
  have ckB0 : w1.cell? ⟨w.heap.size, 0, none⟩ = some (.slice A xs.length c) := kB.cell 0
  have ckB1 : w1.cell? ⟨w.heap.size, 1, none⟩ = some (.slice B ws.length d) := kB.cell 1
  by_cases h1 : s1 < 0
  · go_wp2_with fail
    go_ret
    exact ⟨rfl, hbb⟩
  · obtain ⟨lx, lw⟩ := hok'.out (by omega)
    go_wp2_with fail
    refine (toDe A B c d xs ws _ hr hq lx lw).mono ?_
    rintro e w2 ⟨g2, k2, rfl, r2, q2, hbs, hg2, hk2, hgk2, F2, G2⟩
    clear ckB0 ckB1
    replace hr := hr.below hbs
    replace hq := hq.below hbs
    replace kB := kB.below hbs
    replace hbb := bt2 hbb hbs
    have hsz2 := hbs.size
    clear hbs
    have ckB0 : w2.cell? ⟨w.heap.size, 0, none⟩ = some (Value.slice A xs.length c) := kB.cell 0
    have ckB1 : w2.cell? ⟨w.heap.size, 1, none⟩ = some (Value.slice B ws.length d) := kB.cell 1
    go_wp2_with fail
    refine (hS.out _ _ _ _ _ r2 q2 lx lw).mono ?_
    rintro e w3 ⟨A6, c6, rfl, hbs, R6, ho6⟩
    clear ckB0 ckB1
    replace hr := hr.below hbs
    replace hq := hq.below hbs
    replace kB := kB.below hbs
    replace hbb := bt2 hbb hbs
    have hsz3 := hbs.size
    clear hbs
    clear r2 q2 F2 G2 hg2 hk2 hgk2
    have ckB0 : w3.cell? ⟨w.heap.size, 0, none⟩ = some (Value.slice A xs.length c) := kB.cell 0
    have ckB1 : w3.cell? ⟨w.heap.size, 1, none⟩ = some (Value.slice B ws.length d) := kB.cell 1
    by_cases he : zs = []
    · subst he
      clear ho6
      have hbx : Below w3.heap.size w3 (w3.alloc (.cells #[Value.slice A6 0 c6, Value.slice none 0 0] 30)) := (Below.refl _ _).alloc (Nat.le_refl _) _
      clear ckB0 ckB1
      replace hr := hr.below hbx
      replace hq := hq.below hbx
      replace kB := kB.below hbx
      replace R6 := R6.below hbx
      replace hbb := bt2 hbb hbx
      have k6 := Blk.new w3 30 #[Value.slice A6 0 c6, Value.slice none 0 0]
      have hzk6 : w3.heap.size < (w3.alloc (.cells #[Value.slice A6 0 c6, Value.slice none 0 0] 30)).heap.size := by simp
      have ckB0 : (w3.alloc (.cells #[Value.slice A6 0 c6, Value.slice none 0 0] 30)).cell? ⟨w.heap.size, 0, none⟩ = some (Value.slice A xs.length c) := kB.cell 0
      have ckB1 : (w3.alloc (.cells #[Value.slice A6 0 c6, Value.slice none 0 0] 30)).cell? ⟨w.heap.size, 1, none⟩ = some (Value.slice B ws.length d) := kB.cell 1
      have ck60 : (w3.alloc (.cells #[Value.slice A6 0 c6, Value.slice none 0 0] 30)).cell? ⟨w3.heap.size, 0, none⟩ = some (Value.slice A6 0 c6) := k6.cell 0
      have ck61 : (w3.alloc (.cells #[Value.slice A6 0 c6, Value.slice none 0 0] 30)).cell? ⟨w3.heap.size, 1, none⟩ = some (Value.slice none 0 0) := k6.cell 1
      clear hbx
      go_wp2_with fail
      generalize w3.alloc (.cells #[Value.slice A6 0 c6, Value.slice none 0 0] 30) = w3x at hr hq kB R6 k6 hbb hzk6 ckB0 ckB1 ck60 ck61
      replace ck60 : w3x.cell? ⟨w3.heap.size, 0, none⟩ = some (Value.slice A6 0 c6) := ck60
      replace ck61 : w3x.cell? ⟨w3.heap.size, 1, none⟩ = some (Value.slice none 0 0) := ck61
      refine (toDe A B c d xs ws _ hr hq lx lw).mono ?_
      rintro e w4 ⟨g4, k4, rfl, r4, q4, hbs, hg4, hk4, hgk4, F4, G4⟩
      clear ckB0 ckB1 ck60 ck61
      replace hr := hr.below hbs
      replace hq := hq.below hbs
      replace kB := kB.below hbs
      replace R6 := R6.below hbs
      replace k6 := k6.below hbs
      replace hbb := bt2 hbb hbs
      have hsz4 := hbs.size
      clear hbs
      have ckB0 : w4.cell? ⟨w.heap.size, 0, none⟩ = some (Value.slice A xs.length c) := kB.cell 0
      have ckB1 : w4.cell? ⟨w.heap.size, 1, none⟩ = some (Value.slice B ws.length d) := kB.cell 1
      have ck60 : w4.cell? ⟨w3.heap.size, 0, none⟩ = some (Value.slice A6 0 c6) := k6.cell 0
      have ck61 : w4.cell? ⟨w3.heap.size, 1, none⟩ = some (Value.slice none 0 0) := k6.cell 1
      have hg4l := F4.lt
      have hk4l := G4.lt
      have hbx : Below w4.heap.size w4 (w4.alloc (.cells #[Value.slice (some ⟨g4, 0, none⟩) xs.length xs.length, Value.slice (some ⟨k4, 0, none⟩) ws.length ws.length] 30)) := (Below.refl _ _).alloc (Nat.le_refl _) _
      clear ckB0 ckB1 ck60 ck61
      replace hr := hr.below hbx
      replace hq := hq.below hbx
      replace kB := kB.below hbx
      replace R6 := R6.below hbx
      replace k6 := k6.below hbx
      replace r4 := r4.below hbx
      replace q4 := q4.below hbx
      replace F4 := F4.below hbx
      replace G4 := G4.below hbx
      replace hbb := bt2 hbb hbx
      have k7 := Blk.new w4 30 #[Value.slice (some ⟨g4, 0, none⟩) xs.length xs.length, Value.slice (some ⟨k4, 0, none⟩) ws.length ws.length]
      have hzk7 : w4.heap.size < (w4.alloc (.cells #[Value.slice (some ⟨g4, 0, none⟩) xs.length xs.length, Value.slice (some ⟨k4, 0, none⟩) ws.length ws.length] 30)).heap.size := by simp
      have ckB0 : (w4.alloc (.cells #[Value.slice (some ⟨g4, 0, none⟩) xs.length xs.length, Value.slice (some ⟨k4, 0, none⟩) ws.length ws.length] 30)).cell? ⟨w.heap.size, 0, none⟩ = some (Value.slice A xs.length c) := kB.cell 0
      have ckB1 : (w4.alloc (.cells #[Value.slice (some ⟨g4, 0, none⟩) xs.length xs.length, Value.slice (some ⟨k4, 0, none⟩) ws.length ws.length] 30)).cell? ⟨w.heap.size, 1, none⟩ = some (Value.slice B ws.length d) := kB.cell 1
      have ck60 : (w4.alloc (.cells #[Value.slice (some ⟨g4, 0, none⟩) xs.length xs.length, Value.slice (some ⟨k4, 0, none⟩) ws.length ws.length] 30)).cell? ⟨w3.heap.size, 0, none⟩ = some (Value.slice A6 0 c6) := k6.cell 0
      have ck61 : (w4.alloc (.cells #[Value.slice (some ⟨g4, 0, none⟩) xs.length xs.length, Value.slice (some ⟨k4, 0, none⟩) ws.length ws.length] 30)).cell? ⟨w3.heap.size, 1, none⟩ = some (Value.slice none 0 0) := k6.cell 1
      have ck70 : (w4.alloc (.cells #[Value.slice (some ⟨g4, 0, none⟩) xs.length xs.length, Value.slice (some ⟨k4, 0, none⟩) ws.length ws.length] 30)).cell? ⟨w4.heap.size, 0, none⟩ = some (Value.slice (some ⟨g4, 0, none⟩) xs.length xs.length) := k7.cell 0
      have ck71 : (w4.alloc (.cells #[Value.slice (some ⟨g4, 0, none⟩) xs.length xs.length, Value.slice (some ⟨k4, 0, none⟩) ws.length ws.length] 30)).cell? ⟨w4.heap.size, 1, none⟩ = some (Value.slice (some ⟨k4, 0, none⟩) ws.length ws.length) := k7.cell 1
      clear hbx
      go_wp2_with fail
      generalize w4.alloc (.cells #[Value.slice (some ⟨g4, 0, none⟩) xs.length xs.length, Value.slice (some ⟨k4, 0, none⟩) ws.length ws.length] 30) = w4x at hr hq kB R6 k6 r4 q4 F4 G4 k7 hbb hzk7 ckB0 ckB1 ck60 ck61 ck70 ck71
      replace ck70 : w4x.cell? ⟨w4.heap.size, 0, none⟩ = some (Value.slice (some ⟨g4, 0, none⟩) xs.length xs.length) := ck70
      replace ck71 : w4x.cell? ⟨w4.heap.size, 1, none⟩ = some (Value.slice (some ⟨k4, 0, none⟩) ws.length ws.length) := ck71
      refine (hI.out _ _ _ _ _ r4 q4 lx lw).mono ?_
      rintro e w5 ⟨A8, c8, rfl, hbs, R8, ho8⟩
      clear ckB0 ckB1 ck60 ck61 ck70 ck71
      replace hr := hr.below hbs
      replace hq := hq.below hbs
      replace kB := kB.below hbs
      replace R6 := R6.below hbs
      replace k6 := k6.below hbs
      replace r4 := r4.below hbs
      replace q4 := q4.below hbs
      replace F4 := F4.below hbs
      replace G4 := G4.below hbs
      replace k7 := k7.below hbs
      replace hbb := bt2 hbb hbs
      have hsz5 := hbs.size
      clear hbs
      have ckB0 : w5.cell? ⟨w.heap.size, 0, none⟩ = some (Value.slice A xs.length c) := kB.cell 0
      have ckB1 : w5.cell? ⟨w.heap.size, 1, none⟩ = some (Value.slice B ws.length d) := kB.cell 1
      have ck60 : w5.cell? ⟨w3.heap.size, 0, none⟩ = some (Value.slice A6 0 c6) := k6.cell 0
      have ck61 : w5.cell? ⟨w3.heap.size, 1, none⟩ = some (Value.slice none 0 0) := k6.cell 1
      have ck70 : w5.cell? ⟨w4.heap.size, 0, none⟩ = some (Value.slice (some ⟨g4, 0, none⟩) xs.length xs.length) := k7.cell 0
      have ck71 : w5.cell? ⟨w4.heap.size, 1, none⟩ = some (Value.slice (some ⟨k4, 0, none⟩) ws.length ws.length) := k7.cell 1
      clear ho8
      have hbx : Below w5.heap.size w5 (w5.alloc (.cells #[Value.slice A8 0 c8, Value.slice none 0 0] 30)) := (Below.refl _ _).alloc (Nat.le_refl _) _
      clear ckB0 ckB1 ck60 ck61 ck70 ck71
      replace hr := hr.below hbx
      replace hq := hq.below hbx
      replace kB := kB.below hbx
      replace R6 := R6.below hbx
      replace k6 := k6.below hbx
      replace r4 := r4.below hbx
      replace q4 := q4.below hbx
      replace F4 := F4.below hbx
      replace G4 := G4.below hbx
      replace k7 := k7.below hbx
      replace R8 := R8.below hbx
      replace hbb := bt2 hbb hbx
      have k8 := Blk.new w5 30 #[Value.slice A8 0 c8, Value.slice none 0 0]
      have hzk8 : w5.heap.size < (w5.alloc (.cells #[Value.slice A8 0 c8, Value.slice none 0 0] 30)).heap.size := by simp
      have ckB0 : (w5.alloc (.cells #[Value.slice A8 0 c8, Value.slice none 0 0] 30)).cell? ⟨w.heap.size, 0, none⟩ = some (Value.slice A xs.length c) := kB.cell 0
      have ckB1 : (w5.alloc (.cells #[Value.slice A8 0 c8, Value.slice none 0 0] 30)).cell? ⟨w.heap.size, 1, none⟩ = some (Value.slice B ws.length d) := kB.cell 1
      have ck60 : (w5.alloc (.cells #[Value.slice A8 0 c8, Value.slice none 0 0] 30)).cell? ⟨w3.heap.size, 0, none⟩ = some (Value.slice A6 0 c6) := k6.cell 0
      have ck61 : (w5.alloc (.cells #[Value.slice A8 0 c8, Value.slice none 0 0] 30)).cell? ⟨w3.heap.size, 1, none⟩ = some (Value.slice none 0 0) := k6.cell 1
      have ck70 : (w5.alloc (.cells #[Value.slice A8 0 c8, Value.slice none 0 0] 30)).cell? ⟨w4.heap.size, 0, none⟩ = some (Value.slice (some ⟨g4, 0, none⟩) xs.length xs.length) := k7.cell 0
      have ck71 : (w5.alloc (.cells #[Value.slice A8 0 c8, Value.slice none 0 0] 30)).cell? ⟨w4.heap.size, 1, none⟩ = some (Value.slice (some ⟨k4, 0, none⟩) ws.length ws.length) := k7.cell 1
      have ck80 : (w5.alloc (.cells #[Value.slice A8 0 c8, Value.slice none 0 0] 30)).cell? ⟨w5.heap.size, 0, none⟩ = some (Value.slice A8 0 c8) := k8.cell 0
      have ck81 : (w5.alloc (.cells #[Value.slice A8 0 c8, Value.slice none 0 0] 30)).cell? ⟨w5.heap.size, 1, none⟩ = some (Value.slice none 0 0) := k8.cell 1
      clear hbx
      go_wp2_with fail
      generalize w5.alloc (.cells #[Value.slice A8 0 c8, Value.slice none 0 0] 30) = w5x at hr hq kB R6 k6 r4 q4 F4 G4 k7 R8 k8 hbb hzk8 ckB0 ckB1 ck60 ck61 ck70 ck71 ck80 ck81
      replace ck80 : w5x.cell? ⟨w5.heap.size, 0, none⟩ = some (Value.slice A8 0 c8) := ck80
      replace ck81 : w5x.cell? ⟨w5.heap.size, 1, none⟩ = some (Value.slice none 0 0) := ck81
      refine (eqDk _ _ _ _ _ _ _ _ [] [] _ R8 Rl.nil R6 Rl.nil (by omega) (by simp)).mono ?_
      rintro e w6 ⟨rfl, hbs⟩
      clear ckB0 ckB1 ck60 ck61 ck70 ck71 ck80 ck81
      replace hr := hr.below hbs
      replace hq := hq.below hbs
      replace kB := kB.below hbs
      replace R6 := R6.below hbs
      replace k6 := k6.below hbs
      replace r4 := r4.below hbs
      replace q4 := q4.below hbs
      replace F4 := F4.below hbs
      replace G4 := G4.below hbs
      replace k7 := k7.below hbs
      replace R8 := R8.below hbs
      replace k8 := k8.below hbs
      replace hbb := bt2 hbb hbs
      have hszw6 := hbs.size
      clear hbs
      have ckB0 : w6.cell? ⟨w.heap.size, 0, none⟩ = some (Value.slice A xs.length c) := kB.cell 0
      have ckB1 : w6.cell? ⟨w.heap.size, 1, none⟩ = some (Value.slice B ws.length d) := kB.cell 1
      have ck60 : w6.cell? ⟨w3.heap.size, 0, none⟩ = some (Value.slice A6 0 c6) := k6.cell 0
      have ck61 : w6.cell? ⟨w3.heap.size, 1, none⟩ = some (Value.slice none 0 0) := k6.cell 1
      have ck70 : w6.cell? ⟨w4.heap.size, 0, none⟩ = some (Value.slice (some ⟨g4, 0, none⟩) xs.length xs.length) := k7.cell 0
      have ck71 : w6.cell? ⟨w4.heap.size, 1, none⟩ = some (Value.slice (some ⟨k4, 0, none⟩) ws.length ws.length) := k7.cell 1
      have ck80 : w6.cell? ⟨w5.heap.size, 0, none⟩ = some (Value.slice A8 0 c8) := k8.cell 0
      have ck81 : w6.cell? ⟨w5.heap.size, 1, none⟩ = some (Value.slice none 0 0) := k8.cell 1
      go_wp2_with fail
      have bu : ∀ {a b : World}, Below a.heap.size a.drew b → Below a.heap.size a b := fun h => of_drew h
      go_region_held3 (fun w' => w'.cell? ⟨w.heap.size, 0, none⟩ = some (.slice A xs.length c) ∧ w'.cell? ⟨w.heap.size, 1, none⟩ = some (.slice B ws.length d) ∧ w'.cell? ⟨w4.heap.size, 0, none⟩ = some (.slice (some ⟨g4, 0, none⟩) xs.length xs.length) ∧ w'.cell? ⟨w4.heap.size, 1, none⟩ = some (.slice (some ⟨k4, 0, none⟩) ws.length ws.length) ∧ Below w6.heap.size w6 w')
        (first | exact ⟨ckB0, ckB1, ck70, ck71, (Below.refl _ _).drew⟩ | exact ⟨cell_on (bt2 hb7 hb8) ckB0, cell_on (bt2 hb7 hb8) ckB1, cell_on (bt2 hb7 hb8) ck70, cell_on (bt2 hb7 hb8) ck71, bt2 hb7 hb8⟩ | exact ⟨cell_on hb7 ckB0, cell_on hb7 ckB1, cell_on hb7 ck70, cell_on hb7 ck71, hb7⟩)
        (first
          | (go_at_call 17; refine (toDk A B c d xs ws _ (by first | exact hr | exact hr.drew) (by first | exact hq | exact hq.drew) lx lw).mono ?_; rintro e w7 ⟨g7, k7', rfl, r7, q7, hb7⟩; replace hb7 : Below w6.heap.size w6 w7 := (by first | exact hb7 | exact bu hb7))
          | (go_at_call 19; refine (eqDk _ _ _ _ _ _ _ _ xs ws _ (by first | exact r4.below hb7 | exact (r4.below hb7).drew) (by first | exact q4.below hb7 | exact (q4.below hb7).drew) (by first | exact r7 | exact r7.drew) (by first | exact q7 | exact q7.drew) lx lw).mono ?_; rintro e w8 ⟨rfl, hb8⟩; replace hb8 : Below w7.heap.size w7 w8 := (by first | exact hb8 | exact bu hb8)))
      have hbs := bt2 hb7 hb8
      clear ckB0 ckB1 ck60 ck61 ck70 ck71 ck80 ck81
      replace hr := hr.below hbs
      replace hq := hq.below hbs
      replace kB := kB.below hbs
      replace R6 := R6.below hbs
      replace k6 := k6.below hbs
      replace r4 := r4.below hbs
      replace q4 := q4.below hbs
      replace F4 := F4.below hbs
      replace G4 := G4.below hbs
      replace k7 := k7.below hbs
      replace R8 := R8.below hbs
      replace k8 := k8.below hbs
      replace hbb := bt2 hbb hbs
      have hsz8 := hbs.size
      clear hbs hb7 hb8 r7 q7
      have ckB0 : w8.cell? ⟨w.heap.size, 0, none⟩ = some (Value.slice A xs.length c) := kB.cell 0
      have ckB1 : w8.cell? ⟨w.heap.size, 1, none⟩ = some (Value.slice B ws.length d) := kB.cell 1
      have ck60 : w8.cell? ⟨w3.heap.size, 0, none⟩ = some (Value.slice A6 0 c6) := k6.cell 0
      have ck61 : w8.cell? ⟨w3.heap.size, 1, none⟩ = some (Value.slice none 0 0) := k6.cell 1
      have ck70 : w8.cell? ⟨w4.heap.size, 0, none⟩ = some (Value.slice (some ⟨g4, 0, none⟩) xs.length xs.length) := k7.cell 0
      have ck71 : w8.cell? ⟨w4.heap.size, 1, none⟩ = some (Value.slice (some ⟨k4, 0, none⟩) ws.length ws.length) := k7.cell 1
      have ck80 : w8.cell? ⟨w5.heap.size, 0, none⟩ = some (Value.slice A8 0 c8) := k8.cell 0
      have ck81 : w8.cell? ⟨w5.heap.size, 1, none⟩ = some (Value.slice none 0 0) := k8.cell 1
      clear bu
      go_wp2_with fail
      refine (markD_any g4 k4 xs.length ws.length _ _ 1 _ _ _ F4 G4 hgk4 lx lw (by omega)).mono ?_
      rintro e w9 ⟨rfl, hk⟩
      have hk9 := hk.size
      clear ckB0 ckB1 ck60 ck61 ck70 ck71 ck80 ck81
      clear r4 q4 F4 G4
      replace hbb := hk.under hbb (by omega) (by omega) hbb.size
      replace hr := hr0.below hbb
      replace hq := hq0.below hbb
      replace kB := hk.blk kB (by omega) (by omega)
      replace k6 := hk.blk k6 (by omega) (by omega)
      replace k7 := hk.blk k7 (by omega) (by omega)
      replace k8 := hk.blk k8 (by omega) (by omega)
      replace R6 : Rl encD 1 w9 A6 [] := Rl.nil
      replace R8 : Rl encD 1 w9 A8 [] := Rl.nil
      clear hk
      have ckB0 : w9.cell? ⟨w.heap.size, 0, none⟩ = some (Value.slice A xs.length c) := kB.cell 0
      have ckB1 : w9.cell? ⟨w.heap.size, 1, none⟩ = some (Value.slice B ws.length d) := kB.cell 1
      have ck60 : w9.cell? ⟨w3.heap.size, 0, none⟩ = some (Value.slice A6 0 c6) := k6.cell 0
      have ck61 : w9.cell? ⟨w3.heap.size, 1, none⟩ = some (Value.slice none 0 0) := k6.cell 1
      have ck70 : w9.cell? ⟨w4.heap.size, 0, none⟩ = some (Value.slice (some ⟨g4, 0, none⟩) xs.length xs.length) := k7.cell 0
      have ck71 : w9.cell? ⟨w4.heap.size, 1, none⟩ = some (Value.slice (some ⟨k4, 0, none⟩) ws.length ws.length) := k7.cell 1
      have ck80 : w9.cell? ⟨w5.heap.size, 0, none⟩ = some (Value.slice A8 0 c8) := k8.cell 0
      have ck81 : w9.cell? ⟨w5.heap.size, 1, none⟩ = some (Value.slice none 0 0) := k8.cell 1
      have hmk : ¬ ((((1 : Nat) : Int) + xs.length + 2 * ws.length) < 0) := by omega
      have hmk' : ¬ ((1 : Int) + xs.length + 2 * ws.length < 0) := by omega
      go_wp2_with fail
      clear hmk hmk'
      refine (eqDk _ _ _ _ _ _ _ _ [] [] _ R8 Rl.nil R6 Rl.nil (by omega) (by simp)).mono ?_
      rintro e w10 ⟨rfl, hbs⟩
      clear ckB0 ckB1 ck60 ck61 ck70 ck71 ck80 ck81
      replace hr := hr.below hbs
      replace hq := hq.below hbs
      replace kB := kB.below hbs
      replace R6 := R6.below hbs
      replace k6 := k6.below hbs
      replace k7 := k7.below hbs
      replace R8 := R8.below hbs
      replace k8 := k8.below hbs
      replace hbb := bt2 hbb hbs
      have hszw10 := hbs.size
      clear hbs
      have ckB0 : w10.cell? ⟨w.heap.size, 0, none⟩ = some (Value.slice A xs.length c) := kB.cell 0
      have ckB1 : w10.cell? ⟨w.heap.size, 1, none⟩ = some (Value.slice B ws.length d) := kB.cell 1
      have ck60 : w10.cell? ⟨w3.heap.size, 0, none⟩ = some (Value.slice A6 0 c6) := k6.cell 0
      have ck61 : w10.cell? ⟨w3.heap.size, 1, none⟩ = some (Value.slice none 0 0) := k6.cell 1
      have ck70 : w10.cell? ⟨w4.heap.size, 0, none⟩ = some (Value.slice (some ⟨g4, 0, none⟩) xs.length xs.length) := k7.cell 0
      have ck71 : w10.cell? ⟨w4.heap.size, 1, none⟩ = some (Value.slice (some ⟨k4, 0, none⟩) ws.length ws.length) := k7.cell 1
      have ck80 : w10.cell? ⟨w5.heap.size, 0, none⟩ = some (Value.slice A8 0 c8) := k8.cell 0
      have ck81 : w10.cell? ⟨w5.heap.size, 1, none⟩ = some (Value.slice none 0 0) := k8.cell 1
      go_wp2_with fail
      refine (markR0 A8 c8 1 _ (by omega)).mono ?_
      rintro e w11 ⟨rfl, hbs⟩
      clear ckB0 ckB1 ck60 ck61 ck70 ck71 ck80 ck81
      replace hr := hr.below hbs
      replace hq := hq.below hbs
      replace kB := kB.below hbs
      replace R6 := R6.below hbs
      replace k6 := k6.below hbs
      replace k7 := k7.below hbs
      replace R8 := R8.below hbs
      replace k8 := k8.below hbs
      replace hbb := bt2 hbb hbs
      clear hbs
      have ckB0 : w11.cell? ⟨w.heap.size, 0, none⟩ = some (Value.slice A xs.length c) := kB.cell 0
      have ckB1 : w11.cell? ⟨w.heap.size, 1, none⟩ = some (Value.slice B ws.length d) := kB.cell 1
      have ck60 : w11.cell? ⟨w3.heap.size, 0, none⟩ = some (Value.slice A6 0 c6) := k6.cell 0
      have ck61 : w11.cell? ⟨w3.heap.size, 1, none⟩ = some (Value.slice none 0 0) := k6.cell 1
      have ck70 : w11.cell? ⟨w4.heap.size, 0, none⟩ = some (Value.slice (some ⟨g4, 0, none⟩) xs.length xs.length) := k7.cell 0
      have ck71 : w11.cell? ⟨w4.heap.size, 1, none⟩ = some (Value.slice (some ⟨k4, 0, none⟩) ws.length ws.length) := k7.cell 1
      have ck80 : w11.cell? ⟨w5.heap.size, 0, none⟩ = some (Value.slice A8 0 c8) := k8.cell 0
      have ck81 : w11.cell? ⟨w5.heap.size, 1, none⟩ = some (Value.slice none 0 0) := k8.cell 1
      go_wp2_with fail
      refine (heldR0 A8 c8 1 _ (by omega)).mono ?_
      rintro e w12 ⟨rfl, hbs⟩
      clear ckB0 ckB1 ck60 ck61 ck70 ck71 ck80 ck81
      replace hr := hr.below hbs
      replace hq := hq.below hbs
      replace kB := kB.below hbs
      replace R6 := R6.below hbs
      replace k6 := k6.below hbs
      replace k7 := k7.below hbs
      replace R8 := R8.below hbs
      replace k8 := k8.below hbs
      replace hbb := bt2 hbb hbs
      have hszw12 := hbs.size
      clear hbs
      have ckB0 : w12.cell? ⟨w.heap.size, 0, none⟩ = some (Value.slice A xs.length c) := kB.cell 0
      have ckB1 : w12.cell? ⟨w.heap.size, 1, none⟩ = some (Value.slice B ws.length d) := kB.cell 1
      have ck60 : w12.cell? ⟨w3.heap.size, 0, none⟩ = some (Value.slice A6 0 c6) := k6.cell 0
      have ck61 : w12.cell? ⟨w3.heap.size, 1, none⟩ = some (Value.slice none 0 0) := k6.cell 1
      have ck70 : w12.cell? ⟨w4.heap.size, 0, none⟩ = some (Value.slice (some ⟨g4, 0, none⟩) xs.length xs.length) := k7.cell 0
      have ck71 : w12.cell? ⟨w4.heap.size, 1, none⟩ = some (Value.slice (some ⟨k4, 0, none⟩) ws.length ws.length) := k7.cell 1
      have ck80 : w12.cell? ⟨w5.heap.size, 0, none⟩ = some (Value.slice A8 0 c8) := k8.cell 0
      have ck81 : w12.cell? ⟨w5.heap.size, 1, none⟩ = some (Value.slice none 0 0) := k8.cell 1
      go_wp2_with fail
      refine (toDe A B c d xs ws _ hr hq lx lw).mono ?_
      rintro e w13 ⟨g13, k13, rfl, r13, q13, hbs, hg13, hk13, hgk13, F13, G13⟩
      clear ckB0 ckB1 ck60 ck61 ck70 ck71 ck80 ck81
      replace hr := hr.below hbs
      replace hq := hq.below hbs
      replace kB := kB.below hbs
      replace R6 := R6.below hbs
      replace k6 := k6.below hbs
      replace k7 := k7.below hbs
      replace R8 := R8.below hbs
      replace k8 := k8.below hbs
      replace hbb := bt2 hbb hbs
      have hsz13 := hbs.size
      clear hbs
      have ckB0 : w13.cell? ⟨w.heap.size, 0, none⟩ = some (Value.slice A xs.length c) := kB.cell 0
      have ckB1 : w13.cell? ⟨w.heap.size, 1, none⟩ = some (Value.slice B ws.length d) := kB.cell 1
      have ck60 : w13.cell? ⟨w3.heap.size, 0, none⟩ = some (Value.slice A6 0 c6) := k6.cell 0
      have ck61 : w13.cell? ⟨w3.heap.size, 1, none⟩ = some (Value.slice none 0 0) := k6.cell 1
      have ck70 : w13.cell? ⟨w4.heap.size, 0, none⟩ = some (Value.slice (some ⟨g4, 0, none⟩) xs.length xs.length) := k7.cell 0
      have ck71 : w13.cell? ⟨w4.heap.size, 1, none⟩ = some (Value.slice (some ⟨k4, 0, none⟩) ws.length ws.length) := k7.cell 1
      have ck80 : w13.cell? ⟨w5.heap.size, 0, none⟩ = some (Value.slice A8 0 c8) := k8.cell 0
      have ck81 : w13.cell? ⟨w5.heap.size, 1, none⟩ = some (Value.slice none 0 0) := k8.cell 1
      go_wp2_with fail
      refine (hI.out _ _ _ _ _ r13 q13 lx lw).mono ?_
      rintro e w14 ⟨A14, c14, rfl, hbs, R14, ho14⟩
      clear ckB0 ckB1 ck60 ck61 ck70 ck71 ck80 ck81
      replace hr := hr.below hbs
      replace hq := hq.below hbs
      replace kB := kB.below hbs
      replace R6 := R6.below hbs
      replace k6 := k6.below hbs
      replace k7 := k7.below hbs
      replace R8 := R8.below hbs
      replace k8 := k8.below hbs
      replace hbb := bt2 hbb hbs
      have hsz14 := hbs.size
      clear hbs ho14
      clear r13 q13 F13 G13 hg13 hk13 hgk13
      have ckB0 : w14.cell? ⟨w.heap.size, 0, none⟩ = some (Value.slice A xs.length c) := kB.cell 0
      have ckB1 : w14.cell? ⟨w.heap.size, 1, none⟩ = some (Value.slice B ws.length d) := kB.cell 1
      have ck60 : w14.cell? ⟨w3.heap.size, 0, none⟩ = some (Value.slice A6 0 c6) := k6.cell 0
      have ck61 : w14.cell? ⟨w3.heap.size, 1, none⟩ = some (Value.slice none 0 0) := k6.cell 1
      have ck70 : w14.cell? ⟨w4.heap.size, 0, none⟩ = some (Value.slice (some ⟨g4, 0, none⟩) xs.length xs.length) := k7.cell 0
      have ck71 : w14.cell? ⟨w4.heap.size, 1, none⟩ = some (Value.slice (some ⟨k4, 0, none⟩) ws.length ws.length) := k7.cell 1
      have ck80 : w14.cell? ⟨w5.heap.size, 0, none⟩ = some (Value.slice A8 0 c8) := k8.cell 0
      have ck81 : w14.cell? ⟨w5.heap.size, 1, none⟩ = some (Value.slice none 0 0) := k8.cell 1
      have hbx : Below w14.heap.size w14 (w14.alloc (.cells #[Value.slice A14 0 c14, Value.slice none 0 0] 30)) := (Below.refl _ _).alloc (Nat.le_refl _) _
      clear ckB0 ckB1 ck60 ck61 ck70 ck71 ck80 ck81
      replace hr := hr.below hbx
      replace hq := hq.below hbx
      replace kB := kB.below hbx
      replace R6 := R6.below hbx
      replace k6 := k6.below hbx
      replace k7 := k7.below hbx
      replace R8 := R8.below hbx
      replace k8 := k8.below hbx
      replace R14 := R14.below hbx
      replace hbb := bt2 hbb hbx
      have k12 := Blk.new w14 30 #[Value.slice A14 0 c14, Value.slice none 0 0]
      have hzk12 : w14.heap.size < (w14.alloc (.cells #[Value.slice A14 0 c14, Value.slice none 0 0] 30)).heap.size := by simp
      have ckB0 : (w14.alloc (.cells #[Value.slice A14 0 c14, Value.slice none 0 0] 30)).cell? ⟨w.heap.size, 0, none⟩ = some (Value.slice A xs.length c) := kB.cell 0
      have ckB1 : (w14.alloc (.cells #[Value.slice A14 0 c14, Value.slice none 0 0] 30)).cell? ⟨w.heap.size, 1, none⟩ = some (Value.slice B ws.length d) := kB.cell 1
      have ck60 : (w14.alloc (.cells #[Value.slice A14 0 c14, Value.slice none 0 0] 30)).cell? ⟨w3.heap.size, 0, none⟩ = some (Value.slice A6 0 c6) := k6.cell 0
      have ck61 : (w14.alloc (.cells #[Value.slice A14 0 c14, Value.slice none 0 0] 30)).cell? ⟨w3.heap.size, 1, none⟩ = some (Value.slice none 0 0) := k6.cell 1
      have ck70 : (w14.alloc (.cells #[Value.slice A14 0 c14, Value.slice none 0 0] 30)).cell? ⟨w4.heap.size, 0, none⟩ = some (Value.slice (some ⟨g4, 0, none⟩) xs.length xs.length) := k7.cell 0
      have ck71 : (w14.alloc (.cells #[Value.slice A14 0 c14, Value.slice none 0 0] 30)).cell? ⟨w4.heap.size, 1, none⟩ = some (Value.slice (some ⟨k4, 0, none⟩) ws.length ws.length) := k7.cell 1
      have ck80 : (w14.alloc (.cells #[Value.slice A14 0 c14, Value.slice none 0 0] 30)).cell? ⟨w5.heap.size, 0, none⟩ = some (Value.slice A8 0 c8) := k8.cell 0
      have ck81 : (w14.alloc (.cells #[Value.slice A14 0 c14, Value.slice none 0 0] 30)).cell? ⟨w5.heap.size, 1, none⟩ = some (Value.slice none 0 0) := k8.cell 1
      have ck120 : (w14.alloc (.cells #[Value.slice A14 0 c14, Value.slice none 0 0] 30)).cell? ⟨w14.heap.size, 0, none⟩ = some (Value.slice A14 0 c14) := k12.cell 0
      have ck121 : (w14.alloc (.cells #[Value.slice A14 0 c14, Value.slice none 0 0] 30)).cell? ⟨w14.heap.size, 1, none⟩ = some (Value.slice none 0 0) := k12.cell 1
      clear hbx
      go_wp2_with fail
      generalize w14.alloc (.cells #[Value.slice A14 0 c14, Value.slice none 0 0] 30) = w14x at hr hq kB R6 k6 k7 R8 k8 R14 k12 hbb hzk12 ckB0 ckB1 ck60 ck61 ck70 ck71 ck80 ck81 ck120 ck121
      replace ck120 : w14x.cell? ⟨w14.heap.size, 0, none⟩ = some (Value.slice A14 0 c14) := ck120
      replace ck121 : w14x.cell? ⟨w14.heap.size, 1, none⟩ = some (Value.slice none 0 0) := ck121
      refine (eqDk _ _ _ _ _ _ _ _ [] [] _ R14 Rl.nil R6 Rl.nil (by omega) (by simp)).mono ?_
      rintro e w15 ⟨rfl, hbs⟩
      clear ckB0 ckB1 ck60 ck61 ck70 ck71 ck80 ck81 ck120 ck121
      replace hr := hr.below hbs
      replace hq := hq.below hbs
      replace kB := kB.below hbs
      replace R6 := R6.below hbs
      replace k6 := k6.below hbs
      replace k7 := k7.below hbs
      replace R8 := R8.below hbs
      replace k8 := k8.below hbs
      replace R14 := R14.below hbs
      replace k12 := k12.below hbs
      replace hbb := bt2 hbb hbs
      have hszw15 := hbs.size
      clear hbs
      have ckB0 : w15.cell? ⟨w.heap.size, 0, none⟩ = some (Value.slice A xs.length c) := kB.cell 0
      have ckB1 : w15.cell? ⟨w.heap.size, 1, none⟩ = some (Value.slice B ws.length d) := kB.cell 1
      have ck60 : w15.cell? ⟨w3.heap.size, 0, none⟩ = some (Value.slice A6 0 c6) := k6.cell 0
      have ck61 : w15.cell? ⟨w3.heap.size, 1, none⟩ = some (Value.slice none 0 0) := k6.cell 1
      have ck70 : w15.cell? ⟨w4.heap.size, 0, none⟩ = some (Value.slice (some ⟨g4, 0, none⟩) xs.length xs.length) := k7.cell 0
      have ck71 : w15.cell? ⟨w4.heap.size, 1, none⟩ = some (Value.slice (some ⟨k4, 0, none⟩) ws.length ws.length) := k7.cell 1
      have ck80 : w15.cell? ⟨w5.heap.size, 0, none⟩ = some (Value.slice A8 0 c8) := k8.cell 0
      have ck81 : w15.cell? ⟨w5.heap.size, 1, none⟩ = some (Value.slice none 0 0) := k8.cell 1
      have ck120 : w15.cell? ⟨w14.heap.size, 0, none⟩ = some (Value.slice A14 0 c14) := k12.cell 0
      have ck121 : w15.cell? ⟨w14.heap.size, 1, none⟩ = some (Value.slice none 0 0) := k12.cell 1
      go_wp2_with fail
      refine (heldR0 A8 c8 1 _ (by omega)).mono ?_
      rintro e w16 ⟨rfl, hbs⟩
      clear ckB0 ckB1 ck60 ck61 ck70 ck71 ck80 ck81 ck120 ck121
      replace hr := hr.below hbs
      replace hq := hq.below hbs
      replace kB := kB.below hbs
      replace R6 := R6.below hbs
      replace k6 := k6.below hbs
      replace k7 := k7.below hbs
      replace R8 := R8.below hbs
      replace k8 := k8.below hbs
      replace R14 := R14.below hbs
      replace k12 := k12.below hbs
      replace hbb := bt2 hbb hbs
      have hszw16 := hbs.size
      clear hbs
      have ckB0 : w16.cell? ⟨w.heap.size, 0, none⟩ = some (Value.slice A xs.length c) := kB.cell 0
      have ckB1 : w16.cell? ⟨w.heap.size, 1, none⟩ = some (Value.slice B ws.length d) := kB.cell 1
      have ck60 : w16.cell? ⟨w3.heap.size, 0, none⟩ = some (Value.slice A6 0 c6) := k6.cell 0
      have ck61 : w16.cell? ⟨w3.heap.size, 1, none⟩ = some (Value.slice none 0 0) := k6.cell 1
      have ck70 : w16.cell? ⟨w4.heap.size, 0, none⟩ = some (Value.slice (some ⟨g4, 0, none⟩) xs.length xs.length) := k7.cell 0
      have ck71 : w16.cell? ⟨w4.heap.size, 1, none⟩ = some (Value.slice (some ⟨k4, 0, none⟩) ws.length ws.length) := k7.cell 1
      have ck80 : w16.cell? ⟨w5.heap.size, 0, none⟩ = some (Value.slice A8 0 c8) := k8.cell 0
      have ck81 : w16.cell? ⟨w5.heap.size, 1, none⟩ = some (Value.slice none 0 0) := k8.cell 1
      have ck120 : w16.cell? ⟨w14.heap.size, 0, none⟩ = some (Value.slice A14 0 c14) := k12.cell 0
      have ck121 : w16.cell? ⟨w14.heap.size, 1, none⟩ = some (Value.slice none 0 0) := k12.cell 1
      go_wp2_with fail
      go_ret
      exact ⟨rfl, hbb⟩
    · obtain ⟨g6, rfl, hg6, Q6⟩ := ho6.resolve_left he
      have hg6l := Q6.lt
      have hbx : Below w3.heap.size w3 (w3.alloc (.cells #[Value.slice (some ⟨g6, 0, none⟩) zs.length c6, Value.slice none 0 0] 30)) := (Below.refl _ _).alloc (Nat.le_refl _) _
      clear ckB0 ckB1
      replace hr := hr.below hbx
      replace hq := hq.below hbx
      replace kB := kB.below hbx
      replace R6 := R6.below hbx
      replace Q6 := Q6.below hbx
      replace hbb := bt2 hbb hbx
      have k6 := Blk.new w3 30 #[Value.slice (some ⟨g6, 0, none⟩) zs.length c6, Value.slice none 0 0]
      have hzk6 : w3.heap.size < (w3.alloc (.cells #[Value.slice (some ⟨g6, 0, none⟩) zs.length c6, Value.slice none 0 0] 30)).heap.size := by simp
      have ckB0 : (w3.alloc (.cells #[Value.slice (some ⟨g6, 0, none⟩) zs.length c6, Value.slice none 0 0] 30)).cell? ⟨w.heap.size, 0, none⟩ = some (Value.slice A xs.length c) := kB.cell 0
      have ckB1 : (w3.alloc (.cells #[Value.slice (some ⟨g6, 0, none⟩) zs.length c6, Value.slice none 0 0] 30)).cell? ⟨w.heap.size, 1, none⟩ = some (Value.slice B ws.length d) := kB.cell 1
      have ck60 : (w3.alloc (.cells #[Value.slice (some ⟨g6, 0, none⟩) zs.length c6, Value.slice none 0 0] 30)).cell? ⟨w3.heap.size, 0, none⟩ = some (Value.slice (some ⟨g6, 0, none⟩) zs.length c6) := k6.cell 0
      have ck61 : (w3.alloc (.cells #[Value.slice (some ⟨g6, 0, none⟩) zs.length c6, Value.slice none 0 0] 30)).cell? ⟨w3.heap.size, 1, none⟩ = some (Value.slice none 0 0) := k6.cell 1
      clear hbx
      go_wp2_with fail
      generalize w3.alloc (.cells #[Value.slice (some ⟨g6, 0, none⟩) zs.length c6, Value.slice none 0 0] 30) = w3x at hr hq kB R6 Q6 k6 hbb hzk6 ckB0 ckB1 ck60 ck61
      replace ck60 : w3x.cell? ⟨w3.heap.size, 0, none⟩ = some (Value.slice (some ⟨g6, 0, none⟩) zs.length c6) := ck60
      replace ck61 : w3x.cell? ⟨w3.heap.size, 1, none⟩ = some (Value.slice none 0 0) := ck61
      refine (toDe A B c d xs ws _ hr hq lx lw).mono ?_
      rintro e w4 ⟨g4, k4, rfl, r4, q4, hbs, hg4, hk4, hgk4, F4, G4⟩
      clear ckB0 ckB1 ck60 ck61
      replace hr := hr.below hbs
      replace hq := hq.below hbs
      replace kB := kB.below hbs
      replace R6 := R6.below hbs
      replace Q6 := Q6.below hbs
      replace k6 := k6.below hbs
      replace hbb := bt2 hbb hbs
      have hsz4 := hbs.size
      clear hbs
      have ckB0 : w4.cell? ⟨w.heap.size, 0, none⟩ = some (Value.slice A xs.length c) := kB.cell 0
      have ckB1 : w4.cell? ⟨w.heap.size, 1, none⟩ = some (Value.slice B ws.length d) := kB.cell 1
      have ck60 : w4.cell? ⟨w3.heap.size, 0, none⟩ = some (Value.slice (some ⟨g6, 0, none⟩) zs.length c6) := k6.cell 0
      have ck61 : w4.cell? ⟨w3.heap.size, 1, none⟩ = some (Value.slice none 0 0) := k6.cell 1
      have hg4l := F4.lt
      have hk4l := G4.lt
      have hbx : Below w4.heap.size w4 (w4.alloc (.cells #[Value.slice (some ⟨g4, 0, none⟩) xs.length xs.length, Value.slice (some ⟨k4, 0, none⟩) ws.length ws.length] 30)) := (Below.refl _ _).alloc (Nat.le_refl _) _
      clear ckB0 ckB1 ck60 ck61
      replace hr := hr.below hbx
      replace hq := hq.below hbx
      replace kB := kB.below hbx
      replace R6 := R6.below hbx
      replace Q6 := Q6.below hbx
      replace k6 := k6.below hbx
      replace r4 := r4.below hbx
      replace q4 := q4.below hbx
      replace F4 := F4.below hbx
      replace G4 := G4.below hbx
      replace hbb := bt2 hbb hbx
      have k7 := Blk.new w4 30 #[Value.slice (some ⟨g4, 0, none⟩) xs.length xs.length, Value.slice (some ⟨k4, 0, none⟩) ws.length ws.length]
      have hzk7 : w4.heap.size < (w4.alloc (.cells #[Value.slice (some ⟨g4, 0, none⟩) xs.length xs.length, Value.slice (some ⟨k4, 0, none⟩) ws.length ws.length] 30)).heap.size := by simp
      have ckB0 : (w4.alloc (.cells #[Value.slice (some ⟨g4, 0, none⟩) xs.length xs.length, Value.slice (some ⟨k4, 0, none⟩) ws.length ws.length] 30)).cell? ⟨w.heap.size, 0, none⟩ = some (Value.slice A xs.length c) := kB.cell 0
      have ckB1 : (w4.alloc (.cells #[Value.slice (some ⟨g4, 0, none⟩) xs.length xs.length, Value.slice (some ⟨k4, 0, none⟩) ws.length ws.length] 30)).cell? ⟨w.heap.size, 1, none⟩ = some (Value.slice B ws.length d) := kB.cell 1
      have ck60 : (w4.alloc (.cells #[Value.slice (some ⟨g4, 0, none⟩) xs.length xs.length, Value.slice (some ⟨k4, 0, none⟩) ws.length ws.length] 30)).cell? ⟨w3.heap.size, 0, none⟩ = some (Value.slice (some ⟨g6, 0, none⟩) zs.length c6) := k6.cell 0
      have ck61 : (w4.alloc (.cells #[Value.slice (some ⟨g4, 0, none⟩) xs.length xs.length, Value.slice (some ⟨k4, 0, none⟩) ws.length ws.length] 30)).cell? ⟨w3.heap.size, 1, none⟩ = some (Value.slice none 0 0) := k6.cell 1
      have ck70 : (w4.alloc (.cells #[Value.slice (some ⟨g4, 0, none⟩) xs.length xs.length, Value.slice (some ⟨k4, 0, none⟩) ws.length ws.length] 30)).cell? ⟨w4.heap.size, 0, none⟩ = some (Value.slice (some ⟨g4, 0, none⟩) xs.length xs.length) := k7.cell 0
      have ck71 : (w4.alloc (.cells #[Value.slice (some ⟨g4, 0, none⟩) xs.length xs.length, Value.slice (some ⟨k4, 0, none⟩) ws.length ws.length] 30)).cell? ⟨w4.heap.size, 1, none⟩ = some (Value.slice (some ⟨k4, 0, none⟩) ws.length ws.length) := k7.cell 1
      clear hbx
      go_wp2_with fail
      generalize w4.alloc (.cells #[Value.slice (some ⟨g4, 0, none⟩) xs.length xs.length, Value.slice (some ⟨k4, 0, none⟩) ws.length ws.length] 30) = w4x at hr hq kB R6 Q6 k6 r4 q4 F4 G4 k7 hbb hzk7 ckB0 ckB1 ck60 ck61 ck70 ck71
      replace ck70 : w4x.cell? ⟨w4.heap.size, 0, none⟩ = some (Value.slice (some ⟨g4, 0, none⟩) xs.length xs.length) := ck70
      replace ck71 : w4x.cell? ⟨w4.heap.size, 1, none⟩ = some (Value.slice (some ⟨k4, 0, none⟩) ws.length ws.length) := ck71
      refine (hI.out _ _ _ _ _ r4 q4 lx lw).mono ?_
      rintro e w5 ⟨A8, c8, rfl, hbs, R8, ho8⟩
      clear ckB0 ckB1 ck60 ck61 ck70 ck71
      replace hr := hr.below hbs
      replace hq := hq.below hbs
      replace kB := kB.below hbs
      replace R6 := R6.below hbs
      replace Q6 := Q6.below hbs
      replace k6 := k6.below hbs
      replace r4 := r4.below hbs
      replace q4 := q4.below hbs
      replace F4 := F4.below hbs
      replace G4 := G4.below hbs
      replace k7 := k7.below hbs
      replace hbb := bt2 hbb hbs
      have hsz5 := hbs.size
      clear hbs
      have ckB0 : w5.cell? ⟨w.heap.size, 0, none⟩ = some (Value.slice A xs.length c) := kB.cell 0
      have ckB1 : w5.cell? ⟨w.heap.size, 1, none⟩ = some (Value.slice B ws.length d) := kB.cell 1
      have ck60 : w5.cell? ⟨w3.heap.size, 0, none⟩ = some (Value.slice (some ⟨g6, 0, none⟩) zs.length c6) := k6.cell 0
      have ck61 : w5.cell? ⟨w3.heap.size, 1, none⟩ = some (Value.slice none 0 0) := k6.cell 1
      have ck70 : w5.cell? ⟨w4.heap.size, 0, none⟩ = some (Value.slice (some ⟨g4, 0, none⟩) xs.length xs.length) := k7.cell 0
      have ck71 : w5.cell? ⟨w4.heap.size, 1, none⟩ = some (Value.slice (some ⟨k4, 0, none⟩) ws.length ws.length) := k7.cell 1
      obtain ⟨g8, rfl, hg8, Q8⟩ := ho8.resolve_left he
      have hg8l := Q8.lt
      have hbx : Below w5.heap.size w5 (w5.alloc (.cells #[Value.slice (some ⟨g8, 0, none⟩) zs.length c8, Value.slice none 0 0] 30)) := (Below.refl _ _).alloc (Nat.le_refl _) _
      clear ckB0 ckB1 ck60 ck61 ck70 ck71
      replace hr := hr.below hbx
      replace hq := hq.below hbx
      replace kB := kB.below hbx
      replace R6 := R6.below hbx
      replace Q6 := Q6.below hbx
      replace k6 := k6.below hbx
      replace r4 := r4.below hbx
      replace q4 := q4.below hbx
      replace F4 := F4.below hbx
      replace G4 := G4.below hbx
      replace k7 := k7.below hbx
      replace R8 := R8.below hbx
      replace Q8 := Q8.below hbx
      replace hbb := bt2 hbb hbx
      have k8 := Blk.new w5 30 #[Value.slice (some ⟨g8, 0, none⟩) zs.length c8, Value.slice none 0 0]
      have hzk8 : w5.heap.size < (w5.alloc (.cells #[Value.slice (some ⟨g8, 0, none⟩) zs.length c8, Value.slice none 0 0] 30)).heap.size := by simp
      have ckB0 : (w5.alloc (.cells #[Value.slice (some ⟨g8, 0, none⟩) zs.length c8, Value.slice none 0 0] 30)).cell? ⟨w.heap.size, 0, none⟩ = some (Value.slice A xs.length c) := kB.cell 0
      have ckB1 : (w5.alloc (.cells #[Value.slice (some ⟨g8, 0, none⟩) zs.length c8, Value.slice none 0 0] 30)).cell? ⟨w.heap.size, 1, none⟩ = some (Value.slice B ws.length d) := kB.cell 1
      have ck60 : (w5.alloc (.cells #[Value.slice (some ⟨g8, 0, none⟩) zs.length c8, Value.slice none 0 0] 30)).cell? ⟨w3.heap.size, 0, none⟩ = some (Value.slice (some ⟨g6, 0, none⟩) zs.length c6) := k6.cell 0
      have ck61 : (w5.alloc (.cells #[Value.slice (some ⟨g8, 0, none⟩) zs.length c8, Value.slice none 0 0] 30)).cell? ⟨w3.heap.size, 1, none⟩ = some (Value.slice none 0 0) := k6.cell 1
      have ck70 : (w5.alloc (.cells #[Value.slice (some ⟨g8, 0, none⟩) zs.length c8, Value.slice none 0 0] 30)).cell? ⟨w4.heap.size, 0, none⟩ = some (Value.slice (some ⟨g4, 0, none⟩) xs.length xs.length) := k7.cell 0
      have ck71 : (w5.alloc (.cells #[Value.slice (some ⟨g8, 0, none⟩) zs.length c8, Value.slice none 0 0] 30)).cell? ⟨w4.heap.size, 1, none⟩ = some (Value.slice (some ⟨k4, 0, none⟩) ws.length ws.length) := k7.cell 1
      have ck80 : (w5.alloc (.cells #[Value.slice (some ⟨g8, 0, none⟩) zs.length c8, Value.slice none 0 0] 30)).cell? ⟨w5.heap.size, 0, none⟩ = some (Value.slice (some ⟨g8, 0, none⟩) zs.length c8) := k8.cell 0
      have ck81 : (w5.alloc (.cells #[Value.slice (some ⟨g8, 0, none⟩) zs.length c8, Value.slice none 0 0] 30)).cell? ⟨w5.heap.size, 1, none⟩ = some (Value.slice none 0 0) := k8.cell 1
      clear hbx
      go_wp2_with fail
      generalize w5.alloc (.cells #[Value.slice (some ⟨g8, 0, none⟩) zs.length c8, Value.slice none 0 0] 30) = w5x at hr hq kB R6 Q6 k6 r4 q4 F4 G4 k7 R8 Q8 k8 hbb hzk8 ckB0 ckB1 ck60 ck61 ck70 ck71 ck80 ck81
      replace ck80 : w5x.cell? ⟨w5.heap.size, 0, none⟩ = some (Value.slice (some ⟨g8, 0, none⟩) zs.length c8) := ck80
      replace ck81 : w5x.cell? ⟨w5.heap.size, 1, none⟩ = some (Value.slice none 0 0) := ck81
      refine (eqDk _ _ _ _ _ _ _ _ zs [] _ R8 Rl.nil R6 Rl.nil (by omega) (by simp)).mono ?_
      rintro e w6 ⟨rfl, hbs⟩
      clear ckB0 ckB1 ck60 ck61 ck70 ck71 ck80 ck81
      replace hr := hr.below hbs
      replace hq := hq.below hbs
      replace kB := kB.below hbs
      replace R6 := R6.below hbs
      replace Q6 := Q6.below hbs
      replace k6 := k6.below hbs
      replace r4 := r4.below hbs
      replace q4 := q4.below hbs
      replace F4 := F4.below hbs
      replace G4 := G4.below hbs
      replace k7 := k7.below hbs
      replace R8 := R8.below hbs
      replace Q8 := Q8.below hbs
      replace k8 := k8.below hbs
      replace hbb := bt2 hbb hbs
      have hszw6 := hbs.size
      clear hbs
      have ckB0 : w6.cell? ⟨w.heap.size, 0, none⟩ = some (Value.slice A xs.length c) := kB.cell 0
      have ckB1 : w6.cell? ⟨w.heap.size, 1, none⟩ = some (Value.slice B ws.length d) := kB.cell 1
      have ck60 : w6.cell? ⟨w3.heap.size, 0, none⟩ = some (Value.slice (some ⟨g6, 0, none⟩) zs.length c6) := k6.cell 0
      have ck61 : w6.cell? ⟨w3.heap.size, 1, none⟩ = some (Value.slice none 0 0) := k6.cell 1
      have ck70 : w6.cell? ⟨w4.heap.size, 0, none⟩ = some (Value.slice (some ⟨g4, 0, none⟩) xs.length xs.length) := k7.cell 0
      have ck71 : w6.cell? ⟨w4.heap.size, 1, none⟩ = some (Value.slice (some ⟨k4, 0, none⟩) ws.length ws.length) := k7.cell 1
      have ck80 : w6.cell? ⟨w5.heap.size, 0, none⟩ = some (Value.slice (some ⟨g8, 0, none⟩) zs.length c8) := k8.cell 0
      have ck81 : w6.cell? ⟨w5.heap.size, 1, none⟩ = some (Value.slice none 0 0) := k8.cell 1
      go_wp2_with fail
      have bu : ∀ {a b : World}, Below a.heap.size a.drew b → Below a.heap.size a b := fun h => of_drew h
      go_region_held3 (fun w' => w'.cell? ⟨w.heap.size, 0, none⟩ = some (.slice A xs.length c) ∧ w'.cell? ⟨w.heap.size, 1, none⟩ = some (.slice B ws.length d) ∧ w'.cell? ⟨w4.heap.size, 0, none⟩ = some (.slice (some ⟨g4, 0, none⟩) xs.length xs.length) ∧ w'.cell? ⟨w4.heap.size, 1, none⟩ = some (.slice (some ⟨k4, 0, none⟩) ws.length ws.length) ∧ Below w6.heap.size w6 w')
        (first | exact ⟨ckB0, ckB1, ck70, ck71, (Below.refl _ _).drew⟩ | exact ⟨cell_on (bt2 hb7 hb8) ckB0, cell_on (bt2 hb7 hb8) ckB1, cell_on (bt2 hb7 hb8) ck70, cell_on (bt2 hb7 hb8) ck71, bt2 hb7 hb8⟩ | exact ⟨cell_on hb7 ckB0, cell_on hb7 ckB1, cell_on hb7 ck70, cell_on hb7 ck71, hb7⟩)
        (first
          | (go_at_call 17; refine (toDk A B c d xs ws _ (by first | exact hr | exact hr.drew) (by first | exact hq | exact hq.drew) lx lw).mono ?_; rintro e w7 ⟨g7, k7', rfl, r7, q7, hb7⟩; replace hb7 : Below w6.heap.size w6 w7 := (by first | exact hb7 | exact bu hb7))
          | (go_at_call 19; refine (eqDk _ _ _ _ _ _ _ _ xs ws _ (by first | exact r4.below hb7 | exact (r4.below hb7).drew) (by first | exact q4.below hb7 | exact (q4.below hb7).drew) (by first | exact r7 | exact r7.drew) (by first | exact q7 | exact q7.drew) lx lw).mono ?_; rintro e w8 ⟨rfl, hb8⟩; replace hb8 : Below w7.heap.size w7 w8 := (by first | exact hb8 | exact bu hb8)))
      have hbs := bt2 hb7 hb8
      clear ckB0 ckB1 ck60 ck61 ck70 ck71 ck80 ck81
      replace hr := hr.below hbs
      replace hq := hq.below hbs
      replace kB := kB.below hbs
      replace R6 := R6.below hbs
      replace Q6 := Q6.below hbs
      replace k6 := k6.below hbs
      replace r4 := r4.below hbs
      replace q4 := q4.below hbs
      replace F4 := F4.below hbs
      replace G4 := G4.below hbs
      replace k7 := k7.below hbs
      replace R8 := R8.below hbs
      replace Q8 := Q8.below hbs
      replace k8 := k8.below hbs
      replace hbb := bt2 hbb hbs
      have hsz8 := hbs.size
      clear hbs hb7 hb8 r7 q7
      have ckB0 : w8.cell? ⟨w.heap.size, 0, none⟩ = some (Value.slice A xs.length c) := kB.cell 0
      have ckB1 : w8.cell? ⟨w.heap.size, 1, none⟩ = some (Value.slice B ws.length d) := kB.cell 1
      have ck60 : w8.cell? ⟨w3.heap.size, 0, none⟩ = some (Value.slice (some ⟨g6, 0, none⟩) zs.length c6) := k6.cell 0
      have ck61 : w8.cell? ⟨w3.heap.size, 1, none⟩ = some (Value.slice none 0 0) := k6.cell 1
      have ck70 : w8.cell? ⟨w4.heap.size, 0, none⟩ = some (Value.slice (some ⟨g4, 0, none⟩) xs.length xs.length) := k7.cell 0
      have ck71 : w8.cell? ⟨w4.heap.size, 1, none⟩ = some (Value.slice (some ⟨k4, 0, none⟩) ws.length ws.length) := k7.cell 1
      have ck80 : w8.cell? ⟨w5.heap.size, 0, none⟩ = some (Value.slice (some ⟨g8, 0, none⟩) zs.length c8) := k8.cell 0
      have ck81 : w8.cell? ⟨w5.heap.size, 1, none⟩ = some (Value.slice none 0 0) := k8.cell 1
      clear bu
      go_wp2_with fail
      refine (markD_any g4 k4 xs.length ws.length _ _ 1 _ _ _ F4 G4 hgk4 lx lw (by omega)).mono ?_
      rintro e w9 ⟨rfl, hk⟩
      have hk9 := hk.size
      clear ckB0 ckB1 ck60 ck61 ck70 ck71 ck80 ck81
      clear r4 q4 F4 G4
      replace hbb := hk.under hbb (by omega) (by omega) hbb.size
      replace hr := hr0.below hbb
      replace hq := hq0.below hbb
      replace kB := hk.blk kB (by omega) (by omega)
      replace k6 := hk.blk k6 (by omega) (by omega)
      replace k7 := hk.blk k7 (by omega) (by omega)
      replace k8 := hk.blk k8 (by omega) (by omega)
      replace Q6 := hk.ri Q6 (by omega) (by omega)
      replace Q8 := hk.ri Q8 (by omega) (by omega)
      replace R6 := Q6.rl
      replace R8 := Q8.rl
      clear hk
      have ckB0 : w9.cell? ⟨w.heap.size, 0, none⟩ = some (Value.slice A xs.length c) := kB.cell 0
      have ckB1 : w9.cell? ⟨w.heap.size, 1, none⟩ = some (Value.slice B ws.length d) := kB.cell 1
      have ck60 : w9.cell? ⟨w3.heap.size, 0, none⟩ = some (Value.slice (some ⟨g6, 0, none⟩) zs.length c6) := k6.cell 0
      have ck61 : w9.cell? ⟨w3.heap.size, 1, none⟩ = some (Value.slice none 0 0) := k6.cell 1
      have ck70 : w9.cell? ⟨w4.heap.size, 0, none⟩ = some (Value.slice (some ⟨g4, 0, none⟩) xs.length xs.length) := k7.cell 0
      have ck71 : w9.cell? ⟨w4.heap.size, 1, none⟩ = some (Value.slice (some ⟨k4, 0, none⟩) ws.length ws.length) := k7.cell 1
      have ck80 : w9.cell? ⟨w5.heap.size, 0, none⟩ = some (Value.slice (some ⟨g8, 0, none⟩) zs.length c8) := k8.cell 0
      have ck81 : w9.cell? ⟨w5.heap.size, 1, none⟩ = some (Value.slice none 0 0) := k8.cell 1
      have hmk : ¬ ((((1 : Nat) : Int) + xs.length + 2 * ws.length) < 0) := by omega
      have hmk' : ¬ ((1 : Int) + xs.length + 2 * ws.length < 0) := by omega
      go_wp2_with fail
      clear hmk hmk'
      refine (eqDk _ _ _ _ _ _ _ _ zs [] _ R8 Rl.nil R6 Rl.nil (by omega) (by simp)).mono ?_
      rintro e w10 ⟨rfl, hbs⟩
      clear ckB0 ckB1 ck60 ck61 ck70 ck71 ck80 ck81
      replace hr := hr.below hbs
      replace hq := hq.below hbs
      replace kB := kB.below hbs
      replace R6 := R6.below hbs
      replace Q6 := Q6.below hbs
      replace k6 := k6.below hbs
      replace k7 := k7.below hbs
      replace R8 := R8.below hbs
      replace Q8 := Q8.below hbs
      replace k8 := k8.below hbs
      replace hbb := bt2 hbb hbs
      have hszw10 := hbs.size
      clear hbs
      have ckB0 : w10.cell? ⟨w.heap.size, 0, none⟩ = some (Value.slice A xs.length c) := kB.cell 0
      have ckB1 : w10.cell? ⟨w.heap.size, 1, none⟩ = some (Value.slice B ws.length d) := kB.cell 1
      have ck60 : w10.cell? ⟨w3.heap.size, 0, none⟩ = some (Value.slice (some ⟨g6, 0, none⟩) zs.length c6) := k6.cell 0
      have ck61 : w10.cell? ⟨w3.heap.size, 1, none⟩ = some (Value.slice none 0 0) := k6.cell 1
      have ck70 : w10.cell? ⟨w4.heap.size, 0, none⟩ = some (Value.slice (some ⟨g4, 0, none⟩) xs.length xs.length) := k7.cell 0
      have ck71 : w10.cell? ⟨w4.heap.size, 1, none⟩ = some (Value.slice (some ⟨k4, 0, none⟩) ws.length ws.length) := k7.cell 1
      have ck80 : w10.cell? ⟨w5.heap.size, 0, none⟩ = some (Value.slice (some ⟨g8, 0, none⟩) zs.length c8) := k8.cell 0
      have ck81 : w10.cell? ⟨w5.heap.size, 1, none⟩ = some (Value.slice none 0 0) := k8.cell 1
      go_wp2_with fail
      refine (markR_any g8 zs.length c8 c8 1 zs rfl _ Q8 (by omega) (by omega)).mono ?_
      rintro e w11 ⟨rfl, hg, hF⟩
      have hsz11 := hg.size
      clear ckB0 ckB1 ck60 ck61 ck70 ck71 ck80 ck81
      have hcl := Q8.le
      clear Q8 R8
      replace hbb := below_of_grown hbb hg (by omega) hbb.size
      replace hr := hr0.below hbb
      replace hq := hq0.below hbb
      replace kB := kB.kept hg (by simp; omega)
      replace k6 := k6.kept hg (by simp; omega)
      replace k7 := k7.kept hg (by simp; omega)
      replace k8 := k8.kept hg (by simp; omega)
      replace Q6 := Q6.kept hg (by simp; omega)
      replace R6 := Q6.rl
      clear hg
      have ckB0 : w11.cell? ⟨w.heap.size, 0, none⟩ = some (Value.slice A xs.length c) := kB.cell 0
      have ckB1 : w11.cell? ⟨w.heap.size, 1, none⟩ = some (Value.slice B ws.length d) := kB.cell 1
      have ck60 : w11.cell? ⟨w3.heap.size, 0, none⟩ = some (Value.slice (some ⟨g6, 0, none⟩) zs.length c6) := k6.cell 0
      have ck61 : w11.cell? ⟨w3.heap.size, 1, none⟩ = some (Value.slice none 0 0) := k6.cell 1
      have ck70 : w11.cell? ⟨w4.heap.size, 0, none⟩ = some (Value.slice (some ⟨g4, 0, none⟩) xs.length xs.length) := k7.cell 0
      have ck71 : w11.cell? ⟨w4.heap.size, 1, none⟩ = some (Value.slice (some ⟨k4, 0, none⟩) ws.length ws.length) := k7.cell 1
      have ck80 : w11.cell? ⟨w5.heap.size, 0, none⟩ = some (Value.slice (some ⟨g8, 0, none⟩) zs.length c8) := k8.cell 0
      have ck81 : w11.cell? ⟨w5.heap.size, 1, none⟩ = some (Value.slice none 0 0) := k8.cell 1
      go_wp2_with fail
      have hm1 : ¬ ((((1 : Nat) : Int) + zs.length) < 0) := by omega
      have hm2 : ¬ ((1 : Int) + zs.length < 0) := by omega
      have hm3 : ((1 : Int) + zs.length != 1 + zs.length) = false := by simp
      refine (heldR_any g8 zs.length c8 c8 1 _ hF hcl (by omega) (by omega)).mono ?_
      rintro e w12 ⟨rfl, hbs⟩
      clear ckB0 ckB1 ck60 ck61 ck70 ck71 ck80 ck81
      replace hr := hr.below hbs
      replace hq := hq.below hbs
      replace kB := kB.below hbs
      replace R6 := R6.below hbs
      replace Q6 := Q6.below hbs
      replace k6 := k6.below hbs
      replace k7 := k7.below hbs
      replace k8 := k8.below hbs
      replace hF := hF.below hbs
      replace hbb := bt2 hbb hbs
      have hszw12 := hbs.size
      clear hbs
      have ckB0 : w12.cell? ⟨w.heap.size, 0, none⟩ = some (Value.slice A xs.length c) := kB.cell 0
      have ckB1 : w12.cell? ⟨w.heap.size, 1, none⟩ = some (Value.slice B ws.length d) := kB.cell 1
      have ck60 : w12.cell? ⟨w3.heap.size, 0, none⟩ = some (Value.slice (some ⟨g6, 0, none⟩) zs.length c6) := k6.cell 0
      have ck61 : w12.cell? ⟨w3.heap.size, 1, none⟩ = some (Value.slice none 0 0) := k6.cell 1
      have ck70 : w12.cell? ⟨w4.heap.size, 0, none⟩ = some (Value.slice (some ⟨g4, 0, none⟩) xs.length xs.length) := k7.cell 0
      have ck71 : w12.cell? ⟨w4.heap.size, 1, none⟩ = some (Value.slice (some ⟨k4, 0, none⟩) ws.length ws.length) := k7.cell 1
      have ck80 : w12.cell? ⟨w5.heap.size, 0, none⟩ = some (Value.slice (some ⟨g8, 0, none⟩) zs.length c8) := k8.cell 0
      have ck81 : w12.cell? ⟨w5.heap.size, 1, none⟩ = some (Value.slice none 0 0) := k8.cell 1
      go_wp2_with fail
      refine (toDe A B c d xs ws _ hr hq lx lw).mono ?_
      rintro e w13 ⟨g13, k13, rfl, r13, q13, hbs, hg13, hk13, hgk13, F13, G13⟩
      clear ckB0 ckB1 ck60 ck61 ck70 ck71 ck80 ck81
      replace hr := hr.below hbs
      replace hq := hq.below hbs
      replace kB := kB.below hbs
      replace R6 := R6.below hbs
      replace Q6 := Q6.below hbs
      replace k6 := k6.below hbs
      replace k7 := k7.below hbs
      replace k8 := k8.below hbs
      replace hF := hF.below hbs
      replace hbb := bt2 hbb hbs
      have hsz13 := hbs.size
      clear hbs
      have ckB0 : w13.cell? ⟨w.heap.size, 0, none⟩ = some (Value.slice A xs.length c) := kB.cell 0
      have ckB1 : w13.cell? ⟨w.heap.size, 1, none⟩ = some (Value.slice B ws.length d) := kB.cell 1
      have ck60 : w13.cell? ⟨w3.heap.size, 0, none⟩ = some (Value.slice (some ⟨g6, 0, none⟩) zs.length c6) := k6.cell 0
      have ck61 : w13.cell? ⟨w3.heap.size, 1, none⟩ = some (Value.slice none 0 0) := k6.cell 1
      have ck70 : w13.cell? ⟨w4.heap.size, 0, none⟩ = some (Value.slice (some ⟨g4, 0, none⟩) xs.length xs.length) := k7.cell 0
      have ck71 : w13.cell? ⟨w4.heap.size, 1, none⟩ = some (Value.slice (some ⟨k4, 0, none⟩) ws.length ws.length) := k7.cell 1
      have ck80 : w13.cell? ⟨w5.heap.size, 0, none⟩ = some (Value.slice (some ⟨g8, 0, none⟩) zs.length c8) := k8.cell 0
      have ck81 : w13.cell? ⟨w5.heap.size, 1, none⟩ = some (Value.slice none 0 0) := k8.cell 1
      go_wp2_with fail
      refine (hI.out _ _ _ _ _ r13 q13 lx lw).mono ?_
      rintro e w14 ⟨A14, c14, rfl, hbs, R14, ho14⟩
      clear ckB0 ckB1 ck60 ck61 ck70 ck71 ck80 ck81
      replace hr := hr.below hbs
      replace hq := hq.below hbs
      replace kB := kB.below hbs
      replace R6 := R6.below hbs
      replace Q6 := Q6.below hbs
      replace k6 := k6.below hbs
      replace k7 := k7.below hbs
      replace k8 := k8.below hbs
      replace hF := hF.below hbs
      replace hbb := bt2 hbb hbs
      have hsz14 := hbs.size
      clear hbs ho14
      clear r13 q13 F13 G13 hg13 hk13 hgk13
      have ckB0 : w14.cell? ⟨w.heap.size, 0, none⟩ = some (Value.slice A xs.length c) := kB.cell 0
      have ckB1 : w14.cell? ⟨w.heap.size, 1, none⟩ = some (Value.slice B ws.length d) := kB.cell 1
      have ck60 : w14.cell? ⟨w3.heap.size, 0, none⟩ = some (Value.slice (some ⟨g6, 0, none⟩) zs.length c6) := k6.cell 0
      have ck61 : w14.cell? ⟨w3.heap.size, 1, none⟩ = some (Value.slice none 0 0) := k6.cell 1
      have ck70 : w14.cell? ⟨w4.heap.size, 0, none⟩ = some (Value.slice (some ⟨g4, 0, none⟩) xs.length xs.length) := k7.cell 0
      have ck71 : w14.cell? ⟨w4.heap.size, 1, none⟩ = some (Value.slice (some ⟨k4, 0, none⟩) ws.length ws.length) := k7.cell 1
      have ck80 : w14.cell? ⟨w5.heap.size, 0, none⟩ = some (Value.slice (some ⟨g8, 0, none⟩) zs.length c8) := k8.cell 0
      have ck81 : w14.cell? ⟨w5.heap.size, 1, none⟩ = some (Value.slice none 0 0) := k8.cell 1
      have hbx : Below w14.heap.size w14 (w14.alloc (.cells #[Value.slice A14 zs.length c14, Value.slice none 0 0] 30)) := (Below.refl _ _).alloc (Nat.le_refl _) _
      clear ckB0 ckB1 ck60 ck61 ck70 ck71 ck80 ck81
      replace hr := hr.below hbx
      replace hq := hq.below hbx
      replace kB := kB.below hbx
      replace R6 := R6.below hbx
      replace Q6 := Q6.below hbx
      replace k6 := k6.below hbx
      replace k7 := k7.below hbx
      replace k8 := k8.below hbx
      replace hF := hF.below hbx
      replace R14 := R14.below hbx
      replace hbb := bt2 hbb hbx
      have k12 := Blk.new w14 30 #[Value.slice A14 zs.length c14, Value.slice none 0 0]
      have hzk12 : w14.heap.size < (w14.alloc (.cells #[Value.slice A14 zs.length c14, Value.slice none 0 0] 30)).heap.size := by simp
      have ckB0 : (w14.alloc (.cells #[Value.slice A14 zs.length c14, Value.slice none 0 0] 30)).cell? ⟨w.heap.size, 0, none⟩ = some (Value.slice A xs.length c) := kB.cell 0
      have ckB1 : (w14.alloc (.cells #[Value.slice A14 zs.length c14, Value.slice none 0 0] 30)).cell? ⟨w.heap.size, 1, none⟩ = some (Value.slice B ws.length d) := kB.cell 1
      have ck60 : (w14.alloc (.cells #[Value.slice A14 zs.length c14, Value.slice none 0 0] 30)).cell? ⟨w3.heap.size, 0, none⟩ = some (Value.slice (some ⟨g6, 0, none⟩) zs.length c6) := k6.cell 0
      have ck61 : (w14.alloc (.cells #[Value.slice A14 zs.length c14, Value.slice none 0 0] 30)).cell? ⟨w3.heap.size, 1, none⟩ = some (Value.slice none 0 0) := k6.cell 1
      have ck70 : (w14.alloc (.cells #[Value.slice A14 zs.length c14, Value.slice none 0 0] 30)).cell? ⟨w4.heap.size, 0, none⟩ = some (Value.slice (some ⟨g4, 0, none⟩) xs.length xs.length) := k7.cell 0
      have ck71 : (w14.alloc (.cells #[Value.slice A14 zs.length c14, Value.slice none 0 0] 30)).cell? ⟨w4.heap.size, 1, none⟩ = some (Value.slice (some ⟨k4, 0, none⟩) ws.length ws.length) := k7.cell 1
      have ck80 : (w14.alloc (.cells #[Value.slice A14 zs.length c14, Value.slice none 0 0] 30)).cell? ⟨w5.heap.size, 0, none⟩ = some (Value.slice (some ⟨g8, 0, none⟩) zs.length c8) := k8.cell 0
      have ck81 : (w14.alloc (.cells #[Value.slice A14 zs.length c14, Value.slice none 0 0] 30)).cell? ⟨w5.heap.size, 1, none⟩ = some (Value.slice none 0 0) := k8.cell 1
      have ck120 : (w14.alloc (.cells #[Value.slice A14 zs.length c14, Value.slice none 0 0] 30)).cell? ⟨w14.heap.size, 0, none⟩ = some (Value.slice A14 zs.length c14) := k12.cell 0
      have ck121 : (w14.alloc (.cells #[Value.slice A14 zs.length c14, Value.slice none 0 0] 30)).cell? ⟨w14.heap.size, 1, none⟩ = some (Value.slice none 0 0) := k12.cell 1
      clear hbx
      go_wp2_with fail
      generalize w14.alloc (.cells #[Value.slice A14 zs.length c14, Value.slice none 0 0] 30) = w14x at hr hq kB R6 Q6 k6 k7 k8 hF R14 k12 hbb hzk12 ckB0 ckB1 ck60 ck61 ck70 ck71 ck80 ck81 ck120 ck121
      replace ck120 : w14x.cell? ⟨w14.heap.size, 0, none⟩ = some (Value.slice A14 zs.length c14) := ck120
      replace ck121 : w14x.cell? ⟨w14.heap.size, 1, none⟩ = some (Value.slice none 0 0) := ck121
      refine (eqDk _ _ _ _ _ _ _ _ zs [] _ R14 Rl.nil R6 Rl.nil (by omega) (by simp)).mono ?_
      rintro e w15 ⟨rfl, hbs⟩
      clear ckB0 ckB1 ck60 ck61 ck70 ck71 ck80 ck81 ck120 ck121
      replace hr := hr.below hbs
      replace hq := hq.below hbs
      replace kB := kB.below hbs
      replace R6 := R6.below hbs
      replace Q6 := Q6.below hbs
      replace k6 := k6.below hbs
      replace k7 := k7.below hbs
      replace k8 := k8.below hbs
      replace hF := hF.below hbs
      replace R14 := R14.below hbs
      replace k12 := k12.below hbs
      replace hbb := bt2 hbb hbs
      have hszw15 := hbs.size
      clear hbs
      have ckB0 : w15.cell? ⟨w.heap.size, 0, none⟩ = some (Value.slice A xs.length c) := kB.cell 0
      have ckB1 : w15.cell? ⟨w.heap.size, 1, none⟩ = some (Value.slice B ws.length d) := kB.cell 1
      have ck60 : w15.cell? ⟨w3.heap.size, 0, none⟩ = some (Value.slice (some ⟨g6, 0, none⟩) zs.length c6) := k6.cell 0
      have ck61 : w15.cell? ⟨w3.heap.size, 1, none⟩ = some (Value.slice none 0 0) := k6.cell 1
      have ck70 : w15.cell? ⟨w4.heap.size, 0, none⟩ = some (Value.slice (some ⟨g4, 0, none⟩) xs.length xs.length) := k7.cell 0
      have ck71 : w15.cell? ⟨w4.heap.size, 1, none⟩ = some (Value.slice (some ⟨k4, 0, none⟩) ws.length ws.length) := k7.cell 1
      have ck80 : w15.cell? ⟨w5.heap.size, 0, none⟩ = some (Value.slice (some ⟨g8, 0, none⟩) zs.length c8) := k8.cell 0
      have ck81 : w15.cell? ⟨w5.heap.size, 1, none⟩ = some (Value.slice none 0 0) := k8.cell 1
      have ck120 : w15.cell? ⟨w14.heap.size, 0, none⟩ = some (Value.slice A14 zs.length c14) := k12.cell 0
      have ck121 : w15.cell? ⟨w14.heap.size, 1, none⟩ = some (Value.slice none 0 0) := k12.cell 1
      go_wp2_with fail
      refine (heldR_any g8 zs.length c8 c8 1 _ hF hcl (by omega) (by omega)).mono ?_
      rintro e w16 ⟨rfl, hbs⟩
      clear ckB0 ckB1 ck60 ck61 ck70 ck71 ck80 ck81 ck120 ck121
      replace hr := hr.below hbs
      replace hq := hq.below hbs
      replace kB := kB.below hbs
      replace R6 := R6.below hbs
      replace Q6 := Q6.below hbs
      replace k6 := k6.below hbs
      replace k7 := k7.below hbs
      replace k8 := k8.below hbs
      replace hF := hF.below hbs
      replace R14 := R14.below hbs
      replace k12 := k12.below hbs
      replace hbb := bt2 hbb hbs
      have hszw16 := hbs.size
      clear hbs
      have ckB0 : w16.cell? ⟨w.heap.size, 0, none⟩ = some (Value.slice A xs.length c) := kB.cell 0
      have ckB1 : w16.cell? ⟨w.heap.size, 1, none⟩ = some (Value.slice B ws.length d) := kB.cell 1
      have ck60 : w16.cell? ⟨w3.heap.size, 0, none⟩ = some (Value.slice (some ⟨g6, 0, none⟩) zs.length c6) := k6.cell 0
      have ck61 : w16.cell? ⟨w3.heap.size, 1, none⟩ = some (Value.slice none 0 0) := k6.cell 1
      have ck70 : w16.cell? ⟨w4.heap.size, 0, none⟩ = some (Value.slice (some ⟨g4, 0, none⟩) xs.length xs.length) := k7.cell 0
      have ck71 : w16.cell? ⟨w4.heap.size, 1, none⟩ = some (Value.slice (some ⟨k4, 0, none⟩) ws.length ws.length) := k7.cell 1
      have ck80 : w16.cell? ⟨w5.heap.size, 0, none⟩ = some (Value.slice (some ⟨g8, 0, none⟩) zs.length c8) := k8.cell 0
      have ck81 : w16.cell? ⟨w5.heap.size, 1, none⟩ = some (Value.slice none 0 0) := k8.cell 1
      have ck120 : w16.cell? ⟨w14.heap.size, 0, none⟩ = some (Value.slice A14 zs.length c14) := k12.cell 0
      have ck121 : w16.cell? ⟨w14.heap.size, 1, none⟩ = some (Value.slice none 0 0) := k12.cell 1
      go_wp2_with fail
      go_ret
      exact ⟨rfl, hbb⟩

set_option maxHeartbeats 4000000 in
theorem exactSd_walk (A : Option Addr) (c : Nat) (xs : List Int) (B : Option Addr) (d : Nat) (ws : List (Int × Int)) (w : World) (hr : Rl encD 1 w A xs) (hq : Rl encW 2 w B ws) (hc : xs.length ≤ 9223372036854775807) (hd : ws.length ≤ 9223372036854775807) :
    Calls Try.prog 14 #[.agg #[.slice A xs.length c, .slice B ws.length d]] w fun e w' => e = .returned (.bool true) ∧ Below w.heap.size w w' := by
  have hS : Hid (∀ A B c d W, Rl encD 1 W A xs → Rl encW 2 W B ws → xs.length ≤ 1048576 → ws.length ≤ 1048576 → Calls Try.prog 34 #[.agg #[.slice A xs.length c, .slice B ws.length d]] W (DiskO (SD xs ws) W)) := fun A B c d W h1 h2 h3 h4 => (sdS A B c d xs ws W h1 h2 h3 h4).mono fun _ _ h => disk_open h
  have hI : Hid (∀ A B c d W, Rl encD 1 W A xs → Rl encW 2 W B ws → xs.length ≤ 1048576 → ws.length ≤ 1048576 → Calls Try.prog 29 #[.agg #[.slice A xs.length c, .slice B ws.length d]] W (DiskO (SD xs ws) W)) := fun A B c d W h1 h2 h3 h4 => (sdI A B c d xs ws W h1 h2 h3 h4).mono fun _ _ h => disk_open h
  have hl := (show (SD xs ws).length ≤ 8 from CD_len)
  generalize SD xs ws = zs at hS hI hl
  have hb0 : Below w.heap.size w (w.alloc (.cells #[.slice A xs.length c, .slice B ws.length d] 25)) := (Below.refl _ _).alloc (Nat.le_refl _) _
  have kB := Blk.new w 25 #[.slice A xs.length c, .slice B ws.length d]
  have hr0 := hr
  have hq0 := hq
  replace hr := hr.below hb0
  replace hq := hq.below hb0
  go_enter Try.func14, Try.ntmps14
  go_wp2_with fail
  generalize w.alloc (.cells #[.slice A xs.length c, .slice B ws.length d] 25) = w0 at hr hq hb0 kB
  refine (szDk A B c d xs.length ws.length _ hc hd).mono ?_
  rintro e w1 ⟨s1, rfl, hb1, hok⟩
  have hok' := hide hok
  clear hok
  have hbb := bt hb0 hb1 hb0.size
  replace hr := hr.below hb1
  replace hq := hq.below hb1
  replace kB := kB.below hb1
  have hwB : w.heap.size < w1.heap.size := kB.lt
  clear hb0 hb1
  have ckB0 : w1.cell? ⟨w.heap.size, 0, none⟩ = some (.slice A xs.length c) := kB.cell 0
  have ckB1 : w1.cell? ⟨w.heap.size, 1, none⟩ = some (.slice B ws.length d) := kB.cell 1
  by_cases h1 : s1 < 0
  · go_wp2_with fail
    go_ret
    exact ⟨rfl, hbb⟩
  · obtain ⟨lx, lw⟩ := hok'.out (by omega)
    go_wp2_with fail
    refine (toDe A B c d xs ws _ hr hq lx lw).mono ?_
    rintro e w2 ⟨g2, k2, rfl, r2, q2, hbs, hg2, hk2, hgk2, F2, G2⟩
    clear ckB0 ckB1
    replace hr := hr.below hbs
    replace hq := hq.below hbs
    replace kB := kB.below hbs
    replace hbb := bt2 hbb hbs
    have hsz2 := hbs.size
    clear hbs
    have ckB0 : w2.cell? ⟨w.heap.size, 0, none⟩ = some (Value.slice A xs.length c) := kB.cell 0
    have ckB1 : w2.cell? ⟨w.heap.size, 1, none⟩ = some (Value.slice B ws.length d) := kB.cell 1
    go_wp2_with fail
    refine (hS.out _ _ _ _ _ r2 q2 lx lw).mono ?_
    rintro e w3 ⟨A6, c6, rfl, hbs, R6, ho6⟩
    clear ckB0 ckB1
    replace hr := hr.below hbs
    replace hq := hq.below hbs
    replace kB := kB.below hbs
    replace hbb := bt2 hbb hbs
    have hsz3 := hbs.size
    clear hbs
    clear r2 q2 F2 G2 hg2 hk2 hgk2
    have ckB0 : w3.cell? ⟨w.heap.size, 0, none⟩ = some (Value.slice A xs.length c) := kB.cell 0
    have ckB1 : w3.cell? ⟨w.heap.size, 1, none⟩ = some (Value.slice B ws.length d) := kB.cell 1
    by_cases he : zs = []
    · subst he
      clear ho6
      have hbx : Below w3.heap.size w3 (w3.alloc (.cells #[Value.slice A6 0 c6, Value.slice none 0 0] 30)) := (Below.refl _ _).alloc (Nat.le_refl _) _
      clear ckB0 ckB1
      replace hr := hr.below hbx
      replace hq := hq.below hbx
      replace kB := kB.below hbx
      replace R6 := R6.below hbx
      replace hbb := bt2 hbb hbx
      have k6 := Blk.new w3 30 #[Value.slice A6 0 c6, Value.slice none 0 0]
      have hzk6 : w3.heap.size < (w3.alloc (.cells #[Value.slice A6 0 c6, Value.slice none 0 0] 30)).heap.size := by simp
      have ckB0 : (w3.alloc (.cells #[Value.slice A6 0 c6, Value.slice none 0 0] 30)).cell? ⟨w.heap.size, 0, none⟩ = some (Value.slice A xs.length c) := kB.cell 0
      have ckB1 : (w3.alloc (.cells #[Value.slice A6 0 c6, Value.slice none 0 0] 30)).cell? ⟨w.heap.size, 1, none⟩ = some (Value.slice B ws.length d) := kB.cell 1
      have ck60 : (w3.alloc (.cells #[Value.slice A6 0 c6, Value.slice none 0 0] 30)).cell? ⟨w3.heap.size, 0, none⟩ = some (Value.slice A6 0 c6) := k6.cell 0
      have ck61 : (w3.alloc (.cells #[Value.slice A6 0 c6, Value.slice none 0 0] 30)).cell? ⟨w3.heap.size, 1, none⟩ = some (Value.slice none 0 0) := k6.cell 1
      clear hbx
      go_wp2_with fail
      generalize w3.alloc (.cells #[Value.slice A6 0 c6, Value.slice none 0 0] 30) = w3x at hr hq kB R6 k6 hbb hzk6 ckB0 ckB1 ck60 ck61
      replace ck60 : w3x.cell? ⟨w3.heap.size, 0, none⟩ = some (Value.slice A6 0 c6) := ck60
      replace ck61 : w3x.cell? ⟨w3.heap.size, 1, none⟩ = some (Value.slice none 0 0) := ck61
      refine (toDe A B c d xs ws _ hr hq lx lw).mono ?_
      rintro e w4 ⟨g4, k4, rfl, r4, q4, hbs, hg4, hk4, hgk4, F4, G4⟩
      clear ckB0 ckB1 ck60 ck61
      replace hr := hr.below hbs
      replace hq := hq.below hbs
      replace kB := kB.below hbs
      replace R6 := R6.below hbs
      replace k6 := k6.below hbs
      replace hbb := bt2 hbb hbs
      have hsz4 := hbs.size
      clear hbs
      have ckB0 : w4.cell? ⟨w.heap.size, 0, none⟩ = some (Value.slice A xs.length c) := kB.cell 0
      have ckB1 : w4.cell? ⟨w.heap.size, 1, none⟩ = some (Value.slice B ws.length d) := kB.cell 1
      have ck60 : w4.cell? ⟨w3.heap.size, 0, none⟩ = some (Value.slice A6 0 c6) := k6.cell 0
      have ck61 : w4.cell? ⟨w3.heap.size, 1, none⟩ = some (Value.slice none 0 0) := k6.cell 1
      have hg4l := F4.lt
      have hk4l := G4.lt
      have hbx : Below w4.heap.size w4 (w4.alloc (.cells #[Value.slice (some ⟨g4, 0, none⟩) xs.length xs.length, Value.slice (some ⟨k4, 0, none⟩) ws.length ws.length] 30)) := (Below.refl _ _).alloc (Nat.le_refl _) _
      clear ckB0 ckB1 ck60 ck61
      replace hr := hr.below hbx
      replace hq := hq.below hbx
      replace kB := kB.below hbx
      replace R6 := R6.below hbx
      replace k6 := k6.below hbx
      replace r4 := r4.below hbx
      replace q4 := q4.below hbx
      replace F4 := F4.below hbx
      replace G4 := G4.below hbx
      replace hbb := bt2 hbb hbx
      have k7 := Blk.new w4 30 #[Value.slice (some ⟨g4, 0, none⟩) xs.length xs.length, Value.slice (some ⟨k4, 0, none⟩) ws.length ws.length]
      have hzk7 : w4.heap.size < (w4.alloc (.cells #[Value.slice (some ⟨g4, 0, none⟩) xs.length xs.length, Value.slice (some ⟨k4, 0, none⟩) ws.length ws.length] 30)).heap.size := by simp
      have ckB0 : (w4.alloc (.cells #[Value.slice (some ⟨g4, 0, none⟩) xs.length xs.length, Value.slice (some ⟨k4, 0, none⟩) ws.length ws.length] 30)).cell? ⟨w.heap.size, 0, none⟩ = some (Value.slice A xs.length c) := kB.cell 0
      have ckB1 : (w4.alloc (.cells #[Value.slice (some ⟨g4, 0, none⟩) xs.length xs.length, Value.slice (some ⟨k4, 0, none⟩) ws.length ws.length] 30)).cell? ⟨w.heap.size, 1, none⟩ = some (Value.slice B ws.length d) := kB.cell 1
      have ck60 : (w4.alloc (.cells #[Value.slice (some ⟨g4, 0, none⟩) xs.length xs.length, Value.slice (some ⟨k4, 0, none⟩) ws.length ws.length] 30)).cell? ⟨w3.heap.size, 0, none⟩ = some (Value.slice A6 0 c6) := k6.cell 0
      have ck61 : (w4.alloc (.cells #[Value.slice (some ⟨g4, 0, none⟩) xs.length xs.length, Value.slice (some ⟨k4, 0, none⟩) ws.length ws.length] 30)).cell? ⟨w3.heap.size, 1, none⟩ = some (Value.slice none 0 0) := k6.cell 1
      have ck70 : (w4.alloc (.cells #[Value.slice (some ⟨g4, 0, none⟩) xs.length xs.length, Value.slice (some ⟨k4, 0, none⟩) ws.length ws.length] 30)).cell? ⟨w4.heap.size, 0, none⟩ = some (Value.slice (some ⟨g4, 0, none⟩) xs.length xs.length) := k7.cell 0
      have ck71 : (w4.alloc (.cells #[Value.slice (some ⟨g4, 0, none⟩) xs.length xs.length, Value.slice (some ⟨k4, 0, none⟩) ws.length ws.length] 30)).cell? ⟨w4.heap.size, 1, none⟩ = some (Value.slice (some ⟨k4, 0, none⟩) ws.length ws.length) := k7.cell 1
      clear hbx
      go_wp2_with fail
      generalize w4.alloc (.cells #[Value.slice (some ⟨g4, 0, none⟩) xs.length xs.length, Value.slice (some ⟨k4, 0, none⟩) ws.length ws.length] 30) = w4x at hr hq kB R6 k6 r4 q4 F4 G4 k7 hbb hzk7 ckB0 ckB1 ck60 ck61 ck70 ck71
      replace ck70 : w4x.cell? ⟨w4.heap.size, 0, none⟩ = some (Value.slice (some ⟨g4, 0, none⟩) xs.length xs.length) := ck70
      replace ck71 : w4x.cell? ⟨w4.heap.size, 1, none⟩ = some (Value.slice (some ⟨k4, 0, none⟩) ws.length ws.length) := ck71
      refine (hI.out _ _ _ _ _ r4 q4 lx lw).mono ?_
      rintro e w5 ⟨A8, c8, rfl, hbs, R8, ho8⟩
      clear ckB0 ckB1 ck60 ck61 ck70 ck71
      replace hr := hr.below hbs
      replace hq := hq.below hbs
      replace kB := kB.below hbs
      replace R6 := R6.below hbs
      replace k6 := k6.below hbs
      replace r4 := r4.below hbs
      replace q4 := q4.below hbs
      replace F4 := F4.below hbs
      replace G4 := G4.below hbs
      replace k7 := k7.below hbs
      replace hbb := bt2 hbb hbs
      have hsz5 := hbs.size
      clear hbs
      have ckB0 : w5.cell? ⟨w.heap.size, 0, none⟩ = some (Value.slice A xs.length c) := kB.cell 0
      have ckB1 : w5.cell? ⟨w.heap.size, 1, none⟩ = some (Value.slice B ws.length d) := kB.cell 1
      have ck60 : w5.cell? ⟨w3.heap.size, 0, none⟩ = some (Value.slice A6 0 c6) := k6.cell 0
      have ck61 : w5.cell? ⟨w3.heap.size, 1, none⟩ = some (Value.slice none 0 0) := k6.cell 1
      have ck70 : w5.cell? ⟨w4.heap.size, 0, none⟩ = some (Value.slice (some ⟨g4, 0, none⟩) xs.length xs.length) := k7.cell 0
      have ck71 : w5.cell? ⟨w4.heap.size, 1, none⟩ = some (Value.slice (some ⟨k4, 0, none⟩) ws.length ws.length) := k7.cell 1
      clear ho8
      have hbx : Below w5.heap.size w5 (w5.alloc (.cells #[Value.slice A8 0 c8, Value.slice none 0 0] 30)) := (Below.refl _ _).alloc (Nat.le_refl _) _
      clear ckB0 ckB1 ck60 ck61 ck70 ck71
      replace hr := hr.below hbx
      replace hq := hq.below hbx
      replace kB := kB.below hbx
      replace R6 := R6.below hbx
      replace k6 := k6.below hbx
      replace r4 := r4.below hbx
      replace q4 := q4.below hbx
      replace F4 := F4.below hbx
      replace G4 := G4.below hbx
      replace k7 := k7.below hbx
      replace R8 := R8.below hbx
      replace hbb := bt2 hbb hbx
      have k8 := Blk.new w5 30 #[Value.slice A8 0 c8, Value.slice none 0 0]
      have hzk8 : w5.heap.size < (w5.alloc (.cells #[Value.slice A8 0 c8, Value.slice none 0 0] 30)).heap.size := by simp
      have ckB0 : (w5.alloc (.cells #[Value.slice A8 0 c8, Value.slice none 0 0] 30)).cell? ⟨w.heap.size, 0, none⟩ = some (Value.slice A xs.length c) := kB.cell 0
      have ckB1 : (w5.alloc (.cells #[Value.slice A8 0 c8, Value.slice none 0 0] 30)).cell? ⟨w.heap.size, 1, none⟩ = some (Value.slice B ws.length d) := kB.cell 1
      have ck60 : (w5.alloc (.cells #[Value.slice A8 0 c8, Value.slice none 0 0] 30)).cell? ⟨w3.heap.size, 0, none⟩ = some (Value.slice A6 0 c6) := k6.cell 0
      have ck61 : (w5.alloc (.cells #[Value.slice A8 0 c8, Value.slice none 0 0] 30)).cell? ⟨w3.heap.size, 1, none⟩ = some (Value.slice none 0 0) := k6.cell 1
      have ck70 : (w5.alloc (.cells #[Value.slice A8 0 c8, Value.slice none 0 0] 30)).cell? ⟨w4.heap.size, 0, none⟩ = some (Value.slice (some ⟨g4, 0, none⟩) xs.length xs.length) := k7.cell 0
      have ck71 : (w5.alloc (.cells #[Value.slice A8 0 c8, Value.slice none 0 0] 30)).cell? ⟨w4.heap.size, 1, none⟩ = some (Value.slice (some ⟨k4, 0, none⟩) ws.length ws.length) := k7.cell 1
      have ck80 : (w5.alloc (.cells #[Value.slice A8 0 c8, Value.slice none 0 0] 30)).cell? ⟨w5.heap.size, 0, none⟩ = some (Value.slice A8 0 c8) := k8.cell 0
      have ck81 : (w5.alloc (.cells #[Value.slice A8 0 c8, Value.slice none 0 0] 30)).cell? ⟨w5.heap.size, 1, none⟩ = some (Value.slice none 0 0) := k8.cell 1
      clear hbx
      go_wp2_with fail
      generalize w5.alloc (.cells #[Value.slice A8 0 c8, Value.slice none 0 0] 30) = w5x at hr hq kB R6 k6 r4 q4 F4 G4 k7 R8 k8 hbb hzk8 ckB0 ckB1 ck60 ck61 ck70 ck71 ck80 ck81
      replace ck80 : w5x.cell? ⟨w5.heap.size, 0, none⟩ = some (Value.slice A8 0 c8) := ck80
      replace ck81 : w5x.cell? ⟨w5.heap.size, 1, none⟩ = some (Value.slice none 0 0) := ck81
      refine (eqDk _ _ _ _ _ _ _ _ [] [] _ R8 Rl.nil R6 Rl.nil (by omega) (by simp)).mono ?_
      rintro e w6 ⟨rfl, hbs⟩
      clear ckB0 ckB1 ck60 ck61 ck70 ck71 ck80 ck81
      replace hr := hr.below hbs
      replace hq := hq.below hbs
      replace kB := kB.below hbs
      replace R6 := R6.below hbs
      replace k6 := k6.below hbs
      replace r4 := r4.below hbs
      replace q4 := q4.below hbs
      replace F4 := F4.below hbs
      replace G4 := G4.below hbs
      replace k7 := k7.below hbs
      replace R8 := R8.below hbs
      replace k8 := k8.below hbs
      replace hbb := bt2 hbb hbs
      have hszw6 := hbs.size
      clear hbs
      have ckB0 : w6.cell? ⟨w.heap.size, 0, none⟩ = some (Value.slice A xs.length c) := kB.cell 0
      have ckB1 : w6.cell? ⟨w.heap.size, 1, none⟩ = some (Value.slice B ws.length d) := kB.cell 1
      have ck60 : w6.cell? ⟨w3.heap.size, 0, none⟩ = some (Value.slice A6 0 c6) := k6.cell 0
      have ck61 : w6.cell? ⟨w3.heap.size, 1, none⟩ = some (Value.slice none 0 0) := k6.cell 1
      have ck70 : w6.cell? ⟨w4.heap.size, 0, none⟩ = some (Value.slice (some ⟨g4, 0, none⟩) xs.length xs.length) := k7.cell 0
      have ck71 : w6.cell? ⟨w4.heap.size, 1, none⟩ = some (Value.slice (some ⟨k4, 0, none⟩) ws.length ws.length) := k7.cell 1
      have ck80 : w6.cell? ⟨w5.heap.size, 0, none⟩ = some (Value.slice A8 0 c8) := k8.cell 0
      have ck81 : w6.cell? ⟨w5.heap.size, 1, none⟩ = some (Value.slice none 0 0) := k8.cell 1
      go_wp2_with fail
      have bu : ∀ {a b : World}, Below a.heap.size a.drew b → Below a.heap.size a b := fun h => of_drew h
      go_region_held3 (fun w' => w'.cell? ⟨w.heap.size, 0, none⟩ = some (.slice A xs.length c) ∧ w'.cell? ⟨w.heap.size, 1, none⟩ = some (.slice B ws.length d) ∧ w'.cell? ⟨w4.heap.size, 0, none⟩ = some (.slice (some ⟨g4, 0, none⟩) xs.length xs.length) ∧ w'.cell? ⟨w4.heap.size, 1, none⟩ = some (.slice (some ⟨k4, 0, none⟩) ws.length ws.length) ∧ Below w6.heap.size w6 w')
        (first | exact ⟨ckB0, ckB1, ck70, ck71, (Below.refl _ _).drew⟩ | exact ⟨cell_on (bt2 hb7 hb8) ckB0, cell_on (bt2 hb7 hb8) ckB1, cell_on (bt2 hb7 hb8) ck70, cell_on (bt2 hb7 hb8) ck71, bt2 hb7 hb8⟩ | exact ⟨cell_on hb7 ckB0, cell_on hb7 ckB1, cell_on hb7 ck70, cell_on hb7 ck71, hb7⟩)
        (first
          | (go_at_call 17; refine (toDk A B c d xs ws _ (by first | exact hr | exact hr.drew) (by first | exact hq | exact hq.drew) lx lw).mono ?_; rintro e w7 ⟨g7, k7', rfl, r7, q7, hb7⟩; replace hb7 : Below w6.heap.size w6 w7 := (by first | exact hb7 | exact bu hb7))
          | (go_at_call 19; refine (eqDk _ _ _ _ _ _ _ _ xs ws _ (by first | exact r4.below hb7 | exact (r4.below hb7).drew) (by first | exact q4.below hb7 | exact (q4.below hb7).drew) (by first | exact r7 | exact r7.drew) (by first | exact q7 | exact q7.drew) lx lw).mono ?_; rintro e w8 ⟨rfl, hb8⟩; replace hb8 : Below w7.heap.size w7 w8 := (by first | exact hb8 | exact bu hb8)))
      have hbs := bt2 hb7 hb8
      clear ckB0 ckB1 ck60 ck61 ck70 ck71 ck80 ck81
      replace hr := hr.below hbs
      replace hq := hq.below hbs
      replace kB := kB.below hbs
      replace R6 := R6.below hbs
      replace k6 := k6.below hbs
      replace r4 := r4.below hbs
      replace q4 := q4.below hbs
      replace F4 := F4.below hbs
      replace G4 := G4.below hbs
      replace k7 := k7.below hbs
      replace R8 := R8.below hbs
      replace k8 := k8.below hbs
      replace hbb := bt2 hbb hbs
      have hsz8 := hbs.size
      clear hbs hb7 hb8 r7 q7
      have ckB0 : w8.cell? ⟨w.heap.size, 0, none⟩ = some (Value.slice A xs.length c) := kB.cell 0
      have ckB1 : w8.cell? ⟨w.heap.size, 1, none⟩ = some (Value.slice B ws.length d) := kB.cell 1
      have ck60 : w8.cell? ⟨w3.heap.size, 0, none⟩ = some (Value.slice A6 0 c6) := k6.cell 0
      have ck61 : w8.cell? ⟨w3.heap.size, 1, none⟩ = some (Value.slice none 0 0) := k6.cell 1
      have ck70 : w8.cell? ⟨w4.heap.size, 0, none⟩ = some (Value.slice (some ⟨g4, 0, none⟩) xs.length xs.length) := k7.cell 0
      have ck71 : w8.cell? ⟨w4.heap.size, 1, none⟩ = some (Value.slice (some ⟨k4, 0, none⟩) ws.length ws.length) := k7.cell 1
      have ck80 : w8.cell? ⟨w5.heap.size, 0, none⟩ = some (Value.slice A8 0 c8) := k8.cell 0
      have ck81 : w8.cell? ⟨w5.heap.size, 1, none⟩ = some (Value.slice none 0 0) := k8.cell 1
      clear bu
      go_wp2_with fail
      refine (markD_any g4 k4 xs.length ws.length _ _ 1 _ _ _ F4 G4 hgk4 lx lw (by omega)).mono ?_
      rintro e w9 ⟨rfl, hk⟩
      have hk9 := hk.size
      clear ckB0 ckB1 ck60 ck61 ck70 ck71 ck80 ck81
      clear r4 q4 F4 G4
      replace hbb := hk.under hbb (by omega) (by omega) hbb.size
      replace hr := hr0.below hbb
      replace hq := hq0.below hbb
      replace kB := hk.blk kB (by omega) (by omega)
      replace k6 := hk.blk k6 (by omega) (by omega)
      replace k7 := hk.blk k7 (by omega) (by omega)
      replace k8 := hk.blk k8 (by omega) (by omega)
      replace R6 : Rl encD 1 w9 A6 [] := Rl.nil
      replace R8 : Rl encD 1 w9 A8 [] := Rl.nil
      clear hk
      have ckB0 : w9.cell? ⟨w.heap.size, 0, none⟩ = some (Value.slice A xs.length c) := kB.cell 0
      have ckB1 : w9.cell? ⟨w.heap.size, 1, none⟩ = some (Value.slice B ws.length d) := kB.cell 1
      have ck60 : w9.cell? ⟨w3.heap.size, 0, none⟩ = some (Value.slice A6 0 c6) := k6.cell 0
      have ck61 : w9.cell? ⟨w3.heap.size, 1, none⟩ = some (Value.slice none 0 0) := k6.cell 1
      have ck70 : w9.cell? ⟨w4.heap.size, 0, none⟩ = some (Value.slice (some ⟨g4, 0, none⟩) xs.length xs.length) := k7.cell 0
      have ck71 : w9.cell? ⟨w4.heap.size, 1, none⟩ = some (Value.slice (some ⟨k4, 0, none⟩) ws.length ws.length) := k7.cell 1
      have ck80 : w9.cell? ⟨w5.heap.size, 0, none⟩ = some (Value.slice A8 0 c8) := k8.cell 0
      have ck81 : w9.cell? ⟨w5.heap.size, 1, none⟩ = some (Value.slice none 0 0) := k8.cell 1
      have hmk : ¬ ((((1 : Nat) : Int) + xs.length + 2 * ws.length) < 0) := by omega
      have hmk' : ¬ ((1 : Int) + xs.length + 2 * ws.length < 0) := by omega
      go_wp2_with fail
      clear hmk hmk'
      refine (eqDk _ _ _ _ _ _ _ _ [] [] _ R8 Rl.nil R6 Rl.nil (by omega) (by simp)).mono ?_
      rintro e w10 ⟨rfl, hbs⟩
      clear ckB0 ckB1 ck60 ck61 ck70 ck71 ck80 ck81
      replace hr := hr.below hbs
      replace hq := hq.below hbs
      replace kB := kB.below hbs
      replace R6 := R6.below hbs
      replace k6 := k6.below hbs
      replace k7 := k7.below hbs
      replace R8 := R8.below hbs
      replace k8 := k8.below hbs
      replace hbb := bt2 hbb hbs
      have hszw10 := hbs.size
      clear hbs
      have ckB0 : w10.cell? ⟨w.heap.size, 0, none⟩ = some (Value.slice A xs.length c) := kB.cell 0
      have ckB1 : w10.cell? ⟨w.heap.size, 1, none⟩ = some (Value.slice B ws.length d) := kB.cell 1
      have ck60 : w10.cell? ⟨w3.heap.size, 0, none⟩ = some (Value.slice A6 0 c6) := k6.cell 0
      have ck61 : w10.cell? ⟨w3.heap.size, 1, none⟩ = some (Value.slice none 0 0) := k6.cell 1
      have ck70 : w10.cell? ⟨w4.heap.size, 0, none⟩ = some (Value.slice (some ⟨g4, 0, none⟩) xs.length xs.length) := k7.cell 0
      have ck71 : w10.cell? ⟨w4.heap.size, 1, none⟩ = some (Value.slice (some ⟨k4, 0, none⟩) ws.length ws.length) := k7.cell 1
      have ck80 : w10.cell? ⟨w5.heap.size, 0, none⟩ = some (Value.slice A8 0 c8) := k8.cell 0
      have ck81 : w10.cell? ⟨w5.heap.size, 1, none⟩ = some (Value.slice none 0 0) := k8.cell 1
      go_wp2_with fail
      refine (markR0 A8 c8 1 _ (by omega)).mono ?_
      rintro e w11 ⟨rfl, hbs⟩
      clear ckB0 ckB1 ck60 ck61 ck70 ck71 ck80 ck81
      replace hr := hr.below hbs
      replace hq := hq.below hbs
      replace kB := kB.below hbs
      replace R6 := R6.below hbs
      replace k6 := k6.below hbs
      replace k7 := k7.below hbs
      replace R8 := R8.below hbs
      replace k8 := k8.below hbs
      replace hbb := bt2 hbb hbs
      clear hbs
      have ckB0 : w11.cell? ⟨w.heap.size, 0, none⟩ = some (Value.slice A xs.length c) := kB.cell 0
      have ckB1 : w11.cell? ⟨w.heap.size, 1, none⟩ = some (Value.slice B ws.length d) := kB.cell 1
      have ck60 : w11.cell? ⟨w3.heap.size, 0, none⟩ = some (Value.slice A6 0 c6) := k6.cell 0
      have ck61 : w11.cell? ⟨w3.heap.size, 1, none⟩ = some (Value.slice none 0 0) := k6.cell 1
      have ck70 : w11.cell? ⟨w4.heap.size, 0, none⟩ = some (Value.slice (some ⟨g4, 0, none⟩) xs.length xs.length) := k7.cell 0
      have ck71 : w11.cell? ⟨w4.heap.size, 1, none⟩ = some (Value.slice (some ⟨k4, 0, none⟩) ws.length ws.length) := k7.cell 1
      have ck80 : w11.cell? ⟨w5.heap.size, 0, none⟩ = some (Value.slice A8 0 c8) := k8.cell 0
      have ck81 : w11.cell? ⟨w5.heap.size, 1, none⟩ = some (Value.slice none 0 0) := k8.cell 1
      go_wp2_with fail
      refine (heldR0 A8 c8 1 _ (by omega)).mono ?_
      rintro e w12 ⟨rfl, hbs⟩
      clear ckB0 ckB1 ck60 ck61 ck70 ck71 ck80 ck81
      replace hr := hr.below hbs
      replace hq := hq.below hbs
      replace kB := kB.below hbs
      replace R6 := R6.below hbs
      replace k6 := k6.below hbs
      replace k7 := k7.below hbs
      replace R8 := R8.below hbs
      replace k8 := k8.below hbs
      replace hbb := bt2 hbb hbs
      have hszw12 := hbs.size
      clear hbs
      have ckB0 : w12.cell? ⟨w.heap.size, 0, none⟩ = some (Value.slice A xs.length c) := kB.cell 0
      have ckB1 : w12.cell? ⟨w.heap.size, 1, none⟩ = some (Value.slice B ws.length d) := kB.cell 1
      have ck60 : w12.cell? ⟨w3.heap.size, 0, none⟩ = some (Value.slice A6 0 c6) := k6.cell 0
      have ck61 : w12.cell? ⟨w3.heap.size, 1, none⟩ = some (Value.slice none 0 0) := k6.cell 1
      have ck70 : w12.cell? ⟨w4.heap.size, 0, none⟩ = some (Value.slice (some ⟨g4, 0, none⟩) xs.length xs.length) := k7.cell 0
      have ck71 : w12.cell? ⟨w4.heap.size, 1, none⟩ = some (Value.slice (some ⟨k4, 0, none⟩) ws.length ws.length) := k7.cell 1
      have ck80 : w12.cell? ⟨w5.heap.size, 0, none⟩ = some (Value.slice A8 0 c8) := k8.cell 0
      have ck81 : w12.cell? ⟨w5.heap.size, 1, none⟩ = some (Value.slice none 0 0) := k8.cell 1
      go_wp2_with fail
      refine (toDe A B c d xs ws _ hr hq lx lw).mono ?_
      rintro e w13 ⟨g13, k13, rfl, r13, q13, hbs, hg13, hk13, hgk13, F13, G13⟩
      clear ckB0 ckB1 ck60 ck61 ck70 ck71 ck80 ck81
      replace hr := hr.below hbs
      replace hq := hq.below hbs
      replace kB := kB.below hbs
      replace R6 := R6.below hbs
      replace k6 := k6.below hbs
      replace k7 := k7.below hbs
      replace R8 := R8.below hbs
      replace k8 := k8.below hbs
      replace hbb := bt2 hbb hbs
      have hsz13 := hbs.size
      clear hbs
      have ckB0 : w13.cell? ⟨w.heap.size, 0, none⟩ = some (Value.slice A xs.length c) := kB.cell 0
      have ckB1 : w13.cell? ⟨w.heap.size, 1, none⟩ = some (Value.slice B ws.length d) := kB.cell 1
      have ck60 : w13.cell? ⟨w3.heap.size, 0, none⟩ = some (Value.slice A6 0 c6) := k6.cell 0
      have ck61 : w13.cell? ⟨w3.heap.size, 1, none⟩ = some (Value.slice none 0 0) := k6.cell 1
      have ck70 : w13.cell? ⟨w4.heap.size, 0, none⟩ = some (Value.slice (some ⟨g4, 0, none⟩) xs.length xs.length) := k7.cell 0
      have ck71 : w13.cell? ⟨w4.heap.size, 1, none⟩ = some (Value.slice (some ⟨k4, 0, none⟩) ws.length ws.length) := k7.cell 1
      have ck80 : w13.cell? ⟨w5.heap.size, 0, none⟩ = some (Value.slice A8 0 c8) := k8.cell 0
      have ck81 : w13.cell? ⟨w5.heap.size, 1, none⟩ = some (Value.slice none 0 0) := k8.cell 1
      go_wp2_with fail
      refine (hI.out _ _ _ _ _ r13 q13 lx lw).mono ?_
      rintro e w14 ⟨A14, c14, rfl, hbs, R14, ho14⟩
      clear ckB0 ckB1 ck60 ck61 ck70 ck71 ck80 ck81
      replace hr := hr.below hbs
      replace hq := hq.below hbs
      replace kB := kB.below hbs
      replace R6 := R6.below hbs
      replace k6 := k6.below hbs
      replace k7 := k7.below hbs
      replace R8 := R8.below hbs
      replace k8 := k8.below hbs
      replace hbb := bt2 hbb hbs
      have hsz14 := hbs.size
      clear hbs ho14
      clear r13 q13 F13 G13 hg13 hk13 hgk13
      have ckB0 : w14.cell? ⟨w.heap.size, 0, none⟩ = some (Value.slice A xs.length c) := kB.cell 0
      have ckB1 : w14.cell? ⟨w.heap.size, 1, none⟩ = some (Value.slice B ws.length d) := kB.cell 1
      have ck60 : w14.cell? ⟨w3.heap.size, 0, none⟩ = some (Value.slice A6 0 c6) := k6.cell 0
      have ck61 : w14.cell? ⟨w3.heap.size, 1, none⟩ = some (Value.slice none 0 0) := k6.cell 1
      have ck70 : w14.cell? ⟨w4.heap.size, 0, none⟩ = some (Value.slice (some ⟨g4, 0, none⟩) xs.length xs.length) := k7.cell 0
      have ck71 : w14.cell? ⟨w4.heap.size, 1, none⟩ = some (Value.slice (some ⟨k4, 0, none⟩) ws.length ws.length) := k7.cell 1
      have ck80 : w14.cell? ⟨w5.heap.size, 0, none⟩ = some (Value.slice A8 0 c8) := k8.cell 0
      have ck81 : w14.cell? ⟨w5.heap.size, 1, none⟩ = some (Value.slice none 0 0) := k8.cell 1
      have hbx : Below w14.heap.size w14 (w14.alloc (.cells #[Value.slice A14 0 c14, Value.slice none 0 0] 30)) := (Below.refl _ _).alloc (Nat.le_refl _) _
      clear ckB0 ckB1 ck60 ck61 ck70 ck71 ck80 ck81
      replace hr := hr.below hbx
      replace hq := hq.below hbx
      replace kB := kB.below hbx
      replace R6 := R6.below hbx
      replace k6 := k6.below hbx
      replace k7 := k7.below hbx
      replace R8 := R8.below hbx
      replace k8 := k8.below hbx
      replace R14 := R14.below hbx
      replace hbb := bt2 hbb hbx
      have k12 := Blk.new w14 30 #[Value.slice A14 0 c14, Value.slice none 0 0]
      have hzk12 : w14.heap.size < (w14.alloc (.cells #[Value.slice A14 0 c14, Value.slice none 0 0] 30)).heap.size := by simp
      have ckB0 : (w14.alloc (.cells #[Value.slice A14 0 c14, Value.slice none 0 0] 30)).cell? ⟨w.heap.size, 0, none⟩ = some (Value.slice A xs.length c) := kB.cell 0
      have ckB1 : (w14.alloc (.cells #[Value.slice A14 0 c14, Value.slice none 0 0] 30)).cell? ⟨w.heap.size, 1, none⟩ = some (Value.slice B ws.length d) := kB.cell 1
      have ck60 : (w14.alloc (.cells #[Value.slice A14 0 c14, Value.slice none 0 0] 30)).cell? ⟨w3.heap.size, 0, none⟩ = some (Value.slice A6 0 c6) := k6.cell 0
      have ck61 : (w14.alloc (.cells #[Value.slice A14 0 c14, Value.slice none 0 0] 30)).cell? ⟨w3.heap.size, 1, none⟩ = some (Value.slice none 0 0) := k6.cell 1
      have ck70 : (w14.alloc (.cells #[Value.slice A14 0 c14, Value.slice none 0 0] 30)).cell? ⟨w4.heap.size, 0, none⟩ = some (Value.slice (some ⟨g4, 0, none⟩) xs.length xs.length) := k7.cell 0
      have ck71 : (w14.alloc (.cells #[Value.slice A14 0 c14, Value.slice none 0 0] 30)).cell? ⟨w4.heap.size, 1, none⟩ = some (Value.slice (some ⟨k4, 0, none⟩) ws.length ws.length) := k7.cell 1
      have ck80 : (w14.alloc (.cells #[Value.slice A14 0 c14, Value.slice none 0 0] 30)).cell? ⟨w5.heap.size, 0, none⟩ = some (Value.slice A8 0 c8) := k8.cell 0
      have ck81 : (w14.alloc (.cells #[Value.slice A14 0 c14, Value.slice none 0 0] 30)).cell? ⟨w5.heap.size, 1, none⟩ = some (Value.slice none 0 0) := k8.cell 1
      have ck120 : (w14.alloc (.cells #[Value.slice A14 0 c14, Value.slice none 0 0] 30)).cell? ⟨w14.heap.size, 0, none⟩ = some (Value.slice A14 0 c14) := k12.cell 0
      have ck121 : (w14.alloc (.cells #[Value.slice A14 0 c14, Value.slice none 0 0] 30)).cell? ⟨w14.heap.size, 1, none⟩ = some (Value.slice none 0 0) := k12.cell 1
      clear hbx
      go_wp2_with fail
      generalize w14.alloc (.cells #[Value.slice A14 0 c14, Value.slice none 0 0] 30) = w14x at hr hq kB R6 k6 k7 R8 k8 R14 k12 hbb hzk12 ckB0 ckB1 ck60 ck61 ck70 ck71 ck80 ck81 ck120 ck121
      replace ck120 : w14x.cell? ⟨w14.heap.size, 0, none⟩ = some (Value.slice A14 0 c14) := ck120
      replace ck121 : w14x.cell? ⟨w14.heap.size, 1, none⟩ = some (Value.slice none 0 0) := ck121
      refine (eqDk _ _ _ _ _ _ _ _ [] [] _ R14 Rl.nil R6 Rl.nil (by omega) (by simp)).mono ?_
      rintro e w15 ⟨rfl, hbs⟩
      clear ckB0 ckB1 ck60 ck61 ck70 ck71 ck80 ck81 ck120 ck121
      replace hr := hr.below hbs
      replace hq := hq.below hbs
      replace kB := kB.below hbs
      replace R6 := R6.below hbs
      replace k6 := k6.below hbs
      replace k7 := k7.below hbs
      replace R8 := R8.below hbs
      replace k8 := k8.below hbs
      replace R14 := R14.below hbs
      replace k12 := k12.below hbs
      replace hbb := bt2 hbb hbs
      have hszw15 := hbs.size
      clear hbs
      have ckB0 : w15.cell? ⟨w.heap.size, 0, none⟩ = some (Value.slice A xs.length c) := kB.cell 0
      have ckB1 : w15.cell? ⟨w.heap.size, 1, none⟩ = some (Value.slice B ws.length d) := kB.cell 1
      have ck60 : w15.cell? ⟨w3.heap.size, 0, none⟩ = some (Value.slice A6 0 c6) := k6.cell 0
      have ck61 : w15.cell? ⟨w3.heap.size, 1, none⟩ = some (Value.slice none 0 0) := k6.cell 1
      have ck70 : w15.cell? ⟨w4.heap.size, 0, none⟩ = some (Value.slice (some ⟨g4, 0, none⟩) xs.length xs.length) := k7.cell 0
      have ck71 : w15.cell? ⟨w4.heap.size, 1, none⟩ = some (Value.slice (some ⟨k4, 0, none⟩) ws.length ws.length) := k7.cell 1
      have ck80 : w15.cell? ⟨w5.heap.size, 0, none⟩ = some (Value.slice A8 0 c8) := k8.cell 0
      have ck81 : w15.cell? ⟨w5.heap.size, 1, none⟩ = some (Value.slice none 0 0) := k8.cell 1
      have ck120 : w15.cell? ⟨w14.heap.size, 0, none⟩ = some (Value.slice A14 0 c14) := k12.cell 0
      have ck121 : w15.cell? ⟨w14.heap.size, 1, none⟩ = some (Value.slice none 0 0) := k12.cell 1
      go_wp2_with fail
      refine (heldR0 A8 c8 1 _ (by omega)).mono ?_
      rintro e w16 ⟨rfl, hbs⟩
      clear ckB0 ckB1 ck60 ck61 ck70 ck71 ck80 ck81 ck120 ck121
      replace hr := hr.below hbs
      replace hq := hq.below hbs
      replace kB := kB.below hbs
      replace R6 := R6.below hbs
      replace k6 := k6.below hbs
      replace k7 := k7.below hbs
      replace R8 := R8.below hbs
      replace k8 := k8.below hbs
      replace R14 := R14.below hbs
      replace k12 := k12.below hbs
      replace hbb := bt2 hbb hbs
      have hszw16 := hbs.size
      clear hbs
      have ckB0 : w16.cell? ⟨w.heap.size, 0, none⟩ = some (Value.slice A xs.length c) := kB.cell 0
      have ckB1 : w16.cell? ⟨w.heap.size, 1, none⟩ = some (Value.slice B ws.length d) := kB.cell 1
      have ck60 : w16.cell? ⟨w3.heap.size, 0, none⟩ = some (Value.slice A6 0 c6) := k6.cell 0
      have ck61 : w16.cell? ⟨w3.heap.size, 1, none⟩ = some (Value.slice none 0 0) := k6.cell 1
      have ck70 : w16.cell? ⟨w4.heap.size, 0, none⟩ = some (Value.slice (some ⟨g4, 0, none⟩) xs.length xs.length) := k7.cell 0
      have ck71 : w16.cell? ⟨w4.heap.size, 1, none⟩ = some (Value.slice (some ⟨k4, 0, none⟩) ws.length ws.length) := k7.cell 1
      have ck80 : w16.cell? ⟨w5.heap.size, 0, none⟩ = some (Value.slice A8 0 c8) := k8.cell 0
      have ck81 : w16.cell? ⟨w5.heap.size, 1, none⟩ = some (Value.slice none 0 0) := k8.cell 1
      have ck120 : w16.cell? ⟨w14.heap.size, 0, none⟩ = some (Value.slice A14 0 c14) := k12.cell 0
      have ck121 : w16.cell? ⟨w14.heap.size, 1, none⟩ = some (Value.slice none 0 0) := k12.cell 1
      go_wp2_with fail
      go_ret
      exact ⟨rfl, hbb⟩
    · obtain ⟨g6, rfl, hg6, Q6⟩ := ho6.resolve_left he
      have hg6l := Q6.lt
      have hbx : Below w3.heap.size w3 (w3.alloc (.cells #[Value.slice (some ⟨g6, 0, none⟩) zs.length c6, Value.slice none 0 0] 30)) := (Below.refl _ _).alloc (Nat.le_refl _) _
      clear ckB0 ckB1
      replace hr := hr.below hbx
      replace hq := hq.below hbx
      replace kB := kB.below hbx
      replace R6 := R6.below hbx
      replace Q6 := Q6.below hbx
      replace hbb := bt2 hbb hbx
      have k6 := Blk.new w3 30 #[Value.slice (some ⟨g6, 0, none⟩) zs.length c6, Value.slice none 0 0]
      have hzk6 : w3.heap.size < (w3.alloc (.cells #[Value.slice (some ⟨g6, 0, none⟩) zs.length c6, Value.slice none 0 0] 30)).heap.size := by simp
      have ckB0 : (w3.alloc (.cells #[Value.slice (some ⟨g6, 0, none⟩) zs.length c6, Value.slice none 0 0] 30)).cell? ⟨w.heap.size, 0, none⟩ = some (Value.slice A xs.length c) := kB.cell 0
      have ckB1 : (w3.alloc (.cells #[Value.slice (some ⟨g6, 0, none⟩) zs.length c6, Value.slice none 0 0] 30)).cell? ⟨w.heap.size, 1, none⟩ = some (Value.slice B ws.length d) := kB.cell 1
      have ck60 : (w3.alloc (.cells #[Value.slice (some ⟨g6, 0, none⟩) zs.length c6, Value.slice none 0 0] 30)).cell? ⟨w3.heap.size, 0, none⟩ = some (Value.slice (some ⟨g6, 0, none⟩) zs.length c6) := k6.cell 0
      have ck61 : (w3.alloc (.cells #[Value.slice (some ⟨g6, 0, none⟩) zs.length c6, Value.slice none 0 0] 30)).cell? ⟨w3.heap.size, 1, none⟩ = some (Value.slice none 0 0) := k6.cell 1
      clear hbx
      go_wp2_with fail
      generalize w3.alloc (.cells #[Value.slice (some ⟨g6, 0, none⟩) zs.length c6, Value.slice none 0 0] 30) = w3x at hr hq kB R6 Q6 k6 hbb hzk6 ckB0 ckB1 ck60 ck61
      replace ck60 : w3x.cell? ⟨w3.heap.size, 0, none⟩ = some (Value.slice (some ⟨g6, 0, none⟩) zs.length c6) := ck60
      replace ck61 : w3x.cell? ⟨w3.heap.size, 1, none⟩ = some (Value.slice none 0 0) := ck61
      refine (toDe A B c d xs ws _ hr hq lx lw).mono ?_
      rintro e w4 ⟨g4, k4, rfl, r4, q4, hbs, hg4, hk4, hgk4, F4, G4⟩
      clear ckB0 ckB1 ck60 ck61
      replace hr := hr.below hbs
      replace hq := hq.below hbs
      replace kB := kB.below hbs
      replace R6 := R6.below hbs
      replace Q6 := Q6.below hbs
      replace k6 := k6.below hbs
      replace hbb := bt2 hbb hbs
      have hsz4 := hbs.size
      clear hbs
      have ckB0 : w4.cell? ⟨w.heap.size, 0, none⟩ = some (Value.slice A xs.length c) := kB.cell 0
      have ckB1 : w4.cell? ⟨w.heap.size, 1, none⟩ = some (Value.slice B ws.length d) := kB.cell 1
      have ck60 : w4.cell? ⟨w3.heap.size, 0, none⟩ = some (Value.slice (some ⟨g6, 0, none⟩) zs.length c6) := k6.cell 0
      have ck61 : w4.cell? ⟨w3.heap.size, 1, none⟩ = some (Value.slice none 0 0) := k6.cell 1
      have hg4l := F4.lt
      have hk4l := G4.lt
      have hbx : Below w4.heap.size w4 (w4.alloc (.cells #[Value.slice (some ⟨g4, 0, none⟩) xs.length xs.length, Value.slice (some ⟨k4, 0, none⟩) ws.length ws.length] 30)) := (Below.refl _ _).alloc (Nat.le_refl _) _
      clear ckB0 ckB1 ck60 ck61
      replace hr := hr.below hbx
      replace hq := hq.below hbx
      replace kB := kB.below hbx
      replace R6 := R6.below hbx
      replace Q6 := Q6.below hbx
      replace k6 := k6.below hbx
      replace r4 := r4.below hbx
      replace q4 := q4.below hbx
      replace F4 := F4.below hbx
      replace G4 := G4.below hbx
      replace hbb := bt2 hbb hbx
      have k7 := Blk.new w4 30 #[Value.slice (some ⟨g4, 0, none⟩) xs.length xs.length, Value.slice (some ⟨k4, 0, none⟩) ws.length ws.length]
      have hzk7 : w4.heap.size < (w4.alloc (.cells #[Value.slice (some ⟨g4, 0, none⟩) xs.length xs.length, Value.slice (some ⟨k4, 0, none⟩) ws.length ws.length] 30)).heap.size := by simp
      have ckB0 : (w4.alloc (.cells #[Value.slice (some ⟨g4, 0, none⟩) xs.length xs.length, Value.slice (some ⟨k4, 0, none⟩) ws.length ws.length] 30)).cell? ⟨w.heap.size, 0, none⟩ = some (Value.slice A xs.length c) := kB.cell 0
      have ckB1 : (w4.alloc (.cells #[Value.slice (some ⟨g4, 0, none⟩) xs.length xs.length, Value.slice (some ⟨k4, 0, none⟩) ws.length ws.length] 30)).cell? ⟨w.heap.size, 1, none⟩ = some (Value.slice B ws.length d) := kB.cell 1
      have ck60 : (w4.alloc (.cells #[Value.slice (some ⟨g4, 0, none⟩) xs.length xs.length, Value.slice (some ⟨k4, 0, none⟩) ws.length ws.length] 30)).cell? ⟨w3.heap.size, 0, none⟩ = some (Value.slice (some ⟨g6, 0, none⟩) zs.length c6) := k6.cell 0
      have ck61 : (w4.alloc (.cells #[Value.slice (some ⟨g4, 0, none⟩) xs.length xs.length, Value.slice (some ⟨k4, 0, none⟩) ws.length ws.length] 30)).cell? ⟨w3.heap.size, 1, none⟩ = some (Value.slice none 0 0) := k6.cell 1
      have ck70 : (w4.alloc (.cells #[Value.slice (some ⟨g4, 0, none⟩) xs.length xs.length, Value.slice (some ⟨k4, 0, none⟩) ws.length ws.length] 30)).cell? ⟨w4.heap.size, 0, none⟩ = some (Value.slice (some ⟨g4, 0, none⟩) xs.length xs.length) := k7.cell 0
      have ck71 : (w4.alloc (.cells #[Value.slice (some ⟨g4, 0, none⟩) xs.length xs.length, Value.slice (some ⟨k4, 0, none⟩) ws.length ws.length] 30)).cell? ⟨w4.heap.size, 1, none⟩ = some (Value.slice (some ⟨k4, 0, none⟩) ws.length ws.length) := k7.cell 1
      clear hbx
      go_wp2_with fail
      generalize w4.alloc (.cells #[Value.slice (some ⟨g4, 0, none⟩) xs.length xs.length, Value.slice (some ⟨k4, 0, none⟩) ws.length ws.length] 30) = w4x at hr hq kB R6 Q6 k6 r4 q4 F4 G4 k7 hbb hzk7 ckB0 ckB1 ck60 ck61 ck70 ck71
      replace ck70 : w4x.cell? ⟨w4.heap.size, 0, none⟩ = some (Value.slice (some ⟨g4, 0, none⟩) xs.length xs.length) := ck70
      replace ck71 : w4x.cell? ⟨w4.heap.size, 1, none⟩ = some (Value.slice (some ⟨k4, 0, none⟩) ws.length ws.length) := ck71
      refine (hI.out _ _ _ _ _ r4 q4 lx lw).mono ?_
      rintro e w5 ⟨A8, c8, rfl, hbs, R8, ho8⟩
      clear ckB0 ckB1 ck60 ck61 ck70 ck71
      replace hr := hr.below hbs
      replace hq := hq.below hbs
      replace kB := kB.below hbs
      replace R6 := R6.below hbs
      replace Q6 := Q6.below hbs
      replace k6 := k6.below hbs
      replace r4 := r4.below hbs
      replace q4 := q4.below hbs
      replace F4 := F4.below hbs
      replace G4 := G4.below hbs
      replace k7 := k7.below hbs
      replace hbb := bt2 hbb hbs
      have hsz5 := hbs.size
      clear hbs
      have ckB0 : w5.cell? ⟨w.heap.size, 0, none⟩ = some (Value.slice A xs.length c) := kB.cell 0
      have ckB1 : w5.cell? ⟨w.heap.size, 1, none⟩ = some (Value.slice B ws.length d) := kB.cell 1
      have ck60 : w5.cell? ⟨w3.heap.size, 0, none⟩ = some (Value.slice (some ⟨g6, 0, none⟩) zs.length c6) := k6.cell 0
      have ck61 : w5.cell? ⟨w3.heap.size, 1, none⟩ = some (Value.slice none 0 0) := k6.cell 1
      have ck70 : w5.cell? ⟨w4.heap.size, 0, none⟩ = some (Value.slice (some ⟨g4, 0, none⟩) xs.length xs.length) := k7.cell 0
      have ck71 : w5.cell? ⟨w4.heap.size, 1, none⟩ = some (Value.slice (some ⟨k4, 0, none⟩) ws.length ws.length) := k7.cell 1
      obtain ⟨g8, rfl, hg8, Q8⟩ := ho8.resolve_left he
      have hg8l := Q8.lt
      have hbx : Below w5.heap.size w5 (w5.alloc (.cells #[Value.slice (some ⟨g8, 0, none⟩) zs.length c8, Value.slice none 0 0] 30)) := (Below.refl _ _).alloc (Nat.le_refl _) _
      clear ckB0 ckB1 ck60 ck61 ck70 ck71
      replace hr := hr.below hbx
      replace hq := hq.below hbx
      replace kB := kB.below hbx
      replace R6 := R6.below hbx
      replace Q6 := Q6.below hbx
      replace k6 := k6.below hbx
      replace r4 := r4.below hbx
      replace q4 := q4.below hbx
      replace F4 := F4.below hbx
      replace G4 := G4.below hbx
      replace k7 := k7.below hbx
      replace R8 := R8.below hbx
      replace Q8 := Q8.below hbx
      replace hbb := bt2 hbb hbx
      have k8 := Blk.new w5 30 #[Value.slice (some ⟨g8, 0, none⟩) zs.length c8, Value.slice none 0 0]
      have hzk8 : w5.heap.size < (w5.alloc (.cells #[Value.slice (some ⟨g8, 0, none⟩) zs.length c8, Value.slice none 0 0] 30)).heap.size := by simp
      have ckB0 : (w5.alloc (.cells #[Value.slice (some ⟨g8, 0, none⟩) zs.length c8, Value.slice none 0 0] 30)).cell? ⟨w.heap.size, 0, none⟩ = some (Value.slice A xs.length c) := kB.cell 0
      have ckB1 : (w5.alloc (.cells #[Value.slice (some ⟨g8, 0, none⟩) zs.length c8, Value.slice none 0 0] 30)).cell? ⟨w.heap.size, 1, none⟩ = some (Value.slice B ws.length d) := kB.cell 1
      have ck60 : (w5.alloc (.cells #[Value.slice (some ⟨g8, 0, none⟩) zs.length c8, Value.slice none 0 0] 30)).cell? ⟨w3.heap.size, 0, none⟩ = some (Value.slice (some ⟨g6, 0, none⟩) zs.length c6) := k6.cell 0
      have ck61 : (w5.alloc (.cells #[Value.slice (some ⟨g8, 0, none⟩) zs.length c8, Value.slice none 0 0] 30)).cell? ⟨w3.heap.size, 1, none⟩ = some (Value.slice none 0 0) := k6.cell 1
      have ck70 : (w5.alloc (.cells #[Value.slice (some ⟨g8, 0, none⟩) zs.length c8, Value.slice none 0 0] 30)).cell? ⟨w4.heap.size, 0, none⟩ = some (Value.slice (some ⟨g4, 0, none⟩) xs.length xs.length) := k7.cell 0
      have ck71 : (w5.alloc (.cells #[Value.slice (some ⟨g8, 0, none⟩) zs.length c8, Value.slice none 0 0] 30)).cell? ⟨w4.heap.size, 1, none⟩ = some (Value.slice (some ⟨k4, 0, none⟩) ws.length ws.length) := k7.cell 1
      have ck80 : (w5.alloc (.cells #[Value.slice (some ⟨g8, 0, none⟩) zs.length c8, Value.slice none 0 0] 30)).cell? ⟨w5.heap.size, 0, none⟩ = some (Value.slice (some ⟨g8, 0, none⟩) zs.length c8) := k8.cell 0
      have ck81 : (w5.alloc (.cells #[Value.slice (some ⟨g8, 0, none⟩) zs.length c8, Value.slice none 0 0] 30)).cell? ⟨w5.heap.size, 1, none⟩ = some (Value.slice none 0 0) := k8.cell 1
      clear hbx
      go_wp2_with fail
      generalize w5.alloc (.cells #[Value.slice (some ⟨g8, 0, none⟩) zs.length c8, Value.slice none 0 0] 30) = w5x at hr hq kB R6 Q6 k6 r4 q4 F4 G4 k7 R8 Q8 k8 hbb hzk8 ckB0 ckB1 ck60 ck61 ck70 ck71 ck80 ck81
      replace ck80 : w5x.cell? ⟨w5.heap.size, 0, none⟩ = some (Value.slice (some ⟨g8, 0, none⟩) zs.length c8) := ck80
      replace ck81 : w5x.cell? ⟨w5.heap.size, 1, none⟩ = some (Value.slice none 0 0) := ck81
      refine (eqDk _ _ _ _ _ _ _ _ zs [] _ R8 Rl.nil R6 Rl.nil (by omega) (by simp)).mono ?_
      rintro e w6 ⟨rfl, hbs⟩
      clear ckB0 ckB1 ck60 ck61 ck70 ck71 ck80 ck81
      replace hr := hr.below hbs
      replace hq := hq.below hbs
      replace kB := kB.below hbs
      replace R6 := R6.below hbs
      replace Q6 := Q6.below hbs
      replace k6 := k6.below hbs
      replace r4 := r4.below hbs
      replace q4 := q4.below hbs
      replace F4 := F4.below hbs
      replace G4 := G4.below hbs
      replace k7 := k7.below hbs
      replace R8 := R8.below hbs
      replace Q8 := Q8.below hbs
      replace k8 := k8.below hbs
      replace hbb := bt2 hbb hbs
      have hszw6 := hbs.size
      clear hbs
      have ckB0 : w6.cell? ⟨w.heap.size, 0, none⟩ = some (Value.slice A xs.length c) := kB.cell 0
      have ckB1 : w6.cell? ⟨w.heap.size, 1, none⟩ = some (Value.slice B ws.length d) := kB.cell 1
      have ck60 : w6.cell? ⟨w3.heap.size, 0, none⟩ = some (Value.slice (some ⟨g6, 0, none⟩) zs.length c6) := k6.cell 0
      have ck61 : w6.cell? ⟨w3.heap.size, 1, none⟩ = some (Value.slice none 0 0) := k6.cell 1
      have ck70 : w6.cell? ⟨w4.heap.size, 0, none⟩ = some (Value.slice (some ⟨g4, 0, none⟩) xs.length xs.length) := k7.cell 0
      have ck71 : w6.cell? ⟨w4.heap.size, 1, none⟩ = some (Value.slice (some ⟨k4, 0, none⟩) ws.length ws.length) := k7.cell 1
      have ck80 : w6.cell? ⟨w5.heap.size, 0, none⟩ = some (Value.slice (some ⟨g8, 0, none⟩) zs.length c8) := k8.cell 0
      have ck81 : w6.cell? ⟨w5.heap.size, 1, none⟩ = some (Value.slice none 0 0) := k8.cell 1
      go_wp2_with fail
      have bu : ∀ {a b : World}, Below a.heap.size a.drew b → Below a.heap.size a b := fun h => of_drew h
      go_region_held3 (fun w' => w'.cell? ⟨w.heap.size, 0, none⟩ = some (.slice A xs.length c) ∧ w'.cell? ⟨w.heap.size, 1, none⟩ = some (.slice B ws.length d) ∧ w'.cell? ⟨w4.heap.size, 0, none⟩ = some (.slice (some ⟨g4, 0, none⟩) xs.length xs.length) ∧ w'.cell? ⟨w4.heap.size, 1, none⟩ = some (.slice (some ⟨k4, 0, none⟩) ws.length ws.length) ∧ Below w6.heap.size w6 w')
        (first | exact ⟨ckB0, ckB1, ck70, ck71, (Below.refl _ _).drew⟩ | exact ⟨cell_on (bt2 hb7 hb8) ckB0, cell_on (bt2 hb7 hb8) ckB1, cell_on (bt2 hb7 hb8) ck70, cell_on (bt2 hb7 hb8) ck71, bt2 hb7 hb8⟩ | exact ⟨cell_on hb7 ckB0, cell_on hb7 ckB1, cell_on hb7 ck70, cell_on hb7 ck71, hb7⟩)
        (first
          | (go_at_call 17; refine (toDk A B c d xs ws _ (by first | exact hr | exact hr.drew) (by first | exact hq | exact hq.drew) lx lw).mono ?_; rintro e w7 ⟨g7, k7', rfl, r7, q7, hb7⟩; replace hb7 : Below w6.heap.size w6 w7 := (by first | exact hb7 | exact bu hb7))
          | (go_at_call 19; refine (eqDk _ _ _ _ _ _ _ _ xs ws _ (by first | exact r4.below hb7 | exact (r4.below hb7).drew) (by first | exact q4.below hb7 | exact (q4.below hb7).drew) (by first | exact r7 | exact r7.drew) (by first | exact q7 | exact q7.drew) lx lw).mono ?_; rintro e w8 ⟨rfl, hb8⟩; replace hb8 : Below w7.heap.size w7 w8 := (by first | exact hb8 | exact bu hb8)))
      have hbs := bt2 hb7 hb8
      clear ckB0 ckB1 ck60 ck61 ck70 ck71 ck80 ck81
      replace hr := hr.below hbs
      replace hq := hq.below hbs
      replace kB := kB.below hbs
      replace R6 := R6.below hbs
      replace Q6 := Q6.below hbs
      replace k6 := k6.below hbs
      replace r4 := r4.below hbs
      replace q4 := q4.below hbs
      replace F4 := F4.below hbs
      replace G4 := G4.below hbs
      replace k7 := k7.below hbs
      replace R8 := R8.below hbs
      replace Q8 := Q8.below hbs
      replace k8 := k8.below hbs
      replace hbb := bt2 hbb hbs
      have hsz8 := hbs.size
      clear hbs hb7 hb8 r7 q7
      have ckB0 : w8.cell? ⟨w.heap.size, 0, none⟩ = some (Value.slice A xs.length c) := kB.cell 0
      have ckB1 : w8.cell? ⟨w.heap.size, 1, none⟩ = some (Value.slice B ws.length d) := kB.cell 1
      have ck60 : w8.cell? ⟨w3.heap.size, 0, none⟩ = some (Value.slice (some ⟨g6, 0, none⟩) zs.length c6) := k6.cell 0
      have ck61 : w8.cell? ⟨w3.heap.size, 1, none⟩ = some (Value.slice none 0 0) := k6.cell 1
      have ck70 : w8.cell? ⟨w4.heap.size, 0, none⟩ = some (Value.slice (some ⟨g4, 0, none⟩) xs.length xs.length) := k7.cell 0
      have ck71 : w8.cell? ⟨w4.heap.size, 1, none⟩ = some (Value.slice (some ⟨k4, 0, none⟩) ws.length ws.length) := k7.cell 1
      have ck80 : w8.cell? ⟨w5.heap.size, 0, none⟩ = some (Value.slice (some ⟨g8, 0, none⟩) zs.length c8) := k8.cell 0
      have ck81 : w8.cell? ⟨w5.heap.size, 1, none⟩ = some (Value.slice none 0 0) := k8.cell 1
      clear bu
      go_wp2_with fail
      refine (markD_any g4 k4 xs.length ws.length _ _ 1 _ _ _ F4 G4 hgk4 lx lw (by omega)).mono ?_
      rintro e w9 ⟨rfl, hk⟩
      have hk9 := hk.size
      clear ckB0 ckB1 ck60 ck61 ck70 ck71 ck80 ck81
      clear r4 q4 F4 G4
      replace hbb := hk.under hbb (by omega) (by omega) hbb.size
      replace hr := hr0.below hbb
      replace hq := hq0.below hbb
      replace kB := hk.blk kB (by omega) (by omega)
      replace k6 := hk.blk k6 (by omega) (by omega)
      replace k7 := hk.blk k7 (by omega) (by omega)
      replace k8 := hk.blk k8 (by omega) (by omega)
      replace Q6 := hk.ri Q6 (by omega) (by omega)
      replace Q8 := hk.ri Q8 (by omega) (by omega)
      replace R6 := Q6.rl
      replace R8 := Q8.rl
      clear hk
      have ckB0 : w9.cell? ⟨w.heap.size, 0, none⟩ = some (Value.slice A xs.length c) := kB.cell 0
      have ckB1 : w9.cell? ⟨w.heap.size, 1, none⟩ = some (Value.slice B ws.length d) := kB.cell 1
      have ck60 : w9.cell? ⟨w3.heap.size, 0, none⟩ = some (Value.slice (some ⟨g6, 0, none⟩) zs.length c6) := k6.cell 0
      have ck61 : w9.cell? ⟨w3.heap.size, 1, none⟩ = some (Value.slice none 0 0) := k6.cell 1
      have ck70 : w9.cell? ⟨w4.heap.size, 0, none⟩ = some (Value.slice (some ⟨g4, 0, none⟩) xs.length xs.length) := k7.cell 0
      have ck71 : w9.cell? ⟨w4.heap.size, 1, none⟩ = some (Value.slice (some ⟨k4, 0, none⟩) ws.length ws.length) := k7.cell 1
      have ck80 : w9.cell? ⟨w5.heap.size, 0, none⟩ = some (Value.slice (some ⟨g8, 0, none⟩) zs.length c8) := k8.cell 0
      have ck81 : w9.cell? ⟨w5.heap.size, 1, none⟩ = some (Value.slice none 0 0) := k8.cell 1
      have hmk : ¬ ((((1 : Nat) : Int) + xs.length + 2 * ws.length) < 0) := by omega
      have hmk' : ¬ ((1 : Int) + xs.length + 2 * ws.length < 0) := by omega
      go_wp2_with fail
      clear hmk hmk'
      refine (eqDk _ _ _ _ _ _ _ _ zs [] _ R8 Rl.nil R6 Rl.nil (by omega) (by simp)).mono ?_
      rintro e w10 ⟨rfl, hbs⟩
      clear ckB0 ckB1 ck60 ck61 ck70 ck71 ck80 ck81
      replace hr := hr.below hbs
      replace hq := hq.below hbs
      replace kB := kB.below hbs
      replace R6 := R6.below hbs
      replace Q6 := Q6.below hbs
      replace k6 := k6.below hbs
      replace k7 := k7.below hbs
      replace R8 := R8.below hbs
      replace Q8 := Q8.below hbs
      replace k8 := k8.below hbs
      replace hbb := bt2 hbb hbs
      have hszw10 := hbs.size
      clear hbs
      have ckB0 : w10.cell? ⟨w.heap.size, 0, none⟩ = some (Value.slice A xs.length c) := kB.cell 0
      have ckB1 : w10.cell? ⟨w.heap.size, 1, none⟩ = some (Value.slice B ws.length d) := kB.cell 1
      have ck60 : w10.cell? ⟨w3.heap.size, 0, none⟩ = some (Value.slice (some ⟨g6, 0, none⟩) zs.length c6) := k6.cell 0
      have ck61 : w10.cell? ⟨w3.heap.size, 1, none⟩ = some (Value.slice none 0 0) := k6.cell 1
      have ck70 : w10.cell? ⟨w4.heap.size, 0, none⟩ = some (Value.slice (some ⟨g4, 0, none⟩) xs.length xs.length) := k7.cell 0
      have ck71 : w10.cell? ⟨w4.heap.size, 1, none⟩ = some (Value.slice (some ⟨k4, 0, none⟩) ws.length ws.length) := k7.cell 1
      have ck80 : w10.cell? ⟨w5.heap.size, 0, none⟩ = some (Value.slice (some ⟨g8, 0, none⟩) zs.length c8) := k8.cell 0
      have ck81 : w10.cell? ⟨w5.heap.size, 1, none⟩ = some (Value.slice none 0 0) := k8.cell 1
      go_wp2_with fail
      refine (markR_any g8 zs.length c8 c8 1 zs rfl _ Q8 (by omega) (by omega)).mono ?_
      rintro e w11 ⟨rfl, hg, hF⟩
      have hsz11 := hg.size
      clear ckB0 ckB1 ck60 ck61 ck70 ck71 ck80 ck81
      have hcl := Q8.le
      clear Q8 R8
      replace hbb := below_of_grown hbb hg (by omega) hbb.size
      replace hr := hr0.below hbb
      replace hq := hq0.below hbb
      replace kB := kB.kept hg (by simp; omega)
      replace k6 := k6.kept hg (by simp; omega)
      replace k7 := k7.kept hg (by simp; omega)
      replace k8 := k8.kept hg (by simp; omega)
      replace Q6 := Q6.kept hg (by simp; omega)
      replace R6 := Q6.rl
      clear hg
      have ckB0 : w11.cell? ⟨w.heap.size, 0, none⟩ = some (Value.slice A xs.length c) := kB.cell 0
      have ckB1 : w11.cell? ⟨w.heap.size, 1, none⟩ = some (Value.slice B ws.length d) := kB.cell 1
      have ck60 : w11.cell? ⟨w3.heap.size, 0, none⟩ = some (Value.slice (some ⟨g6, 0, none⟩) zs.length c6) := k6.cell 0
      have ck61 : w11.cell? ⟨w3.heap.size, 1, none⟩ = some (Value.slice none 0 0) := k6.cell 1
      have ck70 : w11.cell? ⟨w4.heap.size, 0, none⟩ = some (Value.slice (some ⟨g4, 0, none⟩) xs.length xs.length) := k7.cell 0
      have ck71 : w11.cell? ⟨w4.heap.size, 1, none⟩ = some (Value.slice (some ⟨k4, 0, none⟩) ws.length ws.length) := k7.cell 1
      have ck80 : w11.cell? ⟨w5.heap.size, 0, none⟩ = some (Value.slice (some ⟨g8, 0, none⟩) zs.length c8) := k8.cell 0
      have ck81 : w11.cell? ⟨w5.heap.size, 1, none⟩ = some (Value.slice none 0 0) := k8.cell 1
      go_wp2_with fail
      have hm1 : ¬ ((((1 : Nat) : Int) + zs.length) < 0) := by omega
      have hm2 : ¬ ((1 : Int) + zs.length < 0) := by omega
      have hm3 : ((1 : Int) + zs.length != 1 + zs.length) = false := by simp
      refine (heldR_any g8 zs.length c8 c8 1 _ hF hcl (by omega) (by omega)).mono ?_
      rintro e w12 ⟨rfl, hbs⟩
      clear ckB0 ckB1 ck60 ck61 ck70 ck71 ck80 ck81
      replace hr := hr.below hbs
      replace hq := hq.below hbs
      replace kB := kB.below hbs
      replace R6 := R6.below hbs
      replace Q6 := Q6.below hbs
      replace k6 := k6.below hbs
      replace k7 := k7.below hbs
      replace k8 := k8.below hbs
      replace hF := hF.below hbs
      replace hbb := bt2 hbb hbs
      have hszw12 := hbs.size
      clear hbs
      have ckB0 : w12.cell? ⟨w.heap.size, 0, none⟩ = some (Value.slice A xs.length c) := kB.cell 0
      have ckB1 : w12.cell? ⟨w.heap.size, 1, none⟩ = some (Value.slice B ws.length d) := kB.cell 1
      have ck60 : w12.cell? ⟨w3.heap.size, 0, none⟩ = some (Value.slice (some ⟨g6, 0, none⟩) zs.length c6) := k6.cell 0
      have ck61 : w12.cell? ⟨w3.heap.size, 1, none⟩ = some (Value.slice none 0 0) := k6.cell 1
      have ck70 : w12.cell? ⟨w4.heap.size, 0, none⟩ = some (Value.slice (some ⟨g4, 0, none⟩) xs.length xs.length) := k7.cell 0
      have ck71 : w12.cell? ⟨w4.heap.size, 1, none⟩ = some (Value.slice (some ⟨k4, 0, none⟩) ws.length ws.length) := k7.cell 1
      have ck80 : w12.cell? ⟨w5.heap.size, 0, none⟩ = some (Value.slice (some ⟨g8, 0, none⟩) zs.length c8) := k8.cell 0
      have ck81 : w12.cell? ⟨w5.heap.size, 1, none⟩ = some (Value.slice none 0 0) := k8.cell 1
      go_wp2_with fail
      refine (toDe A B c d xs ws _ hr hq lx lw).mono ?_
      rintro e w13 ⟨g13, k13, rfl, r13, q13, hbs, hg13, hk13, hgk13, F13, G13⟩
      clear ckB0 ckB1 ck60 ck61 ck70 ck71 ck80 ck81
      replace hr := hr.below hbs
      replace hq := hq.below hbs
      replace kB := kB.below hbs
      replace R6 := R6.below hbs
      replace Q6 := Q6.below hbs
      replace k6 := k6.below hbs
      replace k7 := k7.below hbs
      replace k8 := k8.below hbs
      replace hF := hF.below hbs
      replace hbb := bt2 hbb hbs
      have hsz13 := hbs.size
      clear hbs
      have ckB0 : w13.cell? ⟨w.heap.size, 0, none⟩ = some (Value.slice A xs.length c) := kB.cell 0
      have ckB1 : w13.cell? ⟨w.heap.size, 1, none⟩ = some (Value.slice B ws.length d) := kB.cell 1
      have ck60 : w13.cell? ⟨w3.heap.size, 0, none⟩ = some (Value.slice (some ⟨g6, 0, none⟩) zs.length c6) := k6.cell 0
      have ck61 : w13.cell? ⟨w3.heap.size, 1, none⟩ = some (Value.slice none 0 0) := k6.cell 1
      have ck70 : w13.cell? ⟨w4.heap.size, 0, none⟩ = some (Value.slice (some ⟨g4, 0, none⟩) xs.length xs.length) := k7.cell 0
      have ck71 : w13.cell? ⟨w4.heap.size, 1, none⟩ = some (Value.slice (some ⟨k4, 0, none⟩) ws.length ws.length) := k7.cell 1
      have ck80 : w13.cell? ⟨w5.heap.size, 0, none⟩ = some (Value.slice (some ⟨g8, 0, none⟩) zs.length c8) := k8.cell 0
      have ck81 : w13.cell? ⟨w5.heap.size, 1, none⟩ = some (Value.slice none 0 0) := k8.cell 1
      go_wp2_with fail
      refine (hI.out _ _ _ _ _ r13 q13 lx lw).mono ?_
      rintro e w14 ⟨A14, c14, rfl, hbs, R14, ho14⟩
      clear ckB0 ckB1 ck60 ck61 ck70 ck71 ck80 ck81
      replace hr := hr.below hbs
      replace hq := hq.below hbs
      replace kB := kB.below hbs
      replace R6 := R6.below hbs
      replace Q6 := Q6.below hbs
      replace k6 := k6.below hbs
      replace k7 := k7.below hbs
      replace k8 := k8.below hbs
      replace hF := hF.below hbs
      replace hbb := bt2 hbb hbs
      have hsz14 := hbs.size
      clear hbs ho14
      clear r13 q13 F13 G13 hg13 hk13 hgk13
      have ckB0 : w14.cell? ⟨w.heap.size, 0, none⟩ = some (Value.slice A xs.length c) := kB.cell 0
      have ckB1 : w14.cell? ⟨w.heap.size, 1, none⟩ = some (Value.slice B ws.length d) := kB.cell 1
      have ck60 : w14.cell? ⟨w3.heap.size, 0, none⟩ = some (Value.slice (some ⟨g6, 0, none⟩) zs.length c6) := k6.cell 0
      have ck61 : w14.cell? ⟨w3.heap.size, 1, none⟩ = some (Value.slice none 0 0) := k6.cell 1
      have ck70 : w14.cell? ⟨w4.heap.size, 0, none⟩ = some (Value.slice (some ⟨g4, 0, none⟩) xs.length xs.length) := k7.cell 0
      have ck71 : w14.cell? ⟨w4.heap.size, 1, none⟩ = some (Value.slice (some ⟨k4, 0, none⟩) ws.length ws.length) := k7.cell 1
      have ck80 : w14.cell? ⟨w5.heap.size, 0, none⟩ = some (Value.slice (some ⟨g8, 0, none⟩) zs.length c8) := k8.cell 0
      have ck81 : w14.cell? ⟨w5.heap.size, 1, none⟩ = some (Value.slice none 0 0) := k8.cell 1
      have hbx : Below w14.heap.size w14 (w14.alloc (.cells #[Value.slice A14 zs.length c14, Value.slice none 0 0] 30)) := (Below.refl _ _).alloc (Nat.le_refl _) _
      clear ckB0 ckB1 ck60 ck61 ck70 ck71 ck80 ck81
      replace hr := hr.below hbx
      replace hq := hq.below hbx
      replace kB := kB.below hbx
      replace R6 := R6.below hbx
      replace Q6 := Q6.below hbx
      replace k6 := k6.below hbx
      replace k7 := k7.below hbx
      replace k8 := k8.below hbx
      replace hF := hF.below hbx
      replace R14 := R14.below hbx
      replace hbb := bt2 hbb hbx
      have k12 := Blk.new w14 30 #[Value.slice A14 zs.length c14, Value.slice none 0 0]
      have hzk12 : w14.heap.size < (w14.alloc (.cells #[Value.slice A14 zs.length c14, Value.slice none 0 0] 30)).heap.size := by simp
      have ckB0 : (w14.alloc (.cells #[Value.slice A14 zs.length c14, Value.slice none 0 0] 30)).cell? ⟨w.heap.size, 0, none⟩ = some (Value.slice A xs.length c) := kB.cell 0
      have ckB1 : (w14.alloc (.cells #[Value.slice A14 zs.length c14, Value.slice none 0 0] 30)).cell? ⟨w.heap.size, 1, none⟩ = some (Value.slice B ws.length d) := kB.cell 1
      have ck60 : (w14.alloc (.cells #[Value.slice A14 zs.length c14, Value.slice none 0 0] 30)).cell? ⟨w3.heap.size, 0, none⟩ = some (Value.slice (some ⟨g6, 0, none⟩) zs.length c6) := k6.cell 0
      have ck61 : (w14.alloc (.cells #[Value.slice A14 zs.length c14, Value.slice none 0 0] 30)).cell? ⟨w3.heap.size, 1, none⟩ = some (Value.slice none 0 0) := k6.cell 1
      have ck70 : (w14.alloc (.cells #[Value.slice A14 zs.length c14, Value.slice none 0 0] 30)).cell? ⟨w4.heap.size, 0, none⟩ = some (Value.slice (some ⟨g4, 0, none⟩) xs.length xs.length) := k7.cell 0
      have ck71 : (w14.alloc (.cells #[Value.slice A14 zs.length c14, Value.slice none 0 0] 30)).cell? ⟨w4.heap.size, 1, none⟩ = some (Value.slice (some ⟨k4, 0, none⟩) ws.length ws.length) := k7.cell 1
      have ck80 : (w14.alloc (.cells #[Value.slice A14 zs.length c14, Value.slice none 0 0] 30)).cell? ⟨w5.heap.size, 0, none⟩ = some (Value.slice (some ⟨g8, 0, none⟩) zs.length c8) := k8.cell 0
      have ck81 : (w14.alloc (.cells #[Value.slice A14 zs.length c14, Value.slice none 0 0] 30)).cell? ⟨w5.heap.size, 1, none⟩ = some (Value.slice none 0 0) := k8.cell 1
      have ck120 : (w14.alloc (.cells #[Value.slice A14 zs.length c14, Value.slice none 0 0] 30)).cell? ⟨w14.heap.size, 0, none⟩ = some (Value.slice A14 zs.length c14) := k12.cell 0
      have ck121 : (w14.alloc (.cells #[Value.slice A14 zs.length c14, Value.slice none 0 0] 30)).cell? ⟨w14.heap.size, 1, none⟩ = some (Value.slice none 0 0) := k12.cell 1
      clear hbx
      go_wp2_with fail
      generalize w14.alloc (.cells #[Value.slice A14 zs.length c14, Value.slice none 0 0] 30) = w14x at hr hq kB R6 Q6 k6 k7 k8 hF R14 k12 hbb hzk12 ckB0 ckB1 ck60 ck61 ck70 ck71 ck80 ck81 ck120 ck121
      replace ck120 : w14x.cell? ⟨w14.heap.size, 0, none⟩ = some (Value.slice A14 zs.length c14) := ck120
      replace ck121 : w14x.cell? ⟨w14.heap.size, 1, none⟩ = some (Value.slice none 0 0) := ck121
      refine (eqDk _ _ _ _ _ _ _ _ zs [] _ R14 Rl.nil R6 Rl.nil (by omega) (by simp)).mono ?_
      rintro e w15 ⟨rfl, hbs⟩
      clear ckB0 ckB1 ck60 ck61 ck70 ck71 ck80 ck81 ck120 ck121
      replace hr := hr.below hbs
      replace hq := hq.below hbs
      replace kB := kB.below hbs
      replace R6 := R6.below hbs
      replace Q6 := Q6.below hbs
      replace k6 := k6.below hbs
      replace k7 := k7.below hbs
      replace k8 := k8.below hbs
      replace hF := hF.below hbs
      replace R14 := R14.below hbs
      replace k12 := k12.below hbs
      replace hbb := bt2 hbb hbs
      have hszw15 := hbs.size
      clear hbs
      have ckB0 : w15.cell? ⟨w.heap.size, 0, none⟩ = some (Value.slice A xs.length c) := kB.cell 0
      have ckB1 : w15.cell? ⟨w.heap.size, 1, none⟩ = some (Value.slice B ws.length d) := kB.cell 1
      have ck60 : w15.cell? ⟨w3.heap.size, 0, none⟩ = some (Value.slice (some ⟨g6, 0, none⟩) zs.length c6) := k6.cell 0
      have ck61 : w15.cell? ⟨w3.heap.size, 1, none⟩ = some (Value.slice none 0 0) := k6.cell 1
      have ck70 : w15.cell? ⟨w4.heap.size, 0, none⟩ = some (Value.slice (some ⟨g4, 0, none⟩) xs.length xs.length) := k7.cell 0
      have ck71 : w15.cell? ⟨w4.heap.size, 1, none⟩ = some (Value.slice (some ⟨k4, 0, none⟩) ws.length ws.length) := k7.cell 1
      have ck80 : w15.cell? ⟨w5.heap.size, 0, none⟩ = some (Value.slice (some ⟨g8, 0, none⟩) zs.length c8) := k8.cell 0
      have ck81 : w15.cell? ⟨w5.heap.size, 1, none⟩ = some (Value.slice none 0 0) := k8.cell 1
      have ck120 : w15.cell? ⟨w14.heap.size, 0, none⟩ = some (Value.slice A14 zs.length c14) := k12.cell 0
      have ck121 : w15.cell? ⟨w14.heap.size, 1, none⟩ = some (Value.slice none 0 0) := k12.cell 1
      go_wp2_with fail
      refine (heldR_any g8 zs.length c8 c8 1 _ hF hcl (by omega) (by omega)).mono ?_
      rintro e w16 ⟨rfl, hbs⟩
      clear ckB0 ckB1 ck60 ck61 ck70 ck71 ck80 ck81 ck120 ck121
      replace hr := hr.below hbs
      replace hq := hq.below hbs
      replace kB := kB.below hbs
      replace R6 := R6.below hbs
      replace Q6 := Q6.below hbs
      replace k6 := k6.below hbs
      replace k7 := k7.below hbs
      replace k8 := k8.below hbs
      replace hF := hF.below hbs
      replace R14 := R14.below hbs
      replace k12 := k12.below hbs
      replace hbb := bt2 hbb hbs
      have hszw16 := hbs.size
      clear hbs
      have ckB0 : w16.cell? ⟨w.heap.size, 0, none⟩ = some (Value.slice A xs.length c) := kB.cell 0
      have ckB1 : w16.cell? ⟨w.heap.size, 1, none⟩ = some (Value.slice B ws.length d) := kB.cell 1
      have ck60 : w16.cell? ⟨w3.heap.size, 0, none⟩ = some (Value.slice (some ⟨g6, 0, none⟩) zs.length c6) := k6.cell 0
      have ck61 : w16.cell? ⟨w3.heap.size, 1, none⟩ = some (Value.slice none 0 0) := k6.cell 1
      have ck70 : w16.cell? ⟨w4.heap.size, 0, none⟩ = some (Value.slice (some ⟨g4, 0, none⟩) xs.length xs.length) := k7.cell 0
      have ck71 : w16.cell? ⟨w4.heap.size, 1, none⟩ = some (Value.slice (some ⟨k4, 0, none⟩) ws.length ws.length) := k7.cell 1
      have ck80 : w16.cell? ⟨w5.heap.size, 0, none⟩ = some (Value.slice (some ⟨g8, 0, none⟩) zs.length c8) := k8.cell 0
      have ck81 : w16.cell? ⟨w5.heap.size, 1, none⟩ = some (Value.slice none 0 0) := k8.cell 1
      have ck120 : w16.cell? ⟨w14.heap.size, 0, none⟩ = some (Value.slice A14 zs.length c14) := k12.cell 0
      have ck121 : w16.cell? ⟨w14.heap.size, 1, none⟩ = some (Value.slice none 0 0) := k12.cell 1
      go_wp2_with fail
      go_ret
      exact ⟨rfl, hbb⟩

end Go.Proofs.Ytgabjepoooageaa
