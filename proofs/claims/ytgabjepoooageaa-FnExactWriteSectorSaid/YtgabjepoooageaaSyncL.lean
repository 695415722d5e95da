/-
  The statement that synced disks lose nothing. Conditions: the argument reads as a list of bytes.
-/
import Derived.Test.YtgabjepoooageaaLawD
namespace Go.Proofs.Ytgabjepoooageaa
open Go.RowKit
set_option linter.unusedVariables false
set_option linter.unusedSimpArgs false

theorem rd_sd {xs : List Int} {ws : List (Int × Int)} {k : Nat} (h : vd xs ws = true) (hk : k < xs.length) : ∃ y, (SD xs ws)[k]? = some y ∧ RD xs ws (k : Int) = y ∧ RD (SD xs ws) [] (k : Int) = y := by
  obtain ⟨y, hy, hr⟩ := RD_yes h hk
  have hl := SD_len h
  obtain ⟨z, hz, hq⟩ := RD_yes (sd_vd h) (k := k) (by omega)
  rw [sd_nil (sd_vd h), hy] at hz
  exact ⟨y, hy, hr, by rw [hq]; exact (Option.some.inj hz).symm⟩
def yes2 (b : Bool) (w : World) (e : Ending) (w' : World) : Prop := e = .returned (.bool b) ∧ Below w.heap.size w w'

set_option maxHeartbeats 4000000 in
theorem syncD_law (A : Option Addr) (c : Nat) (zs : List Int) (w : World) (h : Bytes w A c zs) :
    Calls Try.prog 9 #[.slice A zs.length c] w fun e w' => e = .returned (.bool true) ∧ Below w.heap.size w w' := by
  have hcap := h.cap
  have hmax := h.max
  by_cases hl : 1048576 < zs.length
  · go_enter Try.func9, Try.ntmps9
    go_wp2
    go_ret
    exact ⟨rfl, Below.refl _ _⟩
  · go_enter Try.func9, Try.ntmps9
    go_wp2_with fail
    refine (drawSD A c zs _ h).mono ?_
    rintro e w1 ⟨A, c, xs, Z, d, ws, rfl, hD, hb1⟩
    have hla := hD.la
    have hlb := hD.lb
    have hS : Hid (∀ A B c d W, Rl encD 1 W A xs → Rl encW 2 W B ws → Calls Try.prog 34 #[.agg #[.slice A xs.length c, .slice B ws.length d]] W (DiskQ (SD xs ws) W)) := fun A B c d W h1 h2 => (sdS A B c d xs ws W h1 h2 (by omega) (by omega)).mono fun _ _ h => disk_q h
    have hI : Hid (∀ A B c d W, Rl encD 1 W A xs → Rl encW 2 W B ws → Calls Try.prog 29 #[.agg #[.slice A xs.length c, .slice B ws.length d]] W (DiskQ (SD xs ws) W)) := fun A B c d W h1 h2 => (sdI A B c d xs ws W h1 h2 (by omega) (by omega)).mono fun _ _ h => disk_q h
    have hV : Hid (∀ A B c d W, Rl encD 1 W A xs → Rl encW 2 W B ws → Calls Try.prog 18 #[.agg #[.slice A xs.length c, .slice B ws.length d]] W (yes2 (vd xs ws) W)) := fun A B c d W h1 h2 => vdI A B c d xs ws W h1 h2 (by omega) (by omega)
    have l2 := SD_le (xs := xs) (ws := ws)
    have hsl : Hid (vd xs ws = true → (SD xs ws).length = xs.length) := fun h => SD_len h
    have hRD : Hid (vd xs ws = true → ∀ k : Nat, k < xs.length → ∃ y, (SD xs ws)[k]? = some y ∧ (∀ A B c d W, Rl encD 1 W A xs → Rl encW 2 W B ws → Calls Try.prog 21 #[.agg #[.slice A xs.length c, .slice B ws.length d], .int .i64 (k : Int)] W fun e w' => e = .returned (.int .i64 y) ∧ Below W.heap.size W w') ∧
        (∀ A c W, Rl encD 1 W A (SD xs ws) → Calls Try.prog 21 #[.agg #[.slice A (SD xs ws).length c, .slice none 0 0], .int .i64 (k : Int)] W fun e w' => e = .returned (.int .i64 y) ∧ Below W.heap.size W w')) := fun h k hk => by
      obtain ⟨y, h1, h2, h3⟩ := rd_sd h hk
      refine ⟨y, h1, fun A B c d W r q => ?_, fun A c W r => ?_⟩
      · have := rdI A B c d xs ws k W r q (by omega) (by omega) (by omega)
        rwa [h2] at this
      · have := rdI A none c 0 (SD xs ws) [] k W r Rl.nil (by omega) (by simp) (by omega)
        rwa [h3] at this
    have hN : Hid (vd xs ws = true → ∀ A c W, Rl encD 1 W A (SD xs ws) → Calls Try.prog 29 #[.agg #[.slice A (SD xs ws).length c, .slice none 0 0]] W (DiskQ (SD xs ws) W)) := fun h A c W r => by
      have := (sdI A none c 0 (SD xs ws) [] W r Rl.nil (by omega) (by simp)).mono fun _ _ h => disk_q h
      rwa [sd_nil (sd_vd h)] at this
    generalize SD xs ws = S at hS hI l2 hsl hRD hN
    generalize vd xs ws = V at hV hsl hRD hN
    have hb2 : Below w1.heap.size w1 (w1.alloc (.cells #[.slice A xs.length c, .slice Z ws.length d] 30)) := (Below.refl _ _).alloc (Nat.le_refl _) _
    have k3 := Blk.new w1 30 #[.slice A xs.length c, .slice Z ws.length d]
    have c0 : (w1.alloc (.cells #[.slice A xs.length c, .slice Z ws.length d] 30)).cell? ⟨w1.heap.size, 0, none⟩ = some (.slice A xs.length c) := k3.cell 0
    have c1 : (w1.alloc (.cells #[.slice A xs.length c, .slice Z ws.length d] 30)).cell? ⟨w1.heap.size, 1, none⟩ = some (.slice Z ws.length d) := k3.cell 1
    have hD2 := hD.below hb2
    have hbb := bt2 hb1 hb2
    clear hD hb1 hb2
    go_wp2_with fail
    generalize w1.alloc (.cells #[.slice A xs.length c, .slice Z ws.length d] 30) = w2 at k3 c0 c1 hD2 hbb
    refine (hI.out _ _ _ _ _ hD2.a.rl hD2.b.rl).mono ?_
    rintro e w3 ⟨A5, c5, rfl, hb3, L5⟩
    have hb4 : Below w3.heap.size w3 (w3.alloc (.cells #[.slice A5 S.length c5, .slice none 0 0] 30)) := (Below.refl _ _).alloc (Nat.le_refl _) _
    have k5 := Blk.new w3 30 #[.slice A5 S.length c5, .slice none 0 0]
    have d0 := cell_on (bt2 hb3 hb4) c0
    have d1 := cell_on (bt2 hb3 hb4) c1
    have e0 : (w3.alloc (.cells #[.slice A5 S.length c5, .slice none 0 0] 30)).cell? ⟨w3.heap.size, 0, none⟩ = some (.slice A5 S.length c5) := k5.cell 0
    have e1 : (w3.alloc (.cells #[.slice A5 S.length c5, .slice none 0 0] 30)).cell? ⟨w3.heap.size, 1, none⟩ = some (.slice none 0 0) := k5.cell 1
    have L5' := L5.below hb4
    have hD4 := hD2.below (bt2 hb3 hb4)
    have hbb4 := bt2 hbb (bt2 hb3 hb4)
    clear L5 hD2 hbb hb3 hb4 c0 c1
    go_wp2_with fail
    generalize w3.alloc (.cells #[.slice A5 S.length c5, .slice none 0 0] 30) = w4 at k5 d0 d1 e0 e1 L5' hD4 hbb4
    have hbx : Below w4.heap.size w4 w4.drew := (Below.refl _ _).drew
    go_region_held3 (fun w' => w'.cell? ⟨w1.heap.size, 0, none⟩ = some (.slice A xs.length c) ∧ w'.cell? ⟨w1.heap.size, 1, none⟩ = some (.slice Z ws.length d) ∧ w'.cell? ⟨w3.heap.size, 0, none⟩ = some (.slice A5 S.length c5) ∧ w'.cell? ⟨w3.heap.size, 1, none⟩ = some (.slice none 0 0))
      (first | exact ⟨cell_on hbx d0, cell_on hbx d1, cell_on hbx e0, cell_on hbx e1⟩)
      (first
        | (go_at_call 34; refine (hS.out _ _ _ _ _ (hD4.a.rl.below hbx) (hD4.b.rl.below hbx)).mono ?_; rintro e wq ⟨A6, c6, rfl, hq, L6⟩; replace hbx := bt2 hbx hq)
        | (go_at_call 27; refine (eqlD _ _ _ _ _ _ _ _ S [] _ (L5'.rl.below hbx) Rl.nil L6.rl Rl.nil (by omega) (by simp)).mono ?_; rintro e wr ⟨rfl, hq⟩; replace hbx := bt2 hbx hq)
        | (go_at_call 18; refine (hV.out _ _ _ _ _ (hD4.a.rl.below hbx) (hD4.b.rl.below hbx)).mono ?_; rintro e ws' ⟨rfl, hq⟩; replace hbx := bt2 hbx hq))
    have hbb5 := bt2 hbb4 hbx
    have f0 := cell_on hbx d0
    have f1 := cell_on hbx d1
    have g0 := cell_on hbx e0
    have g1 := cell_on hbx e1
    have hD5 := hD4.below hbx
    have L5s := L5'.below hbx
    have h34 := k5.lt
    clear hbx d0 d1 e0 e1 hD4 L5' hbb4 k5 k3 hV hI L6
    cases V
    · clear hRD hN hsl
      go_wp2_with fail
      have hbx : Below ws'.heap.size ws' ws'.drew := (Below.refl _ _).drew
      go_region_held3 (fun w' => w'.cell? ⟨w1.heap.size, 0, none⟩ = some (.slice A xs.length c) ∧ w'.cell? ⟨w1.heap.size, 1, none⟩ = some (.slice Z ws.length d) ∧ w'.cell? ⟨w3.heap.size, 0, none⟩ = some (.slice A5 S.length c5) ∧ w'.cell? ⟨w3.heap.size, 1, none⟩ = some (.slice none 0 0))
        (first | exact ⟨cell_on hbx f0, cell_on hbx f1, cell_on hbx g0, cell_on hbx g1⟩)
        (first
          | (go_at_call 34; refine (hS.out _ _ _ _ _ (hD5.a.rl.below hbx) (hD5.b.rl.below hbx)).mono ?_; rintro e wq ⟨A6, c6, rfl, hq, L6⟩; replace hbx := bt2 hbx hq)
          | (go_at_call 27; refine (eqlD _ _ _ _ _ _ _ _ S [] _ (L5s.rl.below hbx) Rl.nil L6.rl Rl.nil (by omega) (by simp)).mono ?_; rintro e wr ⟨rfl, hq⟩; replace hbx := bt2 hbx hq))
      go_wp2_with fail
      go_ret
      exact ⟨rfl, bt2 hbb5 hbx⟩
    · have hRD' := hide (hRD.out rfl)
      have hN' := hide (hN.out rfl)
      have hsl' := hide (hsl.out rfl)
      clear hRD hN hsl hS
      go_wp2_with fail
      go_loopw [5] (fun v wr => ∃ k : Nat, k ≤ xs.length ∧ v = .int .i64 k ∧ Below ws'.heap.size ws' wr) (fun v _ => xs.length - (intOf v).toNat)
      case atStart => exact ⟨0, by omega, rfl, Below.refl _ _⟩
      case round =>
        obtain ⟨k, hk, rfl, hb⟩ := hrel
        have p0 := cell_on hb f0
        have p1 := cell_on hb f1
        have r0 := cell_on hb g0
        have r1 := cell_on hb g1
        have hD6 := hD5.below hb
        have L6' := L5s.below hb
        by_cases hlt : k < xs.length
        · obtain ⟨y, hy, hRd, hRe⟩ := hRD'.out k hlt
          have hRd' := hide hRd
          have hRe' := hide hRe
          clear hRd hRe hN'
          have hkS : k < S.length := by have := hsl'.out; omega
          have hkSi : (k : Int) < (S.length : Int) := by omega
          have hki : (k : Int) < (xs.length : Int) := by omega
          obtain ⟨b, off, rfl, cy⟩ := L6'.rl.num hkS
          have hye : S[k] = y := Option.some.inj ((List.getElem?_eq_getElem hkS).symm.trans hy)
          rw [hye] at cy
          clear hye hy
          have n1 : (y != y) = false := by simp
          have hbx : Below wr.heap.size wr wr.drew := (Below.refl _ _).drew
          go_wp2_with fail
          go_region_held3 (fun w' => w'.cell? ⟨w1.heap.size, 0, none⟩ = some (.slice A xs.length c) ∧ w'.cell? ⟨w1.heap.size, 1, none⟩ = some (.slice Z ws.length d) ∧ w'.cell? ⟨w3.heap.size, 0, none⟩ = some (.slice (some ⟨b, off, none⟩) S.length c5) ∧ w'.cell? ⟨w3.heap.size, 1, none⟩ = some (.slice none 0 0) ∧ w'.cell? ⟨b, off + k, none⟩ = some (.int .i64 y))
            (first | exact ⟨cell_on hbx p0, cell_on hbx p1, cell_on hbx r0, cell_on hbx r1, cell_on hbx cy⟩)
            (first
              | (go_at_call 21; ((with_reducible refine (hRd'.out _ _ _ _ _ (hD6.a.rl.below hbx) (hD6.b.rl.below hbx)).mono ?_); rintro e wq ⟨rfl, hq⟩); replace hbx := bt2 hbx hq)
              | (go_at_call 21; ((with_reducible refine (hRe'.out _ _ _ (L6'.rl.below hbx)).mono ?_); rintro e wq ⟨rfl, hq⟩); replace hbx := bt2 hbx hq))
          go_wp2_with fail
          go_roundw
          case rel =>
            (repeat apply Exists.intro)
            exact ⟨⟨k + 1, by omega, by go_num, bt2 hb hbx⟩, rfl⟩
          case measure => simp [intOf]; omega
        · obtain rfl : k = xs.length := by omega
          clear hRD' hk hlt
          have hbx : Below wr.heap.size wr wr.drew := (Below.refl _ _).drew
          go_wp2_with fail
          go_region_held3 (fun w' => w'.cell? ⟨w3.heap.size, 0, none⟩ = some (.slice A5 S.length c5) ∧ w'.cell? ⟨w3.heap.size, 1, none⟩ = some (.slice none 0 0))
            (first | exact ⟨cell_on hbx r0, cell_on hbx r1⟩)
            (first
              | (go_at_call 29; refine (hN'.out _ _ _ (L6'.rl.below hbx)).mono ?_; rintro e wq ⟨A7, c7, rfl, hq, L7⟩; replace hbx := bt2 hbx hq)
              | (go_at_call 27; refine (eqlD _ _ _ _ _ _ _ _ S [] _ L7.rl Rl.nil (L6'.rl.below hbx) Rl.nil (by omega) (by simp)).mono ?_; rintro e wt ⟨rfl, hq⟩; replace hbx := bt2 hbx hq))
          go_wp2_with fail
          go_ret
          exact ⟨rfl, bt2 (bt2 hbb5 hb) hbx⟩

end Go.Proofs.Ytgabjepoooageaa
