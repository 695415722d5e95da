/-
  Disks: CrashDisk and SyncDisk of the program and of the reference hand back one and the same sectors. Conditions: the sectors and the writes read as lists.
-/
import Derived.Test.YtgabjepoooageaaApl
namespace Go.Proofs.Ytgabjepoooageaa
open Go.RowKit
set_option linter.unusedVariables false
set_option linter.unusedSimpArgs false

/-- 2 to the n-th, of n up to 8. -/
def p2 (n : Nat) : Nat := 2 ^ n
theorem p2_le {n : Nat} (h : n ≤ 8) : 1 ≤ p2 n ∧ p2 n ≤ 256 := by
  have h1 : (2 : Nat) ^ n ≤ 2 ^ 8 := Nat.pow_le_pow_right (by omega) h
  have h2 : 0 < (2 : Nat) ^ n := Nat.two_pow_pos n
  unfold p2
  omega
theorem shl_p2 {n : Nat} (h : n ≤ 8) : Op.shift .shl .i64 1 .i64 (n : Int) = pure (.int .i64 (p2 n : Int)) := by
  have e : n = 0 ∨ n = 1 ∨ n = 2 ∨ n = 3 ∨ n = 4 ∨ n = 5 ∨ n = 6 ∨ n = 7 ∨ n = 8 := by omega
  rcases e with rfl | rfl | rfl | rfl | rfl | rfl | rfl | rfl | rfl <;> rfl
theorem wrap_p2 {n : Nat} (h : n ≤ 8) : IntKind.i64.wrap (2 ^ n) = (p2 n : Int) := by
  have e : n = 0 ∨ n = 1 ∨ n = 2 ∨ n = 3 ∨ n = 4 ∨ n = 5 ∨ n = 6 ∨ n = 7 ∨ n = 8 := by omega
  rcases e with rfl | rfl | rfl | rfl | rfl | rfl | rfl | rfl | rfl <;> rfl

def CD (xs : List Int) (ws : List (Int × Int)) (q : Int) : List Int := if vd xs ws && rng q 0 ((p2 ws.length : Int) - 1) then ap xs ws q.toNat else []
theorem CD_bad {xs : List Int} {ws : List (Int × Int)} {q : Int} (h : vd xs ws = false) : CD xs ws q = [] := by unfold CD; rw [h]; rfl
theorem CD_no {xs : List Int} {ws : List (Int × Int)} {q : Int} (h : rng q 0 ((p2 ws.length : Int) - 1) = false) : CD xs ws q = [] := by unfold CD; rw [h, Bool.and_false]; rfl
theorem CD_yes {xs : List Int} {ws : List (Int × Int)} {q : Nat} (h : vd xs ws = true) (hq : q < p2 ws.length) : CD xs ws q = ap xs ws q := by
  unfold CD
  rw [h, rng_iff.2 (show 0 ≤ (q : Int) ∧ (q : Int) ≤ (p2 ws.length : Int) - 1 by omega)]
  rfl
/-- A disk handed back: new sectors, no writes that wait. -/
def DiskR (zs : List Int) (w : World) (e : Ending) (w' : World) : Prop :=
  ∃ v, e = .returned (.agg #[v, .slice none 0 0]) ∧ Below w.heap.size w w' ∧ w'.ownsRow w.heap.size 3 1 v zs.length (zs.flatMap encD)

theorem res_set {w w1 : World} {r T : Nat} {x0 x1 : Value} (h : Blk w1 r T #[x0, x1]) (hb : Below w.heap.size w w1) (hr : w.heap.size ≤ r) (u0 u1 : Value) :
    Blk ((w1.setCell ⟨r, 0, none⟩ u0).setCell ⟨r, 1, none⟩ u1) r T #[u0, u1] ∧ Below w.heap.size w ((w1.setCell ⟨r, 0, none⟩ u0).setCell ⟨r, 1, none⟩ u1) :=
  ⟨by simpa using (h.set 0 u0).set 1 u1, (hb.setCell hr _).setCell hr _⟩
theorem ri_far {g N : Nat} {xs : List Int} {w : World} {p : Addr} (h : Ri g N xs w) (hp : g ≠ p.block) (u : Value) : Ri g N xs (w.setCell p u) := by
  obtain ⟨arr, h1, h2⟩ := h
  exact ⟨arr, h1.far hp u, h2⟩

set_option maxHeartbeats 2000000 in
theorem cdI (A B : Option Addr) (c d : Nat) (xs : List Int) (ws : List (Int × Int)) (q : Int) (w : World) (hr : Rl encD 1 w A xs) (hq : Rl encW 2 w B ws) (hc : xs.length ≤ 1048576) (hd : ws.length ≤ 1048576) (hqr : -9223372036854775808 ≤ q ∧ q ≤ 9223372036854775807) :
    Calls Try.prog 28 #[.agg #[.slice A xs.length c, .slice B ws.length d], .int .i64 q] w (DiskR (CD xs ws q) w) := by
  have hb0 : Below w.heap.size w ((w.alloc (.cells #[.slice A xs.length c, .slice B ws.length d] 30)).alloc (.cells #[.slice none 0 0, .slice none 0 0] 30)) := by go_grown
  have kA := (Blk.new w 30 #[.slice A xs.length c, .slice B ws.length d]).alloc (.cells #[.slice none 0 0, .slice none 0 0] 30)
  have kR := Blk.new (w.alloc (.cells #[.slice A xs.length c, .slice B ws.length d] 30)) 30 #[.slice none 0 0, .slice none 0 0]
  simp only [World.size_alloc] at kR
  have hz0 : w.heap.size + 1 + 1 = ((w.alloc (.cells #[.slice A xs.length c, .slice B ws.length d] 30)).alloc (.cells #[.slice none 0 0, .slice none 0 0] 30)).heap.size := by simp
  have hz0' := hide hz0
  clear hz0
  cases hv : vd xs ws
  · have H := hide (CD_bad (q := q) hv)
    have hv' := hide hv
    clear hv
    go_enter Try.func28, Try.ntmps28
    go_wp2_with fail
    generalize (w.alloc (.cells #[.slice A xs.length c, .slice B ws.length d] 30)).alloc (.cells #[.slice none 0 0, .slice none 0 0] 30) = w0 at hb0 kA kR hz0'
    refine (vdI A B c d xs ws _ (hr.below hb0) (hq.below hb0) hc hd).mono ?_
    rintro e w1 ⟨rfl, hb1⟩
    rw [hv'.out]
    have kR1 := kR.below hb1
    have hbb := bt hb0 hb1 hb0.size
    have r0 : w1.cell? ⟨w.heap.size + 1, 0, none⟩ = some (.slice none 0 0) := kR1.cell 0
    have r1 : w1.cell? ⟨w.heap.size + 1, 1, none⟩ = some (.slice none 0 0) := kR1.cell 1
    have s0 := kR1.free 0
    have s1 := kR1.free 1
    go_wp2_with fail
    obtain ⟨kF, hbF⟩ := res_set kR1 hbb (by omega) (.slice none 0 0) (.slice none 0 0)
    generalize hF : World.setCell _ _ _ = wF at kF hbF ⊢
    have y0 : wF.cell? ⟨w.heap.size + 1, 0, none⟩ = some (.slice none 0 0) := kF.cell 0
    have y1 : wF.cell? ⟨w.heap.size + 1, 1, none⟩ = some (.slice none 0 0) := kF.cell 1
    refine bodyPost_ret (v := .agg #[.slice none 0 0, .slice none 0 0]) (by simp [results, Try.f28, go_sem, y0, y1] <;> rfl) rfl ?_
    exact ⟨_, rfl, hbF, by rw [H.out]; exact ow_nil _ _ _ _⟩
  · obtain ⟨l1, l2, l3, hN, hW⟩ := vd_parts hv
    have hW' := hide hW
    have hv' := hide hv
    clear hN hW
    have hP := p2_le l3
    have hsh := shl_p2 l3
    have hwr := wrap_p2 l3
    by_cases g1 : q < 0
    · have H := hide (CD_no (xs := xs) (ws := ws) (rng_no.2 (.inl g1)))
      clear hv
      go_enter Try.func28, Try.ntmps28
      go_wp2_with fail
      generalize (w.alloc (.cells #[.slice A xs.length c, .slice B ws.length d] 30)).alloc (.cells #[.slice none 0 0, .slice none 0 0] 30) = w0 at hb0 kA kR hz0'
      refine (vdI A B c d xs ws _ (hr.below hb0) (hq.below hb0) hc hd).mono ?_
      rintro e w1 ⟨rfl, hb1⟩
      rw [hv'.out]
      have kR1 := kR.below hb1
      have hbb := bt hb0 hb1 hb0.size
      have r0 : w1.cell? ⟨w.heap.size + 1, 0, none⟩ = some (.slice none 0 0) := kR1.cell 0
      have r1 : w1.cell? ⟨w.heap.size + 1, 1, none⟩ = some (.slice none 0 0) := kR1.cell 1
      have s0 := kR1.free 0
      have s1 := kR1.free 1
      go_wp2_with fail
      obtain ⟨kF, hbF⟩ := res_set kR1 hbb (by omega) (.slice none 0 0) (.slice none 0 0)
      generalize hF : World.setCell _ _ _ = wF at kF hbF ⊢
      have y0 : wF.cell? ⟨w.heap.size + 1, 0, none⟩ = some (.slice none 0 0) := kF.cell 0
      have y1 : wF.cell? ⟨w.heap.size + 1, 1, none⟩ = some (.slice none 0 0) := kF.cell 1
      refine bodyPost_ret (v := .agg #[.slice none 0 0, .slice none 0 0]) (by simp [results, Try.f28, go_sem, y0, y1] <;> rfl) rfl ?_
      exact ⟨_, rfl, hbF, by rw [H.out]; exact ow_nil _ _ _ _⟩
    · by_cases g2 : (p2 ws.length : Int) ≤ q
      · have H := hide (CD_no (xs := xs) (ws := ws) (rng_no.2 (.inr (show (p2 ws.length : Int) - 1 < q by omega))))
        clear hv
        generalize p2 ws.length = P at hP hsh hwr g2
        go_enter Try.func28, Try.ntmps28
        go_wp2_with fail
        generalize (w.alloc (.cells #[.slice A xs.length c, .slice B ws.length d] 30)).alloc (.cells #[.slice none 0 0, .slice none 0 0] 30) = w0 at hb0 kA kR hz0'
        refine (vdI A B c d xs ws _ (hr.below hb0) (hq.below hb0) hc hd).mono ?_
        rintro e w1 ⟨rfl, hb1⟩
        rw [hv'.out]
        have kR1 := kR.below hb1
        have hA1 : w1.cell? ⟨w.heap.size, 1, none⟩ = some (.slice B ws.length d) := (kA.below hb1).cell 1
        have hbb := bt hb0 hb1 hb0.size
        have r0 : w1.cell? ⟨w.heap.size + 1, 0, none⟩ = some (.slice none 0 0) := kR1.cell 0
        have r1 : w1.cell? ⟨w.heap.size + 1, 1, none⟩ = some (.slice none 0 0) := kR1.cell 1
        have s0 := kR1.free 0
        have s1 := kR1.free 1
        go_wp2_with fail
        obtain ⟨kF, hbF⟩ := res_set kR1 hbb (by omega) (.slice none 0 0) (.slice none 0 0)
        generalize hF : World.setCell _ _ _ = wF at kF hbF ⊢
        have y0 : wF.cell? ⟨w.heap.size + 1, 0, none⟩ = some (.slice none 0 0) := kF.cell 0
        have y1 : wF.cell? ⟨w.heap.size + 1, 1, none⟩ = some (.slice none 0 0) := kF.cell 1
        refine bodyPost_ret (v := .agg #[.slice none 0 0, .slice none 0 0]) (by simp [results, Try.f28, go_sem, y0, y1] <;> rfl) rfl ?_
        exact ⟨_, rfl, hbF, by rw [H.out]; exact ow_nil _ _ _ _⟩
      · obtain ⟨m, rfl⟩ : ∃ m : Nat, q = m := ⟨q.toNat, by omega⟩
        have hmP : m < p2 ws.length := by omega
        have g1' : decide ((m : Int) < 0) = false := by simp only [decide_eq_false_iff_not]; omega
        have H := hide (CD_yes (q := m) hv hmP)
        clear hv g1
        generalize p2 ws.length = P at hP hsh hwr g2 hmP
        go_enter Try.func28, Try.ntmps28
        go_wp2_with fail
        generalize (w.alloc (.cells #[.slice A xs.length c, .slice B ws.length d] 30)).alloc (.cells #[.slice none 0 0, .slice none 0 0] 30) = w0 at hb0 kA kR hz0'
        refine (vdI A B c d xs ws _ (hr.below hb0) (hq.below hb0) hc hd).mono ?_
        rintro e w1 ⟨rfl, hb1⟩
        rw [hv'.out]
        have kA1 := kA.below hb1
        have kR1 := kR.below hb1
        have hA0 : w1.cell? ⟨w.heap.size, 0, none⟩ = some (.slice A xs.length c) := kA1.cell 0
        have hA1 : w1.cell? ⟨w.heap.size, 1, none⟩ = some (.slice B ws.length d) := kA1.cell 1
        have hbb := bt hb0 hb1 hb0.size
        have hz1 := hb1.size
        have hz0'' : w.heap.size + 1 + 1 ≤ w0.heap.size := by have := hz0'.out; omega
        go_wp2_with fail
        refine (clI A c xs _ (hr.below hbb) hc).mono ?_
        rintro e w2 ⟨v, rfl, hb2, hown⟩
        obtain ⟨g, N, rfl, hg, hNm, hR⟩ := ri_of hown l1
        have hbb2 := bt2 hbb hb2
        have kA2 := kA1.below hb2
        have kR2 := kR1.below hb2
        have hA20 : w2.cell? ⟨w.heap.size, 0, none⟩ = some (.slice A xs.length c) := kA2.cell 0
        have hA21 : w2.cell? ⟨w.heap.size, 1, none⟩ = some (.slice B ws.length d) := kA2.cell 1
        have hz2 := hb2.size
        have hzA : w.heap.size < w2.heap.size := by omega
        have hzB : w.heap.size + 1 < w2.heap.size := by omega
        have hb3 : Below w2.heap.size w2 (w2.alloc (.cells #[.slice (some ⟨g, 0, none⟩) xs.length N, .slice none 0 0] 30)) := (Below.refl _ _).alloc (Nat.le_refl _) _
        have kE := Blk.new w2 30 #[.slice (some ⟨g, 0, none⟩) xs.length N, .slice none 0 0]
        have hR3 := hR.below hb3
        clear hsh hwr hA0 hA1 hown g2
        go_wp2_with fail
        generalize w2.alloc (.cells #[.slice (some ⟨g, 0, none⟩) xs.length N, .slice none 0 0] 30) = w3 at hb3 kE hR3
        have hz3 := hb3.size
        have hbb3 := bt2 hbb2 hb3
        have kA3 := kA2.below hb3
        have kR3 := kR2.below hb3
        have hgE : g < w2.heap.size := hR.lt
        have hE3 := kE.lt
        have hz3 := hb3.size
        clear hR kA1 kR1 kA2 kR2 hA20 hA21 hbb2 hb2 hz0' kA kR hbb
        go_loopw [31] (fun v wr => ∃ k : Nat, k ≤ ws.length ∧ v = .int .i64 k ∧ w3.grownBy wr (some g) ∧ Ri g N (apk xs ws m k) wr) (fun v _ => ws.length - (intOf v).toNat)
        case atStart => exact ⟨0, by omega, rfl, World.grownBy.refl _ _, hR3⟩
        case round =>
          obtain ⟨k, hk, rfl, hgr, hRk⟩ := hrel
          clear hR3
          have hbr : Below w.heap.size w wr := below_of_grown hbb3 hgr (by omega) (by omega)
          have kEr := kE.kept hgr (by simp; omega)
          have kRr := kR3.kept hgr (by simp; omega)
          have hzr := hgr.size
          have hE0 : wr.cell? ⟨w2.heap.size, 0, none⟩ = some (.slice (some ⟨g, 0, none⟩) xs.length N) := kEr.cell 0
          have hE1 : wr.cell? ⟨w2.heap.size, 1, none⟩ = some (.slice none 0 0) := kEr.cell 1
          by_cases hlt : k < ws.length
          · obtain ⟨b, off, rfl, c0, c1⟩ := (hq.below hbr).wr hlt
            obtain ⟨t, ht, htl, hn0, hn1⟩ := hW'.out k hlt
            have HY := hide (fun h => apk_yes (xs := xs) (q := m) hlt h)
            have HN := hide (fun h => apk_no (xs := xs) (ws := ws) (q := m) (k := k) h)
            have HL := hide (apk_len xs ws m k)
            have hi : (k : Int) < (ws.length : Int) := by omega
            generalize ws[k] = x at c0 c1 ht hn0 hn1 HY
            obtain ⟨x1, x2⟩ := x
            simp only at c0 c1 ht hn0 hn1 HY
            subst ht
            have hm : m / 2 ^ k ≤ 255 := Nat.le_trans (Nat.div_le_self _ _) (by omega)
            have hsh : (m : Int) / 2 ^ k = ((m / 2 ^ k : Nat) : Int) := by simp
            generalize m / 2 ^ k = u at hm hsh HY HN
            have hba : Below wr.heap.size wr (wr.alloc (.cells #[.int .i64 (t : Int), .int .i64 x2] 41)) := (Below.refl _ _).alloc (Nat.le_refl _) _
            have hga := grown_alloc hgr (.cells #[.int .i64 (t : Int), .int .i64 x2] 41)
            have hRa := hRk.below hba
            obtain ⟨cg, fg⟩ := hRk.cell (k := t) (by rw [HL.out]; exact htl)
            have hgr' : g < wr.heap.size := hRk.lt
            have hEr' : w2.heap.size < wr.heap.size := kEr.lt
            have hti : (t : Int) < (xs.length : Int) := by omega
            by_cases hbit : u % 2 = 1
            · have H' := hide (HY.out hbit)
              have e1 : (u : Int) % 2 = 1 := by omega
              have e2 : bits .and .i64 (u : Int) 1 = 1 := by rw [i64_and1]; exact e1
              clear HY HN hbit
              go_wp2_with fail
              go_roundw
              case rel => exact ⟨k + 1, by omega, by go_num, grown_alloc (grown_set hgr (.inl rfl) _) _, by rw [H'.out]; exact (hRk.set (by rw [HL.out]; exact htl) _).below ((Below.refl _ _).alloc (Nat.le_refl _) _)⟩
              case measure => simp [intOf]; omega
            · have H' := hide (HN.out hbit)
              have e1 : (u : Int) % 2 = 0 := by omega
              have e2 : bits .and .i64 (u : Int) 1 = 0 := by rw [i64_and1]; exact e1
              clear HY HN hbit
              go_wp2_with fail
              go_roundw
              case rel => exact ⟨k + 1, by omega, by go_num, hga, by rw [H'.out]; exact hRa⟩
              case measure => simp [intOf]; omega
          · obtain rfl : k = ws.length := by omega
            have r0 : wr.cell? ⟨w.heap.size + 1, 0, none⟩ = some (.slice none 0 0) := kRr.cell 0
            have r1 : wr.cell? ⟨w.heap.size + 1, 1, none⟩ = some (.slice none 0 0) := kRr.cell 1
            have s0 := kRr.free 0
            have s1 := kRr.free 1
            go_wp2_with fail
            obtain ⟨kF, hbF⟩ := res_set kRr hbr (by omega) (.slice (some ⟨g, 0, none⟩) xs.length N) (.slice none 0 0)
            have hRF := ri_far (ri_far hRk (p := ⟨w.heap.size + 1, 0, none⟩) (by simp; omega) (.slice (some ⟨g, 0, none⟩) xs.length N)) (p := ⟨w.heap.size + 1, 1, none⟩) (by simp; omega) (.slice none 0 0)
            generalize hF : World.setCell _ _ _ = wF at kF hbF hRF ⊢
            have y0 : wF.cell? ⟨w.heap.size + 1, 0, none⟩ = some (.slice (some ⟨g, 0, none⟩) xs.length N) := kF.cell 0
            have y1 : wF.cell? ⟨w.heap.size + 1, 1, none⟩ = some (.slice none 0 0) := kF.cell 1
            refine bodyPost_ret (v := .agg #[.slice (some ⟨g, 0, none⟩) xs.length N, .slice none 0 0]) (by simp [results, Try.f28, go_sem, y0, y1] <;> rfl) rfl ?_
            refine ⟨_, rfl, hbF, ?_⟩
            have h1 := hRF.own (B := w.heap.size) (by omega) hNm
            rw [apk_len] at h1
            rw [H.out, ap_len]
            exact h1

theorem own_form {w : World} {B e size n : Nat} {v : Value} {xs : List Value} (h : w.ownsRow B e size v n xs) : ∃ a m c, v = .slice a m c := by
  rcases h.2 with ⟨rfl, _⟩ | ⟨g, cap, cur, rfl, _⟩
  · exact ⟨_, _, _, rfl⟩
  · exact ⟨_, _, _, rfl⟩
/-- A row of the call's own behind a store below it. -/
theorem ow_res {w : World} {B e size n : Nat} {v : Value} {xs : List Value} {p : Addr} (h : w.ownsRow B e size v n xs) (hp : p.block < B) (u : Value) : (w.setCell p u).ownsRow B e size v n xs :=
  ow_kept (row := some p.block) h (grown_set (World.grownBy.refl _ _) (.inl rfl) u) (fun g e => by cases e; exact hp)

set_option maxHeartbeats 2000000 in
theorem cdS (A B : Option Addr) (c d : Nat) (xs : List Int) (ws : List (Int × Int)) (q : Int) (w : World) (hr : Rl encD 1 w A xs) (hq : Rl encW 2 w B ws) (hc : xs.length ≤ 1048576) (hd : ws.length ≤ 1048576) (hqr : -9223372036854775808 ≤ q ∧ q ≤ 9223372036854775807) :
    Calls Try.prog 31 #[.agg #[.slice A xs.length c, .slice B ws.length d], .int .i64 q] w (DiskR (CD xs ws q) w) := by
  have hb0 : Below w.heap.size w ((w.alloc (.cells #[.slice A xs.length c, .slice B ws.length d] 30)).alloc (.cells #[.slice none 0 0, .slice none 0 0] 30)) := by go_grown
  have kA := (Blk.new w 30 #[.slice A xs.length c, .slice B ws.length d]).alloc (.cells #[.slice none 0 0, .slice none 0 0] 30)
  have kR := Blk.new (w.alloc (.cells #[.slice A xs.length c, .slice B ws.length d] 30)) 30 #[.slice none 0 0, .slice none 0 0]
  simp only [World.size_alloc] at kR
  have hz0 : w.heap.size + 1 + 1 = ((w.alloc (.cells #[.slice A xs.length c, .slice B ws.length d] 30)).alloc (.cells #[.slice none 0 0, .slice none 0 0] 30)).heap.size := by simp
  have hz0' := hide hz0
  clear hz0
  cases hv : vd xs ws
  · have H := hide (CD_bad (q := q) hv)
    have hv' := hide hv
    clear hv
    go_enter Try.func31, Try.ntmps31
    go_wp2_with fail
    generalize (w.alloc (.cells #[.slice A xs.length c, .slice B ws.length d] 30)).alloc (.cells #[.slice none 0 0, .slice none 0 0] 30) = w0 at hb0 kA kR hz0'
    refine (vdS A B c d xs ws _ (hr.below hb0) (hq.below hb0) hc hd).mono ?_
    rintro e w1 ⟨rfl, hb1⟩
    rw [hv'.out]
    have kA1 := kA.below hb1
    have kR1 := kR.below hb1
    have hbb := bt hb0 hb1 hb0.size
    have hA0 : w1.cell? ⟨w.heap.size, 0, none⟩ = some (.slice A xs.length c) := kA1.cell 0
    have hA1 : w1.cell? ⟨w.heap.size, 1, none⟩ = some (.slice B ws.length d) := kA1.cell 1
    have r0 : w1.cell? ⟨w.heap.size + 1, 0, none⟩ = some (.slice none 0 0) := kR1.cell 0
    have r1 : w1.cell? ⟨w.heap.size + 1, 1, none⟩ = some (.slice none 0 0) := kR1.cell 1
    have s0 := kR1.free 0
    have s1 := kR1.free 1
    go_wp2_with fail
    obtain ⟨kF, hbF⟩ := res_set kR1 hbb (by omega) (.slice none 0 0) (.slice none 0 0)
    generalize hF : World.setCell _ _ _ = wF at kF hbF ⊢
    have y0 : wF.cell? ⟨w.heap.size + 1, 0, none⟩ = some (.slice none 0 0) := kF.cell 0
    have y1 : wF.cell? ⟨w.heap.size + 1, 1, none⟩ = some (.slice none 0 0) := kF.cell 1
    refine bodyPost_ret (v := .agg #[.slice none 0 0, .slice none 0 0]) (by simp [results, Try.f31, go_sem, y0, y1] <;> rfl) rfl ?_
    exact ⟨_, rfl, hbF, by rw [H.out]; exact ow_nil _ _ _ _⟩
  · obtain ⟨l1, l2, l3, hN, hW⟩ := vd_parts hv
    have hv' := hide hv
    clear hN hW
    have hP := p2_le l3
    have hsh := shl_p2 l3
    have hwr := wrap_p2 l3
    cases hg : rng q 0 ((p2 ws.length : Int) - 1)
    · have H := hide (CD_no (xs := xs) (ws := ws) hg)
      have hg' := hide hg
      clear hg hv
      generalize p2 ws.length = P at hP hsh hwr hg'
      go_enter Try.func31, Try.ntmps31
      go_wp2_with fail
      generalize (w.alloc (.cells #[.slice A xs.length c, .slice B ws.length d] 30)).alloc (.cells #[.slice none 0 0, .slice none 0 0] 30) = w0 at hb0 kA kR hz0'
      refine (vdS A B c d xs ws _ (hr.below hb0) (hq.below hb0) hc hd).mono ?_
      rintro e w1 ⟨rfl, hb1⟩
      rw [hv'.out]
      have kA1 := kA.below hb1
      have kR1 := kR.below hb1
      have hbb := bt hb0 hb1 hb0.size
      have hA0 : w1.cell? ⟨w.heap.size, 0, none⟩ = some (.slice A xs.length c) := kA1.cell 0
      have hA1 : w1.cell? ⟨w.heap.size, 1, none⟩ = some (.slice B ws.length d) := kA1.cell 1
      have r0 : w1.cell? ⟨w.heap.size + 1, 0, none⟩ = some (.slice none 0 0) := kR1.cell 0
      have r1 : w1.cell? ⟨w.heap.size + 1, 1, none⟩ = some (.slice none 0 0) := kR1.cell 1
      have s0 := kR1.free 0
      have s1 := kR1.free 1
      go_wp2_with fail
      refine (inR _ _ _ _).mono ?_
      rintro e w2 ⟨rfl, rfl⟩
      rw [hg'.out]
      go_wp2_with fail
      obtain ⟨kF, hbF⟩ := res_set kR1 hbb (by omega) (.slice none 0 0) (.slice none 0 0)
      generalize hF : World.setCell _ _ _ = wF at kF hbF ⊢
      have y0 : wF.cell? ⟨w.heap.size + 1, 0, none⟩ = some (.slice none 0 0) := kF.cell 0
      have y1 : wF.cell? ⟨w.heap.size + 1, 1, none⟩ = some (.slice none 0 0) := kF.cell 1
      refine bodyPost_ret (v := .agg #[.slice none 0 0, .slice none 0 0]) (by simp [results, Try.f31, go_sem, y0, y1] <;> rfl) rfl ?_
      exact ⟨_, rfl, hbF, by rw [H.out]; exact ow_nil _ _ _ _⟩
    · have hgq := rng_iff.1 hg
      obtain ⟨m, rfl⟩ : ∃ m : Nat, q = m := ⟨q.toNat, by omega⟩
      have H := hide (CD_yes (q := m) hv (by omega))
      have hg' := hide hg
      have hm255 : m ≤ 255 := by omega
      clear hg hv
      generalize p2 ws.length = P at hP hsh hwr hg' hgq
      go_enter Try.func31, Try.ntmps31
      go_wp2_with fail
      generalize (w.alloc (.cells #[.slice A xs.length c, .slice B ws.length d] 30)).alloc (.cells #[.slice none 0 0, .slice none 0 0] 30) = w0 at hb0 kA kR hz0'
      refine (vdS A B c d xs ws _ (hr.below hb0) (hq.below hb0) hc hd).mono ?_
      rintro e w1 ⟨rfl, hb1⟩
      rw [hv'.out]
      have kA1 := kA.below hb1
      have kR1 := kR.below hb1
      have hbb := bt hb0 hb1 hb0.size
      have hA0 : w1.cell? ⟨w.heap.size, 0, none⟩ = some (.slice A xs.length c) := kA1.cell 0
      have hA1 : w1.cell? ⟨w.heap.size, 1, none⟩ = some (.slice B ws.length d) := kA1.cell 1
      have r0 : w1.cell? ⟨w.heap.size + 1, 0, none⟩ = some (.slice none 0 0) := kR1.cell 0
      have r1 : w1.cell? ⟨w.heap.size + 1, 1, none⟩ = some (.slice none 0 0) := kR1.cell 1
      have s0 := kR1.free 0
      have s1 := kR1.free 1
      have hz0'' : w.heap.size + 1 + 1 ≤ w0.heap.size := by have := hz0'.out; omega
      have hz1 := hb1.size
      go_wp2_with fail
      refine (inR _ _ _ _).mono ?_
      rintro e w2 ⟨rfl, rfl⟩
      rw [hg'.out]
      go_wp2_with fail
      refine (apS A B c d xs ws m _ (hr.below hbb) (hq.below hbb) hv'.out hm255).mono ?_
      rintro e w2 ⟨v, rfl, hb2, hown⟩
      obtain ⟨va, vm, vc, rfl⟩ := own_form hown
      rw [← H.out] at hown
      have kR2 := kR1.below hb2
      have hbb2 := bt2 hbb hb2
      have r20 : w2.cell? ⟨w.heap.size + 1, 0, none⟩ = some (.slice none 0 0) := kR2.cell 0
      have r21 : w2.cell? ⟨w.heap.size + 1, 1, none⟩ = some (.slice none 0 0) := kR2.cell 1
      have s20 := kR2.free 0
      have s21 := kR2.free 1
      clear hr hq hA0 hA1 r0 r1 s0 s1 kA1 kR1 hsh hwr
      go_wp2_with fail
      obtain ⟨kF, hbF⟩ := res_set kR2 hbb2 (by omega) (.slice va vm vc) (.slice none 0 0)
      have hown' := ow_res (p := ⟨w.heap.size + 1, 1, none⟩) (ow_res (p := ⟨w.heap.size + 1, 0, none⟩) hown (by simp; omega) (.slice va vm vc)) (by simp; omega) (.slice none 0 0)
      generalize hF : World.setCell _ _ _ = wF at kF hbF hown' ⊢
      have y0 : wF.cell? ⟨w.heap.size + 1, 0, none⟩ = some (.slice va vm vc) := kF.cell 0
      have y1 : wF.cell? ⟨w.heap.size + 1, 1, none⟩ = some (.slice none 0 0) := kF.cell 1
      refine bodyPost_ret (v := .agg #[.slice va vm vc, .slice none 0 0]) (by simp [results, Try.f31, go_sem, y0, y1] <;> rfl) rfl ?_
      exact ⟨_, rfl, hbF, ow_mono hown' (by omega)⟩

/-- What SyncDisk makes. -/
def SD (xs : List Int) (ws : List (Int × Int)) : List Int := CD xs ws ((p2 ws.length : Int) - 1)
theorem SD_bad {xs : List Int} {ws : List (Int × Int)} (h : vd xs ws = false) : SD xs ws = [] := CD_bad h
theorem SD_is {xs : List Int} {ws : List (Int × Int)} {m : Nat} (hP : p2 ws.length = m + 1) (h : vd xs ws = true) : SD xs ws = ap xs ws m := by
  unfold SD
  rw [show (p2 ws.length : Int) - 1 = (m : Int) by omega]
  exact CD_yes h (by omega)
theorem SD_yes {xs : List Int} {ws : List (Int × Int)} (h : vd xs ws = true) : CD xs ws ((p2 ws.length : Int) - 1) = SD xs ws := rfl

set_option maxHeartbeats 2000000 in
theorem sdI (A B : Option Addr) (c d : Nat) (xs : List Int) (ws : List (Int × Int)) (w : World) (hr : Rl encD 1 w A xs) (hq : Rl encW 2 w B ws) (hc : xs.length ≤ 1048576) (hd : ws.length ≤ 1048576) :
    Calls Try.prog 29 #[.agg #[.slice A xs.length c, .slice B ws.length d]] w (DiskR (SD xs ws) w) := by
  have hb0 : Below w.heap.size w ((w.alloc (.cells #[.slice A xs.length c, .slice B ws.length d] 30)).alloc (.cells #[.slice none 0 0, .slice none 0 0] 30)) := by go_grown
  have kA := (Blk.new w 30 #[.slice A xs.length c, .slice B ws.length d]).alloc (.cells #[.slice none 0 0, .slice none 0 0] 30)
  have kR := Blk.new (w.alloc (.cells #[.slice A xs.length c, .slice B ws.length d] 30)) 30 #[.slice none 0 0, .slice none 0 0]
  simp only [World.size_alloc] at kR
  have hz0 : w.heap.size + 1 + 1 = ((w.alloc (.cells #[.slice A xs.length c, .slice B ws.length d] 30)).alloc (.cells #[.slice none 0 0, .slice none 0 0] 30)).heap.size := by simp
  have hz0' := hide hz0
  clear hz0
  cases hv : vd xs ws
  · have H := hide (SD_bad hv)
    have hv' := hide hv
    clear hv
    go_enter Try.func29, Try.ntmps29
    go_wp2_with fail
    generalize (w.alloc (.cells #[.slice A xs.length c, .slice B ws.length d] 30)).alloc (.cells #[.slice none 0 0, .slice none 0 0] 30) = w0 at hb0 kA kR hz0'
    refine (vdI A B c d xs ws _ (hr.below hb0) (hq.below hb0) hc hd).mono ?_
    rintro e w1 ⟨rfl, hb1⟩
    rw [hv'.out]
    have kA1 := kA.below hb1
    have kR1 := kR.below hb1
    have hbb := bt hb0 hb1 hb0.size
    have hA0 : w1.cell? ⟨w.heap.size, 0, none⟩ = some (.slice A xs.length c) := kA1.cell 0
    have hA1 : w1.cell? ⟨w.heap.size, 1, none⟩ = some (.slice B ws.length d) := kA1.cell 1
    have r0 : w1.cell? ⟨w.heap.size + 1, 0, none⟩ = some (.slice none 0 0) := kR1.cell 0
    have r1 : w1.cell? ⟨w.heap.size + 1, 1, none⟩ = some (.slice none 0 0) := kR1.cell 1
    have s0 := kR1.free 0
    have s1 := kR1.free 1
    go_wp2_with fail
    obtain ⟨kF, hbF⟩ := res_set kR1 hbb (by omega) (.slice none 0 0) (.slice none 0 0)
    generalize hF : World.setCell _ _ _ = wF at kF hbF ⊢
    have y0 : wF.cell? ⟨w.heap.size + 1, 0, none⟩ = some (.slice none 0 0) := kF.cell 0
    have y1 : wF.cell? ⟨w.heap.size + 1, 1, none⟩ = some (.slice none 0 0) := kF.cell 1
    refine bodyPost_ret (v := .agg #[.slice none 0 0, .slice none 0 0]) (by simp [results, Try.f29, go_sem, y0, y1] <;> rfl) rfl ?_
    exact ⟨_, rfl, hbF, by rw [H.out]; exact ow_nil _ _ _ _⟩
  · obtain ⟨l1, l2, l3, hN, hW⟩ := vd_parts hv
    have hv' := hide hv
    clear hN hW
    have hP := p2_le l3
    have hsh := shl_p2 l3
    have hwr := wrap_p2 l3
    have hwr2 : IntKind.i64.wrap ((p2 ws.length : Int) - 1) = (p2 ws.length : Int) - 1 := IntWalk.i64_in _ (by omega)
    have H := hide (SD_yes hv)
    obtain ⟨P, hPe⟩ : ∃ P, p2 ws.length = P := ⟨_, rfl⟩
    rw [hPe] at hP hsh hwr hwr2 H
    have hPe' := hide hPe
    clear hPe hv
    go_enter Try.func29, Try.ntmps29
    go_wp2_with fail
    generalize (w.alloc (.cells #[.slice A xs.length c, .slice B ws.length d] 30)).alloc (.cells #[.slice none 0 0, .slice none 0 0] 30) = w0 at hb0 kA kR hz0'
    refine (vdI A B c d xs ws _ (hr.below hb0) (hq.below hb0) hc hd).mono ?_
    rintro e w1 ⟨rfl, hb1⟩
    rw [hv'.out]
    have kA1 := kA.below hb1
    have kR1 := kR.below hb1
    have hbb := bt hb0 hb1 hb0.size
    have hA0 : w1.cell? ⟨w.heap.size, 0, none⟩ = some (.slice A xs.length c) := kA1.cell 0
    have hA1 : w1.cell? ⟨w.heap.size, 1, none⟩ = some (.slice B ws.length d) := kA1.cell 1
    have r0 : w1.cell? ⟨w.heap.size + 1, 0, none⟩ = some (.slice none 0 0) := kR1.cell 0
    have r1 : w1.cell? ⟨w.heap.size + 1, 1, none⟩ = some (.slice none 0 0) := kR1.cell 1
    have s0 := kR1.free 0
    have s1 := kR1.free 1
    have hz0'' : w.heap.size + 1 + 1 ≤ w0.heap.size := by have := hz0'.out; omega
    have hz1 := hb1.size
    go_wp2_with fail
    go_still_tail 6, (by kernel_rfl)
    generalize hw5 : ({ heap := w1.heap, tape := w1.tape, drawn := w1.drawn + 1, os := w1.os, output := w1.output } : World) = w5
    have hb5 : Below w1.heap.size w1 w5 := by subst hw5; exact (Below.refl _ _).drew
    clear hw5 hsh hwr hwr2
    have hbb5 := bt2 hbb hb5
    have hz5 := hb5.size
    have kR5 := kR1.below hb5
    go_wp2_with fail
    refine (cdI A B c d xs ws _ _ (hr.below hbb5) (hq.below hbb5) hc hd (by omega)).mono ?_
    rintro e w2 ⟨v, rfl, hb2, hown⟩
    obtain ⟨va, vm, vc, rfl⟩ := own_form hown
    rw [H.out] at hown
    have kR2 := kR5.below hb2
    have hbb2 := bt2 hbb5 hb2
    have r20 : w2.cell? ⟨w.heap.size + 1, 0, none⟩ = some (.slice none 0 0) := kR2.cell 0
    have r21 : w2.cell? ⟨w.heap.size + 1, 1, none⟩ = some (.slice none 0 0) := kR2.cell 1
    have s20 := kR2.free 0
    have s21 := kR2.free 1
    clear hr hq hA0 hA1 r0 r1 s0 s1 kA1 kR1
    go_wp2_with fail
    obtain ⟨kF, hbF⟩ := res_set kR2 hbb2 (by omega) (.slice va vm vc) (.slice none 0 0)
    have hown' := ow_res (p := ⟨w.heap.size + 1, 1, none⟩) (ow_res (p := ⟨w.heap.size + 1, 0, none⟩) hown (by simp; omega) (.slice va vm vc)) (by simp; omega) (.slice none 0 0)
    generalize hF : World.setCell _ _ _ = wF at kF hbF hown' ⊢
    have y0 : wF.cell? ⟨w.heap.size + 1, 0, none⟩ = some (.slice va vm vc) := kF.cell 0
    have y1 : wF.cell? ⟨w.heap.size + 1, 1, none⟩ = some (.slice none 0 0) := kF.cell 1
    refine bodyPost_ret (v := .agg #[.slice va vm vc, .slice none 0 0]) (by simp [results, Try.f29, go_sem, y0, y1] <;> rfl) rfl ?_
    exact ⟨_, rfl, hbF, ow_mono hown' (by omega)⟩

set_option maxHeartbeats 2000000 in
theorem sdS (A B : Option Addr) (c d : Nat) (xs : List Int) (ws : List (Int × Int)) (w : World) (hr : Rl encD 1 w A xs) (hq : Rl encW 2 w B ws) (hc : xs.length ≤ 1048576) (hd : ws.length ≤ 1048576) :
    Calls Try.prog 34 #[.agg #[.slice A xs.length c, .slice B ws.length d]] w (DiskR (SD xs ws) w) := by
  have hb0 : Below w.heap.size w ((w.alloc (.cells #[.slice A xs.length c, .slice B ws.length d] 30)).alloc (.cells #[.slice none 0 0, .slice none 0 0] 30)) := by go_grown
  have kA := (Blk.new w 30 #[.slice A xs.length c, .slice B ws.length d]).alloc (.cells #[.slice none 0 0, .slice none 0 0] 30)
  have kR := Blk.new (w.alloc (.cells #[.slice A xs.length c, .slice B ws.length d] 30)) 30 #[.slice none 0 0, .slice none 0 0]
  simp only [World.size_alloc] at kR
  have hz0 : w.heap.size + 1 + 1 = ((w.alloc (.cells #[.slice A xs.length c, .slice B ws.length d] 30)).alloc (.cells #[.slice none 0 0, .slice none 0 0] 30)).heap.size := by simp
  have hz0' := hide hz0
  clear hz0
  cases hv : vd xs ws
  · have H := hide (SD_bad hv)
    have hv' := hide hv
    clear hv
    go_enter Try.func34, Try.ntmps34
    go_wp2_with fail
    generalize (w.alloc (.cells #[.slice A xs.length c, .slice B ws.length d] 30)).alloc (.cells #[.slice none 0 0, .slice none 0 0] 30) = w0 at hb0 kA kR hz0'
    refine (vdS A B c d xs ws _ (hr.below hb0) (hq.below hb0) hc hd).mono ?_
    rintro e w1 ⟨rfl, hb1⟩
    rw [hv'.out]
    have kA1 := kA.below hb1
    have kR1 := kR.below hb1
    have hbb := bt hb0 hb1 hb0.size
    have hA0 : w1.cell? ⟨w.heap.size, 0, none⟩ = some (.slice A xs.length c) := kA1.cell 0
    have hA1 : w1.cell? ⟨w.heap.size, 1, none⟩ = some (.slice B ws.length d) := kA1.cell 1
    have r0 : w1.cell? ⟨w.heap.size + 1, 0, none⟩ = some (.slice none 0 0) := kR1.cell 0
    have r1 : w1.cell? ⟨w.heap.size + 1, 1, none⟩ = some (.slice none 0 0) := kR1.cell 1
    have s0 := kR1.free 0
    have s1 := kR1.free 1
    go_wp2_with fail
    obtain ⟨kF, hbF⟩ := res_set kR1 hbb (by omega) (.slice none 0 0) (.slice none 0 0)
    generalize hF : World.setCell _ _ _ = wF at kF hbF ⊢
    have y0 : wF.cell? ⟨w.heap.size + 1, 0, none⟩ = some (.slice none 0 0) := kF.cell 0
    have y1 : wF.cell? ⟨w.heap.size + 1, 1, none⟩ = some (.slice none 0 0) := kF.cell 1
    refine bodyPost_ret (v := .agg #[.slice none 0 0, .slice none 0 0]) (by simp [results, Try.f34, go_sem, y0, y1] <;> rfl) rfl ?_
    exact ⟨_, rfl, hbF, by rw [H.out]; exact ow_nil _ _ _ _⟩
  · obtain ⟨l1, l2, l3, hN, hW⟩ := vd_parts hv
    have hv' := hide hv
    clear hN hW
    have hP := p2_le l3
    have hsh := shl_p2 l3
    have hwr := wrap_p2 l3
    have hwr2 : IntKind.i64.wrap ((p2 ws.length : Int) - 1) = (p2 ws.length : Int) - 1 := IntWalk.i64_in _ (by omega)
    have H := hide (SD_yes hv)
    obtain ⟨P, hPe⟩ : ∃ P, p2 ws.length = P := ⟨_, rfl⟩
    rw [hPe] at hP hsh hwr hwr2 H
    have hPe' := hide hPe
    clear hPe hv
    go_enter Try.func34, Try.ntmps34
    go_wp2_with fail
    generalize (w.alloc (.cells #[.slice A xs.length c, .slice B ws.length d] 30)).alloc (.cells #[.slice none 0 0, .slice none 0 0] 30) = w0 at hb0 kA kR hz0'
    refine (vdS A B c d xs ws _ (hr.below hb0) (hq.below hb0) hc hd).mono ?_
    rintro e w1 ⟨rfl, hb1⟩
    rw [hv'.out]
    have kA1 := kA.below hb1
    have kR1 := kR.below hb1
    have hbb := bt hb0 hb1 hb0.size
    have hA0 : w1.cell? ⟨w.heap.size, 0, none⟩ = some (.slice A xs.length c) := kA1.cell 0
    have hA1 : w1.cell? ⟨w.heap.size, 1, none⟩ = some (.slice B ws.length d) := kA1.cell 1
    have r0 : w1.cell? ⟨w.heap.size + 1, 0, none⟩ = some (.slice none 0 0) := kR1.cell 0
    have r1 : w1.cell? ⟨w.heap.size + 1, 1, none⟩ = some (.slice none 0 0) := kR1.cell 1
    have s0 := kR1.free 0
    have s1 := kR1.free 1
    have hz0'' : w.heap.size + 1 + 1 ≤ w0.heap.size := by have := hz0'.out; omega
    have hz1 := hb1.size
    go_wp2_with fail
    go_still_tail 6, (by kernel_rfl)
    generalize hw5 : ({ heap := w1.heap, tape := w1.tape, drawn := w1.drawn + 1, os := w1.os, output := w1.output } : World) = w5
    have hb5 : Below w1.heap.size w1 w5 := by subst hw5; exact (Below.refl _ _).drew
    clear hw5 hsh hwr hwr2
    have hbb5 := bt2 hbb hb5
    have hz5 := hb5.size
    have kR5 := kR1.below hb5
    go_wp2_with fail
    obtain ⟨m, rfl⟩ : ∃ m : Nat, P = m + 1 := ⟨P - 1, by omega⟩
    rw [show (((m + 1 : Nat)) : Int) - 1 = (m : Int) by omega]
    refine (apS A B c d xs ws m _ (hr.below hbb5) (hq.below hbb5) hv'.out (by omega)).mono ?_
    rintro e w2 ⟨v, rfl, hb2, hown⟩
    obtain ⟨va, vm, vc, rfl⟩ := own_form hown
    rw [← SD_is hPe'.out hv'.out] at hown
    have kR2 := kR5.below hb2
    have hbb2 := bt2 hbb5 hb2
    have r20 : w2.cell? ⟨w.heap.size + 1, 0, none⟩ = some (.slice none 0 0) := kR2.cell 0
    have r21 : w2.cell? ⟨w.heap.size + 1, 1, none⟩ = some (.slice none 0 0) := kR2.cell 1
    have s20 := kR2.free 0
    have s21 := kR2.free 1
    clear hr hq hA0 hA1 r0 r1 s0 s1 kA1 kR1
    go_wp2_with fail
    obtain ⟨kF, hbF⟩ := res_set kR2 hbb2 (by omega) (.slice va vm vc) (.slice none 0 0)
    have hown' := ow_res (p := ⟨w.heap.size + 1, 1, none⟩) (ow_res (p := ⟨w.heap.size + 1, 0, none⟩) hown (by simp; omega) (.slice va vm vc)) (by simp; omega) (.slice none 0 0)
    generalize hF : World.setCell _ _ _ = wF at kF hbF hown' ⊢
    have y0 : wF.cell? ⟨w.heap.size + 1, 0, none⟩ = some (.slice va vm vc) := kF.cell 0
    have y1 : wF.cell? ⟨w.heap.size + 1, 1, none⟩ = some (.slice none 0 0) := kF.cell 1
    refine bodyPost_ret (v := .agg #[.slice va vm vc, .slice none 0 0]) (by simp [results, Try.f34, go_sem, y0, y1] <;> rfl) rfl ?_
    exact ⟨_, rfl, hbF, ow_mono hown' (by omega)⟩

end Go.Proofs.Ytgabjepoooageaa
