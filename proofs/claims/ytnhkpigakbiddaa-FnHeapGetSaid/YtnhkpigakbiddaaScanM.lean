/-
  The marks of a heap and of its places, as the exact statement about HeapScan makes and reads them. Conditions: blocks that are known whole; marks stay far below the int's bound.
-/
import Derived.Test.YtnhkpigakbiddaaScanS
import Derived.Test.YtnhkpigakbiddaaMk
namespace Go.Proofs.Ytnhkpigakbiddaa
open Go.RowKit
set_option linter.unusedVariables false
set_option linter.unusedSimpArgs false

def mkq (q n : Nat) : List (Int × Int) := (List.range n).map fun (i : Nat) => ((q : Int) + 2 * (i : Int), (q : Int) + 2 * (i : Int) + 1)
theorem mkq_len (q n : Nat) : (mkq q n).length = n := by simp [mkq]
theorem mkq_at {q n k : Nat} (h : k < n) : (mkq q n)[k]'(by rw [mkq_len]; exact h) = ((q : Int) + 2 * k, (q : Int) + 2 * k + 1) := by simp [mkq]

set_option maxHeartbeats 1000000 in
theorem markQ_any (g n c N q : Nat) (cs : List Value) (w : World) (hF : Fil g 60 (N * 2) 0 cs w) (hn : n ≤ N) (hm : q + 2 * n ≤ 100000000) :
    Calls Try.prog 41 #[.slice (some ⟨g, 0, none⟩) n c, .int .i64 (q : Int)] w fun e w' => e = .returned (.int .i64 ((q : Int) + 2 * n)) ∧ w.grownBy w' (some g) ∧ Fil g 60 (N * 2) (n * 2) ((mkq q n).flatMap encQ) w' := by
  have hF0 : Fil g 60 (N * 2) 0 ((mkq q n).flatMap encQ) w := by
    obtain ⟨arr, h1, h2, _⟩ := hF
    exact ⟨arr, h1, h2, fun p u h => absurd h (by omega)⟩
  clear hF
  go_enter Try.func41, Try.ntmps41
  go_wp2_with fail
  go_loopw [1, 5] (fun u v wr => ∃ k : Nat, k ≤ n ∧ v = .int .i64 k ∧ u = .int .i64 ((q : Int) + 2 * k) ∧ w.grownBy wr (some g) ∧ Fil g 60 (N * 2) (k * 2) ((mkq q n).flatMap encQ) wr) (fun _ v _ => n - (intOf v).toNat)
  case atStart => exact ⟨0, by omega, rfl, by simp, World.grownBy.refl _ _, hF0⟩
  case round =>
    obtain ⟨k, hk, rfl, rfl, hg, hf⟩ := hrel
    clear hF0
    by_cases hlt : k < n
    · have hkn : (k : Int) < (n : Int) := by omega
      have hat := mkq_at (q := q) hlt
      have e0 := flat_at (xs := mkq q n) encQ_len (k := k) (by rw [mkq_len]; exact hlt) (j := 0) (by rw [hat]; rfl)
      have e1 := flat_at (xs := mkq q n) encQ_len (k := k) (by rw [mkq_len]; exact hlt) (j := 1) (by rw [hat]; rfl)
      have e0h := hide e0
      have e1h := hide e1
      clear e0 e1 hat
      obtain ⟨⟨u0, q0⟩, f0⟩ := hf.cell (p := k * 2) (by omega)
      obtain ⟨⟨u1, q1⟩, f1⟩ := hf.cell (p := k * 2 + 1) (by omega)
      go_wp2_with fail
      go_roundw
      case rel =>
        refine ⟨k + 1, by omega, by go_num, by rw [Value.int.injEq]; exact ⟨rfl, by omega⟩, grown_set (grown_set hg (.inl rfl) _) (.inl rfl) _, ?_⟩
        have := (hf.step (by omega) e0h.out).step (by omega) e1h.out
        rw [show (k + 1) * 2 = k * 2 + 1 + 1 by omega]
        exact this
      case measure => simp [intOf]; omega
    · obtain rfl : k = n := by omega
      go_wp2
      go_ret
      exact ⟨rfl, hg, hf⟩

set_option maxHeartbeats 1000000 in
theorem heldQ_any (g n c N q : Nat) (w : World) (hf : Fil g 60 (N * 2) (n * 2) ((mkq q n).flatMap encQ) w) (hn : n ≤ N) (hm : q + 2 * n ≤ 100000000) :
    Calls Try.prog 42 #[.slice (some ⟨g, 0, none⟩) n c, .int .i64 (q : Int)] w fun e w' => e = .returned (.int .i64 ((q : Int) + 2 * n)) ∧ w = w' := by
  go_enter Try.func42, Try.ntmps42
  go_wp2_with fail
  go_loop [1, 5] (fun u v => ∃ k : Nat, k ≤ n ∧ v = .int .i64 k ∧ u = .int .i64 ((q : Int) + 2 * k)) (fun _ v => n - (intOf v).toNat)
  case atStart => exact ⟨0, by omega, rfl, by simp⟩
  case round =>
    obtain ⟨k, hk, rfl, rfl⟩ := hrel
    by_cases hlt : k < n
    · have hkn : (k : Int) < (n : Int) := by omega
      have hat := mkq_at (q := q) hlt
      have c0 := hf.at (p := k * 2) (by omega) (u := .int .i64 ((q : Int) + 2 * k)) (flat_at (xs := mkq q n) encQ_len (k := k) (by rw [mkq_len]; exact hlt) (j := 0) (by rw [hat]; rfl))
      have c1 := hf.at (p := k * 2 + 1) (by omega) (u := .int .i64 ((q : Int) + 2 * k + 1)) (flat_at (xs := mkq q n) encQ_len (k := k) (by rw [mkq_len]; exact hlt) (j := 1) (by rw [hat]; rfl))
      clear hat
      have n2 : ((q : Int) + 2 * k != (q : Int) + 2 * k) = false := by simp
      have n3 : ((q : Int) + 2 * k + 1 != (q : Int) + 2 * k + 1) = false := by simp
      go_wp2_with fail
      go_round
      case rel => exact ⟨k + 1, by omega, by go_num, by rw [Value.int.injEq]; exact ⟨rfl, by omega⟩⟩
      case measure => simp [intOf]; omega
    · obtain rfl : k = n := by omega
      go_wp2
      go_ret
      exact ⟨rfl, rfl⟩
theorem markQ0 (A : Option Addr) (c : Nat) (q : Int) (w : World) :
    Calls Try.prog 41 #[.slice A 0 c, .int .i64 q] w fun e w' => e = .returned (.int .i64 q) ∧ w = w' := by
  go_enter Try.func41, Try.ntmps41
  go_wp2_with fail
  go_loop [1, 5] (fun u v => u = .int .i64 q ∧ v = .int .i64 0) (fun u v => 0)
  case atStart => exact ⟨rfl, rfl⟩
  case round =>
    obtain ⟨rfl, rfl⟩ := hrel
    go_wp2_with fail
    go_ret
    exact ⟨rfl, rfl⟩
theorem heldQ0 (A : Option Addr) (c : Nat) (q : Int) (w : World) :
    Calls Try.prog 42 #[.slice A 0 c, .int .i64 q] w fun e w' => e = .returned (.int .i64 q) ∧ w = w' := by
  go_enter Try.func42, Try.ntmps42
  go_wp2_with fail
  go_loop [1, 5] (fun u v => u = .int .i64 q ∧ v = .int .i64 0) (fun u v => 0)
  case atStart => exact ⟨rfl, rfl⟩
  case round =>
    obtain ⟨rfl, rfl⟩ := hrel
    go_wp2_with fail
    go_ret
    exact ⟨rfl, rfl⟩

/-- All blocks but those of lo .. hi are as they were. -/
structure Mid (lo hi : Nat) (w w' : World) : Prop where
  os : w'.os = w.os
  tape : w'.tape = w.tape
  output : w'.output = w.output
  size : w.heap.size ≤ w'.heap.size
  block : ∀ k, k < w.heap.size → k < lo ∨ hi ≤ k → w'.heap[k]? = w.heap[k]?
section
variable {w w' w'' : World} {lo hi : Nat}
theorem Mid.refl (lo hi : Nat) (w : World) : Mid lo hi w w := ⟨rfl, rfl, rfl, Nat.le_refl _, fun _ _ _ => rfl⟩
theorem Mid.trans (h : Mid lo hi w w') (k : Mid lo hi w' w'') : Mid lo hi w w'' :=
  ⟨k.os.trans h.os, k.tape.trans h.tape, k.output.trans h.output, Nat.le_trans h.size k.size, fun i hi hl => (k.block i (Nat.lt_of_lt_of_le hi h.size) hl).trans (h.block i hi hl)⟩
theorem Mid.grown {g : Nat} (k : w.grownBy w' (some g)) (h1 : lo ≤ g) (h2 : g < hi) : Mid lo hi w w' :=
  ⟨k.os, k.tape, k.output, k.size, fun i hi hl => k.block i hi (by simp; omega)⟩
theorem Mid.of_below (h : Below w.heap.size w w') : Mid lo hi w w' := ⟨h.os, h.tape, h.output, h.size, fun i hi _ => h.block i hi⟩
theorem Mid.blk {b : Nat} {t : TypeId} {cs : Array Value} (k : Mid lo hi w w') (hb : Blk w b t cs) (h : b < lo ∨ hi ≤ b) : Blk w' b t cs := (k.block b hb.lt h).trans hb
theorem Mid.fil {b N o : Nat} {t : TypeId} {cs : List Value} (k : Mid lo hi w w') (hb : Fil b t N o cs w) (h : b < lo ∨ hi ≤ b) : Fil b t N o cs w' := by
  obtain ⟨arr, h1, h2⟩ := hb
  exact ⟨arr, k.blk h1 h, h2⟩
theorem Mid.under {a : World} {B : Nat} (k : Mid lo hi w w') (hb : Below B a w) (h1 : B ≤ lo) (hB : B ≤ w.heap.size) : Below B a w' :=
  ⟨k.os.trans hb.os, k.tape.trans hb.tape, k.output.trans hb.output, Nat.le_trans hb.size k.size, fun i hi => (k.block i (by omega) (.inl (by omega))).trans (hb.block i hi)⟩
end

/-- Block b is a row of n slots, whatever they hold. -/
def Slo (w : World) (b n : Nat) : Prop := ∃ arr : Array Value, Blk w b 43 arr ∧ arr.size = n * 2
theorem Slo.kept {w w' : World} {b n g m : Nat} (h : Slo w b m) (hg : w.grownBy w' (some g)) (h1 : Slo w g n) (h2 : Slo w' g n) : Slo w' b m := by
  by_cases e : b = g
  · subst e
    obtain ⟨arr, a1, a2⟩ := h
    obtain ⟨arr', b1, b2⟩ := h1
    unfold Blk at a1 b1
    rw [a1] at b1
    injection b1 with b1
    injection b1 with b1
    subst b1
    obtain rfl : m = n := by omega
    exact h2
  · obtain ⟨arr, a1, a2⟩ := h
    exact ⟨arr, a1.kept hg (by simpa using e), a2⟩
theorem Slo.below {w w' : World} {b n : Nat} (h : Slo w b n) (hb : Below w.heap.size w w') : Slo w' b n := by
  obtain ⟨arr, a1, a2⟩ := h
  exact ⟨arr, a1.below hb, a2⟩
theorem Slo.cell {w : World} {b n k : Nat} (h : Slo w b n) (hk : k < n * 2) : (∃ u, w.cell? ⟨b, k, none⟩ = some u) ∧ w.frozen? ⟨b, k, none⟩ = false := by
  obtain ⟨arr, a1, a2⟩ := h
  exact ⟨⟨arr[k]'(by omega), (a1.cell k).trans (Array.getElem?_eq_getElem (by omega))⟩, a1.free k⟩
theorem Slo.set {w : World} {b n : Nat} (h : Slo w b n) (k : Nat) (u : Value) : Slo (w.setCell ⟨b, k, none⟩ u) b n := by
  obtain ⟨arr, a1, a2⟩ := h
  exact ⟨_, a1.set k u, by simpa using a2⟩
theorem Slo.of_fil {w : World} {b n : Nat} {cs : List Value} (h : Fil b 43 (n * 2) (n * 2) cs w) : Slo w b n := by
  obtain ⟨arr, a1, a2, _⟩ := h
  exact ⟨arr, a1, a2⟩

set_option maxHeartbeats 1000000 in
theorem markS_any (g n c q : Nat) (w : World) (hF : Slo w g n) (hm : q + 2 * n ≤ 9000000) :
    Calls Try.prog 70 #[.slice (some ⟨g, 0, none⟩) n c, .int .i64 (q : Int)] w fun e w' => e = .returned (.int .i64 ((q : Int) + 2 * n)) ∧ w.grownBy w' (some g) ∧ Slo w' g n := by
  go_enter Try.func70, Try.ntmps70
  go_wp2_with fail
  go_loopw [1, 5] (fun u v wr => ∃ k : Nat, k ≤ n ∧ v = .int .i64 k ∧ u = .int .i64 ((q : Int) + 2 * k) ∧ w.grownBy wr (some g) ∧ Slo wr g n) (fun _ v _ => n - (intOf v).toNat)
  case atStart => exact ⟨0, by omega, rfl, by simp, World.grownBy.refl _ _, hF⟩
  case round =>
    obtain ⟨k, hk, rfl, rfl, hg, hf⟩ := hrel
    clear hF
    by_cases hlt : k < n
    · have hkn : (k : Int) < (n : Int) := by omega
      have hM := fun W => mark_any (q + 2 * k + 1) W (by omega) (by omega)
      rw [show (((q + 2 * k + 1 : Nat)) : Int) = (q : Int) + 2 * k + 1 by omega] at hM
      generalize mt (q + 2 * k + 1) = x at hM
      have hM' := hide hM
      clear hM
      obtain ⟨⟨u0, q0⟩, f0⟩ := hf.cell (k := k * 2) (by omega)
      go_wp2_with fail
      refine (hM'.out _).mono ?_
      rintro e w1 ⟨rfl, hb1⟩
      generalize hW : wr.setCell ⟨g, k * 2, none⟩ _ = W at hb1
      have hfW : Slo W g n := by rw [← hW]; exact hf.set _ _
      have hgW : w.grownBy W (some g) := by rw [← hW]; exact grown_set hg (.inl rfl) _
      clear hW
      have hf1 := hfW.below hb1
      have hg1 := grown_trans hgW (grown_below hb1 (some g))
      obtain ⟨⟨u1, q1⟩, f1⟩ := hf1.cell (k := k * 2 + 1) (by omega)
      clear q0 f0 hf hg hb1 hfW hgW
      go_wp2_with fail
      go_roundw
      case rel => exact ⟨k + 1, by omega, by go_num, by rw [Value.int.injEq]; exact ⟨rfl, by omega⟩, grown_set hg1 (.inl rfl) _, hf1.set _ _⟩
      case measure => simp [intOf]; omega
    · obtain rfl : k = n := by omega
      go_wp2
      go_ret
      exact ⟨rfl, hg, hf⟩

/-- The pages' rows of slots lie between lo and hi. -/
def Pgs (lo hi g : Nat) (gs : List Pg) (w : World) : Prop := ∀ p ∈ gs, ∃ b, p.A = some ⟨b, 0, none⟩ ∧ lo ≤ b ∧ b < hi ∧ g < b ∧ Slo w b p.xs.length
set_option maxHeartbeats 1000000 in
theorem markPs_any (g q lo hi c : Nat) (gs : List Pg) (w : World) (hr : Rl encG 1 w (some ⟨g, 0, none⟩) gs) (hp : Pgs lo hi g gs w) (hlo : lo ≤ g) (hn : gs.length ≤ 1048576) (hm : q + 2 * tG gs gs.length ≤ 8000000) :
    Calls Try.prog 63 #[.slice (some ⟨g, 0, none⟩) gs.length c, .int .i64 (q : Int)] w fun e w' => ∃ r : Nat, e = .returned (.int .i64 (r : Int)) ∧ r ≤ 8000000 ∧ Mid lo hi w w' := by
  go_enter Try.func63, Try.ntmps63
  go_wp2_with fail
  go_loopw [1, 5] (fun u v wr => ∃ (k t : Nat), k ≤ gs.length ∧ v = .int .i64 k ∧ u = .int .i64 (t : Int) ∧ t ≤ q + 2 * tG gs k ∧ Mid lo hi w wr ∧ Rl encG 1 wr (some ⟨g, 0, none⟩) gs ∧ Hid (Pgs lo hi g gs wr)) (fun _ v _ => gs.length - (intOf v).toNat)
  case atStart => exact ⟨0, q, by omega, rfl, rfl, by omega, Mid.refl _ _ _, hr, hp⟩
  case round =>
    obtain ⟨k, t, hk, rfl, rfl, ht, hM, hrr, hpp⟩ := hrel
    clear hr hp
    by_cases hlt : k < gs.length
    · have hpg := hpp.out _ (List.getElem_mem hlt)
      obtain ⟨b, off, hA, hc⟩ := hrr.at hlt
      obtain ⟨rfl, rfl⟩ : g = b ∧ 0 = off := by simpa using hA
      have c0 := hc 0 _ rfl
      rw [Nat.mul_one, Nat.add_zero, Nat.zero_add] at c0
      have hst := hide (tG_step hlt)
      have hmono := hide (tG_mono (ps := gs) (k := k + 1) (by omega))
      have hki : (k : Int) < (gs.length : Int) := by omega
      generalize gs[k] = x at hpg c0 hst
      obtain ⟨xA, xc, xx⟩ := x
      obtain ⟨b, hxA, h1, h2, h3, h4⟩ := hpg
      simp only at hxA c0 h4 hst
      subst hxA
      have hx : xx.length ≤ totP xx := by unfold totP; omega
      have hbound : t + 2 * xx.length ≤ q + 2 * tG gs (k + 1) := by have := hst.out; omega
      have hbound2 : t + 2 * xx.length ≤ 8000000 := by have := hmono.out; omega
      clear hc hA hx
      go_wp2_with fail
      refine (markS_any b xx.length xc t _ h4 (by omega)).mono ?_
      rintro e w1 ⟨rfl, hg1, hf1⟩
      have hM1 := hM.trans (Mid.grown hg1 h1 h2)
      have hr1 := hrr.kept hg1 (fun g' e => by cases e; simp; omega)
      have hp1 : Hid (Pgs lo hi g gs w1) := fun p hp => by
        obtain ⟨b', a1, a2, a3, a4, a5⟩ := hpp.out p hp
        exact ⟨b', a1, a2, a3, a4, a5.kept hg1 h4 hf1⟩
      clear hpp hrr hM
      rw [show (t : Int) + 2 * (xx.length : Int) = ((t + 2 * xx.length : Nat) : Int) by omega]
      go_wp2_with fail
      go_roundw
      case rel => exact ⟨k + 1, t + 2 * xx.length, by omega, by go_num, rfl, hbound, hM1, hr1, hp1⟩
      case measure => simp [intOf]; omega
    · obtain rfl : k = gs.length := by omega
      go_wp2
      go_ret
      exact ⟨t, rfl, by omega, hM⟩
theorem markHp_any (g q lo hi c : Nat) (gs : List Pg) (w : World) (hr : Rl encG 1 w (some ⟨g, 0, none⟩) gs) (hp : Pgs lo hi g gs w) (hlo : lo ≤ g) (hn : gs.length ≤ 1048576) (hm : q + 2 * tG gs gs.length ≤ 8000000) :
    Calls Try.prog 40 #[.agg #[.slice (some ⟨g, 0, none⟩) gs.length c], .int .i64 (q : Int)] w fun e w' => ∃ r : Nat, e = .returned (.int .i64 (r : Int)) ∧ r ≤ 8000000 ∧ Mid lo hi w w' := by
  have hb0 : Below w.heap.size w (w.alloc (.cells #[.slice (some ⟨g, 0, none⟩) gs.length c] 46)) := (Below.refl _ _).alloc (Nat.le_refl _) _
  have hp0 : Pgs lo hi g gs (w.alloc (.cells #[.slice (some ⟨g, 0, none⟩) gs.length c] 46)) := fun p h => by
    obtain ⟨b', a1, a2, a3, a4, a5⟩ := hp p h
    exact ⟨b', a1, a2, a3, a4, a5.below hb0⟩
  have hp0' := hide hp0
  clear hp0
  go_enter Try.func40, Try.ntmps40
  go_wp2_with fail
  refine (markPs_any g q lo hi c gs _ (hr.below hb0) hp0'.out hlo hn hm).mono ?_
  rintro e w1 ⟨r, rfl, hrb, hM⟩
  go_wp2_with fail
  go_ret
  exact ⟨r, rfl, hrb, (Mid.of_below hb0).trans hM⟩

end Go.Proofs.Ytnhkpigakbiddaa
