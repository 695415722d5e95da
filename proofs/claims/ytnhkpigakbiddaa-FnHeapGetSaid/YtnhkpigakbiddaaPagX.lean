/-
  Pages measured, copied and compared as the exact statements do it. Conditions: the slots read as a list; texts are no longer than Go lets one be.
-/
import Derived.Test.YtnhkpigakbiddaaPag
import Derived.Deep.RegionHeld3
import Derived.Deep.DrawnRows
namespace Go.Proofs.Ytnhkpigakbiddaa
open Go.RowKit
set_option linter.unusedVariables false
set_option linter.unusedSimpArgs false

def FitP (xs : List Sl) : Prop := ∀ x ∈ xs, x.d.size ≤ 9223372036854775807
def totP (xs : List Sl) : Nat := xs.length + szs xs xs.length
def szP (left : Int) (xs : List Sl) : Int := if (totP xs : Int) ≤ left then left - totP xs else -1
theorem szP_ok {left : Int} {xs : List Sl} (h : 0 ≤ szP left xs) : (xs.length : Int) + szs xs xs.length ≤ left ∧ szP left xs ≤ left := by
  unfold szP totP at *
  split at h <;> rename_i h1
  · rw [if_pos h1]; omega
  · omega
theorem szP_lo (left : Int) (xs : List Sl) : -1 ≤ szP left xs := by
  unfold szP
  split <;> omega

theorem sz1 (x : Sl) (left : Int) (w : World) (hs : x.d.size ≤ 9223372036854775807) (h0 : 0 ≤ left) (h1 : left ≤ 1048576) :
    Calls Try.prog 64 #[.agg #[.bool x.l, .string x.d], .int .i64 left] w fun e w' => e = .returned (.int .i64 (if (x.d.size : Int) ≤ left then left - x.d.size else -1)) ∧ Below w.heap.size w w' := by
  by_cases h : (x.d.size : Int) ≤ left
  · rw [if_pos h]
    go_enter Try.func64, Try.ntmps64
    go_wp2
    go_ret
    exact ⟨rfl, by go_grown⟩
  · rw [if_neg h]
    go_enter Try.func64, Try.ntmps64
    go_wp2
    go_ret
    exact ⟨rfl, by go_grown⟩

set_option maxHeartbeats 1000000 in
theorem szSs (A : Option Addr) (c : Nat) (xs : List Sl) (left : Int) (w : World) (hr : Rl encP 2 w A xs) (hf : FitP xs) (h0 : 0 ≤ left) (h1 : left ≤ 1048576) (hn : xs.length ≤ 9223372036854775807) :
    Calls Try.prog 43 #[.slice A xs.length c, .int .i64 left] w fun e w' => e = .returned (.int .i64 (szP left xs)) ∧ Below w.heap.size w w' := by
  by_cases hl : (xs.length : Int) ≤ left
  · have hl' : ¬ (left - (xs.length : Int) < 0) := by omega
    go_enter Try.func43, Try.ntmps43
    go_wp2_with fail
    go_loopw [1, 5] (fun l v wr => ∃ (k t : Nat), k ≤ xs.length ∧ v = .int .i64 k ∧ Below w.heap.size w wr ∧ (t : Int) ≤ left - xs.length ∧ l = .int .i64 (left - xs.length - t) ∧ Hid (szs xs k = t)) (fun _ v _ => xs.length - (intOf v).toNat)
    case atStart => exact ⟨0, 0, by omega, rfl, Below.refl _ _, by omega, by simp, rfl⟩
    case round =>
      obtain ⟨k, t, hk, rfl, hb, ht, rfl, hs⟩ := hrel
      by_cases hlt : k < xs.length
      · obtain ⟨b, off, rfl, c0, c1⟩ := (hr.below hb).slot hlt
        have hz := hf _ (List.getElem_mem hlt)
        have HS := hide (szs_step hlt)
        have HT := hide (szs_mono (xs := xs) (k := k + 1) (by omega))
        generalize xs[k] = x at c0 c1 hz HS
        by_cases hx : (x.d.size : Int) ≤ left - xs.length - t
        · have hx' : ¬ (left - (xs.length : Int) - (t : Int) - (x.d.size : Int) < 0) := by omega
          go_wp2_with fail
          refine (sz1 x _ _ hz (by omega) (by omega)).mono ?_
          rintro e w1 ⟨rfl, hb1⟩
          rw [if_pos hx]
          go_wp2_with fail
          go_roundw
          case rel => exact ⟨k + 1, t + x.d.size, by omega, by go_num, bt hb hb1 hb.size, by omega, by rw [Value.int.injEq]; exact ⟨rfl, by omega⟩, by have := hs.out; have := HS.out; unfold Hid; omega⟩
          case measure => simp [intOf]; omega
        · go_wp2_with fail
          refine (sz1 x _ _ hz (by omega) (by omega)).mono ?_
          rintro e w1 ⟨rfl, hb1⟩
          rw [if_neg (by omega)]
          go_wp2_with fail
          go_ret
          refine ⟨ret_int ?_, bt hb hb1 hb.size⟩
          have := hs.out; have := HS.out; have := HT.out
          unfold szP totP
          rw [if_neg (by omega)]
      · obtain rfl : k = xs.length := by omega
        go_wp2
        go_ret
        refine ⟨ret_int ?_, hb⟩
        have := hs.out
        unfold szP totP
        rw [if_pos (by omega)]
        omega
  · have hl' : left - (xs.length : Int) < 0 := by omega
    go_enter Try.func43, Try.ntmps43
    go_wp2
    go_ret
    refine ⟨ret_int ?_, Below.refl _ _⟩
    unfold szP totP
    rw [if_neg (by omega)]

theorem szPg (A : Option Addr) (c : Nat) (xs : List Sl) (left : Int) (w : World) (hr : Rl encP 2 w A xs) (hf : FitP xs) (h0 : 0 ≤ left) (h1 : left ≤ 1048576) (hn : xs.length ≤ 9223372036854775807) :
    Calls Try.prog 14 #[.agg #[.slice A xs.length c], .int .i64 left] w fun e w' => e = .returned (.int .i64 (szP left xs)) ∧ Below w.heap.size w w' := by
  have hlo := szP_lo left xs
  have hz := hide (fun W h => szSs A c xs left W h hf h0 h1 hn)
  generalize szP left xs = s at hlo hz
  have hr0 := hr.alloc (.cells #[.slice A xs.length c] 24)
  go_enter Try.func14, Try.ntmps14
  go_wp2_with fail
  refine (hz.out _ hr0).mono ?_
  rintro e w1 ⟨rfl, hb1⟩
  by_cases h : s < 0
  · obtain rfl : s = -1 := by omega
    go_wp2_with fail
    go_ret
    exact ⟨rfl, bt (by go_grown) hb1 (by simp <;> omega)⟩
  · go_wp2_with fail
    go_ret
    exact ⟨rfl, bt (by go_grown) hb1 (by simp <;> omega)⟩

theorem infoSl : (Try.prog.info? 43).map (fun i => (i.zero, i.size, i.bytes)) = some (some (.agg #[.bool false, .string ByteArray.empty]), 2, 24) := by kernel_rfl
def Made {α : Type} (enc : α → List Value) (size : Nat) (t : TypeId) (xs : List α) (w : World) (e : Ending) (w' : World) : Prop :=
  ∃ g, e = .returned (.slice (some ⟨g, 0, none⟩) xs.length xs.length) ∧ Rl enc size w' (some ⟨g, 0, none⟩) xs ∧ Below w.heap.size w w' ∧ w.heap.size ≤ g ∧ Fil g t (xs.length * size) (xs.length * size) (xs.flatMap enc) w'
theorem fil_far {g N o : Nat} {T : TypeId} {cs : List Value} {w : World} {p : Addr} (h : Fil g T N o cs w) (hp : g ≠ p.block) (u : Value) : Fil g T N o cs (w.setCell p u) := by
  obtain ⟨arr, h1, h2⟩ := h
  exact ⟨arr, h1.far hp u, h2⟩

theorem to1 (x : Sl) (w : World) :
    Calls Try.prog 65 #[.agg #[.bool x.l, .string x.d]] w fun e w' => e = .returned (.agg #[.bool x.l, .string x.d]) ∧ Below w.heap.size w w' := by
  go_enter Try.func65, Try.ntmps65
  go_wp2
  go_returns
  exact ⟨rfl, by go_grown⟩

set_option maxHeartbeats 1000000 in
theorem toSs (A : Option Addr) (c : Nat) (rs : List Sl) (w : World) (hr : Rl encP 2 w A rs) (hc : rs.length ≤ 1048576) :
    Calls Try.prog 45 #[.slice A rs.length c] w (Made encP 2 43 rs w) := by
  obtain ⟨i0, hi, hz0, hz1, hz2⟩ := info_parts infoSl
  have hmk := fun W => mk_rows (P := Try.prog) 27 43 i0 _ 2 24 Try.underlying27 hi hz0 hz1 hz2 rs.length (by omega) (by omega) W
  clear hi hz0 hz1 hz2
  go_enter Try.func45, Try.ntmps45
  go_wp2
  have hb0 : Below w.heap.size w (w.alloc (.cells (madeCells #[.bool false, .string ByteArray.empty] (rs.length * 2)) 43)) := by go_grown
  have hf0 : Fil w.heap.size 43 (rs.length * 2) 0 (rs.flatMap encP) (w.alloc (.cells (madeCells #[.bool false, .string ByteArray.empty] (rs.length * 2)) 43)) := Fil.new rfl
  clear hmk
  go_loopw [4] (fun v wr => ∃ k : Nat, k ≤ rs.length ∧ v = .int .i64 k ∧ Below w.heap.size w wr ∧ Fil w.heap.size 43 (rs.length * 2) (k * 2) (rs.flatMap encP) wr) (fun v _ => rs.length - (intOf v).toNat)
  case atStart => exact ⟨0, by omega, rfl, hb0, hf0⟩
  case round =>
    obtain ⟨k, hk, rfl, hb, hf⟩ := hrel
    clear hb0 hf0
    by_cases hlt : k < rs.length
    · obtain ⟨b, off, rfl, c0, c1⟩ := (hr.below hb).slot hlt
      have e0 := hide (flat_at (xs := rs) encP_len hlt (j := 0) (u := .bool rs[k].l) rfl)
      have e1 := hide (flat_at (xs := rs) encP_len hlt (j := 1) (u := .string rs[k].d) rfl)
      generalize rs[k] = x at c0 c1 e0 e1
      go_wp2_with fail
      refine (to1 x _).mono ?_
      rintro e w2 ⟨rfl, hb2⟩
      have hf2 := hf.below hb2
      obtain ⟨⟨u0, q0⟩, f0⟩ := hf2.cell (p := k * 2) (by omega)
      obtain ⟨⟨u1, q1⟩, f1⟩ := hf2.cell (p := k * 2 + 1) (by omega)
      go_wp2_with fail
      go_roundw
      case rel =>
        refine ⟨k + 1, by omega, by go_num, ((bt hb hb2 hb.size).setCell (Nat.le_refl _) _).setCell (Nat.le_refl _) _, ?_⟩
        have := (hf2.step (by omega) e0.out).step (by omega) e1.out
        rw [show (k + 1) * 2 = k * 2 + 1 + 1 by omega]
        exact this
      case measure => simp [intOf]; omega
    · obtain rfl : k = rs.length := by omega
      go_wp2
      go_ret
      exact ⟨w.heap.size, rfl, hf.all encP_len rfl, hb, Nat.le_refl _, hf⟩

def MadeP (xs : List Sl) (w : World) (e : Ending) (w' : World) : Prop :=
  ∃ g, e = .returned (.agg #[.slice (some ⟨g, 0, none⟩) xs.length xs.length]) ∧ Rl encP 2 w' (some ⟨g, 0, none⟩) xs ∧ Below w.heap.size w w' ∧ w.heap.size ≤ g
def MadePE (xs : List Sl) (w : World) (e : Ending) (w' : World) : Prop :=
  ∃ g, e = .returned (.agg #[.slice (some ⟨g, 0, none⟩) xs.length xs.length]) ∧ Rl encP 2 w' (some ⟨g, 0, none⟩) xs ∧ Below w.heap.size w w' ∧ w.heap.size ≤ g ∧ Fil g 43 (xs.length * 2) (xs.length * 2) (xs.flatMap encP) w'
theorem toPe (A : Option Addr) (c : Nat) (rs : List Sl) (w : World) (hr : Rl encP 2 w A rs) (hc : rs.length ≤ 1048576) :
    Calls Try.prog 16 #[.agg #[.slice A rs.length c]] w (MadePE rs w) := by
  have hr0 := ((hr.alloc (.cells #[.slice A rs.length c] 24)).alloc (.cells #[.slice none 0 0] 29)).alloc (.cells #[.slice none 0 0] 29)
  have k1 := (Blk.new (w.alloc (.cells #[.slice A rs.length c] 24)) 29 #[.slice none 0 0]).alloc (.cells #[.slice none 0 0] 29)
  have k2 := Blk.new ((w.alloc (.cells #[.slice A rs.length c] 24)).alloc (.cells #[.slice none 0 0] 29)) 29 #[.slice none 0 0]
  have hb0 : Below w.heap.size w (((w.alloc (.cells #[.slice A rs.length c] 24)).alloc (.cells #[.slice none 0 0] 29)).alloc (.cells #[.slice none 0 0] 29)) := by go_grown
  have hs0 : (((w.alloc (.cells #[.slice A rs.length c] 24)).alloc (.cells #[.slice none 0 0] 29)).alloc (.cells #[.slice none 0 0] 29)).heap.size = w.heap.size + 1 + 1 + 1 := by simp
  simp only [World.size_alloc] at k1 k2
  have hs0' := hide hs0
  clear hs0
  go_enter Try.func16, Try.ntmps16
  go_wp2_with fail
  refine (toSs A c rs _ hr0 hc).mono ?_
  rintro e w1 ⟨g, rfl, r1, hb1, hg, F1⟩
  have m1 := k1.below hb1
  have m2 := k2.below hb1
  have hbb := bt hb0 hb1 hb0.size
  rw [hs0'.out] at hg
  have c1 : w1.cell? ⟨w.heap.size + 1, 0, none⟩ = some (.slice none 0 0) := m1.cell 0
  have c2 : w1.cell? ⟨w.heap.size + 1 + 1, 0, none⟩ = some (.slice none 0 0) := m2.cell 0
  have f1 := m1.free 0
  have f2 := m2.free 0
  clear hr0 k1 k2 hb0 hb1 hs0'
  go_wp2_with fail
  generalize hF : World.setCell _ _ _ = wF
  have e1 : Blk wF (w.heap.size + 1) 29 #[.slice (some ⟨g, 0, none⟩) rs.length rs.length] := by
    rw [← hF]
    have := (m1.far (p := ⟨w.heap.size + 1 + 1, 0, none⟩) (by simp) (.slice (some ⟨g, 0, none⟩) rs.length rs.length)).set 0 (.slice (some ⟨g, 0, none⟩) rs.length rs.length)
    simpa using this
  have hbF : Below w.heap.size w wF := by
    rw [← hF]
    exact (hbb.setCell (by simp <;> omega) _).setCell (by simp <;> omega) _
  have rF : Rl encP 2 wF (some ⟨g, 0, none⟩) rs := by
    rw [← hF]
    refine r1.keep fun b o u hb hc => ?_
    simp at hb
    subst hb
    rw [World.cell?_setCell_other _ _ _ _ (by simp), World.cell?_setCell_other _ _ _ _ (by simp)]
    exact hc
  have FF : Fil g 43 (rs.length * 2) (rs.length * 2) (rs.flatMap encP) wF := by
    rw [← hF]
    exact fil_far (fil_far F1 (by simp; omega) _) (by simp; omega) _
  clear hF
  have y0 : wF.cell? ⟨w.heap.size + 1, 0, none⟩ = some (.slice (some ⟨g, 0, none⟩) rs.length rs.length) := e1.cell 0
  refine bodyPost_ret (v := .agg #[.slice (some ⟨g, 0, none⟩) rs.length rs.length]) (by simp [results, Try.f16, go_sem, y0] <;> rfl) rfl ?_
  exact ⟨g, rfl, rF, hbF, by omega, FF⟩
theorem toPg (A : Option Addr) (c : Nat) (rs : List Sl) (w : World) (hr : Rl encP 2 w A rs) (hc : rs.length ≤ 1048576) :
    Calls Try.prog 16 #[.agg #[.slice A rs.length c]] w (MadeP rs w) :=
  (toPe A c rs w hr hc).mono fun _ _ ⟨g, h1, h2, h3, h4, _⟩ => ⟨g, h1, h2, h3, h4⟩

theorem eq1 (x : Sl) (w : World) :
    Calls Try.prog 66 #[.agg #[.bool x.l, .string x.d], .agg #[.bool x.l, .string x.d]] w fun e w' => e = .returned (.bool true) ∧ Below w.heap.size w w' := by
  have n1 : (x.l != x.l) = false := by cases x.l <;> rfl
  have n3 : (x.d.toList != x.d.toList) = false := by rw [bne, beq_self_eq_true]; rfl
  go_enter Try.func66, Try.ntmps66
  go_wp2
  go_ret
  exact ⟨rfl, by go_grown⟩

theorem eqSs (A B : Option Addr) (c d : Nat) (rs : List Sl) (w : World) (hr : Rl encP 2 w A rs) (hq : Rl encP 2 w B rs) (hc : rs.length ≤ 1048576) :
    Calls Try.prog 47 #[.slice A rs.length c, .slice B rs.length d] w fun e w' => e = .returned (.bool true) ∧ Below w.heap.size w w' := by
  go_enter Try.func47, Try.ntmps47
  go_wp2
  go_loopw [5] (fun v wr => ∃ k : Nat, k ≤ rs.length ∧ v = .int .i64 k ∧ Below w.heap.size w wr) (fun v _ => rs.length - (intOf v).toNat)
  case atStart => exact ⟨0, by omega, rfl, Below.refl _ _⟩
  case round =>
    obtain ⟨k, hk, rfl, hb⟩ := hrel
    by_cases hlt : k < rs.length
    · obtain ⟨b, off, rfl, c0, c1⟩ := (hr.below hb).slot hlt
      obtain ⟨b', off', rfl, d0, d1⟩ := (hq.below hb).slot hlt
      generalize rs[k] = x at c0 c1 d0 d1
      have b1 : (k : Int) < (rs.length : Int) := by omega
      go_wp2_with fail
      go_region_held3 (fun w' => w'.cell? ⟨b, off + k * 2, none⟩ = some (.bool x.l) ∧ w'.cell? ⟨b, off + k * 2 + 1, none⟩ = some (.string x.d) ∧
          w'.cell? ⟨b', off' + k * 2, none⟩ = some (.bool x.l) ∧ w'.cell? ⟨b', off' + k * 2 + 1, none⟩ = some (.string x.d))
        (first | exact ⟨c0, c1, d0, d1⟩ | exact ⟨cell_on (of_drew hb3) c0, cell_on (of_drew hb3) c1, cell_on (of_drew hb3) d0, cell_on (of_drew hb3) d1⟩)
        (first | (go_at_call 66; refine (eq1 x _).mono ?_; rintro e w3 ⟨rfl, hb3⟩))
      go_wp2_with fail
      go_roundw
      case rel => exact ⟨k + 1, by omega, by go_num, bt hb (of_drew hb3) hb.size⟩
      case measure => simp [intOf]; omega
    · obtain rfl : k = rs.length := by omega
      go_wp2
      go_ret
      exact ⟨rfl, hb⟩
theorem eqPg (A B : Option Addr) (c d : Nat) (rs : List Sl) (w : World) (hr : Rl encP 2 w A rs) (hq : Rl encP 2 w B rs) (hc : rs.length ≤ 1048576) :
    Calls Try.prog 18 #[.agg #[.slice A rs.length c], .agg #[.slice B rs.length d]] w fun e w' => e = .returned (.bool true) ∧ Below w.heap.size w w' := by
  have hr0 := (hr.alloc (.cells #[.slice A rs.length c] 29)).alloc (.cells #[.slice B rs.length d] 29)
  have hq0 := (hq.alloc (.cells #[.slice A rs.length c] 29)).alloc (.cells #[.slice B rs.length d] 29)
  go_enter Try.func18, Try.ntmps18
  go_wp2_with fail
  refine (eqSs A B c d rs _ hr0 hq0 hc).mono ?_
  rintro e w1 ⟨rfl, hb1⟩
  go_wp2_with fail
  go_ret
  exact ⟨rfl, bt (by go_grown) hb1 (by simp <;> omega)⟩

end Go.Proofs.Ytnhkpigakbiddaa
