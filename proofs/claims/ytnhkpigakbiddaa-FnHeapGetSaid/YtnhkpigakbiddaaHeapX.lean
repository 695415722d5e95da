/-
  Heaps in the exact statements: a heap made anew, two heaps compared; the exact statement about ValidHeap, walked. Conditions: the pages read as a list, and the slots of each.
-/
import Derived.Test.YtnhkpigakbiddaaHeap
import Derived.RegionTactic
import Derived.Deep.RegionHeld3
namespace Go.Proofs.Ytnhkpigakbiddaa
open Go.RowKit
set_option linter.unusedVariables false
set_option linter.unusedSimpArgs false

theorem infoPg : (Try.prog.info? 29).map (fun i => (i.zero, i.size, i.bytes)) = some (some (.agg #[.slice none 0 0]), 1, 24) := by kernel_rfl
/-- A heap made anew: its pages have the slots of the old ones; all of it is new memory. -/
def MadeG (ps : List Pg) (w : World) (e : Ending) (w' : World) : Prop :=
  ∃ g gs, e = .returned (.slice (some ⟨g, 0, none⟩) ps.length ps.length) ∧ xss gs = xss ps ∧ Hp w' (some ⟨g, 0, none⟩) gs ∧ Below w.heap.size w w' ∧ w.heap.size ≤ g ∧ ∀ p ∈ gs, ∃ b, p.A = some ⟨b, 0, none⟩ ∧ w.heap.size ≤ b ∧ Fil b 43 (p.xs.length * 2) (p.xs.length * 2) (p.xs.flatMap encP) w' ∧ g < b
theorem Fil.grow {g N : Nat} {T : TypeId} {cs : List Value} {w : World} (h : Fil g T N cs.length cs w) (u : Value) : Fil g T N cs.length (cs ++ [u]) w := by
  obtain ⟨arr, h1, h2, h3⟩ := h
  refine ⟨arr, h1, h2, fun p v hp hv => h3 p v hp ?_⟩
  rw [List.getElem?_append_left hp] at hv
  exact hv
theorem Fil.push {g N : Nat} {T : TypeId} {cs : List Value} {w : World} (h : Fil g T N cs.length cs w) (ho : cs.length < N) (u : Value) : Fil g T N (cs ++ [u]).length (cs ++ [u]) (w.setCell ⟨g, cs.length, none⟩ u) := by
  have := (h.grow u).step (u := u) ho (by simp)
  simpa using this
theorem encG_flat (gs : List Pg) : (gs.flatMap encG).length = gs.length := by simp [length_flatMap_size encG_len]
theorem xss_take {gs ps : List Pg} {k : Nat} (h : xss gs = xss (ps.take k)) (hk : k < ps.length) (q : Pg) (hq : q.xs = ps[k].xs) : xss (gs ++ [q]) = xss (ps.take (k + 1)) := by
  unfold xss at *
  rw [List.map_append, h, List.take_add_one, List.getElem?_eq_getElem hk, List.map_append]
  simp [hq]
theorem small_as {gs ps : List Pg} (h : xss gs = xss ps) (hs : Small ps) : Small gs := by
  have hl : gs.length = ps.length := by have := congrArg List.length h; rwa [xss_len, xss_len] at this
  refine ⟨by rw [hl]; exact hs.1, fun p hp => ?_⟩
  have : p.xs ∈ xss gs := List.mem_map.2 ⟨p, hp, rfl⟩
  rw [h] at this
  obtain ⟨q, hq, e⟩ := List.mem_map.1 this
  rw [← e]
  exact hs.2 q hq

set_option maxHeartbeats 1000000 in
theorem toPs (A : Option Addr) (c : Nat) (ps : List Pg) (w : World) (hr : Hp w A ps) (hs : Small ps) :
    Calls Try.prog 57 #[.slice A ps.length c] w (MadeG ps w) := by
  have hsl := hs.1
  obtain ⟨i0, hi, hz0, hz1, hz2⟩ := info_parts infoPg
  have hmk := fun W => mk_rows (P := Try.prog) 44 29 i0 _ 1 24 Try.underlying44 hi hz0 hz1 hz2 ps.length (by omega) (by omega) W
  clear hi hz0 hz1 hz2
  go_enter Try.func57, Try.ntmps57
  go_wp2
  have hb0 : Below w.heap.size w (w.alloc (.cells (madeCells #[.slice none 0 0] ps.length) 29)) := by go_grown
  have hf0 : Fil w.heap.size 29 ps.length 0 [] (w.alloc (.cells (madeCells #[.slice none 0 0] ps.length) 29)) := Fil.new rfl
  clear hmk
  go_loopw [4] (fun v wr => ∃ (k : Nat) (gs : List Pg), k ≤ ps.length ∧ v = .int .i64 k ∧ Below w.heap.size w wr ∧ Fil w.heap.size 29 ps.length (gs.flatMap encG).length (gs.flatMap encG) wr ∧
      Hid (gs.length = k) ∧ Hid (xss gs = xss (ps.take k)) ∧ Hid (∀ p ∈ gs, Rl encP 2 wr p.A p.xs ∧ ∃ b, p.A = some ⟨b, 0, none⟩ ∧ w.heap.size < b ∧ Fil b 43 (p.xs.length * 2) (p.xs.length * 2) (p.xs.flatMap encP) wr)) (fun v _ => ps.length - (intOf v).toNat)
  case atStart => exact ⟨0, [], by omega, rfl, hb0, hf0, rfl, by simp [Hid, xss], fun p hp => by simp at hp⟩
  case round =>
    obtain ⟨k, gs, hk, rfl, hb, hf, hgl, hgx, hgr⟩ := hrel
    clear hb0 hf0
    by_cases hlt : k < ps.length
    · obtain ⟨b, off, rfl, c0, r0⟩ := (hr.below hb).page hlt
      have hsm := hs.2 _ (List.getElem_mem hlt)
      have HX := hide (fun q h => xss_take hgx.out hlt q h)
      have hi : (k : Int) < (ps.length : Int) := by omega
      generalize ps[k] = x at c0 r0 hsm HX
      have hwl := hf.lt
      go_wp2_with fail
      refine (toPe _ _ x.xs _ r0 hsm.1).mono ?_
      rintro e w2 ⟨g, rfl, r2, hb2, hg2, F2⟩
      have hf2 := hf.below hb2
      have hfl : (gs.flatMap encG).length = k := by rw [encG_flat]; exact hgl.out
      obtain ⟨⟨u0, q0⟩, f0⟩ := hf2.cell (p := k) (by omega)
      have hne : w.heap.size < g := by omega
      have HF := hide (hf2.push (by omega) (.slice (some ⟨g, 0, none⟩) x.xs.length x.xs.length))
      rw [hfl] at HF
      clear hf2 hf
      go_wp2_with fail
      go_roundw
      case rel =>
        refine ⟨k + 1, gs ++ [⟨some ⟨g, 0, none⟩, x.xs.length, x.xs⟩], by omega, by go_num, (bt hb hb2 hb.size).setCell (Nat.le_refl _) _, ?_, ?_, HX.out _ rfl, ?_⟩
        · have := HF.out
          simpa [List.flatMap_append, encG] using this
        · unfold Hid
          rw [List.length_append, hgl.out]
          rfl
        · intro p hp
          have keep : ∀ (b : Nat) (xs : List Sl), w.heap.size < b → Rl encP 2 w2 (some ⟨b, 0, none⟩) xs → Rl encP 2 (w2.setCell ⟨w.heap.size, k, none⟩ (.slice (some ⟨g, 0, none⟩) x.xs.length x.xs.length)) (some ⟨b, 0, none⟩) xs := fun b xs hA hR => hR.keep fun b' o u hbk hc => by
            simp at hbk
            subst hbk
            rw [World.cell?_setCell_other _ _ _ _ (by
              intro e
              simp at e <;> omega)]
            exact hc
          rcases List.mem_append.1 hp with h | h
          · obtain ⟨h1, b, h2, h3, h4⟩ := hgr.out p h
            have := h1.below hb2
            rw [h2] at this ⊢
            exact ⟨keep _ _ h3 this, b, rfl, h3, fil_far (h4.below hb2) (by simp; omega) _⟩
          · obtain rfl : p = ⟨some ⟨g, 0, none⟩, x.xs.length, x.xs⟩ := by simpa using h
            exact ⟨keep _ _ hne r2, g, rfl, hne, fil_far F2 (by simp; omega) _⟩
      case measure => simp [intOf]; omega
    · obtain rfl : k = ps.length := by omega
      go_wp2
      go_ret
      refine ⟨w.heap.size, gs, rfl, by rw [hgx.out, List.take_length], ⟨?_, fun p hp => (hgr.out p hp).1⟩, hb, Nat.le_refl _, fun p hp => (hgr.out p hp).2.imp fun b h => ⟨h.1, Nat.le_of_lt h.2.1, h.2.2, h.2.1⟩⟩
      have hfl : (gs.flatMap encG).length = ps.length := by rw [encG_flat, hgl.out]
      rw [hfl] at hf
      exact hf.all encG_len (by rw [hgl.out, Nat.mul_one])

def MadeH (ps : List Pg) (w : World) (e : Ending) (w' : World) : Prop :=
  ∃ g gs, e = .returned (.agg #[.slice (some ⟨g, 0, none⟩) ps.length ps.length]) ∧ xss gs = xss ps ∧ Hp w' (some ⟨g, 0, none⟩) gs ∧ Below w.heap.size w w'
/-- .. and all that is known of its memory. -/
def MadeHE (ps : List Pg) (w : World) (e : Ending) (w' : World) : Prop :=
  ∃ g gs, e = .returned (.agg #[.slice (some ⟨g, 0, none⟩) ps.length ps.length]) ∧ xss gs = xss ps ∧ Hp w' (some ⟨g, 0, none⟩) gs ∧ Below w.heap.size w w' ∧ w.heap.size ≤ g ∧ ∀ p ∈ gs, ∃ b, p.A = some ⟨b, 0, none⟩ ∧ w.heap.size ≤ b ∧ Fil b 43 (p.xs.length * 2) (p.xs.length * 2) (p.xs.flatMap encP) w' ∧ g < b
theorem toHe (A : Option Addr) (c : Nat) (ps : List Pg) (w : World) (hr : Hp w A ps) (hs : Small ps) :
    Calls Try.prog 29 #[.agg #[.slice A ps.length c]] w (MadeHE ps w) := by
  have hr0 := ((hr.alloc (.cells #[.slice A ps.length c] 51)).alloc (.cells #[.slice none 0 0] 46)).alloc (.cells #[.slice none 0 0] 46)
  have k1 := (Blk.new (w.alloc (.cells #[.slice A ps.length c] 51)) 46 #[.slice none 0 0]).alloc (.cells #[.slice none 0 0] 46)
  have k2 := Blk.new ((w.alloc (.cells #[.slice A ps.length c] 51)).alloc (.cells #[.slice none 0 0] 46)) 46 #[.slice none 0 0]
  have hb0 : Below w.heap.size w (((w.alloc (.cells #[.slice A ps.length c] 51)).alloc (.cells #[.slice none 0 0] 46)).alloc (.cells #[.slice none 0 0] 46)) := by go_grown
  have hs0 : (((w.alloc (.cells #[.slice A ps.length c] 51)).alloc (.cells #[.slice none 0 0] 46)).alloc (.cells #[.slice none 0 0] 46)).heap.size = w.heap.size + 1 + 1 + 1 := by simp
  simp only [World.size_alloc] at k1 k2
  have hs0' := hide hs0
  clear hs0
  go_enter Try.func29, Try.ntmps29
  go_wp2_with fail
  refine (toPs A c ps _ hr0 hs).mono ?_
  rintro e w1 ⟨g, gs, rfl, hx, r1, hb1, hg, hgs⟩
  have m1 := k1.below hb1
  have m2 := k2.below hb1
  have hbb := bt hb0 hb1 hb0.size
  rw [hs0'.out] at hg hgs
  have c1 : w1.cell? ⟨w.heap.size + 1, 0, none⟩ = some (.slice none 0 0) := m1.cell 0
  have c2 : w1.cell? ⟨w.heap.size + 1 + 1, 0, none⟩ = some (.slice none 0 0) := m2.cell 0
  have f1 := m1.free 0
  have f2 := m2.free 0
  have HX := hide hx
  have HG := hide hgs
  clear hr0 k1 k2 hb0 hb1 hs0' hx hgs
  go_wp2_with fail
  generalize hF : World.setCell _ _ _ = wF
  have e1 : Blk wF (w.heap.size + 1) 46 #[.slice (some ⟨g, 0, none⟩) ps.length ps.length] := by
    rw [← hF]
    have := (m1.far (p := ⟨w.heap.size + 1 + 1, 0, none⟩) (by simp) (.slice (some ⟨g, 0, none⟩) ps.length ps.length)).set 0 (.slice (some ⟨g, 0, none⟩) ps.length ps.length)
    simpa using this
  have hbF : Below w.heap.size w wF := by
    rw [← hF]
    exact (hbb.setCell (by simp <;> omega) _).setCell (by simp <;> omega) _
  have keep : ∀ b o u, w.heap.size + 1 + 1 + 1 ≤ b → w1.cell? ⟨b, o, none⟩ = some u → wF.cell? ⟨b, o, none⟩ = some u := by
    intro b o u hb hc
    rw [← hF]
    rw [World.cell?_setCell_other _ _ _ _ (by intro e; simp at e <;> omega), World.cell?_setCell_other _ _ _ _ (by intro e; simp at e <;> omega)]
    exact hc
  have rF : Hp wF (some ⟨g, 0, none⟩) gs := by
    refine ⟨r1.1.keep fun b o u hb hc => ?_, fun p hp => (r1.2 p hp).keep fun b o u hb hc => ?_⟩
    · simp at hb
      subst hb
      exact keep _ _ _ hg hc
    · obtain ⟨b', h1, h2, -⟩ := HG.out p hp
      rw [h1] at hb
      simp at hb
      subst hb
      exact keep _ _ _ h2 hc
  have GF : Hid (∀ p ∈ gs, ∃ b, p.A = some ⟨b, 0, none⟩ ∧ w.heap.size ≤ b ∧ Fil b 43 (p.xs.length * 2) (p.xs.length * 2) (p.xs.flatMap encP) wF ∧ g < b) := fun p hp => by
    obtain ⟨b', h1, h2, h3, h4⟩ := HG.out p hp
    refine ⟨b', h1, by omega, ?_, h4⟩
    rw [← hF]
    exact fil_far (fil_far h3 (by simp; omega) _) (by simp; omega) _
  clear hF
  have y0 : wF.cell? ⟨w.heap.size + 1, 0, none⟩ = some (.slice (some ⟨g, 0, none⟩) ps.length ps.length) := e1.cell 0
  refine bodyPost_ret (v := .agg #[.slice (some ⟨g, 0, none⟩) ps.length ps.length]) (by simp [results, Try.f29, go_sem, y0] <;> rfl) rfl ?_
  exact ⟨g, gs, rfl, HX.out, rF, hbF, by omega, GF.out⟩
theorem toHp (A : Option Addr) (c : Nat) (ps : List Pg) (w : World) (hr : Hp w A ps) (hs : Small ps) :
    Calls Try.prog 29 #[.agg #[.slice A ps.length c]] w (MadeH ps w) :=
  (toHe A c ps w hr hs).mono fun _ _ ⟨g, gs, h1, h2, h3, h4, _⟩ => ⟨g, gs, h1, h2, h3, h4⟩

set_option maxHeartbeats 1000000 in
theorem eqPs (A B : Option Addr) (c d : Nat) (gs ps : List Pg) (w : World) (hr : Hp w A gs) (hq : Hp w B ps) (hx : xss gs = xss ps) (hs : Small gs) :
    Calls Try.prog 58 #[.slice A gs.length c, .slice B ps.length d] w fun e w' => e = .returned (.bool true) ∧ Below w.heap.size w w' := by
  have hl : ps.length = gs.length := by have := congrArg List.length hx; rw [xss_len, xss_len] at this; exact this.symm
  have hsl := hs.1
  have HX : Hid (∀ k (h1 : k < gs.length) (h2 : k < ps.length), gs[k].xs = ps[k].xs) := fun k h1 h2 => by
    have := List.getElem_of_eq hx (i := k) (by rw [xss_len]; exact h1)
    simpa [xss] using this
  rw [hl]
  go_enter Try.func58, Try.ntmps58
  go_wp2
  go_loopw [5] (fun v wr => ∃ k : Nat, k ≤ gs.length ∧ v = .int .i64 k ∧ Below w.heap.size w wr) (fun v _ => gs.length - (intOf v).toNat)
  case atStart => exact ⟨0, by omega, rfl, Below.refl _ _⟩
  case round =>
    obtain ⟨k, hk, rfl, hb⟩ := hrel
    by_cases hlt : k < gs.length
    · obtain ⟨b, off, rfl, c0, r0⟩ := (hr.below hb).page hlt
      obtain ⟨b', off', rfl, d0, q0⟩ := (hq.below hb).page (k := k) (by omega)
      have hsm := hs.2 _ (List.getElem_mem hlt)
      have he := HX.out k hlt (by omega)
      generalize gs[k] = x at c0 r0 hsm he
      generalize ps[k]'(by omega) = y at d0 q0 he
      obtain ⟨yA, yc, yx⟩ := y
      obtain ⟨xA, xc, xx⟩ := x
      simp only at he c0 d0 r0 q0 hsm
      subst he
      have b1 : (k : Int) < (gs.length : Int) := by omega
      go_wp2_with fail
      go_region_held3 (fun w' => w'.cell? ⟨b, off + k, none⟩ = some (.slice xA xx.length xc) ∧ w'.cell? ⟨b', off' + k, none⟩ = some (.slice yA xx.length yc))
        (first | exact ⟨c0, d0⟩ | exact ⟨cell_on (of_drew hb3) c0, cell_on (of_drew hb3) d0⟩)
        (first | (go_at_call 18; refine (eqPg xA yA xc yc xx _ (by first | exact r0 | exact r0.drew) (by first | exact q0 | exact q0.drew) hsm.1).mono ?_; rintro e w3 ⟨rfl, hb3⟩))
      go_wp2_with fail
      go_roundw
      case rel => exact ⟨k + 1, by omega, by go_num, bt hb (of_drew hb3) hb.size⟩
      case measure => simp [intOf]; omega
    · obtain rfl : k = gs.length := by omega
      go_wp2
      go_ret
      exact ⟨rfl, hb⟩
theorem eqHp (A B : Option Addr) (c d : Nat) (gs ps : List Pg) (w : World) (hr : Hp w A gs) (hq : Hp w B ps) (hx : xss gs = xss ps) (hs : Small gs) :
    Calls Try.prog 30 #[.agg #[.slice A gs.length c], .agg #[.slice B ps.length d]] w fun e w' => e = .returned (.bool true) ∧ Below w.heap.size w w' := by
  have hr0 := (hr.alloc (.cells #[.slice A gs.length c] 46)).alloc (.cells #[.slice B ps.length d] 46)
  have hq0 := (hq.alloc (.cells #[.slice A gs.length c] 46)).alloc (.cells #[.slice B ps.length d] 46)
  go_enter Try.func30, Try.ntmps30
  go_wp2_with fail
  refine (eqPs A B c d gs ps _ hr0 hq0 hx hs).mono ?_
  rintro e w1 ⟨rfl, hb1⟩
  go_wp2_with fail
  go_ret
  exact ⟨rfl, bt (by go_grown) hb1 (by simp <;> omega)⟩

end Go.Proofs.Ytnhkpigakbiddaa
