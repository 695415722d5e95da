/-
  Disks: WriteSector of the program and of the reference answer alike. Conditions: the sectors and the writes read as lists.
-/
import Derived.Test.YtgabjepoooageaaCrashL
import Derived.Maps.AppendAt
import Derived.Deep.RegionHeld3
import Derived.Deep.DrawnRows
import Derived.Deep.DeepCutAuto
namespace Go.Proofs.Ytgabjepoooageaa
open Go.RowKit
set_option linter.unusedVariables false
set_option linter.unusedSimpArgs false

/-! ### what it answers -/
def wok (xs : List Int) (ws : List (Int × Int)) (x : Int × Int) : Bool := vd xs ws && (tk xs.length x && decide (ws.length < 8))
def WX (xs : List Int) (ws : List (Int × Int)) (x : Int × Int) : List Int := if wok xs ws x then xs else []
def WY (xs : List Int) (ws : List (Int × Int)) (x : Int × Int) : List (Int × Int) := if wok xs ws x then ws ++ [x] else []
theorem wok_bad {xs : List Int} {ws : List (Int × Int)} {x : Int × Int} (h : vd xs ws = false) : wok xs ws x = false := by unfold wok; rw [h]; rfl
theorem wok_tk {xs : List Int} {ws : List (Int × Int)} {x : Int × Int} (h : tk xs.length x = false) : wok xs ws x = false := by unfold wok; rw [h]; simp
theorem wok_len {xs : List Int} {ws : List (Int × Int)} {x : Int × Int} (h : ¬ ws.length < 8) : wok xs ws x = false := by unfold wok; rw [decide_eq_false h]; simp
theorem wok_yes {xs : List Int} {ws : List (Int × Int)} {x : Int × Int} (h : vd xs ws = true) (h1 : tk xs.length x = true) (h2 : ws.length < 8) : wok xs ws x = true := by unfold wok; rw [h, h1, decide_eq_true h2]; rfl
theorem wok_parts {xs : List Int} {ws : List (Int × Int)} {x : Int × Int} (h : wok xs ws x = true) : vd xs ws = true ∧ tk xs.length x = true ∧ ws.length < 8 := by
  unfold wok at h
  simp only [Bool.and_eq_true, decide_eq_true_eq] at h
  exact h
theorem vd_snoc {xs : List Int} {ws : List (Int × Int)} {x : Int × Int} (h : vd xs ws = true) : vd xs (ws ++ [x]) = wok xs ws x := by
  unfold wok
  rw [h, Bool.true_and]
  unfold vd at h ⊢
  simp only [Bool.and_eq_true, decide_eq_true_eq] at h
  obtain ⟨⟨⟨a, b, c⟩, d⟩, e⟩ := h
  rw [List.all_append, e, d, Bool.true_and, List.length_append]
  by_cases h8 : ws.length < 8
  · rw [decide_eq_true h8, decide_eq_true (show 1 ≤ xs.length ∧ xs.length ≤ 8 ∧ ws.length + [x].length ≤ 8 from ⟨a, b, by simp; omega⟩)]
    simp
  · rw [decide_eq_false h8, decide_eq_false (show ¬ (1 ≤ xs.length ∧ xs.length ≤ 8 ∧ ws.length + [x].length ≤ 8) from fun q => by simp at q; omega)]
    simp
/-- A disk handed back, and a word. -/
def WrR (xs : List Int) (ws : List (Int × Int)) (x : Int × Int) (w : World) (e : Ending) (w' : World) : Prop :=
  ∃ a b c p q r, e = .returned (.tuple #[.agg #[.slice a b c, .slice p q r], .bool (wok xs ws x)]) ∧ Below w.heap.size w w' ∧ w'.ownsRow w.heap.size 3 1 (.slice a b c) (WX xs ws x).length ((WX xs ws x).flatMap encD) ∧ w'.ownsRow w.heap.size 41 2 (.slice p q r) (WY xs ws x).length ((WY xs ws x).flatMap encW)
theorem wr_no {xs : List Int} {ws : List (Int × Int)} {x : Int × Int} {w W : World} {r : Nat} {x0 x1 : Value} (kR : Blk W r 30 #[x0, x1]) (hb : Below w.heap.size w W) (hr : w.heap.size ≤ r) (H : wok xs ws x = false) :
    Blk ((W.setCell ⟨r, 0, none⟩ (.slice none 0 0)).setCell ⟨r, 1, none⟩ (.slice none 0 0)) r 30 #[.slice none 0 0, .slice none 0 0] ∧
      WrR xs ws x w (.returned (.tuple #[.agg #[.slice none 0 0, .slice none 0 0], .bool false])) ((W.setCell ⟨r, 0, none⟩ (.slice none 0 0)).setCell ⟨r, 1, none⟩ (.slice none 0 0)) := by
  obtain ⟨kF, hF⟩ := res_set kR hb hr (.slice none 0 0) (.slice none 0 0)
  exact ⟨kF, none, 0, 0, none, 0, 0, by rw [H], hF, by unfold WX; rw [H]; exact ow_nil _ _ _ _, by unfold WY; rw [H]; exact ow_nil _ _ _ _⟩
theorem wr_yes {xs : List Int} {ws : List (Int × Int)} {x : Int × Int} {w W : World} {r B : Nat} {x0 x1 : Value} {a p : Option Addr} {b c q s : Nat} (kR : Blk W r 30 #[x0, x1]) (hb : Below w.heap.size w W) (hr : w.heap.size ≤ r) (hB : r < B) (H : wok xs ws x = true)
    (h1 : W.ownsRow B 3 1 (.slice a b c) xs.length (xs.flatMap encD)) (h2 : W.ownsRow B 41 2 (.slice p q s) (ws ++ [x]).length ((ws ++ [x]).flatMap encW)) :
    Blk ((W.setCell ⟨r, 0, none⟩ (.slice a b c)).setCell ⟨r, 1, none⟩ (.slice p q s)) r 30 #[.slice a b c, .slice p q s] ∧
      WrR xs ws x w (.returned (.tuple #[.agg #[.slice a b c, .slice p q s], .bool true])) ((W.setCell ⟨r, 0, none⟩ (.slice a b c)).setCell ⟨r, 1, none⟩ (.slice p q s)) := by
  obtain ⟨kF, hF⟩ := res_set kR hb hr (.slice a b c) (.slice p q s)
  exact ⟨kF, a, b, c, p, q, s, by rw [H], hF, by unfold WX; rw [H]; exact ow_mono (ow_res (ow_res h1 hB _) hB _) (by omega), by unfold WY; rw [H]; exact ow_mono (ow_res (ow_res h2 hB _) hB _) (by omega)⟩

/-! ### appends -/
theorem rq0 {α : Type} {xs : List α} {i : Nat} (h : i < xs.toArray.size) : xs.toArray[i] = xs[i]'(by simpa using h) := List.getElem_toArray h
theorem rq1 {α : Type} (a : α) (l : List α) (i : Nat) (h : i + 1 < (a :: l).length) : (a :: l)[i + 1] = l[i]'(by simpa using h) := List.getElem_cons_succ a l i h
theorem rq2 {α : Type} (a : α) (l : List α) (h : 0 < (a :: l).length) : (a :: l)[0] = a := rfl
theorem rq3 {α : Type} (l : List α) (i : Nat) (a : α) : l.toArray.setIfInBounds i a = (l.set i a).toArray := List.setIfInBounds_toArray l i a
theorem rq4 {α : Type} (x y : α) (xs : List α) : (x :: xs).set 0 y = y :: xs := List.set_cons_zero
theorem rq5 {α : Type} (x y : α) (xs : List α) (n : Nat) : (x :: xs).set (n + 1) y = x :: xs.set n y := List.set_cons_succ
theorem own_dif {w : World} {B B' e e' s s' n n' : Nat} {v v' : Value} {L L' : List Value} (h : w.ownsRow B e s v n L) (h' : w.ownsRow B' e' s' v' n' L') (hne : e ≠ e') : v.ownBlock = none ∨ v.ownBlock ≠ v'.ownBlock := by
  rcases h'.2 with ⟨rfl, _⟩ | ⟨g, cap, cur, rfl, _, hh, _⟩
  · cases hv : v.ownBlock
    · exact .inl rfl
    · exact .inr (by simp [Value.ownBlock])
  · exact .inr (own_blk_ne h (show Blk w g e' cur from hh) hne)
theorem own_set {w : World} {B e s n K t : Nat} {v u : Value} {L : List Value} {cs : Array Value} {i : Nat} (h : w.ownsRow B e s v n L) (hk : Blk w K t cs) (hne : e ≠ t) : (w.setCell ⟨K, i, none⟩ u).ownsRow B e s v n L :=
  World.ownsRow.kept h (grown_set (g := K) (World.grownBy.refl w _) (p := ⟨K, i, none⟩) (.inl rfl) u) (.inr (own_blk_ne h hk hne))
theorem app_ws (w : World) (base b : Nat) (hown : w.ownsRow base 41 2 (.slice (some ⟨b, 0, none⟩) 0 0) 0 []) (A : Option Addr) (c : Nat) (ys : List (Int × Int)) (hr : Rl encW 2 w A ys) (hn : ys.length ≤ 10000) (hbase : base ≤ w.heap.size) :
    ∃ v' w', (Builtin.append_ #[28, 28] 28 #[.slice (some ⟨b, 0, none⟩) 0 0, .slice A ys.length c]).run Try.prog w = .ok v' w' ∧ w'.ownsRow base 41 2 v' ys.length (ys.flatMap encW) ∧ w.grownBy w' (some b) := by
  obtain ⟨i0, hi, hz0, hz1, hz2⟩ := info_parts infoW
  cases A with
  | none =>
    obtain rfl := rl_none hr
    refine ⟨.slice (some ⟨b, 0, none⟩) 0 0, w, ?_, by simpa using hown, World.grownBy.refl _ _⟩
    simp [Builtin.append_, run_underlying (P := Try.prog) Try.underlying28, sizeOf, typeInfo, hi, Builtin.lenOf, Builtin.firstCells, storeCells]
  | some ad =>
    obtain ⟨v', w', h1, h2, h3, _⟩ := run_append_own (P := Try.prog) w base 28 28 41 i0 (.agg #[.int .i64 0, .int .i64 0]) 2 16 Try.underlying28 hi hz0 hz1 hz2 rfl (by decide) _ 0 _ hown ad ys.length c (ys.flatMap encW) (by rw [length_flatMap_size encW_len]) (hr.flat encW_len (by omega)) (one_flat encW_one ys) (by unfold maxLen; omega) (by omega) hbase
    exact ⟨v', w', h1, by simpa using h2, h3⟩
theorem app_one (w : World) (base G : Nat) (v : Value) (ws : List (Int × Int)) (hown : w.ownsRow base 41 2 v ws.length (ws.flatMap encW)) (x : Int × Int) (hk : Blk w G 41 #[.int .i64 x.1, .int .i64 x.2]) (hn : ws.length ≤ 10000) (hbase : base ≤ w.heap.size) :
    ∃ v' w', (Builtin.append_ #[28, 28] 28 #[v, .slice (some ⟨G, 0, none⟩) 1 1]).run Try.prog w = .ok v' w' ∧ w'.ownsRow base 41 2 v' (ws ++ [x]).length ((ws ++ [x]).flatMap encW) ∧ w.grownBy w' v.ownBlock := by
  obtain ⟨i0, hi, hz0, hz1, hz2⟩ := info_parts infoW
  obtain ⟨v', w', h1, h2, h3, _⟩ := run_append_own (P := Try.prog) w base 28 28 41 i0 (.agg #[.int .i64 0, .int .i64 0]) 2 16 Try.underlying28 hi hz0 hz1 hz2 rfl (by decide) v ws.length _ hown ⟨G, 0, none⟩ 1 1 (encW x) rfl (fun j u hu => by
    rw [add_at, Nat.zero_add, hk.cell, ← Array.getElem?_toList]
    exact hu) (encW_one x) (by unfold maxLen; omega) (by omega) hbase
  exact ⟨v', w', h1, by simpa using h2, h3⟩
theorem wp_appW {o : Oper} {a : Act} {K : Act → World → Prop} {Q : Exit → Act → World → Prop} {w w' : World} (s x : Operand) (ho : o.op = .call { callee := .builtin .append, args := #[s, x], argTypes := #[28, 28] })
    (hty : o.type = 28) {v v' : Value} {A : Option Addr} {m c : Nat} (hs : a.eval s = v) (hx : a.eval x = .slice A m c) (hrun : (Builtin.append_ #[28, 28] 28 #[v, .slice A m c]).run Try.prog w = .ok v' w')
    (h : K (a.put o.dst v') w') : o.wp Try.prog a w K Q := by
  unfold Oper.wp execOp
  simp only [ho, hty, resolve, invoke, builtin, Sem.run_bind, Sem.run_pure, Result.andThen_ok, List.map_toArray, List.map_cons, List.map_nil, hs, hx, hrun]
  exact h

set_option maxHeartbeats 4000000 in
theorem wsI (A B : Option Addr) (c d : Nat) (xs : List Int) (ws : List (Int × Int)) (x : Int × Int) (w : World) (hr : Rl encD 1 w A xs) (hq : Rl encW 2 w B ws) (hc : xs.length ≤ 1048576) (hd : ws.length ≤ 1048576) :
    Calls Try.prog 25 #[.agg #[.slice A xs.length c, .slice B ws.length d], .agg #[.int .i64 x.1, .int .i64 x.2]] w (WrR xs ws x w) := by
  have hb0 : Below w.heap.size w (((w.alloc (.cells #[.slice A xs.length c, .slice B ws.length d] 30)).alloc (.cells #[.int .i64 x.1, .int .i64 x.2] 41)).alloc (.cells #[.slice none 0 0, .slice none 0 0] 30)) := by go_grown
  have kA := ((Blk.new w 30 #[.slice A xs.length c, .slice B ws.length d]).alloc (.cells #[.int .i64 x.1, .int .i64 x.2] 41)).alloc (.cells #[.slice none 0 0, .slice none 0 0] 30)
  have kX := (Blk.new (w.alloc (.cells #[.slice A xs.length c, .slice B ws.length d] 30)) 41 #[.int .i64 x.1, .int .i64 x.2]).alloc (.cells #[.slice none 0 0, .slice none 0 0] 30)
  have kR := Blk.new ((w.alloc (.cells #[.slice A xs.length c, .slice B ws.length d] 30)).alloc (.cells #[.int .i64 x.1, .int .i64 x.2] 41)) 30 #[.slice none 0 0, .slice none 0 0]
  simp only [World.size_alloc] at kR kX
  have HN := hide (fun (h : wok xs ws x = false) W x0 x1 kR hb hr => wr_no (w := w) (W := W) (r := w.heap.size + 1 + 1) (x0 := x0) (x1 := x1) kR hb hr h)
  have HB := hide (fun h => wok_bad (xs := xs) (ws := ws) (x := x) h)
  have HT := hide (fun h => wok_tk (xs := xs) (ws := ws) (x := x) h)
  have HL := hide (fun h => wok_len (xs := xs) (ws := ws) (x := x) h)
  have HY := hide (fun h h1 h2 => wok_yes (xs := xs) (ws := ws) (x := x) h h1 h2)
  go_enter Try.func25, Try.ntmps25
  go_wp2_with fail
  generalize ((w.alloc (.cells #[.slice A xs.length c, .slice B ws.length d] 30)).alloc (.cells #[.int .i64 x.1, .int .i64 x.2] 41)).alloc (.cells #[.slice none 0 0, .slice none 0 0] 30) = w0 at hb0 kA kX kR ⊢
  refine (vdI A B c d xs ws _ (hr.below hb0) (hq.below hb0) hc hd).mono ?_
  rintro e w1 ⟨rfl, hb1⟩
  replace kA := kA.below hb1
  replace kX := kX.below hb1
  replace kR := kR.below hb1
  have hb1' := bt hb0 hb1 hb0.size
  clear hb0 hb1
  cases hv : vd xs ws
  · have H := hide (HB.out hv)
    clear HB HT HL HY hv
    have r0 : w1.cell? ⟨w.heap.size + 1 + 1, 0, none⟩ = some (.slice none 0 0) := kR.cell 0
    have r1 : w1.cell? ⟨w.heap.size + 1 + 1, 1, none⟩ = some (.slice none 0 0) := kR.cell 1
    have s0 := kR.free 0
    have s1 := kR.free 1
    go_wp2_with fail
    obtain ⟨kF, FF⟩ := HN.out H.out _ _ _ kR hb1' (by omega)
    generalize hF : World.setCell _ _ _ = wF at kF FF ⊢
    have y0 : wF.cell? ⟨w.heap.size + 1 + 1, 0, none⟩ = some (.slice none 0 0) := kF.cell 0
    have y1 : wF.cell? ⟨w.heap.size + 1 + 1, 1, none⟩ = some (.slice none 0 0) := kF.cell 1
    exact bodyPost_ret (v := .tuple #[.agg #[.slice none 0 0, .slice none 0 0], .bool false]) (by simp [results, Try.f25, go_sem, y0, y1] <;> rfl) rfl FF
  · obtain ⟨l1, l2, l3, hN, hW⟩ := vd_parts hv
    clear hN hW
    have c0 : w1.cell? ⟨w.heap.size, 0, none⟩ = some (.slice A xs.length c) := kA.cell 0
    have c1 : w1.cell? ⟨w.heap.size, 1, none⟩ = some (.slice B ws.length d) := kA.cell 1
    have c2 : w1.cell? ⟨w.heap.size + 1, 0, none⟩ = some (.int .i64 x.1) := kX.cell 0
    have c3 : w1.cell? ⟨w.heap.size + 1, 1, none⟩ = some (.int .i64 x.2) := kX.cell 1
    have hv' := hide hv
    clear hv
    go_wp2_with fail
    refine (tkI A B xs.length c ws.length d x _ hc).mono ?_
    rintro e w2 ⟨rfl, hb2⟩
    replace c0 := cell_on hb2 c0
    replace c1 := cell_on hb2 c1
    replace c2 := cell_on hb2 c2
    replace c3 := cell_on hb2 c3
    replace kR := kR.below hb2
    have hb2' := bt2 hb1' hb2
    have r0 : w2.cell? ⟨w.heap.size + 1 + 1, 0, none⟩ = some (.slice none 0 0) := kR.cell 0
    have r1 : w2.cell? ⟨w.heap.size + 1 + 1, 1, none⟩ = some (.slice none 0 0) := kR.cell 1
    have s0 := kR.free 0
    have s1 := kR.free 1
    clear hb1' hb2 kA kX
    have NO : Hid (wok xs ws x = false → Blk ((w2.setCell ⟨w.heap.size + 1 + 1, 0, none⟩ (.slice none 0 0)).setCell ⟨w.heap.size + 1 + 1, 1, none⟩ (.slice none 0 0)) (w.heap.size + 1 + 1) 30 #[.slice none 0 0, .slice none 0 0] ∧
      WrR xs ws x w (.returned (.tuple #[.agg #[.slice none 0 0, .slice none 0 0], .bool false])) ((w2.setCell ⟨w.heap.size + 1 + 1, 0, none⟩ (.slice none 0 0)).setCell ⟨w.heap.size + 1 + 1, 1, none⟩ (.slice none 0 0))) := fun h => HN.out h _ _ _ kR hb2' (by omega)
    cases ht : tk xs.length x
    · have H := hide (HT.out ht)
      clear HB HT HL HY ht
      go_wp2_with fail
      obtain ⟨kF, FF⟩ := NO.out H.out
      generalize hF : World.setCell _ _ _ = wF at kF FF ⊢
      have y0 : wF.cell? ⟨w.heap.size + 1 + 1, 0, none⟩ = some (.slice none 0 0) := kF.cell 0
      have y1 : wF.cell? ⟨w.heap.size + 1 + 1, 1, none⟩ = some (.slice none 0 0) := kF.cell 1
      exact bodyPost_ret (v := .tuple #[.agg #[.slice none 0 0, .slice none 0 0], .bool false]) (by simp [results, Try.f25, go_sem, y0, y1] <;> rfl) rfl FF
    · by_cases h8 : ws.length < 8
      · have H := hide (HY.out hv'.out ht h8)
        have h8' : ((ws.length : Int) == 8) = false := by rw [beq_eq_false_iff_ne]; omega
        clear HB HT HL HY ht HN NO r0 r1 s0 s1
        have hr2 := hr.below hb2'
        have hq2 := hq.below hb2'
        have hzR := kR.lt
        go_wp2_with fail
        clear h8'
        have hbx : Below w2.heap.size w2 w2.drew := (Below.refl _ _).drew
        refine wp_region_noPanic ?_
        refine wp_region_held_drew (S := (fun w' => w'.cell? ⟨w.heap.size, 0, none⟩ = some (.slice A xs.length c) ∧ w'.cell? ⟨w.heap.size, 1, none⟩ = some (.slice B ws.length d) ∧ w'.cell? ⟨w.heap.size + 1, 0, none⟩ = some (.int .i64 x.1) ∧ w'.cell? ⟨w.heap.size + 1, 1, none⟩ = some (.int .i64 x.2))) (by kernel_rfl) ?_ ?_
        · exact ⟨cell_on (hbx) c0, cell_on (hbx) c1, cell_on (hbx) c2, cell_on (hbx) c3⟩
        generalize w2.drew = W0 at hbx ⊢
        intro hHeld
        refine wpAnyH_take (i := 0) (oi := _) (v := ?_) rfl (by kernel_rfl) (by kernel_rfl) (by kernel_rfl) (fun _ _ _ h => h) (Or.inl ⟨by rfl, ?_⟩) (by assumption) ?_
        rotate_left
        · (intro wS hSw; (try dsimp only at hSw); (try go_split_ands); (simp only [List.getElem_toArray, List.getElem_cons_succ, List.getElem_cons_zero]); go_simp <;> (with_reducible rfl))
        try simp only [List.getElem_toArray, List.getElem_cons_succ, List.getElem_cons_zero, Act.put, List.setIfInBounds_toArray, List.set_cons_zero, List.set_cons_succ]
        refine wpAnyH_take (i := 1) (oi := _) (v := ?_) rfl (by kernel_rfl) (by kernel_rfl) (by kernel_rfl) (fun _ _ _ h => h) (Or.inl ⟨by rfl, ?_⟩) (by assumption) ?_
        rotate_left
        · (intro wS hSw; (try dsimp only at hSw); (try go_split_ands); (simp only [List.getElem_toArray, List.getElem_cons_succ, List.getElem_cons_zero]); go_simp <;> (with_reducible rfl))
        try simp only [List.getElem_toArray, List.getElem_cons_succ, List.getElem_cons_zero, Act.put, List.setIfInBounds_toArray, List.set_cons_zero, List.set_cons_succ]
        refine wpAnyH_take (i := 3) (oi := _) (v := ?_) rfl (by kernel_rfl) (by kernel_rfl) (by kernel_rfl) (fun _ _ _ h => h) (Or.inl ⟨by rfl, ?_⟩) (by assumption) ?_
        rotate_left
        · (intro wS hSw; (try dsimp only at hSw); (try go_split_ands); (simp only [List.getElem_toArray, List.getElem_cons_succ, List.getElem_cons_zero]); go_simp <;> (with_reducible rfl))
        try simp only [List.getElem_toArray, List.getElem_cons_succ, List.getElem_cons_zero, Act.put, List.setIfInBounds_toArray, List.set_cons_zero, List.set_cons_succ]
        refine wpAnyH_take (i := 4) (oi := _) (v := ?_) rfl (by kernel_rfl) (by kernel_rfl) (by kernel_rfl) (fun _ _ _ h => h) (Or.inl ⟨by rfl, ?_⟩) (by assumption) ?_
        rotate_left
        · (intro wS hSw; (try dsimp only at hSw); (try go_split_ands); (simp only [List.getElem_toArray, List.getElem_cons_succ, List.getElem_cons_zero]); go_simp <;> (with_reducible rfl))
        try simp only [List.getElem_toArray, List.getElem_cons_succ, List.getElem_cons_zero, Act.put, List.setIfInBounds_toArray, List.set_cons_zero, List.set_cons_succ]
        refine wpAnyH_take (i := 6) (oi := _) (v := ?_) rfl (by kernel_rfl) (by kernel_rfl) (by kernel_rfl) (fun _ _ _ h => h) (Or.inl ⟨by rfl, ?_⟩) (by assumption) ?_
        rotate_left
        · (intro wS hSw; (try dsimp only at hSw); (try go_split_ands); (simp only [List.getElem_toArray, List.getElem_cons_succ, List.getElem_cons_zero]); go_simp <;> (with_reducible rfl))
        try simp only [List.getElem_toArray, List.getElem_cons_succ, List.getElem_cons_zero, Act.put, List.setIfInBounds_toArray, List.set_cons_zero, List.set_cons_succ]
        refine wpAnyH_ready (rs := [2, 7]) (by kernel_rfl) (by simp) (AllReadyH.cons (o := _) rfl (fun K hK => ?_) (AllReadyH.cons (o := _) rfl (fun K hK => ?_) AllReadyH.nil))
        · skip -- 2
          simp only [rq0, rq1, rq2]
          go_simp
          (go_at_call 51; refine (clI A c xs _ (hr2.below hbx) (by omega)).mono ?_; rintro e W1 ⟨v24, rfl, hn, own24⟩)
          obtain ⟨v24a, v24m, v24c, rfl⟩ := own_form own24
          replace own24 := ow_mono (B' := w2.heap.size) own24 hbx.size
          replace hbx := bt2 hbx hn
          clear hn
          refine hK.out _ _ ?_ (fun hHeld => ?_)
          · exact ⟨cell_on (hbx) c0, cell_on (hbx) c1, cell_on (hbx) c2, cell_on (hbx) c3⟩
          clear hK K
          try simp only [rq0, rq1, rq2, Act.put, rq3, rq4, rq5]
          refine wpAnyH_ready (rs := [5, 7]) (by kernel_rfl) (by simp) (AllReadyH.cons (o := _) rfl (fun K hK => ?_) (AllReadyH.cons (o := _) rfl (fun K hK => ?_) AllReadyH.nil))
          · skip -- 5
            simp only [rq0, rq1, rq2]
            go_simp
            (go_at_call 52; refine (clW B d ws _ (hq2.below hbx) (by omega)).mono ?_; rintro e W2 ⟨v27, rfl, hn, own27⟩)
            obtain ⟨v27a, v27m, v27c, rfl⟩ := own_form own27
            replace own24 := ow_below own24 hn
            replace own27 := ow_mono (B' := w2.heap.size) own27 hbx.size
            replace hbx := bt2 hbx hn
            clear hn
            refine hK.out _ _ ?_ (fun hHeld => ?_)
            · exact ⟨cell_on (hbx) c0, cell_on (hbx) c1, cell_on (hbx) c2, cell_on (hbx) c3⟩
            clear hK K
            try simp only [rq0, rq1, rq2, Act.put, rq3, rq4, rq5]
            refine wpAnyH_ready (rs := [7]) (by kernel_rfl) (by simp) (AllReadyH.cons (o := _) rfl (fun K hK => ?_) AllReadyH.nil)
            simp only [rq0, rq1, rq2]
            go_simp
            have hn : Below W2.heap.size W2 (W2.alloc (.cells #[.int .i64 x.1, .int .i64 x.2] 41)) := (Below.refl _ _).alloc (Nat.le_refl _) _
            replace own24 := ow_below own24 hn
            replace own27 := ow_below own27 hn
            have lit := Blk.new W2 41 #[.int .i64 x.1, .int .i64 x.2]
            have hbn := bt2 hbx hn
            refine hK.out _ _ ?_ (fun hHeld => ?_)
            · exact ⟨cell_on (hbn) c0, cell_on (hbn) c1, cell_on (hbn) c2, cell_on (hbn) c3⟩
            clear hK K
            try simp only [rq0, rq1, rq2, Act.put, rq3, rq4, rq5]
            replace hbx := hbn
            clear hbn hn
            generalize W2.alloc (.cells #[.int .i64 x.1, .int .i64 x.2] 41) = W3 at hbx own24 own27 lit ⊢
            refine wpAnyH_ready (rs := [8]) (by kernel_rfl) (by simp) (AllReadyH.cons (o := _) rfl (fun K hK => ?_) AllReadyH.nil)
            simp only [rq0, rq1, rq2]
            rw [if_pos (by rfl)]
            obtain ⟨v30, W4, hrun, own30, hg⟩ := app_one W3 w2.heap.size _ _ ws own27 x lit (by omega) hbx.size
            obtain ⟨v30a, v30m, v30c, rfl⟩ := own_form own30
            refine wp_appW (.tmp 27) (.tmp 29) (by rfl) (by rfl) (by rfl) (by rfl) hrun ?_
            clear hrun
            replace hbx := hbx.grown hg hbx.size (fun k hk => ow_ge own27 hk)
            replace own24 := World.ownsRow.kept own24 hg (own_dif own24 own27 (by decide))
            clear hg own27 lit
            refine hK.out _ _ ?_ (fun hHeld => ?_)
            · exact ⟨cell_on (hbx) c0, cell_on (hbx) c1, cell_on (hbx) c2, cell_on (hbx) c3⟩
            clear hK K
            try simp only [rq0, rq1, rq2, Act.put, rq3, rq4, rq5]
            refine wpAnyH_take (i := 9) (oi := _) (v := ?_) rfl (by kernel_rfl) (by kernel_rfl) (by kernel_rfl) (fun _ _ _ h => h) (Or.inl ⟨by rfl, ?_⟩) (by assumption) ?_
            rotate_left
            · (intro wS hSw; (try dsimp only at hSw); (try go_split_ands); (simp only [List.getElem_toArray, List.getElem_cons_succ, List.getElem_cons_zero]); go_simp <;> (with_reducible rfl))
            try simp only [List.getElem_toArray, List.getElem_cons_succ, List.getElem_cons_zero, Act.put, List.setIfInBounds_toArray, List.set_cons_zero, List.set_cons_succ]
            refine wpAnyH_ready (rs := [10]) (by kernel_rfl) (by simp) (AllReadyH.cons (o := _) rfl (fun K hK => ?_) AllReadyH.nil)
            have kF := kR.below hbx
            have r0 : W4.cell? ⟨w.heap.size + 1 + 1, 0, none⟩ = some (.slice none 0 0) := kF.cell 0
            have r1 : W4.cell? ⟨w.heap.size + 1 + 1, 1, none⟩ = some (.slice none 0 0) := kF.cell 1
            have s0 := kF.free 0
            have s1 := kF.free 1
            simp only [rq0, rq1, rq2]
            go_simp
            refine hK.out _ _ ?_ (fun hHeld => ?_)
            · exact ⟨(World.cell?_setCell_other _ _ _ _ (by intro e; simp at e <;> omega)).trans ((World.cell?_setCell_other _ _ _ _ (by intro e; simp at e <;> omega)).trans (cell_on hbx c0)), (World.cell?_setCell_other _ _ _ _ (by intro e; simp at e <;> omega)).trans ((World.cell?_setCell_other _ _ _ _ (by intro e; simp at e <;> omega)).trans (cell_on hbx c1)), (World.cell?_setCell_other _ _ _ _ (by intro e; simp at e <;> omega)).trans ((World.cell?_setCell_other _ _ _ _ (by intro e; simp at e <;> omega)).trans (cell_on hbx c2)), (World.cell?_setCell_other _ _ _ _ (by intro e; simp at e <;> omega)).trans ((World.cell?_setCell_other _ _ _ _ (by intro e; simp at e <;> omega)).trans (cell_on hbx c3))⟩
            clear hK K
            try simp only [rq0, rq1, rq2, Act.put, rq3, rq4, rq5]
            clear r0 r1 s0 s1
            refine wpAnyH_take (i := 11) (oi := _) (v := ?_) rfl (by kernel_rfl) (by kernel_rfl) (by kernel_rfl) (fun _ _ _ h => h) (Or.inl ⟨by rfl, ?_⟩) (by assumption) ?_
            rotate_left
            · (intro wS hSw; (try dsimp only at hSw); (try go_split_ands); (simp only [List.getElem_toArray, List.getElem_cons_succ, List.getElem_cons_zero]); go_simp <;> (with_reducible rfl))
            try simp only [List.getElem_toArray, List.getElem_cons_succ, List.getElem_cons_zero, Act.put, List.setIfInBounds_toArray, List.set_cons_zero, List.set_cons_succ]
            refine wpAnyH_done (by kernel_rfl) ?_ _
            refine NoPanic.normal ?_
            clear hHeld
            have FF := hide (wr_yes kF (bt2 hb2' hbx) (by omega) hzR H.out own24 own30)
            clear own24 own30 kF hbx
            go_wp2_with fail
            obtain ⟨kE, FE⟩ := FF.out
            generalize hF : World.setCell _ _ _ = wF at kE FE ⊢
            have y0 : wF.cell? ⟨w.heap.size + 1 + 1, 0, none⟩ = some (.slice v24a v24m v24c) := kE.cell 0
            have y1 : wF.cell? ⟨w.heap.size + 1 + 1, 1, none⟩ = some (.slice v30a v30m v30c) := kE.cell 1
            exact bodyPost_ret (v := .tuple #[.agg #[.slice v24a v24m v24c, .slice v30a v30m v30c], .bool true]) (by simp [results, Try.f25, go_sem, y0, y1] <;> rfl) rfl FE
          · skip -- 7
            simp only [rq0, rq1, rq2]
            go_simp
            have hn : Below W1.heap.size W1 (W1.alloc (.cells #[.int .i64 x.1, .int .i64 x.2] 41)) := (Below.refl _ _).alloc (Nat.le_refl _) _
            replace own24 := ow_below own24 hn
            have lit := Blk.new W1 41 #[.int .i64 x.1, .int .i64 x.2]
            have hbn := bt2 hbx hn
            refine hK.out _ _ ?_ (fun hHeld => ?_)
            · exact ⟨cell_on (hbn) c0, cell_on (hbn) c1, cell_on (hbn) c2, cell_on (hbn) c3⟩
            clear hK K
            try simp only [rq0, rq1, rq2, Act.put, rq3, rq4, rq5]
            replace hbx := hbn
            clear hbn hn
            generalize W1.alloc (.cells #[.int .i64 x.1, .int .i64 x.2] 41) = W2 at hbx own24 lit ⊢
            refine wpAnyH_ready (rs := [5]) (by kernel_rfl) (by simp) (AllReadyH.cons (o := _) rfl (fun K hK => ?_) AllReadyH.nil)
            simp only [rq0, rq1, rq2]
            go_simp
            (go_at_call 52; refine (clW B d ws _ (hq2.below hbx) (by omega)).mono ?_; rintro e W3 ⟨v27, rfl, hn, own27⟩)
            obtain ⟨v27a, v27m, v27c, rfl⟩ := own_form own27
            replace own24 := ow_below own24 hn
            replace lit := lit.below hn
            replace own27 := ow_mono (B' := w2.heap.size) own27 hbx.size
            replace hbx := bt2 hbx hn
            clear hn
            refine hK.out _ _ ?_ (fun hHeld => ?_)
            · exact ⟨cell_on (hbx) c0, cell_on (hbx) c1, cell_on (hbx) c2, cell_on (hbx) c3⟩
            clear hK K
            try simp only [rq0, rq1, rq2, Act.put, rq3, rq4, rq5]
            refine wpAnyH_ready (rs := [8]) (by kernel_rfl) (by simp) (AllReadyH.cons (o := _) rfl (fun K hK => ?_) AllReadyH.nil)
            simp only [rq0, rq1, rq2]
            rw [if_pos (by rfl)]
            obtain ⟨v30, W4, hrun, own30, hg⟩ := app_one W3 w2.heap.size _ _ ws own27 x lit (by omega) hbx.size
            obtain ⟨v30a, v30m, v30c, rfl⟩ := own_form own30
            refine wp_appW (.tmp 27) (.tmp 29) (by rfl) (by rfl) (by rfl) (by rfl) hrun ?_
            clear hrun
            replace hbx := hbx.grown hg hbx.size (fun k hk => ow_ge own27 hk)
            replace own24 := World.ownsRow.kept own24 hg (own_dif own24 own27 (by decide))
            clear hg own27 lit
            refine hK.out _ _ ?_ (fun hHeld => ?_)
            · exact ⟨cell_on (hbx) c0, cell_on (hbx) c1, cell_on (hbx) c2, cell_on (hbx) c3⟩
            clear hK K
            try simp only [rq0, rq1, rq2, Act.put, rq3, rq4, rq5]
            refine wpAnyH_take (i := 9) (oi := _) (v := ?_) rfl (by kernel_rfl) (by kernel_rfl) (by kernel_rfl) (fun _ _ _ h => h) (Or.inl ⟨by rfl, ?_⟩) (by assumption) ?_
            rotate_left
            · (intro wS hSw; (try dsimp only at hSw); (try go_split_ands); (simp only [List.getElem_toArray, List.getElem_cons_succ, List.getElem_cons_zero]); go_simp <;> (with_reducible rfl))
            try simp only [List.getElem_toArray, List.getElem_cons_succ, List.getElem_cons_zero, Act.put, List.setIfInBounds_toArray, List.set_cons_zero, List.set_cons_succ]
            refine wpAnyH_ready (rs := [10]) (by kernel_rfl) (by simp) (AllReadyH.cons (o := _) rfl (fun K hK => ?_) AllReadyH.nil)
            have kF := kR.below hbx
            have r0 : W4.cell? ⟨w.heap.size + 1 + 1, 0, none⟩ = some (.slice none 0 0) := kF.cell 0
            have r1 : W4.cell? ⟨w.heap.size + 1 + 1, 1, none⟩ = some (.slice none 0 0) := kF.cell 1
            have s0 := kF.free 0
            have s1 := kF.free 1
            simp only [rq0, rq1, rq2]
            go_simp
            refine hK.out _ _ ?_ (fun hHeld => ?_)
            · exact ⟨(World.cell?_setCell_other _ _ _ _ (by intro e; simp at e <;> omega)).trans ((World.cell?_setCell_other _ _ _ _ (by intro e; simp at e <;> omega)).trans (cell_on hbx c0)), (World.cell?_setCell_other _ _ _ _ (by intro e; simp at e <;> omega)).trans ((World.cell?_setCell_other _ _ _ _ (by intro e; simp at e <;> omega)).trans (cell_on hbx c1)), (World.cell?_setCell_other _ _ _ _ (by intro e; simp at e <;> omega)).trans ((World.cell?_setCell_other _ _ _ _ (by intro e; simp at e <;> omega)).trans (cell_on hbx c2)), (World.cell?_setCell_other _ _ _ _ (by intro e; simp at e <;> omega)).trans ((World.cell?_setCell_other _ _ _ _ (by intro e; simp at e <;> omega)).trans (cell_on hbx c3))⟩
            clear hK K
            try simp only [rq0, rq1, rq2, Act.put, rq3, rq4, rq5]
            clear r0 r1 s0 s1
            refine wpAnyH_take (i := 11) (oi := _) (v := ?_) rfl (by kernel_rfl) (by kernel_rfl) (by kernel_rfl) (fun _ _ _ h => h) (Or.inl ⟨by rfl, ?_⟩) (by assumption) ?_
            rotate_left
            · (intro wS hSw; (try dsimp only at hSw); (try go_split_ands); (simp only [List.getElem_toArray, List.getElem_cons_succ, List.getElem_cons_zero]); go_simp <;> (with_reducible rfl))
            try simp only [List.getElem_toArray, List.getElem_cons_succ, List.getElem_cons_zero, Act.put, List.setIfInBounds_toArray, List.set_cons_zero, List.set_cons_succ]
            refine wpAnyH_done (by kernel_rfl) ?_ _
            refine NoPanic.normal ?_
            clear hHeld
            have FF := hide (wr_yes kF (bt2 hb2' hbx) (by omega) hzR H.out own24 own30)
            clear own24 own30 kF hbx
            go_wp2_with fail
            obtain ⟨kE, FE⟩ := FF.out
            generalize hF : World.setCell _ _ _ = wF at kE FE ⊢
            have y0 : wF.cell? ⟨w.heap.size + 1 + 1, 0, none⟩ = some (.slice v24a v24m v24c) := kE.cell 0
            have y1 : wF.cell? ⟨w.heap.size + 1 + 1, 1, none⟩ = some (.slice v30a v30m v30c) := kE.cell 1
            exact bodyPost_ret (v := .tuple #[.agg #[.slice v24a v24m v24c, .slice v30a v30m v30c], .bool true]) (by simp [results, Try.f25, go_sem, y0, y1] <;> rfl) rfl FE
        · skip -- 7
          simp only [rq0, rq1, rq2]
          go_simp
          have hn : Below W0.heap.size W0 (W0.alloc (.cells #[.int .i64 x.1, .int .i64 x.2] 41)) := (Below.refl _ _).alloc (Nat.le_refl _) _
          have lit := Blk.new W0 41 #[.int .i64 x.1, .int .i64 x.2]
          have hbn := bt2 hbx hn
          refine hK.out _ _ ?_ (fun hHeld => ?_)
          · exact ⟨cell_on (hbn) c0, cell_on (hbn) c1, cell_on (hbn) c2, cell_on (hbn) c3⟩
          clear hK K
          try simp only [rq0, rq1, rq2, Act.put, rq3, rq4, rq5]
          replace hbx := hbn
          clear hbn hn
          generalize W0.alloc (.cells #[.int .i64 x.1, .int .i64 x.2] 41) = W1 at hbx lit ⊢
          refine wpAnyH_ready (rs := [2]) (by kernel_rfl) (by simp) (AllReadyH.cons (o := _) rfl (fun K hK => ?_) AllReadyH.nil)
          simp only [rq0, rq1, rq2]
          go_simp
          (go_at_call 51; refine (clI A c xs _ (hr2.below hbx) (by omega)).mono ?_; rintro e W2 ⟨v24, rfl, hn, own24⟩)
          obtain ⟨v24a, v24m, v24c, rfl⟩ := own_form own24
          replace lit := lit.below hn
          replace own24 := ow_mono (B' := w2.heap.size) own24 hbx.size
          replace hbx := bt2 hbx hn
          clear hn
          refine hK.out _ _ ?_ (fun hHeld => ?_)
          · exact ⟨cell_on (hbx) c0, cell_on (hbx) c1, cell_on (hbx) c2, cell_on (hbx) c3⟩
          clear hK K
          try simp only [rq0, rq1, rq2, Act.put, rq3, rq4, rq5]
          refine wpAnyH_ready (rs := [5]) (by kernel_rfl) (by simp) (AllReadyH.cons (o := _) rfl (fun K hK => ?_) AllReadyH.nil)
          simp only [rq0, rq1, rq2]
          go_simp
          (go_at_call 52; refine (clW B d ws _ (hq2.below hbx) (by omega)).mono ?_; rintro e W3 ⟨v27, rfl, hn, own27⟩)
          obtain ⟨v27a, v27m, v27c, rfl⟩ := own_form own27
          replace own24 := ow_below own24 hn
          replace lit := lit.below hn
          replace own27 := ow_mono (B' := w2.heap.size) own27 hbx.size
          replace hbx := bt2 hbx hn
          clear hn
          refine hK.out _ _ ?_ (fun hHeld => ?_)
          · exact ⟨cell_on (hbx) c0, cell_on (hbx) c1, cell_on (hbx) c2, cell_on (hbx) c3⟩
          clear hK K
          try simp only [rq0, rq1, rq2, Act.put, rq3, rq4, rq5]
          refine wpAnyH_ready (rs := [8]) (by kernel_rfl) (by simp) (AllReadyH.cons (o := _) rfl (fun K hK => ?_) AllReadyH.nil)
          simp only [rq0, rq1, rq2]
          rw [if_pos (by rfl)]
          obtain ⟨v30, W4, hrun, own30, hg⟩ := app_one W3 w2.heap.size _ _ ws own27 x lit (by omega) hbx.size
          obtain ⟨v30a, v30m, v30c, rfl⟩ := own_form own30
          refine wp_appW (.tmp 27) (.tmp 29) (by rfl) (by rfl) (by rfl) (by rfl) hrun ?_
          clear hrun
          replace hbx := hbx.grown hg hbx.size (fun k hk => ow_ge own27 hk)
          replace own24 := World.ownsRow.kept own24 hg (own_dif own24 own27 (by decide))
          clear hg own27 lit
          refine hK.out _ _ ?_ (fun hHeld => ?_)
          · exact ⟨cell_on (hbx) c0, cell_on (hbx) c1, cell_on (hbx) c2, cell_on (hbx) c3⟩
          clear hK K
          try simp only [rq0, rq1, rq2, Act.put, rq3, rq4, rq5]
          refine wpAnyH_take (i := 9) (oi := _) (v := ?_) rfl (by kernel_rfl) (by kernel_rfl) (by kernel_rfl) (fun _ _ _ h => h) (Or.inl ⟨by rfl, ?_⟩) (by assumption) ?_
          rotate_left
          · (intro wS hSw; (try dsimp only at hSw); (try go_split_ands); (simp only [List.getElem_toArray, List.getElem_cons_succ, List.getElem_cons_zero]); go_simp <;> (with_reducible rfl))
          try simp only [List.getElem_toArray, List.getElem_cons_succ, List.getElem_cons_zero, Act.put, List.setIfInBounds_toArray, List.set_cons_zero, List.set_cons_succ]
          refine wpAnyH_ready (rs := [10]) (by kernel_rfl) (by simp) (AllReadyH.cons (o := _) rfl (fun K hK => ?_) AllReadyH.nil)
          have kF := kR.below hbx
          have r0 : W4.cell? ⟨w.heap.size + 1 + 1, 0, none⟩ = some (.slice none 0 0) := kF.cell 0
          have r1 : W4.cell? ⟨w.heap.size + 1 + 1, 1, none⟩ = some (.slice none 0 0) := kF.cell 1
          have s0 := kF.free 0
          have s1 := kF.free 1
          simp only [rq0, rq1, rq2]
          go_simp
          refine hK.out _ _ ?_ (fun hHeld => ?_)
          · exact ⟨(World.cell?_setCell_other _ _ _ _ (by intro e; simp at e <;> omega)).trans ((World.cell?_setCell_other _ _ _ _ (by intro e; simp at e <;> omega)).trans (cell_on hbx c0)), (World.cell?_setCell_other _ _ _ _ (by intro e; simp at e <;> omega)).trans ((World.cell?_setCell_other _ _ _ _ (by intro e; simp at e <;> omega)).trans (cell_on hbx c1)), (World.cell?_setCell_other _ _ _ _ (by intro e; simp at e <;> omega)).trans ((World.cell?_setCell_other _ _ _ _ (by intro e; simp at e <;> omega)).trans (cell_on hbx c2)), (World.cell?_setCell_other _ _ _ _ (by intro e; simp at e <;> omega)).trans ((World.cell?_setCell_other _ _ _ _ (by intro e; simp at e <;> omega)).trans (cell_on hbx c3))⟩
          clear hK K
          try simp only [rq0, rq1, rq2, Act.put, rq3, rq4, rq5]
          clear r0 r1 s0 s1
          refine wpAnyH_take (i := 11) (oi := _) (v := ?_) rfl (by kernel_rfl) (by kernel_rfl) (by kernel_rfl) (fun _ _ _ h => h) (Or.inl ⟨by rfl, ?_⟩) (by assumption) ?_
          rotate_left
          · (intro wS hSw; (try dsimp only at hSw); (try go_split_ands); (simp only [List.getElem_toArray, List.getElem_cons_succ, List.getElem_cons_zero]); go_simp <;> (with_reducible rfl))
          try simp only [List.getElem_toArray, List.getElem_cons_succ, List.getElem_cons_zero, Act.put, List.setIfInBounds_toArray, List.set_cons_zero, List.set_cons_succ]
          refine wpAnyH_done (by kernel_rfl) ?_ _
          refine NoPanic.normal ?_
          clear hHeld
          have FF := hide (wr_yes kF (bt2 hb2' hbx) (by omega) hzR H.out own24 own30)
          clear own24 own30 kF hbx
          go_wp2_with fail
          obtain ⟨kE, FE⟩ := FF.out
          generalize hF : World.setCell _ _ _ = wF at kE FE ⊢
          have y0 : wF.cell? ⟨w.heap.size + 1 + 1, 0, none⟩ = some (.slice v24a v24m v24c) := kE.cell 0
          have y1 : wF.cell? ⟨w.heap.size + 1 + 1, 1, none⟩ = some (.slice v30a v30m v30c) := kE.cell 1
          exact bodyPost_ret (v := .tuple #[.agg #[.slice v24a v24m v24c, .slice v30a v30m v30c], .bool true]) (by simp [results, Try.f25, go_sem, y0, y1] <;> rfl) rfl FE
      · have H := hide (HL.out h8)
        have h8' : ((ws.length : Int) == 8) = true := by rw [beq_iff_eq]; omega
        clear HB HT HL HY ht
        go_wp2_with fail
        obtain ⟨kF, FF⟩ := NO.out H.out
        generalize hF : World.setCell _ _ _ = wF at kF FF ⊢
        have y0 : wF.cell? ⟨w.heap.size + 1 + 1, 0, none⟩ = some (.slice none 0 0) := kF.cell 0
        have y1 : wF.cell? ⟨w.heap.size + 1 + 1, 1, none⟩ = some (.slice none 0 0) := kF.cell 1
        exact bodyPost_ret (v := .tuple #[.agg #[.slice none 0 0, .slice none 0 0], .bool false]) (by simp [results, Try.f25, go_sem, y0, y1] <;> rfl) rfl FF

end Go.Proofs.Ytgabjepoooageaa
