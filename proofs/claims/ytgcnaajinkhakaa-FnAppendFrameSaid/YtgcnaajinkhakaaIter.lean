/-
  A range over a function whose iterator keeps a variable of its own in a cell (a captured variable that it writes between two rounds): one law for the caller; the iterator impl.frames and its contract. The library's laws name what the body must keep but let the iterator write no cell. Conditions: the body never leaves its loop.
-/
import Derived.RangeFuncNested
import Derived.RangeFuncBound
import Derived.RangeFuncCalls
import Derived.RangeFuncLeaves
import Derived.Shelf.Abstract
import Derived.Shelf.RegionOpen
import Derived.WalkKit
import Derived.OwnWalkIn
import Derived.TacticsInMore
import Derived.LoopNIn
import Derived.LoopIn
import Derived.Sort.QuietIn
import Derived.Maps.AppendAt
import Derived.Test.YtgcnaajinkhakaaRead
namespace Go.Proofs.Ytgcnaajinkhakaa
open Go.RowKit Go.Shelf
attribute [local go_sem] Oper.semAt_some
set_option linter.unusedVariables false
set_option linter.unusedSimpArgs false

/-- What the iterator's own cell asks of an invariant: it abides new blocks, draws and whatever is written into block B. -/
def Past {β : Type} (B : Nat) (I : β → World → Prop) : Prop := ∀ s W W', I s W → W.grownBy W' (some B) → I s W'
/-- How a body that never leaves its loop ends. -/
def goesOn {α : Type} (B : Nat) (I : List α → World → Prop) (xs : List α) (W : World) : Exit → Act → World → Prop
  | .normal, _, W' => KeepsOthers W W' ∧ W'.heap[B]? = W.heap[B]? ∧ I xs W'
  | _, _, _ => False

theorem range_own_cell {α : Type} {P : Program} {F : Fence} {n : Nat} {g : Operand} {ps : Array Tmp} {assign body : Code} {Q : Exit → Act → World → Prop} {a : Act} {w : World}
    (hro : F.round = none) (h1 : 1 ≤ n) {gf : Nat} {lb : Array Value} (hg : a.eval g = .func (.func gf) #[] lb) (hFg : F.fn gf) (eg : ∀ args w, (callFunc gf args).run P w = .ok (.enter gf args) w)
    {encs : α → Array Value} {S Pf : List α → Prop} (B : Nat) {o : Obj} (hB : w.heap[B]? = some o) (hBc : o.isCells = true)
    (hseq : ∀ (l : Nat) (J : List α → World → Prop) (W : World), W.heap[B]? = some o → Past B J →
      (∀ pre x W1, J pre W1 → Pf (pre ++ [x]) → YieldAt F (n - 1 - 1) P l (encs x) W1 fun e W' => e = .returned (.bool true) ∧ J (pre ++ [x]) W' ∧ W'.heap[B]? = W1.heap[B]?) →
      J [] W → CallsIn F (n - 1) P gf (#[.func (.yield l) #[] #[]] ++ lb) W fun e W' => (∃ v, e = .returned v) ∧ ∃ xs, S xs ∧ J xs W')
    (hps : ∀ x, (encs x).size = ps.size)
    (I : List α → World → Prop) (hI : OwnFrom w.heap.size I) (hIB : Past B I) (h0 : I [] w) (a₁ : α → Act)
    (hassign : ∀ (l : Nat) (x : α) (W : World) (K : Act → World → Prop), K (a₁ x) W →
      assign.wpIn (F.inRound l) (n - 1 - 1) P (Exit.then K (fun _ _ _ => False)) { tmps := (ps.zip (encs x)).foldl (fun t (p, v) => t.setIfInBounds p v) a.tmps, defers := [] } W)
    (hbody : ∀ (l : Nat) (pre : List α) (x : α) (W : World), I pre W → Pf (pre ++ [x]) → body.wpIn (F.inRound l) (n - 1 - 1) P (goesOn B I (pre ++ [x]) W) (a₁ x) W)
    (hdone : ∀ (D : Nat) (xs : List α) (W : World), w.heap.size ≤ D → S xs → I xs W → W.heap[D]? = some (.deferred (some [])) → Q .normal { a with defers := { target := .collected D, args := #[] } :: a.defers } W) :
    (Code.rangeFunc g ps assign body).wpIn F n P Q a w := by
  have hBlt : B < w.heap.size := (Array.getElem?_eq_some_iff.1 hB).1
  refine wpIn_rangeFunc ?_
  intro fn hfn
  rw [hro]
  obtain ⟨rec, hrec⟩ : ∃ rec : LoopState → Loop, rec = fun st => { state := st, pending := none, fn, tmps := a.tmps, params := ps, assign, body, defers := w.heap.size } := ⟨_, rfl⟩
  obtain ⟨W1, hW1⟩ : ∃ W1, (w.alloc (.deferred (some []))).alloc (.loop (rec .ready)) = W1 := ⟨_, rfl⟩
  have hL1 : W1.heap[w.heap.size + 1]? = some (.loop (rec .ready)) := by
    have := World.alloc_heap_new (w.alloc (.deferred (some []))) (.loop (rec .ready))
    rw [World.size_alloc] at this
    rw [← hW1]
    exact this
  have hK1 : W1.heap[w.heap.size]? = some (.deferred (some [])) := by
    rw [← hW1]
    exact (Below.heap_alloc _ _ _ (by simp)).trans (World.alloc_heap_new w _)
  have hB1 : W1.heap[B]? = some o := by
    rw [← hW1]
    exact ((Below.heap_alloc _ _ _ (by simp; omega)).trans (Below.heap_alloc _ _ _ hBlt)).trans hB
  have hI1 : I [] W1 := by
    rw [← hW1]
    exact hI.alloc _ (hI.alloc _ h0)
  refine ⟨w.heap.size + 1, [{ target := .collected w.heap.size, args := #[] }], W1, { target := .fn (.func gf) lb, args := #[.func (.yield (w.heap.size + 1)) #[] #[]] }, W1, gf,
    #[.func (.yield (w.heap.size + 1)) #[] #[]] ++ lb, W1, ?_, ?_, ?_, ?_, fun _ => h1, ?_⟩
  · rw [← hW1, hrec]
    exact run_enterLoop_outer _ _ _ _ _
  · simp only [resolve, hg]
    simp [go_sem]
  · intro f' hf'
    simp [Target.leads] at hf'
    subst hf'
    exact hFg
  · simp [invoke, go_sem, eg]
  · refine (hseq (w.heap.size + 1)
      (fun pre W => I pre W ∧ W.heap[w.heap.size + 1]? = some (.loop (rec .ready)) ∧ W.heap[w.heap.size]? = some (.deferred (some []))) W1 hB1
      (fun s A C hs hgr => ⟨hIB s A C hs.1 hgr,
        (hgr.block _ (Array.getElem?_eq_some_iff.1 hs.2.1).1 (by simp; omega)).trans hs.2.1,
        (hgr.block _ (Array.getElem?_eq_some_iff.1 hs.2.2).1 (by simp; omega)).trans hs.2.2⟩)
      ?_ ⟨hI1, hL1, hK1⟩).mono ?_
    · rintro pre x W ⟨hi, hl, hk⟩ hpf
      have hlt : w.heap.size + 1 < W.heap.size := (Array.getElem?_eq_some_iff.1 hl).1
      have hy := run_yield (P := P) (args := encs x) hl (by rw [hrec]; exact hps x)
      rw [hrec] at hy
      refine ⟨fn, _, assign, body, hy, roundIn_of_wpIn hfn (hassign _ x W _ ⟨_, run_beginRound hl (by rw [hrec]), ?_⟩)⟩
      have hl2 : (W.putObj (w.heap.size + 1) (.loop { rec .ready with state := .busy })).heap[w.heap.size + 1]? = some (.loop { rec .ready with state := .busy }) := World.putObj_heap_same hlt
      have hk2 : (W.putObj (w.heap.size + 1) (.loop { rec .ready with state := .busy })).heap[w.heap.size]? = some (.deferred (some [])) := (World.putObj_heap_other (by omega)).trans hk
      have hB2 : (W.putObj (w.heap.size + 1) (.loop { rec .ready with state := .busy })).heap[B]? = W.heap[B]? := World.putObj_heap_other (by omega)
      refine wpIn_mono (hbody _ pre x _ (hI.putObj _ hi (by omega) hl rfl) hpf) ?_
      rintro e a3 W3 hp
      cases e with
      | normal =>
        obtain ⟨hk3, hb3, hi3⟩ := hp
        have hl3 := hk3.same _ _ hl2 rfl
        have hr := run_endRound (P := P) none hl3
        rw [hrec] at hr
        refine ⟨_, _, hr, rfl, ⟨hI.putObj _ hi3 (by omega) hl3 rfl, ?_, (World.putObj_heap_other (by omega)).trans (hk3.same _ _ hk2 rfl)⟩, ?_⟩
        · rw [hrec]
          exact World.putObj_heap_same (Array.getElem?_eq_some_iff.1 hl3).1
        · exact (World.putObj_heap_other (by omega)).trans (hb3.trans hB2)
      | ret => exact hp.elim
      | exit id => exact hp.elim
      | goto t => exact hp.elim
      | panic ch => exact hp.elim
      | outgrown => exact hp.elim
    · rintro e W2 ⟨⟨v, rfl⟩, xs, hS, hi, hl, hk⟩
      exact ⟨none, _, by have := run_endLoop (P := P) hl (by rw [hrec]; simp); rw [hrec] at this; exact this, hdone _ xs _ (Nat.le_refl _) hS (hI.putObj _ hi (by omega) hl rfl) ((World.putObj_heap_other (by omega)).trans hk)⟩

theorem first_no {s : ByteArray} (h : nx s = none) (hs : s.size ≤ 9223372036854775807) (w : World) :
    Calls Try.prog 42 #[.string s] w fun e w' => ∃ t, e = .returned (.tuple #[.string t, .bool false]) ∧ Below w.heap.size w w' :=
  (first_any s w hs).mono fun e w' ⟨t, h1, _, h3⟩ => ⟨t, by rw [h1, h]; rfl, h3⟩
theorem first_yes {s : ByteArray} {n : Nat} (h : nx s = some n) (hs : s.size ≤ 9223372036854775807) (w : World) :
    Calls Try.prog 42 #[.string s] w fun e w' => e = .returned (.tuple #[.string (s.extract 3 (3 + n)), .bool true]) ∧ Below w.heap.size w w' :=
  (first_any s w hs).mono fun e w' ⟨t, h1, h2, h3⟩ => ⟨by rw [h1, h2 n h, h]; rfl, h3⟩
def leftB (B : Nat) (W : World) : Nat := match W.cell? ⟨B, 0, none⟩ with | some (.string s) => s.size | _ => 0
theorem leftB_eq {B : Nat} {W : World} {s : ByteArray} (h : W.cell? ⟨B, 0, none⟩ = some (.string s)) : leftB B W = s.size := by unfold leftB; rw [h]

set_option maxHeartbeats 1000000 in
theorem frames1_in (n l B : Nat) (hn : 1 ≤ n) (J : List ByteArray → World → Prop) (hJ : Past B J)
    (s : ByteArray) (hY : ∀ pre x W1, J pre W1 → pre ++ [x] <+: RF s → YieldAt Fence.wide (n - 1) Try.prog l #[.string x] W1 fun e W' => e = .returned (.bool true) ∧ J (pre ++ [x]) W' ∧ W'.heap[B]? = W1.heap[B]?)
    (hs : s.size ≤ 9223372036854775807) (W : World) (hB : Blk W B 9 #[.string s]) (h0 : J [] W) :
    CallsIn Fence.wide n Try.prog 41 #[.func (.yield l) #[] #[], .pointer (some ⟨B, 0, none⟩)] W fun e W' => (∃ v, e = .returned v) ∧ ∃ ys, ys = RF s ∧ J ys W' := by
  have hF : Fence.wide.fn 41 := trivial
  refine callsIn_of_wp Try.func41 rfl hF ?_ rfl
  simp only [Try.ntmps41, List.size_toArray, List.length_cons, List.length_nil, Nat.reduceAdd, Nat.reduceSub, Array.replicate_succ, Array.replicate_zero, List.push_toArray, List.append_toArray, List.nil_append, List.cons_append]
  gi_wp2
  gi_loopw [3] (fun p wr => ∃ (z : Value) (pre : List ByteArray) (t : ByteArray), p = z ∧ Blk wr B 9 #[.string t] ∧ t.size ≤ 9223372036854775807 ∧ J pre wr ∧ Hid (RF s = pre ++ RF t))
    (fun _ wr => leftB B wr)
  case atStart => exact ⟨_, [], s, rfl, hB, hs, h0, rfl⟩
  case round =>
    obtain ⟨z, pre, t, rfl, hb, ht, hj, hrf⟩ := hrel
    have hc : wr.cell? ⟨B, 0, none⟩ = some (.string t) := hb.cell 0
    have hlt := hb.lt
    cases hx : nx t with
    | none =>
      have HR := hide (RF_none hx)
      gi_wp2_with (refine ⟨trivial, ?_⟩; gi_at_call 42; refine (callsIn_wide.2 (first_no hx ht wr)).mono ?_; rintro e w1 ⟨y, rfl, hb1⟩)
      all_goals (try (refine ⟨fun _ h => (by cases h), ?_⟩; gi_wp2))
      all_goals
        refine bodyPost_ret (results_none rfl _ _ _) rfl ?_
        exact ⟨⟨_, rfl⟩, pre, by rw [hrf.out, HR.out, List.append_nil], hJ _ _ _ hj (grown_below hb1 _)⟩
    | some m =>
      have HR := hide (RF_some hx)
      have hle := nx_le hx
      have hf1 := first_yes hx ht wr
      have hxs : (t.extract 3 (3 + m)).size = m := by rw [ext_size (by omega)]; omega
      clear hx
      generalize t.extract 3 (3 + m) = x at HR hf1 hxs
      gi_wp2_with (refine ⟨trivial, ?_⟩; gi_at_call 42; refine (callsIn_wide.2 hf1).mono ?_; rintro e w1 ⟨rfl, hb1⟩; clear hf1; have hb' := hb.below hb1; have hj' := hJ _ _ _ hj (grown_below hb1 _); obtain ⟨fn, tmps, assign, body, hy, hR⟩ := hY pre x w1 hj' ⟨_, by rw [hrf.out, HR.out]; simp; rfl⟩)
      refine hR.mono ?_
      rintro e W3 ⟨rfl, hJ3, hk3⟩
      have hb3 : Blk W3 B 9 #[.string t] := hk3.trans hb'
      have hc3 : W3.cell? ⟨B, 0, none⟩ = some (.string t) := hb3.cell 0
      have hf3 := hb3.free 0
      have s1 : (m : Int) + 6 ≤ (t.size : Int) := by omega
      have s2 : (x.size : Int) = (m : Int) := by omega
      gi_wp2
      go_roundw
      case rel =>
        refine ⟨_, pre ++ [x], t.extract (m + 6) t.size, rfl, ?_, ?_, hJ _ _ _ hJ3 (grown_set (World.grownBy.refl _ _) (.inl rfl) _), ?_⟩
        · have := hb3.set 0 (.string (t.extract (m + 6) t.size))
          simpa using this
        · rw [ext_size (Nat.le_refl _)]; omega
        · rw [hrf.out, HR.out]
          unfold Hid
          simp
      case measure =>
        rw [leftB_eq hc, leftB_eq (s := t.extract (m + 6) t.size) (by have := (hb3.set 0 (.string (t.extract (m + 6) t.size))).cell 0; simpa using this), ext_size (Nat.le_refl _)]
        omega

theorem frames_any (s : ByteArray) (w : World) :
    Calls Try.prog 34 #[.string s] w fun e w' => e = .returned (.func (.func 41) #[] #[.pointer (some ⟨w.heap.size, 0, none⟩)]) ∧ w' = w.alloc (.cells #[.string s] 9) := by
  go_enter Try.func34, Try.ntmps34
  go_wp2
  go_ret
  exact ⟨rfl, rfl⟩

theorem own_cells {w : World} {B e size n k : Nat} {v : Value} {xs : List Value} (h : w.ownsRow B e size v n xs) (hk : v.ownBlock = some k) : ∃ cs, w.heap[k]? = some (.cells cs e (0, 0)) := by
  rcases h.2 with ⟨rfl, _⟩ | ⟨g, cap, cur, rfl, a, b, _⟩
  · cases hk
  · cases hk; exact ⟨cur, b⟩
theorem own_mono {w : World} {B B' e size n : Nat} {v : Value} {xs : List Value} (h : w.ownsRow B e size v n xs) (hb : B' ≤ B) : w.ownsRow B' e size v n xs := by
  obtain ⟨h1, h2⟩ := h
  refine ⟨h1, ?_⟩
  rcases h2 with h2 | ⟨g, cap, cur, a, b, c⟩
  · exact .inl h2
  · exact .inr ⟨g, cap, cur, a, by omega, c⟩
theorem own_kept {w w' : World} {B e size n : Nat} {row : Option Nat} {v : Value} {xs : List Value} (h : w.ownsRow B e size v n xs) (hg : w.grownBy w' row)
    (hne : ∀ k, v.ownBlock = some k → B ≤ k → (∃ cs, w.heap[k]? = some (.cells cs e (0, 0))) → row ≠ some k) : w'.ownsRow B e size v n xs := by
  obtain ⟨h1, h2⟩ := h
  refine ⟨h1, ?_⟩
  rcases h2 with h2 | ⟨g, cap, cur, a, b, c, d⟩
  · exact .inl h2
  · exact .inr ⟨g, cap, cur, a, b, (hg.block g (Array.getElem?_eq_some_iff.1 c).1 (fun e => hne g (by rw [a]; rfl) b ⟨cur, c⟩ e.symm)).trans c, d⟩

/-- What the caller's cells hold when pre has come. -/
def RdI (w : World) (pre : List ByteArray) (W : World) : Prop :=
  (∃ v, Blk W w.heap.size 26 #[v] ∧ W.ownsRow (w.heap.size + 3) 9 1 v pre.length (pre.map .string)) ∧ Blk W (w.heap.size + 1) 3 #[.int .i64 (lnF pre)] ∧ Below w.heap.size w W ∧ w.heap.size + 3 ≤ W.heap.size
theorem RdI.own (w : World) {B : Nat} (hw : B = w.heap.size + 3) : OwnFrom B (RdI w) := by
  subst hw
  rintro pre W W' row ⟨⟨v, h1, h2⟩, h3, h4, h5⟩ hg hr
  have hlo : ∀ k, k < w.heap.size + 3 → some k ≠ row := fun k hk e => by have := (hr k e.symm).1; omega
  refine ⟨⟨v, h1.kept hg (hlo _ (by omega)), own_kept h2 hg ?_⟩, h3.kept hg (hlo _ (by omega)), h4.grown hg h4.size (fun k e => by have := (hr k e).1; omega), Nat.le_trans h5 hg.size⟩
  rintro k _ _ ⟨cs, hc⟩ e
  obtain ⟨_, o, ho, hoc⟩ := hr k e
  rw [hc] at ho
  cases ho
  cases hoc
theorem RdI.past (w : World) : Past (w.heap.size + 2) (RdI w) := by
  rintro pre W W' ⟨⟨v, h1, h2⟩, h3, h4, h5⟩ hg
  refine ⟨⟨v, h1.kept hg (by simp), own_kept h2 hg ?_⟩, h3.kept hg (by simp), h4.grown hg h4.size (fun k e => by cases e; omega), Nat.le_trans h5 hg.size⟩
  rintro k _ hk _ e
  cases e
  omega

set_option maxHeartbeats 1000000 in
theorem readI (s : ByteArray) (w : World) (hs : s.size ≤ 9223372036854775807) :
    Calls Try.prog 16 #[.string s] w (Texts s w) := by
  by_cases hl : s.size ≤ 600
  · obtain ⟨i0, hi, hz0, hz1, hz2⟩ := info_parts infoS
    have hi' := hide hi; have hz0' := hide hz0; have hz1' := hide hz1; have hz2' := hide hz2
    clear hi hz0 hz1 hz2
    refine (callsIn_wide (n := 3)).1 ?_
    have hro : Fence.wide.round = none := rfl
    have hF : Fence.wide.fn 16 := trivial
    refine callsIn_of_wp_marks Try.func16 rfl hF ?_ hro
    simp only [Try.ntmps16, List.size_toArray, List.length_cons, List.length_nil, Nat.reduceAdd, Nat.reduceSub, Array.replicate_succ, Array.replicate_zero, List.push_toArray, List.append_toArray, List.nil_append, List.cons_append]
    gi_wp2_with (refine ⟨trivial, ?_⟩; gi_at_call 34; refine (callsIn_wide.2 (frames_any s _)).mono ?_; rintro e w' ⟨rfl, rfl⟩)
    obtain ⟨W0, hW0⟩ : ∃ W0, ((w.alloc (.cells #[.slice none 0 0] 26)).alloc (.cells #[.int .i64 0] 3)).alloc (.cells #[.string s] 9) = W0 := ⟨_, rfl⟩
    have hsz : W0.heap.size = w.heap.size + 3 := by rw [← hW0]; simp
    have hB0 : Blk W0 (w.heap.size + 2) 9 #[.string s] := by
      rw [← hW0]
      have := Blk.new ((w.alloc (.cells #[.slice none 0 0] 26)).alloc (.cells #[.int .i64 0] 3)) 9 #[.string s]
      simpa using this
    have hI0 : RdI w [] W0 := by
      refine ⟨⟨.slice none 0 0, ?_, World.ownsRow_nil _ _ _ _⟩, ?_, ?_, by omega⟩
      · rw [← hW0]
        exact ((Blk.new w _ _).alloc _).alloc _
      · rw [← hW0]
        have := (Blk.new (w.alloc (.cells #[.slice none 0 0] 26)) 3 #[.int .i64 0]).alloc (.cells #[.string s] 9)
        rw [World.size_alloc] at this
        exact this
      · rw [← hW0]
        go_grown
    rw [hW0]
    refine range_own_cell hro (by omega) (gf := 41) (lb := #[.pointer (some ⟨w.heap.size + 1 + 1, 0, none⟩)]) rfl trivial (enters_of Try.func41 (by kernel_rfl) rfl)
      (encs := fun x => #[.string x]) (S := fun ys => ys = RF s) (Pf := fun ys => ys <+: RF s) (w.heap.size + 2) hB0 rfl
      (fun l J W hW hP hY h0 => frames1_in 2 l (w.heap.size + 2) (by omega) J hP s hY hs W (hW.trans rfl) h0) (fun _ => rfl)
      (RdI w) (RdI.own w hsz) (RdI.past w) hI0
      (fun x => { tmps := #[.string s, undef, .slice none 0 0, .int .i64 0, .pointer (some ⟨w.heap.size, 0, none⟩), .pointer (some ⟨w.heap.size + 1, 0, none⟩), .string x, .string s, .int .i64 s.size, .bool (decide (600 < (s.size : Int))), .string s,
          .func (.func 41) #[] #[.pointer (some ⟨w.heap.size + 1 + 1, 0, none⟩)], .string x, undef, undef, undef, undef, undef, undef, undef, undef, undef, undef, undef], defers := [] }) ?assign ?body ?done
    case assign =>
      intro l x W K hK
      gi_wp2
      exact hK
    case body =>
      rintro l pre x W ⟨⟨v, h1, h2⟩, h3, h4, h5⟩ hpf
      have c1 : W.cell? ⟨w.heap.size, 0, none⟩ = some v := h1.cell 0
      have c3 : W.cell? ⟨w.heap.size + 1, 0, none⟩ = some (.int .i64 (lnF pre)) := h3.cell 0
      have hz := h4.size
      have hlt := h3.lt
      have hlen := len_lnF pre
      have hpx : lnF pre + (x.size + 6) ≤ 600 := by
        obtain ⟨zs, hzs⟩ := hpf
        have h5 := lnF_le s
        rw [← hzs, lnF_app, lnF_app, lnF_cons] at h5
        omega
      have hB' : ∀ k, v.ownBlock = some k → w.heap.size + 3 ≤ k := fun k hk => own_ge h2 hk
      have hBh := hide hB'
      clear hB'
      gi_wp2_with (gi_at_builtin; refine wpListIn_append_own _ rfl _ _ 26 rfl (w.heap.size + 3) 9 i0 (.string ByteArray.empty) 1 16 Try.underlying26 hi'.out hz0'.out hz1'.out hz2'.out rfl (by decide) _ _ _ rfl (h2.alloc _) ⟨W.heap.size, 0, none⟩ 1 1 [.string x] rfl rfl (cell_one_new _ _ _) (by simp [Value.oneCell']) (by unfold maxLen; omega) (by omega) (by simp; omega) ?_; intro v' w1 hown' hgrow _; have hge : ∀ k, v'.ownBlock = some k → w.heap.size + 3 ≤ k := (fun k hk => own_ge hown' hk); obtain ⟨g', cap', rfl⟩ := ownsRow_succ hown'; have hg' := hge g' rfl; clear hge; have b1 := (h1.alloc (.cells #[.string x] 9)).kept hgrow (fun e => by have := hBh.out _ e.symm; omega); have b3 := (h3.alloc (.cells #[.string x] 9)).kept hgrow (fun e => by have := hBh.out _ e.symm; omega); have d1 : w1.cell? ⟨w.heap.size, 0, none⟩ = some v := b1.cell 0; have d2 := b1.free 0; have d3 : w1.cell? ⟨w.heap.size + 1, 0, none⟩ = some (.int .i64 (lnF pre)) := b3.cell 0; have d4 := b3.free 0)
      have hgrow2 : (W.alloc (.cells #[.string x] 9)).grownBy w1 v.ownBlock := hgrow
      have hge2 : ∀ k, v.ownBlock = some k → w.heap.size + 3 ≤ k := hBh.out
      have hBw : Below w.heap.size w w1 := (h4.alloc h4.size _).grown hgrow2 (by simp; omega) (fun k e => by have := hge2 k e; omega)
      have hlt1 : w.heap.size + 3 ≤ w1.heap.size := by have := hgrow2.size; simp at this; omega
      refine ⟨?_, ?_, ⟨_, (b1.set 0 _).far (p := ⟨w.heap.size + 1, 0, none⟩) (by simp) _, ?_⟩, ?_, (hBw.setCell (by simp) _).setCell (by simp) _, by simp; omega⟩
      · exact (((KeepsOthers.alloc W _).trans (KeepsOthers.of_grownBy hgrow2 fun j o hj ho => by
          obtain ⟨cs, hc⟩ := own_cells (h2.alloc (.cells #[.string x] 9)) hj
          rw [hc] at ho
          cases ho
          rfl)).trans (KeepsOthers.setCell _ _ _)).trans (KeepsOthers.setCell _ _ _)
      · refine (Below.heap_setCell _ _ _ _ (by simp)).trans ((Below.heap_setCell _ _ _ _ (by simp)).trans ((hgrow2.block _ (by simp; omega) (fun e => by have := hge2 _ e.symm; omega)).trans (Below.heap_alloc _ _ _ (by omega))))
      · have e1 := own_kept hown' (grown_set (g := w.heap.size) (World.grownBy.refl _ _) (p := ⟨w.heap.size, 0, none⟩) (.inl rfl) (.slice (some ⟨g', 0, none⟩) (pre.length + 1) cap')) (fun k _ hk _ e => by cases e; omega)
        have e2 := own_kept e1 (grown_set (g := w.heap.size + 1) (World.grownBy.refl _ _) (p := ⟨w.heap.size + 1, 0, none⟩) (.inl rfl) (.int .i64 ((lnF pre : Int) + ((x.size : Int) + 6)))) (fun k _ hk _ e => by cases e; omega)
        simpa using e2
      · have e3 := (b3.far (p := ⟨w.heap.size, 0, none⟩) (by simp) (.slice (some ⟨g', 0, none⟩) (pre.length + 1) cap')).set 0 (.int .i64 ((lnF pre : Int) + ((x.size : Int) + 6)))
        rw [lnF_app, lnF_cons]
        simpa [lnF] using e3
    case done =>
      rintro D ys W hD rfl ⟨⟨v, h1, h2⟩, h3, h4, h5⟩ hK
      have c1 : W.cell? ⟨w.heap.size, 0, none⟩ = some v := h1.cell 0
      have c3 : W.cell? ⟨w.heap.size + 1, 0, none⟩ = some (.int .i64 (lnF (RF s))) := h3.cell 0
      gi_wp2
      gi_quiet (fail)
      gi_wp2
      have hK' : (W.drewN nq).heap[D]? = some (.deferred (some [])) := hK
      have h4' : Below w.heap.size w (W.drewN nq) := below_drewN h4 _
      have h2' : (W.drewN nq).ownsRow (w.heap.size + 3) 9 1 v (RF s).length ((RF s).map .string) := h2
      refine ⟨by simp, .inl ⟨_, _, rfl, run_takeDeferred hK', ?_⟩⟩
      exact ⟨_, results_tmp2 rfl _ _ _, h4'.trans (belowK_b (w := w) (Nat.le_refl _) _ D _ _ (by omega) hK' rfl rfl), .inr ⟨hl, v, rfl, own_mono (ownsRow_putObj h2' _ hK' rfl) (by omega)⟩⟩
  · have hl' : 600 < s.size := by omega
    go_enter Try.func16, Try.ntmps16
    go_wp2_with fail
    go_ret2
    exact ⟨Below.refl _ _, .inl ⟨hl', rfl⟩⟩

end Go.Proofs.Ytgcnaajinkhakaa
